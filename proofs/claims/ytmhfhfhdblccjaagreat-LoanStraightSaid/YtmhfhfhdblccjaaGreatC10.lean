/-
  Ledgers that are right.
-/
import Derived.Test.YtmhfhfhdblccjaaGreatC9
namespace Go.Proofs.YtmhfhfhdblccjaaGreat
set_option linter.unusedSectionVars false
open Go Go.RowKit
set_option linter.unusedVariables false
set_option linter.unusedSimpArgs false
set_option maxRecDepth 100000
set_option maxHeartbeats 4000000
/-- the slices of a ledger -/
structure LedV where
  ub : SlV
  uf : SlV
  ul : SlV
  up : SlV
  uq : SlV
abbrev ledC (l : Led) (v : LedV) : List Value := [.int .i64 l.folk, .int .i64 l.years, v.ub.v, v.uf.v, v.ul.v, v.up.v, v.uq.v]
class RdL (L : List SP) (v : LedV) (l : outParam Led) : Prop where
  out : ∀ h, Holds L h → IsSl encInt h v.ub.v l.bad ∧ IsSl encInt h v.uf.v l.forg ∧ IsSl enc3 h v.ul.v l.loans ∧ IsSl enc3 h v.up.v l.pays ∧ IsSl enc3 h v.uq.v l.proms
instance (priority := low) RdL.there (A : SP) (L : List SP) (v : LedV) (l : Led) [k : RdL L v l] : RdL (A :: L) v l := ⟨fun _ H => k.out _ H.tail⟩
theorem RdL.perm {L0 L : List SP} {v : LedV} {l : Led} (p : L.Perm L0) (k : RdL L0 v l) : RdL L v l := ⟨fun _ H => k.out _ (Holds.perm p _ H)⟩
theorem RdL.up {L L' : List SP} {v : LedV} {l : Led} (k : RdL L v l) (s : Suf L L') : RdL L' v l := by
  obtain ⟨M, rfl⟩ := s.out; exact ⟨fun _ H => k.out _ (Holds.suffix M H)⟩
instance RdL.bad (L : List SP) (v : LedV) (l : Led) [k : RdL L v l] : RdSl L v.ub.v Int encInt l.bad := ⟨fun h H => (k.out h H).1⟩
instance RdL.forg (L : List SP) (v : LedV) (l : Led) [k : RdL L v l] : RdSl L v.uf.v Int encInt l.forg := ⟨fun h H => (k.out h H).2.1⟩
instance RdL.loans (L : List SP) (v : LedV) (l : Led) [k : RdL L v l] : RdSl L v.ul.v P3 enc3 l.loans := ⟨fun h H => (k.out h H).2.2.1⟩
instance RdL.pays (L : List SP) (v : LedV) (l : Led) [k : RdL L v l] : RdSl L v.up.v P3 enc3 l.pays := ⟨fun h H => (k.out h H).2.2.2.1⟩
instance RdL.proms (L : List SP) (v : LedV) (l : Led) [k : RdL L v l] : RdSl L v.uq.v P3 enc3 l.proms := ⟨fun h H => (k.out h H).2.2.2.2⟩
attribute [local irreducible] SW SO FnC retQ SA VO
theorem person_ok (L : List SP) (v : LedV) (l : Led) [k : RdL L v l] (hk : OkL l) (n : Int) : FnC Tryz.prog 110 [.agg (ledC l v).toArray, .int .i64 n] L (fun r M => r = .bool (decide (0 ≤ n ∧ n ≤ l.folk - 1)) ∧ M = L) := by
  have h1 := hk.folk
  refine fn_start (sz := 10) Tryz.func110 rfl rfl rfl ?_
  repeat' (first
    | (apply so_vo; (· exact voA); (· rfl))
    | refine so_nil ?_
    | refine q_go ?_
    | refine sw_region ?_
    | (refine goQ ?_; intro _ _)
    | refine go1 ?_
    | (refine goU ?_; intro nu)
    | (refine goB ?_; intro nb)
    | (refine goM ?_; intro nm)
    | (refine go2 ?_ ?_ <;> intro h <;> (try simp only [Bool.not_true, Bool.not_false, decide_eq_true_eq, decide_eq_false_iff_not, Bool.not_eq_true', Bool.not_eq_false', ne_eq, Decidable.not_not, Int.not_lt, Int.not_le, not_false_eq_true] at h))
    | fail)
  refine so_call rfl rfl rfl (in_ok _ n 0 _) ?_
  rintro _ _ ⟨rfl, rfl⟩
  repeat' (first
    | (apply so_vo; (· exact voA); (· rfl))
    | refine so_nil ?_
    | refine q_go ?_
    | refine sw_region ?_
    | (refine goQ ?_; intro _ _)
    | refine go1 ?_
    | (refine goU ?_; intro nu)
    | (refine goB ?_; intro nb)
    | (refine goM ?_; intro nm)
    | (refine go2 ?_ ?_ <;> intro h <;> (try simp only [Bool.not_true, Bool.not_false, decide_eq_true_eq, decide_eq_false_iff_not, Bool.not_eq_true', Bool.not_eq_false', ne_eq, Decidable.not_not, Int.not_lt, Int.not_le, not_false_eq_true] at h))
    | fail)
  apply rq1 rfl rfl
  · exact ⟨rfl, rfl⟩
  · (first | infer_instance | exact ⟨fun _ H => H⟩)
theorem farmer_ok (L : List SP) (v : LedV) (l : Led) [k : RdL L v l] (hk : OkL l) (n : Int) : FnC Tryz.prog 87 [.agg (ledC l v).toArray, .int .i64 n] L (fun r M => r = .bool (decide (1 ≤ n ∧ n ≤ l.folk - 1)) ∧ M = L) := by
  have h1 := hk.folk
  refine fn_start (sz := 10) Tryz.func87 rfl rfl rfl ?_
  repeat' (first
    | (apply so_vo; (· exact voA); (· rfl))
    | refine so_nil ?_
    | refine q_go ?_
    | refine sw_region ?_
    | (refine goQ ?_; intro _ _)
    | refine go1 ?_
    | (refine goU ?_; intro nu)
    | (refine goB ?_; intro nb)
    | (refine goM ?_; intro nm)
    | (refine go2 ?_ ?_ <;> intro h <;> (try simp only [Bool.not_true, Bool.not_false, decide_eq_true_eq, decide_eq_false_iff_not, Bool.not_eq_true', Bool.not_eq_false', ne_eq, Decidable.not_not, Int.not_lt, Int.not_le, not_false_eq_true] at h))
    | fail)
  refine so_call rfl rfl rfl (in_ok _ n 1 _) ?_
  rintro _ _ ⟨rfl, rfl⟩
  repeat' (first
    | (apply so_vo; (· exact voA); (· rfl))
    | refine so_nil ?_
    | refine q_go ?_
    | refine sw_region ?_
    | (refine goQ ?_; intro _ _)
    | refine go1 ?_
    | (refine goU ?_; intro nu)
    | (refine goB ?_; intro nb)
    | (refine goM ?_; intro nm)
    | (refine go2 ?_ ?_ <;> intro h <;> (try simp only [Bool.not_true, Bool.not_false, decide_eq_true_eq, decide_eq_false_iff_not, Bool.not_eq_true', Bool.not_eq_false', ne_eq, Decidable.not_not, Int.not_lt, Int.not_le, not_false_eq_true] at h))
    | fail)
  apply rq1 rfl rfl
  · exact ⟨rfl, rfl⟩
  · (first | infer_instance | exact ⟨fun _ H => H⟩)
theorem year_ok (L : List SP) (v : LedV) (l : Led) [k : RdL L v l] (hk : OkL l) (n : Int) : FnC Tryz.prog 111 [.agg (ledC l v).toArray, .int .i64 n] L (fun r M => r = .bool (decide (0 ≤ n ∧ n ≤ l.years - 1)) ∧ M = L) := by
  have h1 := hk.years
  refine fn_start (sz := 10) Tryz.func111 rfl rfl rfl ?_
  repeat' (first
    | (apply so_vo; (· exact voA); (· rfl))
    | refine so_nil ?_
    | refine q_go ?_
    | refine sw_region ?_
    | (refine goQ ?_; intro _ _)
    | refine go1 ?_
    | (refine goU ?_; intro nu)
    | (refine goB ?_; intro nb)
    | (refine goM ?_; intro nm)
    | (refine go2 ?_ ?_ <;> intro h <;> (try simp only [Bool.not_true, Bool.not_false, decide_eq_true_eq, decide_eq_false_iff_not, Bool.not_eq_true', Bool.not_eq_false', ne_eq, Decidable.not_not, Int.not_lt, Int.not_le, not_false_eq_true] at h))
    | fail)
  refine so_call rfl rfl rfl (in_ok _ n 0 _) ?_
  rintro _ _ ⟨rfl, rfl⟩
  repeat' (first
    | (apply so_vo; (· exact voA); (· rfl))
    | refine so_nil ?_
    | refine q_go ?_
    | refine sw_region ?_
    | (refine goQ ?_; intro _ _)
    | refine go1 ?_
    | (refine goU ?_; intro nu)
    | (refine goB ?_; intro nb)
    | (refine goM ?_; intro nm)
    | (refine go2 ?_ ?_ <;> intro h <;> (try simp only [Bool.not_true, Bool.not_false, decide_eq_true_eq, decide_eq_false_iff_not, Bool.not_eq_true', Bool.not_eq_false', ne_eq, Decidable.not_not, Int.not_lt, Int.not_le, not_false_eq_true] at h))
    | fail)
  apply rq1 rfl rfl
  · exact ⟨rfl, rfl⟩
  · (first | infer_instance | exact ⟨fun _ H => H⟩)
theorem loan_ok (L : List SP) (v : LedV) (l : Led) [k : RdL L v l] (hk : OkL l) (n : Int) : FnC Tryz.prog 119 [.agg (ledC l v).toArray, .int .i64 n] L (fun r M => r = .bool (decide (0 ≤ n ∧ n ≤ (l.loans.length : Int) - 1)) ∧ M = L) := by
  have h1 := hk.nl
  refine fn_start (sz := 11) Tryz.func119 rfl rfl rfl ?_
  repeat' (first
    | (apply so_vo; (· exact voA); (· rfl))
    | refine so_nil ?_
    | refine q_go ?_
    | refine sw_region ?_
    | (refine goQ ?_; intro _ _)
    | refine go1 ?_
    | (refine goU ?_; intro nu)
    | (refine goB ?_; intro nb)
    | (refine goM ?_; intro nm)
    | (refine go2 ?_ ?_ <;> intro h <;> (try simp only [Bool.not_true, Bool.not_false, decide_eq_true_eq, decide_eq_false_iff_not, Bool.not_eq_true', Bool.not_eq_false', ne_eq, Decidable.not_not, Int.not_lt, Int.not_le, not_false_eq_true] at h))
    | fail)
  refine so_call rfl rfl rfl (in_ok _ n 0 _) ?_
  rintro _ _ ⟨rfl, rfl⟩
  repeat' (first
    | (apply so_vo; (· exact voA); (· rfl))
    | refine so_nil ?_
    | refine q_go ?_
    | refine sw_region ?_
    | (refine goQ ?_; intro _ _)
    | refine go1 ?_
    | (refine goU ?_; intro nu)
    | (refine goB ?_; intro nb)
    | (refine goM ?_; intro nm)
    | (refine go2 ?_ ?_ <;> intro h <;> (try simp only [Bool.not_true, Bool.not_false, decide_eq_true_eq, decide_eq_false_iff_not, Bool.not_eq_true', Bool.not_eq_false', ne_eq, Decidable.not_not, Int.not_lt, Int.not_le, not_false_eq_true] at h))
    | fail)
  apply rq1 rfl rfl
  · exact ⟨rfl, rfl⟩
  · (first | infer_instance | exact ⟨fun _ H => H⟩)
theorem bushels_ok (L : List SP) (n : Int) : FnC Tryz.prog 115 [.int .i64 n] L (fun r M => r = .bool (decide (1 ≤ n ∧ n ≤ 500)) ∧ M = L) := by
  refine fn_start (sz := 5) Tryz.func115 rfl rfl rfl ?_
  repeat' (first
    | (apply so_vo; (· exact voA); (· rfl))
    | refine so_nil ?_
    | refine q_go ?_
    | refine sw_region ?_
    | (refine goQ ?_; intro _ _)
    | refine go1 ?_
    | (refine goU ?_; intro nu)
    | (refine goB ?_; intro nb)
    | (refine goM ?_; intro nm)
    | (refine go2 ?_ ?_ <;> intro h <;> (try simp only [Bool.not_true, Bool.not_false, decide_eq_true_eq, decide_eq_false_iff_not, Bool.not_eq_true', Bool.not_eq_false', ne_eq, Decidable.not_not, Int.not_lt, Int.not_le, not_false_eq_true] at h))
    | fail)
  refine so_call rfl rfl rfl (in_ok _ n 1 500) ?_
  rintro _ _ ⟨rfl, rfl⟩
  repeat' (first
    | (apply so_vo; (· exact voA); (· rfl))
    | refine so_nil ?_
    | refine q_go ?_
    | refine sw_region ?_
    | (refine goQ ?_; intro _ _)
    | refine go1 ?_
    | (refine goU ?_; intro nu)
    | (refine goB ?_; intro nb)
    | (refine goM ?_; intro nm)
    | (refine go2 ?_ ?_ <;> intro h <;> (try simp only [Bool.not_true, Bool.not_false, decide_eq_true_eq, decide_eq_false_iff_not, Bool.not_eq_true', Bool.not_eq_false', ne_eq, Decidable.not_not, Int.not_lt, Int.not_le, not_false_eq_true] at h))
    | fail)
  apply rq1 rfl rfl
  · exact ⟨rfl, rfl⟩
  · (first | infer_instance | exact ⟨fun _ H => H⟩)
theorem Check1_ok (L : List SP) (p : P3) : FnC Tryz.prog 114 [enc3.val p] L (fun r M => r = .bool (decide (1 ≤ p.2.2 ∧ p.2.2 ≤ 500)) ∧ M = L) := by
  refine fn_start (sz := 6) Tryz.func114 rfl rfl rfl ?_
  repeat' (first
    | (apply so_vo; (· exact voA); (· rfl))
    | refine so_nil ?_
    | refine q_go ?_
    | refine sw_region ?_
    | (refine goQ ?_; intro _ _)
    | refine go1 ?_
    | (refine goU ?_; intro nu)
    | (refine goB ?_; intro nb)
    | (refine goM ?_; intro nm)
    | (refine go2 ?_ ?_ <;> intro h <;> (try simp only [Bool.not_true, Bool.not_false, decide_eq_true_eq, decide_eq_false_iff_not, Bool.not_eq_true', Bool.not_eq_false', ne_eq, Decidable.not_not, Int.not_lt, Int.not_le, not_false_eq_true] at h))
    | fail)
  refine so_call rfl rfl rfl (bushels_ok _ p.2.2) ?_
  rintro _ _ ⟨rfl, rfl⟩
  repeat' (first
    | (apply so_vo; (· exact voA); (· rfl))
    | refine so_nil ?_
    | refine q_go ?_
    | refine sw_region ?_
    | (refine goQ ?_; intro _ _)
    | refine go1 ?_
    | (refine goU ?_; intro nu)
    | (refine goB ?_; intro nb)
    | (refine goM ?_; intro nm)
    | (refine go2 ?_ ?_ <;> intro h <;> (try simp only [Bool.not_true, Bool.not_false, decide_eq_true_eq, decide_eq_false_iff_not, Bool.not_eq_true', Bool.not_eq_false', ne_eq, Decidable.not_not, Int.not_lt, Int.not_le, not_false_eq_true] at h))
    | fail)
  apply rq1 rfl rfl
  · exact ⟨rfl, rfl⟩
  · (first | infer_instance | exact ⟨fun _ H => H⟩)
theorem Check2_ok (L : List SP) (p : P3) : FnC Tryz.prog 117 [enc3.val p] L (fun r M => r = .bool (decide (1 ≤ p.2.2 ∧ p.2.2 ≤ 500)) ∧ M = L) := by
  refine fn_start (sz := 6) Tryz.func117 rfl rfl rfl ?_
  repeat' (first
    | (apply so_vo; (· exact voA); (· rfl))
    | refine so_nil ?_
    | refine q_go ?_
    | refine sw_region ?_
    | (refine goQ ?_; intro _ _)
    | refine go1 ?_
    | (refine goU ?_; intro nu)
    | (refine goB ?_; intro nb)
    | (refine goM ?_; intro nm)
    | (refine go2 ?_ ?_ <;> intro h <;> (try simp only [Bool.not_true, Bool.not_false, decide_eq_true_eq, decide_eq_false_iff_not, Bool.not_eq_true', Bool.not_eq_false', ne_eq, Decidable.not_not, Int.not_lt, Int.not_le, not_false_eq_true] at h))
    | fail)
  refine so_call rfl rfl rfl (bushels_ok _ p.2.2) ?_
  rintro _ _ ⟨rfl, rfl⟩
  repeat' (first
    | (apply so_vo; (· exact voA); (· rfl))
    | refine so_nil ?_
    | refine q_go ?_
    | refine sw_region ?_
    | (refine goQ ?_; intro _ _)
    | refine go1 ?_
    | (refine goU ?_; intro nu)
    | (refine goB ?_; intro nb)
    | (refine goM ?_; intro nm)
    | (refine go2 ?_ ?_ <;> intro h <;> (try simp only [Bool.not_true, Bool.not_false, decide_eq_true_eq, decide_eq_false_iff_not, Bool.not_eq_true', Bool.not_eq_false', ne_eq, Decidable.not_not, Int.not_lt, Int.not_le, not_false_eq_true] at h))
    | fail)
  apply rq1 rfl rfl
  · exact ⟨rfl, rfl⟩
  · (first | infer_instance | exact ⟨fun _ H => H⟩)
theorem Check3_ok (L : List SP) (p : P3) : FnC Tryz.prog 118 [enc3.val p] L (fun r M => r = .bool (decide (1 ≤ p.2.2 ∧ p.2.2 ≤ 500)) ∧ M = L) := by
  refine fn_start (sz := 6) Tryz.func118 rfl rfl rfl ?_
  repeat' (first
    | (apply so_vo; (· exact voA); (· rfl))
    | refine so_nil ?_
    | refine q_go ?_
    | refine sw_region ?_
    | (refine goQ ?_; intro _ _)
    | refine go1 ?_
    | (refine goU ?_; intro nu)
    | (refine goB ?_; intro nb)
    | (refine goM ?_; intro nm)
    | (refine go2 ?_ ?_ <;> intro h <;> (try simp only [Bool.not_true, Bool.not_false, decide_eq_true_eq, decide_eq_false_iff_not, Bool.not_eq_true', Bool.not_eq_false', ne_eq, Decidable.not_not, Int.not_lt, Int.not_le, not_false_eq_true] at h))
    | fail)
  refine so_call rfl rfl rfl (bushels_ok _ p.2.2) ?_
  rintro _ _ ⟨rfl, rfl⟩
  repeat' (first
    | (apply so_vo; (· exact voA); (· rfl))
    | refine so_nil ?_
    | refine q_go ?_
    | refine sw_region ?_
    | (refine goQ ?_; intro _ _)
    | refine go1 ?_
    | (refine goU ?_; intro nu)
    | (refine goB ?_; intro nb)
    | (refine goM ?_; intro nm)
    | (refine go2 ?_ ?_ <;> intro h <;> (try simp only [Bool.not_true, Bool.not_false, decide_eq_true_eq, decide_eq_false_iff_not, Bool.not_eq_true', Bool.not_eq_false', ne_eq, Decidable.not_not, Int.not_lt, Int.not_le, not_false_eq_true] at h))
    | fail)
  apply rq1 rfl rfl
  · exact ⟨rfl, rfl⟩
  · (first | infer_instance | exact ⟨fun _ H => H⟩)
theorem Check4_ok (L : List SP) (b : Nat) (v : LedV) (l : Led) (p : P3) [c : Cl L b 74 (ledC l v)] [k : RdL L v l] (hk : OkL l) : FnC Tryz.prog 120 [enc3.val p, .pointer (some ⟨b, 0, none⟩)] L (fun r M => r = .bool (decide (1 ≤ p.1 ∧ p.1 ≤ l.folk - 1) && decide (0 ≤ p.2.1 ∧ p.2.1 ≤ l.years - 1)) ∧ M = L) := by
  refine fn_start (sz := 14) Tryz.func120 rfl rfl rfl ?_
  repeat' (first
    | (apply so_vo; (· exact voA); (· rfl))
    | refine so_nil ?_
    | refine q_go ?_
    | refine sw_region ?_
    | (refine goQ ?_; intro _ _)
    | refine go1 ?_
    | (refine goU ?_; intro nu)
    | (refine goB ?_; intro nb)
    | (refine goM ?_; intro nm)
    | (refine go2 ?_ ?_ <;> intro h <;> (try simp only [Bool.not_true, Bool.not_false, decide_eq_true_eq, decide_eq_false_iff_not, Bool.not_eq_true', Bool.not_eq_false', ne_eq, Decidable.not_not, Int.not_lt, Int.not_le, not_false_eq_true] at h))
    | fail)
  refine so_call rfl rfl rfl (farmer_ok _ v l hk p.1) ?_
  rintro _ _ ⟨rfl, rfl⟩
  repeat' (first
    | (apply so_vo; (· exact voA); (· rfl))
    | refine so_nil ?_
    | refine q_go ?_
    | refine sw_region ?_
    | (refine goQ ?_; intro _ _)
    | refine go1 ?_
    | (refine goU ?_; intro nu)
    | (refine goB ?_; intro nb)
    | (refine goM ?_; intro nm)
    | (refine go2 ?_ ?_ <;> intro h <;> (try simp only [Bool.not_true, Bool.not_false, decide_eq_true_eq, decide_eq_false_iff_not, Bool.not_eq_true', Bool.not_eq_false', ne_eq, Decidable.not_not, Int.not_lt, Int.not_le, not_false_eq_true] at h))
    | fail)
  · refine so_call rfl rfl rfl (year_ok _ v l hk p.2.1) ?_
    rintro _ _ ⟨rfl, rfl⟩
    repeat' (first
      | (apply so_vo; (· exact voA); (· rfl))
      | refine so_nil ?_
      | refine q_go ?_
      | refine sw_region ?_
      | (refine goQ ?_; intro _ _)
      | refine go1 ?_
      | (refine goU ?_; intro nu)
      | (refine goB ?_; intro nb)
      | (refine goM ?_; intro nm)
      | (refine go2 ?_ ?_ <;> intro h <;> (try simp only [Bool.not_true, Bool.not_false, decide_eq_true_eq, decide_eq_false_iff_not, Bool.not_eq_true', Bool.not_eq_false', ne_eq, Decidable.not_not, Int.not_lt, Int.not_le, not_false_eq_true] at h))
      | fail)
    apply rq1 rfl rfl
    · exact ⟨by rw [decide_eq_true (show 1 ≤ p.1 ∧ p.1 ≤ l.folk - 1 by assumption)]; rfl, rfl⟩
    · (first | infer_instance | exact ⟨fun _ H => H⟩)
  · apply rq1 rfl rfl
    · exact ⟨by rw [decide_eq_false (show ¬ (1 ≤ p.1 ∧ p.1 ≤ l.folk - 1) by assumption)]; rfl, rfl⟩
    · (first | infer_instance | exact ⟨fun _ H => H⟩)
theorem Check5_ok (L : List SP) (b : Nat) (v : LedV) (l : Led) (p : P3) [c : Cl L b 74 (ledC l v)] [k : RdL L v l] (hk : OkL l) : FnC Tryz.prog 121 [enc3.val p, .pointer (some ⟨b, 0, none⟩)] L (fun r M => r = .bool (decide (1 ≤ p.1 ∧ p.1 ≤ l.folk - 1) && decide (0 ≤ p.2.1 ∧ p.2.1 ≤ l.years - 1)) ∧ M = L) := by
  refine fn_start (sz := 14) Tryz.func121 rfl rfl rfl ?_
  repeat' (first
    | (apply so_vo; (· exact voA); (· rfl))
    | refine so_nil ?_
    | refine q_go ?_
    | refine sw_region ?_
    | (refine goQ ?_; intro _ _)
    | refine go1 ?_
    | (refine goU ?_; intro nu)
    | (refine goB ?_; intro nb)
    | (refine goM ?_; intro nm)
    | (refine go2 ?_ ?_ <;> intro h <;> (try simp only [Bool.not_true, Bool.not_false, decide_eq_true_eq, decide_eq_false_iff_not, Bool.not_eq_true', Bool.not_eq_false', ne_eq, Decidable.not_not, Int.not_lt, Int.not_le, not_false_eq_true] at h))
    | fail)
  refine so_call rfl rfl rfl (farmer_ok _ v l hk p.1) ?_
  rintro _ _ ⟨rfl, rfl⟩
  repeat' (first
    | (apply so_vo; (· exact voA); (· rfl))
    | refine so_nil ?_
    | refine q_go ?_
    | refine sw_region ?_
    | (refine goQ ?_; intro _ _)
    | refine go1 ?_
    | (refine goU ?_; intro nu)
    | (refine goB ?_; intro nb)
    | (refine goM ?_; intro nm)
    | (refine go2 ?_ ?_ <;> intro h <;> (try simp only [Bool.not_true, Bool.not_false, decide_eq_true_eq, decide_eq_false_iff_not, Bool.not_eq_true', Bool.not_eq_false', ne_eq, Decidable.not_not, Int.not_lt, Int.not_le, not_false_eq_true] at h))
    | fail)
  · refine so_call rfl rfl rfl (year_ok _ v l hk p.2.1) ?_
    rintro _ _ ⟨rfl, rfl⟩
    repeat' (first
      | (apply so_vo; (· exact voA); (· rfl))
      | refine so_nil ?_
      | refine q_go ?_
      | refine sw_region ?_
      | (refine goQ ?_; intro _ _)
      | refine go1 ?_
      | (refine goU ?_; intro nu)
      | (refine goB ?_; intro nb)
      | (refine goM ?_; intro nm)
      | (refine go2 ?_ ?_ <;> intro h <;> (try simp only [Bool.not_true, Bool.not_false, decide_eq_true_eq, decide_eq_false_iff_not, Bool.not_eq_true', Bool.not_eq_false', ne_eq, Decidable.not_not, Int.not_lt, Int.not_le, not_false_eq_true] at h))
      | fail)
    apply rq1 rfl rfl
    · exact ⟨by rw [decide_eq_true (show 1 ≤ p.1 ∧ p.1 ≤ l.folk - 1 by assumption)]; rfl, rfl⟩
    · (first | infer_instance | exact ⟨fun _ H => H⟩)
  · apply rq1 rfl rfl
    · exact ⟨by rw [decide_eq_false (show ¬ (1 ≤ p.1 ∧ p.1 ≤ l.folk - 1) by assumption)]; rfl, rfl⟩
    · (first | infer_instance | exact ⟨fun _ H => H⟩)
theorem Check6_ok (L : List SP) (b : Nat) (v : LedV) (l : Led) (p : P3) [c : Cl L b 48 [.func (.func 110) #[.agg (ledC l v).toArray] #[]]] [k : RdL L v l] (hk : OkL l) : FnC Tryz.prog 122 [enc3.val p, .pointer (some ⟨b, 0, none⟩)] L (fun r M => r = .bool (decide (0 ≤ p.1 ∧ p.1 ≤ l.folk - 1) && decide (0 ≤ p.2.1 ∧ p.2.1 ≤ l.folk - 1)) ∧ M = L) := by
  refine fn_start (sz := 14) Tryz.func122 rfl rfl rfl ?_
  repeat' (first
    | (apply so_vo; (· exact voA); (· rfl))
    | refine so_nil ?_
    | refine q_go ?_
    | refine sw_region ?_
    | (refine goQ ?_; intro _ _)
    | refine go1 ?_
    | (refine goU ?_; intro nu)
    | (refine goB ?_; intro nb)
    | (refine goM ?_; intro nm)
    | (refine go2 ?_ ?_ <;> intro h <;> (try simp only [Bool.not_true, Bool.not_false, decide_eq_true_eq, decide_eq_false_iff_not, Bool.not_eq_true', Bool.not_eq_false', ne_eq, Decidable.not_not, Int.not_lt, Int.not_le, not_false_eq_true] at h))
    | fail)
  refine so_call rfl rfl rfl (person_ok _ v l hk p.1) ?_
  rintro _ _ ⟨rfl, rfl⟩
  repeat' (first
    | (apply so_vo; (· exact voA); (· rfl))
    | refine so_nil ?_
    | refine q_go ?_
    | refine sw_region ?_
    | (refine goQ ?_; intro _ _)
    | refine go1 ?_
    | (refine goU ?_; intro nu)
    | (refine goB ?_; intro nb)
    | (refine goM ?_; intro nm)
    | (refine go2 ?_ ?_ <;> intro h <;> (try simp only [Bool.not_true, Bool.not_false, decide_eq_true_eq, decide_eq_false_iff_not, Bool.not_eq_true', Bool.not_eq_false', ne_eq, Decidable.not_not, Int.not_lt, Int.not_le, not_false_eq_true] at h))
    | fail)
  · refine so_call rfl rfl rfl (person_ok _ v l hk p.2.1) ?_
    rintro _ _ ⟨rfl, rfl⟩
    repeat' (first
      | (apply so_vo; (· exact voA); (· rfl))
      | refine so_nil ?_
      | refine q_go ?_
      | refine sw_region ?_
      | (refine goQ ?_; intro _ _)
      | refine go1 ?_
      | (refine goU ?_; intro nu)
      | (refine goB ?_; intro nb)
      | (refine goM ?_; intro nm)
      | (refine go2 ?_ ?_ <;> intro h <;> (try simp only [Bool.not_true, Bool.not_false, decide_eq_true_eq, decide_eq_false_iff_not, Bool.not_eq_true', Bool.not_eq_false', ne_eq, Decidable.not_not, Int.not_lt, Int.not_le, not_false_eq_true] at h))
      | fail)
    apply rq1 rfl rfl
    · exact ⟨by rw [decide_eq_true (show 0 ≤ p.1 ∧ p.1 ≤ l.folk - 1 by assumption)]; rfl, rfl⟩
    · (first | infer_instance | exact ⟨fun _ H => H⟩)
  · apply rq1 rfl rfl
    · exact ⟨by rw [decide_eq_false (show ¬ (0 ≤ p.1 ∧ p.1 ≤ l.folk - 1) by assumption)]; rfl, rfl⟩
    · (first | infer_instance | exact ⟨fun _ H => H⟩)
theorem Check7_ok (L : List SP) (p : P3) : FnC Tryz.prog 123 [enc3.val p] L (fun v M => v = .bool (decide (p.1 ≠ p.2.1)) ∧ M = L) := by
  refine fn_start (sz := 8) Tryz.func123 rfl rfl rfl ?_
  repeat' (first
    | (apply so_vo; (· exact voA); (· rfl))
    | refine so_nil ?_
    | refine q_go ?_
    | refine sw_region ?_
    | (refine goQ ?_; intro _ _)
    | refine go1 ?_
    | (refine goU ?_; intro nu)
    | (refine goB ?_; intro nb)
    | (refine goM ?_; intro nm)
    | (refine go2 ?_ ?_ <;> intro h <;> (try simp only [Bool.not_true, Bool.not_false, decide_eq_true_eq, decide_eq_false_iff_not, Bool.not_eq_true', Bool.not_eq_false', ne_eq, Decidable.not_not, Int.not_lt, Int.not_le, not_false_eq_true] at h))
    | fail)
  apply rq1 rfl rfl
  · exact ⟨rfl, rfl⟩
  · (first | infer_instance | exact ⟨fun _ H => H⟩)
theorem isNaN_ok (L : List SP) (n : Int) : FnC Tryz.prog 137 [.int .i64 n] L (fun v M => v = .bool false ∧ M = L) := by
  refine fn_start (sz := 6) Tryz.func137 rfl rfl rfl ?_
  repeat' (first
    | (apply so_vo; (· exact voA); (· rfl))
    | refine so_nil ?_
    | refine q_go ?_
    | refine sw_region ?_
    | (refine goQ ?_; intro _ _)
    | refine go1 ?_
    | (refine goU ?_; intro nu)
    | (refine goB ?_; intro nb)
    | (refine goM ?_; intro nm)
    | (refine go2 ?_ ?_ <;> intro h <;> (try simp only [Bool.not_true, Bool.not_false, decide_eq_true_eq, decide_eq_false_iff_not, Bool.not_eq_true', Bool.not_eq_false', ne_eq, Decidable.not_not, Int.not_lt, Int.not_le, not_false_eq_true] at h))
    | fail)
  apply rq1 rfl rfl
  · exact ⟨by simp, rfl⟩
  · (first | infer_instance | exact ⟨fun _ H => H⟩)
def cmpI (x y : Int) : Int := if x < y then -1 else if y < x then 1 else 0
theorem Compare_ok (L : List SP) (x y : Int) : FnC Tryz.prog 126 [.int .i64 x, .int .i64 y] L (fun v M => v = .int .i64 (cmpI x y) ∧ M = L) := by
  refine fn_start (sz := 20) Tryz.func126 rfl rfl rfl ?_
  repeat' (first
    | (apply so_vo; (· exact voA); (· rfl))
    | refine so_nil ?_
    | refine q_go ?_
    | refine sw_region ?_
    | (refine goQ ?_; intro _ _)
    | refine go1 ?_
    | (refine goU ?_; intro nu)
    | (refine goB ?_; intro nb)
    | (refine goM ?_; intro nm)
    | (refine go2 ?_ ?_ <;> intro h <;> (try simp only [Bool.not_true, Bool.not_false, decide_eq_true_eq, decide_eq_false_iff_not, Bool.not_eq_true', Bool.not_eq_false', ne_eq, Decidable.not_not, Int.not_lt, Int.not_le, not_false_eq_true] at h))
    | fail)
  refine so_call rfl rfl rfl (isNaN_ok _ x) ?_
  rintro _ _ ⟨rfl, rfl⟩
  repeat' (first
    | (apply so_vo; (· exact voA); (· rfl))
    | refine so_nil ?_
    | refine q_go ?_
    | refine sw_region ?_
    | (refine goQ ?_; intro _ _)
    | refine go1 ?_
    | (refine goU ?_; intro nu)
    | (refine goB ?_; intro nb)
    | (refine goM ?_; intro nm)
    | (refine go2 ?_ ?_ <;> intro h <;> (try simp only [Bool.not_true, Bool.not_false, decide_eq_true_eq, decide_eq_false_iff_not, Bool.not_eq_true', Bool.not_eq_false', ne_eq, Decidable.not_not, Int.not_lt, Int.not_le, not_false_eq_true] at h))
    | fail)
  refine so_call rfl rfl rfl (isNaN_ok _ y) ?_
  rintro _ _ ⟨rfl, rfl⟩
  by_cases h1 : x < y
  · repeat' (first
      | (apply so_vo; (· exact voA); (· rfl))
      | refine so_nil ?_
      | refine q_go ?_
      | refine sw_region ?_
      | (refine goQ ?_; intro _ _)
      | refine go1 ?_
      | (refine goU ?_; intro nu)
      | (refine goB ?_; intro nb)
      | (refine goM ?_; intro nm)
      | (refine go2 ?_ ?_ <;> intro h <;> (try simp only [Bool.not_true, Bool.not_false, decide_eq_true_eq, decide_eq_false_iff_not, Bool.not_eq_true', Bool.not_eq_false', ne_eq, Decidable.not_not, Int.not_lt, Int.not_le, not_false_eq_true] at h))
      | fail)
    apply rq1 rfl rfl
    · exact ⟨by unfold cmpI; rw [if_pos h1], rfl⟩
    · (first | infer_instance | exact ⟨fun _ H => H⟩)
  · by_cases h2 : y < x
    · repeat' (first
        | (apply so_vo; (· exact voA); (· rfl))
        | refine so_nil ?_
        | refine q_go ?_
        | refine sw_region ?_
        | (refine goQ ?_; intro _ _)
        | refine go1 ?_
        | (refine goU ?_; intro nu)
        | (refine goB ?_; intro nb)
        | (refine goM ?_; intro nm)
        | (refine go2 ?_ ?_ <;> intro h <;> (try simp only [Bool.not_true, Bool.not_false, decide_eq_true_eq, decide_eq_false_iff_not, Bool.not_eq_true', Bool.not_eq_false', ne_eq, Decidable.not_not, Int.not_lt, Int.not_le, not_false_eq_true] at h))
        | fail)
      apply rq1 rfl rfl
      · exact ⟨by unfold cmpI; rw [if_neg h1, if_pos h2], rfl⟩
      · (first | infer_instance | exact ⟨fun _ H => H⟩)
    · repeat' (first
        | (apply so_vo; (· exact voA); (· rfl))
        | refine so_nil ?_
        | refine q_go ?_
        | refine sw_region ?_
        | (refine goQ ?_; intro _ _)
        | refine go1 ?_
        | (refine goU ?_; intro nu)
        | (refine goB ?_; intro nb)
        | (refine goM ?_; intro nm)
        | (refine go2 ?_ ?_ <;> intro h <;> (try simp only [Bool.not_true, Bool.not_false, decide_eq_true_eq, decide_eq_false_iff_not, Bool.not_eq_true', Bool.not_eq_false', ne_eq, Decidable.not_not, Int.not_lt, Int.not_le, not_false_eq_true] at h))
        | fail)
      apply rq1 rfl rfl
      · exact ⟨by unfold cmpI; rw [if_neg h1, if_neg h2], rfl⟩
      · (first | infer_instance | exact ⟨fun _ H => H⟩)
theorem Check8_ok (L : List SP) (p q : P3) : FnC Tryz.prog 125 [enc3.val p, enc3.val q] L (fun v M => v = .int .i64 (cmpI p.2.1 q.2.1) ∧ M = L) := by
  refine fn_start (sz := 10) Tryz.func125 rfl rfl rfl ?_
  repeat' (first
    | (apply so_vo; (· exact voA); (· rfl))
    | refine so_nil ?_
    | refine q_go ?_
    | refine sw_region ?_
    | (refine goQ ?_; intro _ _)
    | refine go1 ?_
    | (refine goU ?_; intro nu)
    | (refine goB ?_; intro nb)
    | (refine goM ?_; intro nm)
    | (refine go2 ?_ ?_ <;> intro h <;> (try simp only [Bool.not_true, Bool.not_false, decide_eq_true_eq, decide_eq_false_iff_not, Bool.not_eq_true', Bool.not_eq_false', ne_eq, Decidable.not_not, Int.not_lt, Int.not_le, not_false_eq_true] at h))
    | fail)
  refine so_call rfl rfl rfl (Compare_ok _ p.2.1 q.2.1) ?_
  rintro _ _ ⟨rfl, rfl⟩
  repeat' (first
    | (apply so_vo; (· exact voA); (· rfl))
    | refine so_nil ?_
    | refine q_go ?_
    | refine sw_region ?_
    | (refine goQ ?_; intro _ _)
    | refine go1 ?_
    | (refine goU ?_; intro nu)
    | (refine goB ?_; intro nb)
    | (refine goM ?_; intro nm)
    | (refine go2 ?_ ?_ <;> intro h <;> (try simp only [Bool.not_true, Bool.not_false, decide_eq_true_eq, decide_eq_false_iff_not, Bool.not_eq_true', Bool.not_eq_false', ne_eq, Decidable.not_not, Int.not_lt, Int.not_le, not_false_eq_true] at h))
    | fail)
  apply rq1 rfl rfl
  · exact ⟨rfl, rfl⟩
  · (first | infer_instance | exact ⟨fun _ H => H⟩)
end Go.Proofs.YtmhfhfhdblccjaaGreat
/-
  The check of a ledger that is right.
-/
namespace Go.Proofs.YtmhfhfhdblccjaaGreat
open Go Go.RowKit
set_option linter.unusedVariables false
set_option linter.unusedSimpArgs false
set_option maxRecDepth 100000
set_option maxHeartbeats 4000000
attribute [local irreducible] SW SO FnC retQ SA VO
theorem IsSorted_ok (L : List SP) (u : SlV) (xs : List P3) [r : RdSl L u.v P3 enc3 xs] (hs : ∀ i, i + 1 < xs.length → (xs.getD i (0, 0, 0)).2.1 ≤ (xs.getD (i + 1) (0, 0, 0)).2.1) : FnC Tryz.prog 124 [u.v, .func (.func 125) #[] #[]] L (fun r M => r = .bool true ∧ M = L) := by
  refine FnC.pure r.len fun hlen => ?_
  refine fn_start (sz := 25) Tryz.func124 rfl rfl rfl ?_
  repeat' (first
    | (apply so_vo; (· exact voA); (· rfl))
    | refine so_nil ?_
    | refine q_go ?_
    | refine sw_region ?_
    | (refine goQ ?_; intro _ _)
    | refine go1 ?_
    | (refine goU ?_; intro nu)
    | (refine goB ?_; intro nb)
    | (refine goM ?_; intro nm)
    | (refine go2 ?_ ?_ <;> intro h <;> (try simp only [Bool.not_true, Bool.not_false, decide_eq_true_eq, decide_eq_false_iff_not, Bool.not_eq_true', Bool.not_eq_false', ne_eq, Decidable.not_not, Int.not_lt, Int.not_le, not_false_eq_true] at h))
    | fail)
  refine sw_block' (fun _ _ => ?_)
  refine sw_loop' (σ := Int) (fun i => [(0, u.v), (1, .func (.func 125) #[] #[]), (5, .int .i64 i)]) (fun _ => L) (fun i => -1 ≤ i ∧ i < xs.length) (fun i => (i + 1).toNat) ((xs.length : Int) - 1) ⟨by omega, by omega⟩ (by (exact fsA)) (fun _ h => h) (fun sq hsq _ _ => ?_)
  by_cases h0 : 0 < sq
  · obtain ⟨x, hx⟩ := get_some (xs := xs) (k := sq.toNat) (by omega)
    obtain ⟨y, hy⟩ := get_some (xs := xs) (k := (sq - 1).toNat) (by omega)
    have e := hs (sq - 1).toNat (by omega)
    rw [show (sq - 1).toNat + 1 = sq.toNat by omega, getD_of hx, getD_of hy] at e
    have hc : ¬ cmpI x.2.1 y.2.1 < 0 := by unfold cmpI; rw [if_neg (by omega)]; split <;> decide
    repeat' (first
      | (apply so_vo; (· exact voA); (· rfl))
      | refine so_nil ?_
      | refine q_go ?_
      | refine sw_region ?_
      | (refine goQ ?_; intro _ _)
      | refine go1 ?_
      | (refine goU ?_; intro nu)
      | (refine goB ?_; intro nb)
      | (refine goM ?_; intro nm)
      | (refine go2 ?_ ?_ <;> intro h <;> (try simp only [Bool.not_true, Bool.not_false, decide_eq_true_eq, decide_eq_false_iff_not, Bool.not_eq_true', Bool.not_eq_false', ne_eq, Decidable.not_not, Int.not_lt, Int.not_le, not_false_eq_true] at h))
      | fail)
    refine sa_start [] mixed (by kernel_rfl) ?_
    apply sa_stat 0 rfl (by kernel_rfl) rfl
    · (exact voA)
    apply sa_stat 1 rfl (by kernel_rfl) rfl
    · (exact voA)
    apply sa_stat 2 rfl (by kernel_rfl) rfl
    · (exact voA)
    apply sa_stat 3 rfl (by kernel_rfl) rfl
    · (exact voA)
    apply sa_stat 4 rfl (by kernel_rfl) rfl
    · (exact voA)
    apply sa_stat 5 rfl (by kernel_rfl) rfl
    · (exact voA)
    apply sa_stat 6 rfl (by kernel_rfl) rfl
    · (exact voA)
    apply sa_stat 7 rfl (by kernel_rfl) rfl
    · (exact voA)
    apply sa_stat 8 rfl (by kernel_rfl) rfl
    · (exact voA)
    apply sa_stat 9 rfl (by kernel_rfl) rfl
    · (exact voA)
    refine sa_chainL 10 rfl (by kernel_rfl) ?_
    (refine so_call rfl rfl rfl (Check8_ok _ x y) ?_; rintro _ _ ⟨rfl, rfl⟩)
    repeat' (first
      | (apply so_vo; (· exact voA); (· rfl))
      | refine so_nil ?_
      | refine q_go ?_
      | refine sw_region ?_
      | (refine goQ ?_; intro _ _)
      | refine go1 ?_
      | (refine goU ?_; intro nu)
      | (refine goB ?_; intro nb)
      | (refine goM ?_; intro nm)
      | (refine go2 ?_ ?_ <;> intro h <;> (try simp only [Bool.not_true, Bool.not_false, decide_eq_true_eq, decide_eq_false_iff_not, Bool.not_eq_true', Bool.not_eq_false', ne_eq, Decidable.not_not, Int.not_lt, Int.not_le, not_false_eq_true] at h))
      | fail)
    refine ⟨rfl, rfl, HLess.sat inferInstance, ?_⟩
    apply sa_stat 11 rfl (by kernel_rfl) rfl
    · (exact voA)
    refine sa_rest (T' := []) rfl (by kernel_rfl) ?_
    repeat' (first
      | (apply so_vo; (· exact voA); (· rfl))
      | refine so_nil ?_
      | refine q_go ?_
      | refine sw_region ?_
      | (refine goQ ?_; intro _ _)
      | refine go1 ?_
      | (refine goU ?_; intro nu)
      | (refine goB ?_; intro nb)
      | (refine goM ?_; intro nm)
      | (refine go2 ?_ ?_ <;> intro h <;> (try simp only [Bool.not_true, Bool.not_false, decide_eq_true_eq, decide_eq_false_iff_not, Bool.not_eq_true', Bool.not_eq_false', ne_eq, Decidable.not_not, Int.not_lt, Int.not_le, not_false_eq_true] at h))
      | fail)
    refine ⟨rfl, sq - 1, ⟨by omega, by omega⟩, by omega, ?_, ?_⟩
    · (exact fsA)
    · (first | exact fun _ h => h | exact HLess.sat inferInstance)
  · repeat' (first
      | (apply so_vo; (· exact voA); (· rfl))
      | refine so_nil ?_
      | refine q_go ?_
      | refine sw_region ?_
      | (refine goQ ?_; intro _ _)
      | refine go1 ?_
      | (refine goU ?_; intro nu)
      | (refine goB ?_; intro nb)
      | (refine goM ?_; intro nm)
      | (refine go2 ?_ ?_ <;> intro h <;> (try simp only [Bool.not_true, Bool.not_false, decide_eq_true_eq, decide_eq_false_iff_not, Bool.not_eq_true', Bool.not_eq_false', ne_eq, Decidable.not_not, Int.not_lt, Int.not_le, not_false_eq_true] at h))
      | fail)
    apply rq1 rfl rfl
    · exact ⟨rfl, rfl⟩
    · (first | infer_instance | exact ⟨fun _ H => H⟩)
theorem all_true {α : Type} {xs : List α} {d0 : α} {p : α → Bool} (h : ∀ x ∈ xs, p x = true) : ((List.range xs.length).all fun i => p (xs.getD i d0)) = true := by
  rw [all_range xs _ p (fun i x hx => by rw [getD_of hx]), List.all_eq_true]; exact h
theorem Check_ok (L : List SP) (v : LedV) (l : Led) [k : RdL L v l] (hk : OkL l) : FnC Tryz.prog 86 [.agg (ledC l v).toArray] L (fun r M => r = .int .i64 0 ∧ M = L) := by
  have hf := hk.folk
  have hy := hk.years
  have hnl := hk.nl
  have hnp := hk.np
  have hnq := hk.nq
  refine fn_start (sz := 108) Tryz.func86 rfl rfl rfl ?_
  have cB : ∀ (L' : List SP) (b1 b3 : Nat) (x : Value), Suf (cl b3 48 [x] :: cl b1 74 (ledC l v) :: L) L' → Cl L' b1 74 (ledC l v) ∧ Cl L' b3 48 [x] ∧ RdL L' v l := fun L' b1 b3 x s =>
    ⟨Cl.up (inferInstance : Cl (cl b3 48 [x] :: cl b1 74 (ledC l v) :: L) b1 _ _) s, Cl.up (inferInstance : Cl (cl b3 48 [x] :: cl b1 74 (ledC l v) :: L) b3 _ _) s, RdL.up k ((Suf.mk' [_, _] L).trans s)⟩
  repeat' (first
    | (apply so_vo; (· exact voA); (· rfl))
    | refine so_nil ?_
    | refine q_go ?_
    | refine sw_region ?_
    | (refine goQ ?_; intro _ _)
    | refine go1 ?_
    | (refine go2 ?_ ?_ <;> intro h <;> (try simp only [Bool.not_true, Bool.not_false, decide_eq_true_eq, decide_eq_false_iff_not, Bool.not_eq_true', Bool.not_eq_false', ne_eq, Decidable.not_not, Int.not_lt, Int.not_le, not_false_eq_true] at h))
    | fail)
  first
    | (refine goU ?_; intro b1)
    | (refine goB ?_; intro b1)
    | (refine goM ?_; intro b1)
  repeat' (first
    | (apply so_vo; (· exact voA); (· rfl))
    | refine so_nil ?_
    | refine q_go ?_
    | refine sw_region ?_
    | (refine goQ ?_; intro _ _)
    | refine go1 ?_
    | (refine go2 ?_ ?_ <;> intro h <;> (try simp only [Bool.not_true, Bool.not_false, decide_eq_true_eq, decide_eq_false_iff_not, Bool.not_eq_true', Bool.not_eq_false', ne_eq, Decidable.not_not, Int.not_lt, Int.not_le, not_false_eq_true] at h))
    | fail)
  first
    | (refine goU ?_; intro b3)
    | (refine goB ?_; intro b3)
    | (refine goM ?_; intro b3)
  repeat' (first
    | (apply so_vo; (· exact voA); (· rfl))
    | refine so_nil ?_
    | refine q_go ?_
    | refine sw_region ?_
    | (refine goQ ?_; intro _ _)
    | refine go1 ?_
    | (refine go2 ?_ ?_ <;> intro h <;> (try simp only [Bool.not_true, Bool.not_false, decide_eq_true_eq, decide_eq_false_iff_not, Bool.not_eq_true', Bool.not_eq_false', ne_eq, Decidable.not_not, Int.not_lt, Int.not_le, not_false_eq_true] at h))
    | fail)
  refine so_call rfl rfl rfl (in_ok _ l.folk 1 7) ?_
  rintro _ _ ⟨rfl, rfl⟩
  rw [decide_eq_true hf]
  repeat' (first
    | (apply so_vo; (· exact voA); (· rfl))
    | refine so_nil ?_
    | refine q_go ?_
    | refine sw_region ?_
    | (refine goQ ?_; intro _ _)
    | refine go1 ?_
    | (refine goU ?_; intro nu)
    | (refine goB ?_; intro nb)
    | (refine goM ?_; intro nm)
    | (refine go2 ?_ ?_ <;> intro h <;> (try simp only [Bool.not_true, Bool.not_false, decide_eq_true_eq, decide_eq_false_iff_not, Bool.not_eq_true', Bool.not_eq_false', ne_eq, Decidable.not_not, Int.not_lt, Int.not_le, not_false_eq_true] at h))
    | fail)
  refine so_call rfl rfl rfl (in_ok _ l.years 1 9) ?_
  rintro _ _ ⟨rfl, rfl⟩
  rw [decide_eq_true hy]
  repeat' (first
    | (apply so_vo; (· exact voA); (· rfl))
    | refine so_nil ?_
    | refine q_go ?_
    | refine sw_region ?_
    | (refine goQ ?_; intro _ _)
    | refine go1 ?_
    | (refine goU ?_; intro nu)
    | (refine goB ?_; intro nb)
    | (refine goM ?_; intro nm)
    | (refine go2 ?_ ?_ <;> intro h <;> (try simp only [Bool.not_true, Bool.not_false, decide_eq_true_eq, decide_eq_false_iff_not, Bool.not_eq_true', Bool.not_eq_false', ne_eq, Decidable.not_not, Int.not_lt, Int.not_le, not_false_eq_true] at h))
    | fail)
  refine so_call rfl rfl rfl (every_staddle_loan_Loan _ v.ul _ l.loans (fun i => decide (1 ≤ (l.loans.getD i (0, 0, 0)).2.2 ∧ (l.loans.getD i (0, 0, 0)).2.2 ≤ 500)) ⟨_, _, _, rfl, inferInstance, fun L' s i y hy => ?_⟩) ?_
  · simp only [getD_of hy]; exact Check1_ok L' y
  rintro _ _ ⟨rfl, rfl⟩
  rw [all_true (p := fun x : P3 => decide (1 ≤ x.2.2 ∧ x.2.2 ≤ 500)) (fun x hx => decide_eq_true (hk.loan x hx).2.2)]
  repeat' (first
    | (apply so_vo; (· exact voA); (· rfl))
    | refine so_nil ?_
    | refine q_go ?_
    | refine sw_region ?_
    | (refine goQ ?_; intro _ _)
    | refine go1 ?_
    | (refine goU ?_; intro nu)
    | (refine goB ?_; intro nb)
    | (refine goM ?_; intro nm)
    | (refine go2 ?_ ?_ <;> intro h <;> (try simp only [Bool.not_true, Bool.not_false, decide_eq_true_eq, decide_eq_false_iff_not, Bool.not_eq_true', Bool.not_eq_false', ne_eq, Decidable.not_not, Int.not_lt, Int.not_le, not_false_eq_true] at h))
    | fail)
  refine so_call rfl rfl rfl (every_staddle_loan_Payment _ v.up _ l.pays (fun i => decide (1 ≤ (l.pays.getD i (0, 0, 0)).2.2 ∧ (l.pays.getD i (0, 0, 0)).2.2 ≤ 500)) ⟨_, _, _, rfl, inferInstance, fun L' s i y hy => ?_⟩) ?_
  · simp only [getD_of hy]; exact Check2_ok L' y
  rintro _ _ ⟨rfl, rfl⟩
  rw [all_true (p := fun x : P3 => decide (1 ≤ x.2.2 ∧ x.2.2 ≤ 500)) (fun x hx => decide_eq_true (hk.pay x hx).2.2)]
  repeat' (first
    | (apply so_vo; (· exact voA); (· rfl))
    | refine so_nil ?_
    | refine q_go ?_
    | refine sw_region ?_
    | (refine goQ ?_; intro _ _)
    | refine go1 ?_
    | (refine goU ?_; intro nu)
    | (refine goB ?_; intro nb)
    | (refine goM ?_; intro nm)
    | (refine go2 ?_ ?_ <;> intro h <;> (try simp only [Bool.not_true, Bool.not_false, decide_eq_true_eq, decide_eq_false_iff_not, Bool.not_eq_true', Bool.not_eq_false', ne_eq, Decidable.not_not, Int.not_lt, Int.not_le, not_false_eq_true] at h))
    | fail)
  refine so_call rfl rfl rfl (every_staddle_loan_Promise _ v.uq _ l.proms (fun i => decide (1 ≤ (l.proms.getD i (0, 0, 0)).2.2 ∧ (l.proms.getD i (0, 0, 0)).2.2 ≤ 500)) ⟨_, _, _, rfl, inferInstance, fun L' s i y hy => ?_⟩) ?_
  · simp only [getD_of hy]; exact Check3_ok L' y
  rintro _ _ ⟨rfl, rfl⟩
  rw [all_true (p := fun x : P3 => decide (1 ≤ x.2.2 ∧ x.2.2 ≤ 500)) (fun x hx => decide_eq_true (hk.prom x hx).2.2.2)]
  repeat' (first
    | (apply so_vo; (· exact voA); (· rfl))
    | refine so_nil ?_
    | refine q_go ?_
    | refine sw_region ?_
    | (refine goQ ?_; intro _ _)
    | refine go1 ?_
    | (refine goU ?_; intro nu)
    | (refine goB ?_; intro nb)
    | (refine goM ?_; intro nm)
    | (refine go2 ?_ ?_ <;> intro h <;> (try simp only [Bool.not_true, Bool.not_false, decide_eq_true_eq, decide_eq_false_iff_not, Bool.not_eq_true', Bool.not_eq_false', ne_eq, Decidable.not_not, Int.not_lt, Int.not_le, not_false_eq_true] at h))
    | fail)
  refine so_call rfl rfl rfl (every_int _ v.ub _ l.bad (fun i => decide (0 ≤ l.bad.getD i 0 ∧ l.bad.getD i 0 ≤ l.years - 1)) ⟨_, _, _, rfl, inferInstance, fun L' s i y hy => ?_⟩) ?_
  · obtain ⟨c1, c3, c4⟩ := cB L' b1 b3 _ s
    simp only [getD_of hy]; exact year_ok L' v l hk y
  rintro _ _ ⟨rfl, rfl⟩
  rw [all_true (p := fun x : Int => decide (0 ≤ x ∧ x ≤ l.years - 1)) (fun x hx => decide_eq_true (hk.bad.2 x hx))]
  repeat' (first
    | (apply so_vo; (· exact voA); (· rfl))
    | refine so_nil ?_
    | refine q_go ?_
    | refine sw_region ?_
    | (refine goQ ?_; intro _ _)
    | refine go1 ?_
    | (refine goU ?_; intro nu)
    | (refine goB ?_; intro nb)
    | (refine goM ?_; intro nm)
    | (refine go2 ?_ ?_ <;> intro h <;> (try simp only [Bool.not_true, Bool.not_false, decide_eq_true_eq, decide_eq_false_iff_not, Bool.not_eq_true', Bool.not_eq_false', ne_eq, Decidable.not_not, Int.not_lt, Int.not_le, not_false_eq_true] at h))
    | fail)
  refine so_call rfl rfl rfl (every_int _ v.uf _ l.forg (fun i => decide (0 ≤ l.forg.getD i 0 ∧ l.forg.getD i 0 ≤ (l.loans.length : Int) - 1)) ⟨_, _, _, rfl, inferInstance, fun L' s i y hy => ?_⟩) ?_
  · obtain ⟨c1, c3, c4⟩ := cB L' b1 b3 _ s
    simp only [getD_of hy]; exact loan_ok L' v l hk y
  rintro _ _ ⟨rfl, rfl⟩
  rw [all_true (p := fun x : Int => decide (0 ≤ x ∧ x ≤ (l.loans.length : Int) - 1)) (fun x hx => decide_eq_true (hk.forg.2 x hx))]
  repeat' (first
    | (apply so_vo; (· exact voA); (· rfl))
    | refine so_nil ?_
    | refine q_go ?_
    | refine sw_region ?_
    | (refine goQ ?_; intro _ _)
    | refine go1 ?_
    | (refine goU ?_; intro nu)
    | (refine goB ?_; intro nb)
    | (refine goM ?_; intro nm)
    | (refine go2 ?_ ?_ <;> intro h <;> (try simp only [Bool.not_true, Bool.not_false, decide_eq_true_eq, decide_eq_false_iff_not, Bool.not_eq_true', Bool.not_eq_false', ne_eq, Decidable.not_not, Int.not_lt, Int.not_le, not_false_eq_true] at h))
    | fail)
  refine so_call rfl rfl rfl (every_staddle_loan_Loan _ v.ul _ l.loans (fun i => decide (1 ≤ (l.loans.getD i (0, 0, 0)).1 ∧ (l.loans.getD i (0, 0, 0)).1 ≤ l.folk - 1) && decide (0 ≤ (l.loans.getD i (0, 0, 0)).2.1 ∧ (l.loans.getD i (0, 0, 0)).2.1 ≤ l.years - 1)) ⟨_, _, _, rfl, inferInstance, fun L' s i y hy => ?_⟩) ?_
  · obtain ⟨c1, c3, c4⟩ := cB L' b1 b3 _ s
    simp only [getD_of hy]; exact Check4_ok L' b1 v l y hk
  rintro _ _ ⟨rfl, rfl⟩
  rw [all_true (p := fun x : P3 => decide (1 ≤ x.1 ∧ x.1 ≤ l.folk - 1) && decide (0 ≤ x.2.1 ∧ x.2.1 ≤ l.years - 1)) (fun x hx => by rw [decide_eq_true (hk.loan x hx).1, decide_eq_true (hk.loan x hx).2.1]; rfl)]
  repeat' (first
    | (apply so_vo; (· exact voA); (· rfl))
    | refine so_nil ?_
    | refine q_go ?_
    | refine sw_region ?_
    | (refine goQ ?_; intro _ _)
    | refine go1 ?_
    | (refine goU ?_; intro nu)
    | (refine goB ?_; intro nb)
    | (refine goM ?_; intro nm)
    | (refine go2 ?_ ?_ <;> intro h <;> (try simp only [Bool.not_true, Bool.not_false, decide_eq_true_eq, decide_eq_false_iff_not, Bool.not_eq_true', Bool.not_eq_false', ne_eq, Decidable.not_not, Int.not_lt, Int.not_le, not_false_eq_true] at h))
    | fail)
  refine so_call rfl rfl rfl (every_staddle_loan_Payment _ v.up _ l.pays (fun i => decide (1 ≤ (l.pays.getD i (0, 0, 0)).1 ∧ (l.pays.getD i (0, 0, 0)).1 ≤ l.folk - 1) && decide (0 ≤ (l.pays.getD i (0, 0, 0)).2.1 ∧ (l.pays.getD i (0, 0, 0)).2.1 ≤ l.years - 1)) ⟨_, _, _, rfl, inferInstance, fun L' s i y hy => ?_⟩) ?_
  · obtain ⟨c1, c3, c4⟩ := cB L' b1 b3 _ s
    simp only [getD_of hy]; exact Check5_ok L' b1 v l y hk
  rintro _ _ ⟨rfl, rfl⟩
  rw [all_true (p := fun x : P3 => decide (1 ≤ x.1 ∧ x.1 ≤ l.folk - 1) && decide (0 ≤ x.2.1 ∧ x.2.1 ≤ l.years - 1)) (fun x hx => by rw [decide_eq_true (hk.pay x hx).1, decide_eq_true (hk.pay x hx).2.1]; rfl)]
  repeat' (first
    | (apply so_vo; (· exact voA); (· rfl))
    | refine so_nil ?_
    | refine q_go ?_
    | refine sw_region ?_
    | (refine goQ ?_; intro _ _)
    | refine go1 ?_
    | (refine goU ?_; intro nu)
    | (refine goB ?_; intro nb)
    | (refine goM ?_; intro nm)
    | (refine go2 ?_ ?_ <;> intro h <;> (try simp only [Bool.not_true, Bool.not_false, decide_eq_true_eq, decide_eq_false_iff_not, Bool.not_eq_true', Bool.not_eq_false', ne_eq, Decidable.not_not, Int.not_lt, Int.not_le, not_false_eq_true] at h))
    | fail)
  refine so_call rfl rfl rfl (every_staddle_loan_Promise _ v.uq _ l.proms (fun i => decide (0 ≤ (l.proms.getD i (0, 0, 0)).1 ∧ (l.proms.getD i (0, 0, 0)).1 ≤ l.folk - 1) && decide (0 ≤ (l.proms.getD i (0, 0, 0)).2.1 ∧ (l.proms.getD i (0, 0, 0)).2.1 ≤ l.folk - 1)) ⟨_, _, _, rfl, inferInstance, fun L' s i y hy => ?_⟩) ?_
  · obtain ⟨c1, c3, c4⟩ := cB L' b1 b3 _ s
    simp only [getD_of hy]; exact Check6_ok L' b3 v l y hk
  rintro _ _ ⟨rfl, rfl⟩
  rw [all_true (p := fun x : P3 => decide (0 ≤ x.1 ∧ x.1 ≤ l.folk - 1) && decide (0 ≤ x.2.1 ∧ x.2.1 ≤ l.folk - 1)) (fun x hx => by rw [decide_eq_true (hk.prom x hx).1, decide_eq_true (hk.prom x hx).2.1]; rfl)]
  repeat' (first
    | (apply so_vo; (· exact voA); (· rfl))
    | refine so_nil ?_
    | refine q_go ?_
    | refine sw_region ?_
    | (refine goQ ?_; intro _ _)
    | refine go1 ?_
    | (refine goU ?_; intro nu)
    | (refine goB ?_; intro nb)
    | (refine goM ?_; intro nm)
    | (refine go2 ?_ ?_ <;> intro h <;> (try simp only [Bool.not_true, Bool.not_false, decide_eq_true_eq, decide_eq_false_iff_not, Bool.not_eq_true', Bool.not_eq_false', ne_eq, Decidable.not_not, Int.not_lt, Int.not_le, not_false_eq_true] at h))
    | fail)
  refine so_call rfl rfl rfl (every_staddle_loan_Promise _ v.uq _ l.proms (fun i => decide ((l.proms.getD i (0, 0, 0)).1 ≠ (l.proms.getD i (0, 0, 0)).2.1)) ⟨_, _, _, rfl, inferInstance, fun L' s i y hy => ?_⟩) ?_
  · simp only [getD_of hy]; exact Check7_ok L' y
  rintro _ _ ⟨rfl, rfl⟩
  rw [all_true (p := fun x : P3 => decide (x.1 ≠ x.2.1)) (fun x hx => decide_eq_true (hk.prom x hx).2.2.1)]
  repeat' (first
    | (apply so_vo; (· exact voA); (· rfl))
    | refine so_nil ?_
    | refine q_go ?_
    | refine sw_region ?_
    | (refine goQ ?_; intro _ _)
    | refine go1 ?_
    | (refine goU ?_; intro nu)
    | (refine goB ?_; intro nb)
    | (refine goM ?_; intro nm)
    | (refine go2 ?_ ?_ <;> intro h <;> (try simp only [Bool.not_true, Bool.not_false, decide_eq_true_eq, decide_eq_false_iff_not, Bool.not_eq_true', Bool.not_eq_false', ne_eq, Decidable.not_not, Int.not_lt, Int.not_le, not_false_eq_true] at h))
    | fail)
  refine so_call rfl rfl rfl (rising_ok _ v.ub l.bad) ?_
  rintro _ _ ⟨rfl, rfl⟩
  rw [hk.bad.1]
  repeat' (first
    | (apply so_vo; (· exact voA); (· rfl))
    | refine so_nil ?_
    | refine q_go ?_
    | refine sw_region ?_
    | (refine goQ ?_; intro _ _)
    | refine go1 ?_
    | (refine goU ?_; intro nu)
    | (refine goB ?_; intro nb)
    | (refine goM ?_; intro nm)
    | (refine go2 ?_ ?_ <;> intro h <;> (try simp only [Bool.not_true, Bool.not_false, decide_eq_true_eq, decide_eq_false_iff_not, Bool.not_eq_true', Bool.not_eq_false', ne_eq, Decidable.not_not, Int.not_lt, Int.not_le, not_false_eq_true] at h))
    | fail)
  refine so_call rfl rfl rfl (rising_ok _ v.uf l.forg) ?_
  rintro _ _ ⟨rfl, rfl⟩
  rw [hk.forg.1]
  repeat' (first
    | (apply so_vo; (· exact voA); (· rfl))
    | refine so_nil ?_
    | refine q_go ?_
    | refine sw_region ?_
    | (refine goQ ?_; intro _ _)
    | refine go1 ?_
    | (refine goU ?_; intro nu)
    | (refine goB ?_; intro nb)
    | (refine goM ?_; intro nm)
    | (refine go2 ?_ ?_ <;> intro h <;> (try simp only [Bool.not_true, Bool.not_false, decide_eq_true_eq, decide_eq_false_iff_not, Bool.not_eq_true', Bool.not_eq_false', ne_eq, Decidable.not_not, Int.not_lt, Int.not_le, not_false_eq_true] at h))
    | fail)
  refine so_call rfl rfl rfl (IsSorted_ok _ v.up l.pays hk.sorted) ?_
  rintro _ _ ⟨rfl, rfl⟩
  repeat' (first
    | (apply so_vo; (· exact voA); (· rfl))
    | refine so_nil ?_
    | refine q_go ?_
    | refine sw_region ?_
    | (refine goQ ?_; intro _ _)
    | refine go1 ?_
    | (refine goU ?_; intro nu)
    | (refine goB ?_; intro nb)
    | (refine goM ?_; intro nm)
    | (refine go2 ?_ ?_ <;> intro h <;> (try simp only [Bool.not_true, Bool.not_false, decide_eq_true_eq, decide_eq_false_iff_not, Bool.not_eq_true', Bool.not_eq_false', ne_eq, Decidable.not_not, Int.not_lt, Int.not_le, not_false_eq_true] at h))
    | fail)
  apply rq1 rfl rfl
  · exact ⟨rfl, rfl⟩
  · (first | infer_instance | exact ⟨fun _ H => H⟩)
end Go.Proofs.YtmhfhfhdblccjaaGreat
/-
  What is asked for a loan, when it is due; the loans that count, one after the other.
-/
namespace Go.Proofs.YtmhfhfhdblccjaaGreat
open Go Go.RowKit
set_option linter.unusedVariables false
set_option linter.unusedSimpArgs false
set_option maxRecDepth 100000
set_option maxHeartbeats 4000000
theorem filter_range_get (p : Nat → Bool) {i : Nat} (hp : p i = true) : ∀ n, i < n → ((List.range n).filter p)[((List.range i).filter p).length]? = some i
  | 0, h => by omega
  | n + 1, h => by
    rw [List.range_succ, List.filter_append]
    rcases Nat.lt_or_ge i n with h1 | h1
    · have ih := filter_range_get p hp n h1
      rw [List.getElem?_append_left (List.getElem?_eq_some_iff.1 ih).1]; exact ih
    · have : i = n := by omega
      subst this
      rw [List.getElem?_append_right (Nat.le_refl _), Nat.sub_self]; simp [hp]
theorem flatMap_range_get {α : Type} (f : Nat → List α) {y j : Nat} {x : α} (hx : (f y)[j]? = some x) : ∀ n, y < n → ((List.range n).flatMap f)[((List.range y).flatMap f).length + j]? = some x
  | 0, h => by omega
  | n + 1, h => by
    rw [List.range_succ, List.flatMap_append]
    rcases Nat.lt_or_ge y n with h1 | h1
    · have ih := flatMap_range_get f hx n h1
      rw [List.getElem?_append_left (List.getElem?_eq_some_iff.1 ih).1]; exact ih
    · have : y = n := by omega
      subst this
      rw [List.getElem?_append_right (by omega), Nat.add_sub_cancel_left]; simpa using hx
/-- how many loans come ahead -/
def ahead (l : Led) (c : Nat → Bool) (y i : Nat) : Nat := ((List.range y).flatMap (yearM l c)).length + ((List.range i).filter fun i => decide ((ln l i).2.1 = (y : Int)) && c i).length
theorem order_get {l : Led} {c : Nat → Bool} {y i : Nat} (hy : y < l.years.toNat) (hi : i < l.loans.length) (h1 : (ln l i).2.1 = (y : Int)) (h2 : c i = true) : (orderM l c)[ahead l c y i]? = some i :=
  flatMap_range_get (yearM l c) (filter_range_get (fun i => decide ((ln l i).2.1 = (y : Int)) && c i) (by simp [h1, h2]) l.loans.length hi) _ hy
theorem ahead_next {l : Led} {c : Nat → Bool} {y i : Nat} : ahead l c y (i + 1) = ahead l c y i + if (ln l i).2.1 = (y : Int) ∧ c i = true then 1 else 0 := by
  unfold ahead
  rw [List.range_succ, List.filter_append, List.length_append]
  by_cases h : (ln l i).2.1 = (y : Int) ∧ c i = true
  · rw [if_pos h]; simp [h.1, h.2]; omega
  · rw [if_neg h]
    have : (decide ((ln l i).2.1 = (y : Int)) && c i) = false := by
      rw [Bool.eq_false_iff]; intro e; simp at e; exact h e
    simp [this]
theorem ahead_year {l : Led} {c : Nat → Bool} {y : Nat} : ahead l c y l.loans.length = ahead l c (y + 1) 0 := by
  unfold ahead
  rw [List.range_succ (n := y), List.flatMap_append]; simp [yearM]
theorem ahead_start {l : Led} {c : Nat → Bool} : ahead l c 0 0 = 0 := by simp [ahead]
theorem ahead_end {l : Led} {c : Nat → Bool} : ahead l c l.years.toNat 0 = (orderM l c).length := by simp [ahead, orderM]
abbrev deskC (l : Led) (v : LedV) (bk : List Int) : List Value := .int .i64 l.folk :: .int .i64 l.years :: v.ub.v :: v.uf.v :: v.ul.v :: v.up.v :: v.uq.v :: bk.map keyInt
theorem ln_get {l : Led} {i : Nat} (hi : i < l.loans.length) : l.loans[i]? = some (ln l i) := by
  unfold ln; rw [List.getElem?_eq_getElem hi]; simp [List.getD, List.getElem?_eq_getElem hi]
/-- the function tells of loan i whether it counts -/
def CountC (P : Program) (g : Nat) (fst cap : Array Value) (L : List SP) (n : Nat) (c : Nat → Bool) : Prop :=
  ∀ L', Suf L L' → ∀ i, i < n → FnC P g (fst.toList ++ [.int .i64 i] ++ cap.toList) L' (fun v M => v = .bool (c i) ∧ M = L')
attribute [local irreducible] SW SO FnC retQ SA VO
theorem asked_ok (L : List SP) (v : LedV) (l : Led) [k : RdL L v l] (hk : OkL l) (i : Nat) (hi : i < l.loans.length) : FnC Tryz.prog 104 [.agg (ledC l v).toArray, .int .i64 i] L (fun r M => r = .int .i64 (askedM l i) ∧ M = L) := by
  have h1 := hk.ln hi
  have h2 := ln_get hi
  refine fn_start (sz := 21) Tryz.func104 rfl rfl rfl ?_
  repeat' (first
    | (apply so_vo; (· exact voA); (· rfl))
    | refine so_nil ?_
    | refine q_go ?_
    | refine sw_region ?_
    | (refine goQ ?_; intro _ _)
    | refine go1 ?_
    | (refine goU ?_; intro nu)
    | (refine goB ?_; intro nb)
    | (refine goM ?_; intro nm)
    | (refine go2 ?_ ?_ <;> intro h <;> (try simp only [Bool.not_true, Bool.not_false, decide_eq_true_eq, decide_eq_false_iff_not, Bool.not_eq_true', Bool.not_eq_false', ne_eq, Decidable.not_not, Int.not_lt, Int.not_le, not_false_eq_true] at h))
    | fail)
  refine so_call rfl rfl rfl (Contains_int _ v.uf i l.forg) ?_
  rintro _ _ ⟨rfl, rfl⟩
  by_cases h0 : (i : Int) ∈ l.forg
  · repeat' (first
      | (apply so_vo; (· exact voA); (· rfl))
      | refine so_nil ?_
      | refine q_go ?_
      | refine sw_region ?_
      | (refine goQ ?_; intro _ _)
      | refine go1 ?_
      | (refine goU ?_; intro nu)
      | (refine goB ?_; intro nb)
      | (refine goM ?_; intro nm)
      | (refine go2 ?_ ?_ <;> intro h <;> (try simp only [Bool.not_true, Bool.not_false, decide_eq_true_eq, decide_eq_false_iff_not, Bool.not_eq_true', Bool.not_eq_false', ne_eq, Decidable.not_not, Int.not_lt, Int.not_le, not_false_eq_true] at h))
      | fail)
    apply rq1 rfl rfl
    · exact ⟨by unfold askedM; rw [if_pos h0], rfl⟩
    · (first | infer_instance | exact ⟨fun _ H => H⟩)
  · repeat' (first
      | (apply so_vo; (· exact voA); (· rfl))
      | refine so_nil ?_
      | refine q_go ?_
      | refine sw_region ?_
      | (refine goQ ?_; intro _ _)
      | refine go1 ?_
      | (refine goU ?_; intro nu)
      | (refine goB ?_; intro nb)
      | (refine goM ?_; intro nm)
      | (refine go2 ?_ ?_ <;> intro h <;> (try simp only [Bool.not_true, Bool.not_false, decide_eq_true_eq, decide_eq_false_iff_not, Bool.not_eq_true', Bool.not_eq_false', ne_eq, Decidable.not_not, Int.not_lt, Int.not_le, not_false_eq_true] at h))
      | fail)
    apply rq1 rfl rfl
    · exact ⟨by unfold askedM; rw [if_neg h0], rfl⟩
    · (first | infer_instance | exact ⟨fun _ H => H⟩)
theorem due_ok (L : List SP) (v : LedV) (l : Led) [k : RdL L v l] (hk : OkL l) (i : Nat) (hi : i < l.loans.length) : FnC Tryz.prog 101 [.agg (ledC l v).toArray, .int .i64 i] L (fun r M => r = .int .i64 (dueM l i) ∧ M = L) := by
  have h1 := hk.ln hi
  have h2 := ln_get hi
  have h3 := hk.years
  refine fn_start (sz := 24) Tryz.func101 rfl rfl rfl ?_
  repeat' (first
    | (apply so_vo; (· exact voA); (· rfl))
    | refine so_nil ?_
    | refine q_go ?_
    | refine sw_region ?_
    | (refine goQ ?_; intro _ _)
    | refine go1 ?_
    | (refine go2 ?_ ?_ <;> intro h <;> (try simp only [Bool.not_true, Bool.not_false, decide_eq_true_eq, decide_eq_false_iff_not, Bool.not_eq_true', Bool.not_eq_false', ne_eq, Decidable.not_not, Int.not_lt, Int.not_le, not_false_eq_true] at h))
    | fail)
  first
    | (refine goU ?_; intro b2)
    | (refine goB ?_; intro b2)
    | (refine goM ?_; intro b2)
  repeat' (first
    | (apply so_vo; (· exact voA); (· rfl))
    | refine so_nil ?_
    | refine q_go ?_
    | refine sw_region ?_
    | (refine goQ ?_; intro _ _)
    | refine go1 ?_
    | (refine go2 ?_ ?_ <;> intro h <;> (try simp only [Bool.not_true, Bool.not_false, decide_eq_true_eq, decide_eq_false_iff_not, Bool.not_eq_true', Bool.not_eq_false', ne_eq, Decidable.not_not, Int.not_lt, Int.not_le, not_false_eq_true] at h))
    | fail)
  refine sw_block' (fun _ _ => ?_)
  refine sw_loop' (σ := Nat × Int) (fun s => [(2, .pointer (some ⟨b2, 0, none⟩)), (5, .int .i64 s.2)]) (fun _ => cl b2 74 (ledC l v) :: L) (fun s => goodFrom l s.1 s.2 = dueM l i ∧ l.years - s.2 < s.1 ∧ 0 ≤ s.2 ∧ s.2 ≤ 1000) (fun s => s.1) (10, (ln l i).2.1) ⟨rfl, by simp only; omega, by simp only; omega, by simp only; omega⟩ (by (exact fsA)) (fun _ h => h) (fun s hs _ _ => ?_)
  obtain ⟨n, y⟩ := s
  obtain ⟨g1, g2, g3, g4⟩ := hs
  simp only at g1 g2 g3 g4 ⊢
  by_cases h0 : y < l.years
  · obtain ⟨m, rfl⟩ : ∃ m, n = m + 1 := ⟨n - 1, by omega⟩
    rw [goodFrom, if_pos h0] at g1
    repeat' (first
      | (apply so_vo; (· exact voA); (· rfl))
      | refine so_nil ?_
      | refine q_go ?_
      | refine sw_region ?_
      | (refine goQ ?_; intro _ _)
      | refine go1 ?_
      | (refine goU ?_; intro nu)
      | (refine goB ?_; intro nb)
      | (refine goM ?_; intro nm)
      | (refine go2 ?_ ?_ <;> intro h <;> (try simp only [Bool.not_true, Bool.not_false, decide_eq_true_eq, decide_eq_false_iff_not, Bool.not_eq_true', Bool.not_eq_false', ne_eq, Decidable.not_not, Int.not_lt, Int.not_le, not_false_eq_true] at h))
      | fail)
    refine so_call rfl rfl rfl (Contains_int _ v.ub y l.bad) ?_
    rintro _ _ ⟨rfl, rfl⟩
    by_cases h5 : y ∈ l.bad
    · rw [if_pos h5] at g1
      repeat' (first
        | (apply so_vo; (· exact voA); (· rfl))
        | refine so_nil ?_
        | refine q_go ?_
        | refine sw_region ?_
        | (refine goQ ?_; intro _ _)
        | refine go1 ?_
        | (refine goU ?_; intro nu)
        | (refine goB ?_; intro nb)
        | (refine goM ?_; intro nm)
        | (refine go2 ?_ ?_ <;> intro h <;> (try simp only [Bool.not_true, Bool.not_false, decide_eq_true_eq, decide_eq_false_iff_not, Bool.not_eq_true', Bool.not_eq_false', ne_eq, Decidable.not_not, Int.not_lt, Int.not_le, not_false_eq_true] at h))
        | fail)
      refine ⟨rfl, (m, y + 1), ⟨g1, by simp only; omega, by simp only; omega, by simp only; omega⟩, by simp only; omega, ?_, ?_⟩
      · (exact fsA)
      · (first | exact fun _ h => h | exact HLess.sat inferInstance)
    · rw [if_neg h5] at g1
      repeat' (first
        | (apply so_vo; (· exact voA); (· rfl))
        | refine so_nil ?_
        | refine q_go ?_
        | refine sw_region ?_
        | (refine goQ ?_; intro _ _)
        | refine go1 ?_
        | (refine goU ?_; intro nu)
        | (refine goB ?_; intro nb)
        | (refine goM ?_; intro nm)
        | (refine go2 ?_ ?_ <;> intro h <;> (try simp only [Bool.not_true, Bool.not_false, decide_eq_true_eq, decide_eq_false_iff_not, Bool.not_eq_true', Bool.not_eq_false', ne_eq, Decidable.not_not, Int.not_lt, Int.not_le, not_false_eq_true] at h))
        | fail)
      apply rq1 rfl rfl
      · exact ⟨by rw [g1], rfl⟩
      · (first | infer_instance | exact ⟨fun _ H => H⟩)
  · have g5 : dueM l i = -1 := by
      rw [← g1]
      cases n with
      | zero => rfl
      | succ m => rw [goodFrom, if_neg h0]
    repeat' (first
      | (apply so_vo; (· exact voA); (· rfl))
      | refine so_nil ?_
      | refine q_go ?_
      | refine sw_region ?_
      | (refine goQ ?_; intro _ _)
      | refine go1 ?_
      | (refine goU ?_; intro nu)
      | (refine goB ?_; intro nb)
      | (refine goM ?_; intro nm)
      | (refine go2 ?_ ?_ <;> intro h <;> (try simp only [Bool.not_true, Bool.not_false, decide_eq_true_eq, decide_eq_false_iff_not, Bool.not_eq_true', Bool.not_eq_false', ne_eq, Decidable.not_not, Int.not_lt, Int.not_le, not_false_eq_true] at h))
      | fail)
    apply rq1 rfl rfl
    · exact ⟨by rw [g5], rfl⟩
    · (first | infer_instance | exact ⟨fun _ H => H⟩)
theorem loans1_seq {σ : Type} (N : σ → List SP) (bk : σ → List Int) (bA bB bd g : Nat) (fst cap : Array Value) (v : LedV) (l : Led) (c : Nat → Bool) (hk : OkL l) [cA : ∀ s, Cl (N s) bA 112 [.pointer (some ⟨bd, 0, none⟩)]] [cB : ∀ s, Cl (N s) bB 117 [.func (.func g) fst cap]] [cd : ∀ s, Cl (N s) bd 132 (deskC l v (bk s))] [kl : ∀ s, RdL (N s) v l] [he : Ent Tryz.prog g]
    (hc : ∀ s, CountC Tryz.prog g fst cap (N s) l.loans.length c) : SeqC Tryz.prog 132 [.pointer (some ⟨bA, 0, none⟩), .pointer (some ⟨bB, 0, none⟩)] (fun i : Nat => .int .i64 i) (orderM l c) N := by
  intro I yv s0 h0 hy
  have h3 := hk.years
  have hnl := hk.nl
  refine fn_start (sz := 44) Tryz.func132 rfl rfl rfl ?_
  haveI := cA s0
  haveI := cd s0
  haveI := kl s0
  repeat' (first
    | (apply so_vo; (· exact voA); (· rfl))
    | refine so_nil ?_
    | refine q_go ?_
    | refine sw_region ?_
    | (refine goQ ?_; intro _ _)
    | refine go1 ?_
    | (refine goU ?_; intro nu)
    | (refine goB ?_; intro nb)
    | (refine goM ?_; intro nm)
    | (refine go2 ?_ ?_ <;> intro h <;> (try simp only [Bool.not_true, Bool.not_false, decide_eq_true_eq, decide_eq_false_iff_not, Bool.not_eq_true', Bool.not_eq_false', ne_eq, Decidable.not_not, Int.not_lt, Int.not_le, not_false_eq_true] at h))
    | fail)
  refine sw_block' (fun _ _ => ?_)
  refine sw_loop' (σ := Nat × σ) (fun s => [(0, yv), (1, .pointer (some ⟨bA, 0, none⟩)), (2, .pointer (some ⟨bB, 0, none⟩)), (11, .int .i64 l.years), (12, .int .i64 s.1)]) (fun s => N s.2) (fun s => s.1 ≤ l.years.toNat ∧ I (ahead l c s.1 0) s.2) (fun s => l.years.toNat - s.1) (0, s0) ⟨Nat.zero_le _, by rw [ahead_start]; exact h0⟩ (by (exact fsA)) (fun _ h => h) (fun s hs _ _ => ?_)
  obtain ⟨y, s⟩ := s
  obtain ⟨k1, k2⟩ := hs
  simp only at k1 k2 ⊢
  haveI := cA s
  haveI := cd s
  haveI := kl s
  by_cases hy0 : y < l.years.toNat
  · repeat' (first
      | (apply so_vo; (· exact voA); (· rfl))
      | refine so_nil ?_
      | refine q_go ?_
      | refine sw_region ?_
      | (refine goQ ?_; intro _ _)
      | refine go1 ?_
      | (refine goU ?_; intro nu)
      | (refine goB ?_; intro nb)
      | (refine goM ?_; intro nm)
      | (refine go2 ?_ ?_ <;> intro h <;> (try simp only [Bool.not_true, Bool.not_false, decide_eq_true_eq, decide_eq_false_iff_not, Bool.not_eq_true', Bool.not_eq_false', ne_eq, Decidable.not_not, Int.not_lt, Int.not_le, not_false_eq_true] at h))
      | fail)
    refine sw_range (τ := σ) (fun k t => [(0, yv), (1, .pointer (some ⟨bA, 0, none⟩)), (2, .pointer (some ⟨bB, 0, none⟩)), (4, .int .i64 y), (11, .int .i64 l.years), (12, .int .i64 y), (19, v.ul.v)]) (fun k t => N t) (fun k t => I (ahead l c y k) t) s k2 (by rfl) (by rfl) (by omega) (by (exact fsA)) (fun _ h => h) (fun _ _ => by rfl) (by rfl) (fun k t hlt hI _ _ => ?_) (fun t hI => ?_)
    · haveI := cA t
      haveI := cB t
      haveI := cd t
      haveI := kl t
      have h2 := ln_get hlt
      have hcr := hk.ln hlt
      have hnext := ahead_next (l := l) (c := c) (y := y) (i := k)
      by_cases e1 : (ln l k).2.1 = (y : Int)
      · repeat' (first
          | (apply so_vo; (· exact voA); (· rfl))
          | refine so_nil ?_
          | refine q_go ?_
          | refine sw_region ?_
          | (refine goQ ?_; intro _ _)
          | refine go1 ?_
          | (refine goU ?_; intro nu)
          | (refine goB ?_; intro nb)
          | (refine goM ?_; intro nm)
          | (refine go2 ?_ ?_ <;> intro h <;> (try simp only [Bool.not_true, Bool.not_false, decide_eq_true_eq, decide_eq_false_iff_not, Bool.not_eq_true', Bool.not_eq_false', ne_eq, Decidable.not_not, Int.not_lt, Int.not_le, not_false_eq_true] at h))
          | fail)
        refine so_call rfl rfl rfl (hc t _ (Suf.mk' [_] _) k hlt) ?_
        rintro _ _ ⟨rfl, rfl⟩
        cases e2 : c k with
        | true =>
          rw [if_pos ⟨e1, e2⟩] at hnext
          repeat' (first
            | (apply so_vo; (· exact voA); (· rfl))
            | refine so_nil ?_
            | refine q_go ?_
            | refine sw_region ?_
            | (refine goQ ?_; intro _ _)
            | refine go1 ?_
            | (refine goU ?_; intro nu)
            | (refine goB ?_; intro nb)
            | (refine goM ?_; intro nm)
            | (refine go2 ?_ ?_ <;> intro h <;> (try simp only [Bool.not_true, Bool.not_false, decide_eq_true_eq, decide_eq_false_iff_not, Bool.not_eq_true', Bool.not_eq_false', ne_eq, Decidable.not_not, Int.not_lt, Int.not_le, not_false_eq_true] at h))
            | fail)
          refine so_mem (fun w H => H.tail) ?_
          refine so_yield rfl rfl rfl (hy _ k t (order_get hy0 hlt e1 e2) hI) ?_
          rintro _ _ ⟨rfl, s', hs', rfl⟩
          repeat' (first
            | (apply so_vo; (· exact voA); (· rfl))
            | refine so_nil ?_
            | refine q_go ?_
            | refine sw_region ?_
            | (refine goQ ?_; intro _ _)
            | refine go1 ?_
            | (refine goU ?_; intro nu)
            | (refine goB ?_; intro nb)
            | (refine goM ?_; intro nm)
            | (refine go2 ?_ ?_ <;> intro h <;> (try simp only [Bool.not_true, Bool.not_false, decide_eq_true_eq, decide_eq_false_iff_not, Bool.not_eq_true', Bool.not_eq_false', ne_eq, Decidable.not_not, Int.not_lt, Int.not_le, not_false_eq_true] at h))
            | fail)
          rw [← hnext] at hs'
          refine ⟨rfl, s', hs', ?_, fun w H => H⟩
          (exact fsA)
        | false =>
          rw [if_neg (fun e => by rw [e2] at e; exact absurd e.2 (by decide))] at hnext
          replace hnext := hnext.trans (Nat.add_zero _)
          repeat' (first
            | (apply so_vo; (· exact voA); (· rfl))
            | refine so_nil ?_
            | refine q_go ?_
            | refine sw_region ?_
            | (refine goQ ?_; intro _ _)
            | refine go1 ?_
            | (refine goU ?_; intro nu)
            | (refine goB ?_; intro nb)
            | (refine goM ?_; intro nm)
            | (refine go2 ?_ ?_ <;> intro h <;> (try simp only [Bool.not_true, Bool.not_false, decide_eq_true_eq, decide_eq_false_iff_not, Bool.not_eq_true', Bool.not_eq_false', ne_eq, Decidable.not_not, Int.not_lt, Int.not_le, not_false_eq_true] at h))
            | fail)
          rw [← hnext] at hI
          refine ⟨rfl, t, hI, ?_, fun w H => H.tail⟩
          (exact fsA)
      · rw [if_neg (fun e => e1 e.1)] at hnext
        replace hnext := hnext.trans (Nat.add_zero _)
        repeat' (first
          | (apply so_vo; (· exact voA); (· rfl))
          | refine so_nil ?_
          | refine q_go ?_
          | refine sw_region ?_
          | (refine goQ ?_; intro _ _)
          | refine go1 ?_
          | (refine goU ?_; intro nu)
          | (refine goB ?_; intro nb)
          | (refine goM ?_; intro nm)
          | (refine go2 ?_ ?_ <;> intro h <;> (try simp only [Bool.not_true, Bool.not_false, decide_eq_true_eq, decide_eq_false_iff_not, Bool.not_eq_true', Bool.not_eq_false', ne_eq, Decidable.not_not, Int.not_lt, Int.not_le, not_false_eq_true] at h))
          | fail)
        rw [← hnext] at hI
        refine ⟨rfl, t, hI, ?_, fun w H => H.tail⟩
        (exact fsA)
    · rw [ahead_year] at hI
      repeat' (first
        | (apply so_vo; (· exact voA); (· rfl))
        | refine so_nil ?_
        | refine q_go ?_
        | refine sw_region ?_
        | (refine goQ ?_; intro _ _)
        | refine go1 ?_
        | (refine goU ?_; intro nu)
        | (refine goB ?_; intro nb)
        | (refine goM ?_; intro nm)
        | (refine go2 ?_ ?_ <;> intro h <;> (try simp only [Bool.not_true, Bool.not_false, decide_eq_true_eq, decide_eq_false_iff_not, Bool.not_eq_true', Bool.not_eq_false', ne_eq, Decidable.not_not, Int.not_lt, Int.not_le, not_false_eq_true] at h))
        | fail)
      refine ⟨rfl, (y + 1, t), ⟨by simp only; omega, hI⟩, by simp only; omega, ?_, fun w H => H⟩
      (exact fsA)
  · rw [show y = l.years.toNat by omega, ahead_end] at k2
    repeat' (first
      | (apply so_vo; (· exact voA); (· rfl))
      | refine so_nil ?_
      | refine q_go ?_
      | refine sw_region ?_
      | (refine goQ ?_; intro _ _)
      | refine go1 ?_
      | (refine goU ?_; intro nu)
      | (refine goB ?_; intro nb)
      | (refine goM ?_; intro nm)
      | (refine go2 ?_ ?_ <;> intro h <;> (try simp only [Bool.not_true, Bool.not_false, decide_eq_true_eq, decide_eq_false_iff_not, Bool.not_eq_true', Bool.not_eq_false', ne_eq, Decidable.not_not, Int.not_lt, Int.not_le, not_false_eq_true] at h))
      | fail)
    apply rq0 rfl
    · exact ⟨s, k2, rfl⟩
    · infer_instance
theorem loans_ok (L : List SP) (bd g : Nat) (fst cap : Array Value) : FnC Tryz.prog 112 [.pointer (some ⟨bd, 0, none⟩), .agg (List.toArray [.func (.func g) fst cap])] L (fun r M => ∃ bA bB : Nat, r = .func (.func 132) #[] #[.pointer (some ⟨bA, 0, none⟩), .pointer (some ⟨bB, 0, none⟩)] ∧ M = cl bB 117 [.func (.func g) fst cap] :: cl bA 112 [.pointer (some ⟨bd, 0, none⟩)] :: L) := by
  refine fn_start (sz := 6) Tryz.func112 rfl rfl rfl ?_
  repeat' (first
    | (apply so_vo; (· exact voA); (· rfl))
    | refine so_nil ?_
    | refine q_go ?_
    | refine sw_region ?_
    | (refine goQ ?_; intro _ _)
    | refine go1 ?_
    | (refine go2 ?_ ?_ <;> intro h <;> (try simp only [Bool.not_true, Bool.not_false, decide_eq_true_eq, decide_eq_false_iff_not, Bool.not_eq_true', Bool.not_eq_false', ne_eq, Decidable.not_not, Int.not_lt, Int.not_le, not_false_eq_true] at h))
    | fail)
  first
    | (refine goU ?_; intro bA)
    | (refine goB ?_; intro bA)
    | (refine goM ?_; intro bA)
  repeat' (first
    | (apply so_vo; (· exact voA); (· rfl))
    | refine so_nil ?_
    | refine q_go ?_
    | refine sw_region ?_
    | (refine goQ ?_; intro _ _)
    | refine go1 ?_
    | (refine go2 ?_ ?_ <;> intro h <;> (try simp only [Bool.not_true, Bool.not_false, decide_eq_true_eq, decide_eq_false_iff_not, Bool.not_eq_true', Bool.not_eq_false', ne_eq, Decidable.not_not, Int.not_lt, Int.not_le, not_false_eq_true] at h))
    | fail)
  first
    | (refine goU ?_; intro bB)
    | (refine goB ?_; intro bB)
    | (refine goM ?_; intro bB)
  repeat' (first
    | (apply so_vo; (· exact voA); (· rfl))
    | refine so_nil ?_
    | refine q_go ?_
    | refine sw_region ?_
    | (refine goQ ?_; intro _ _)
    | refine go1 ?_
    | (refine go2 ?_ ?_ <;> intro h <;> (try simp only [Bool.not_true, Bool.not_false, decide_eq_true_eq, decide_eq_false_iff_not, Bool.not_eq_true', Bool.not_eq_false', ne_eq, Decidable.not_not, Int.not_lt, Int.not_le, not_false_eq_true] at h))
    | fail)
  apply rq1 rfl rfl
  · exact ⟨bA, bB, rfl, rfl⟩
  · (first | infer_instance | exact ⟨fun _ H => H⟩)
end Go.Proofs.YtmhfhfhdblccjaaGreat
/-
  An own logic over the kit's calculus: stores at places that are told.
-/
namespace Go.Proofs.YtmhfhfhdblccjaaGreat
open Go Go.RowKit
set_option linter.unusedVariables false
/-- The cells with another one in place o. -/
class SetC (cs : List Value) (o : Nat) (u : Value) (cs' : outParam (List Value)) : Prop where
  out : o < cs.length ∧ cs.set o u = cs'
section
variable {P : Program} {ro : Option Nat} {sz : Nat} {fr : Fr} {ds : List Deferred} {L : List SP} {Q : Post} {ops : Array Oper} {l : List Oper} {d : Nat} {ty : TypeId} {pos : String} {aft : Array Edge}
theorem so_store_set {x y : Operand} {T b o : Nat} {z u : Value} {bytes E : Nat} {agg : Bool} {cs cs' : List Value} {L' : List SP} (hx : Fr.ev fr x = some (.pointer (some ⟨b, o, none⟩))) (hy : Fr.ev fr y = some u) (hu : u.oneCell' = true) [ht : TyI P T agg z 1 bytes] [hc : Cl L b E cs] [hs : SetC cs o u cs'] [hl : ClSet L b cs' L']
    (k : SO l P ro sz ops fr ds L' Q) : SO (⟨none, .store T x y, ty, pos, aft, none⟩ :: l) P ro sz ops fr ds L Q := so_store_at cs' hx hy hu hs.out.1 hs.out.2 k
end
end Go.Proofs.YtmhfhfhdblccjaaGreat
