/-
  Settlements: Settle, Fewest, Settles.
-/
import Derived.Test.YtmhfhfhdblccjaaGreatC8
import Derived.Test.YtmhfhfhdblccjaaGreatC7
import Derived.Laws.StructEq
namespace Go.Proofs.YtmhfhfhdblccjaaGreat
open Go Go.RowKit
set_option linter.unusedVariables false
set_option linter.unusedSimpArgs false
set_option maxRecDepth 100000
set_option maxHeartbeats 4000000
def inP (n : Nat) (p : Int × Int × Int) : Bool := decide (0 ≤ p.1 ∧ p.1 ≤ (n : Int) - 1) && decide (0 ≤ p.2.1 ∧ p.2.1 ≤ (n : Int) - 1)
/-- the error of payments -/
def settlesE (d : List (List Int)) (l : List (Int × Int × Int)) : Int :=
  if checkD d ≠ 0 then checkD d else if l.all (inP d.length) = false then 1 else if (l.all fun p => decide (p.1 ≠ p.2.1)) = false then 5 else if (l.all fun p => decide (1 ≤ p.2.2 ∧ p.2.2 ≤ 6000000)) = false then 3 else 0
def settlesB (d : List (List Int)) (l : List (Int × Int × Int)) : Bool := decide (settlesE d l = 0) && (l.foldl payStep (netM d)).all fun n => decide (n = 0)
theorem payFold_len (l : List (Int × Int × Int)) : ∀ o, (l.foldl payStep o).length = o.length := by
  induction l with
  | nil => intro o; rfl
  | cons p l ih => intro o; rw [List.foldl_cons, ih, payStep_len]
theorem payFold_gv {n : Nat} : ∀ (l : List (Int × Int × Int)) (o : List Int), o.length = n → (∀ p ∈ l, 0 ≤ p.1 ∧ p.1 < n ∧ 0 ≤ p.2.1 ∧ p.2.1 < n) → ∀ k : Int, 0 ≤ k → gv (l.foldl payStep o) k = gv o k + eff l k
  | [], o, _, _, k, _ => by simp [eff]
  | (a, b, m) :: l, o, ho, hl, k, hk => by
    have h1 := hl (a, b, m) (by simp)
    simp only at h1
    rw [List.foldl_cons, payFold_gv l _ (by rw [payStep_len]; exact ho) (fun p hp => hl p (by simp [hp])) k hk, payStep_gv (p := (a, b, m)) (by simp only; omega) (by simp only; omega) hk]
    simp only [eff]; omega
theorem eff_bd : ∀ (l : List (Int × Int × Int)), (∀ p ∈ l, 0 ≤ p.2.2 ∧ p.2.2 ≤ 6000000) → ∀ k, -(6000000 * (l.length : Int)) ≤ eff l k ∧ eff l k ≤ 6000000 * (l.length : Int)
  | [], _, k => by simp [eff]
  | (a, b, m) :: l, h, k => by
    have h1 := eff_bd l (fun p hp => h p (by simp [hp])) k
    have h2 := h (a, b, m) (by simp)
    simp only at h2
    simp only [eff, List.length_cons]
    split <;> split <;> omega
attribute [local irreducible] SW SO FnC retQ SA VO
theorem Settle_ok (L : List SP) (u : SlV) (us : List SlV) (d : List (List Int)) [r : RdSl L u.v SlV encSl us] [rm : RdM L us Int encInt d] : FnC Tryz.prog 10 [u.v] L (fun v M => ∃ (u' : SlV) (x : List (Int × Int × Int)), v = .tuple #[u'.v, .int .i64 (checkD d)] ∧ (checkD d ≠ 0 → x = []) ∧ (checkD d = 0 → settleR d x) ∧ M = ownSl 44 enc3 u'.v x :: L) := by
  refine FnC.mono (Settle_ok0 L u us d) ?_
  rintro v M ⟨u', x, h1, h2, h3, h4⟩
  exact ⟨u', x, h1, h2, fun h => by obtain ⟨gs, g1, g2⟩ := h3 h; rw [g2]; exact settle_law h g1, h4⟩
theorem Fewest_ok (L : List SP) (u : SlV) (us : List SlV) (d : List (List Int)) [r : RdSl L u.v SlV encSl us] [rm : RdM L us Int encInt d] : FnC Tryz.prog 11 [u.v] L (fun v M => ∃ x : List (Int × Int × Int), v = .tuple #[.int .i64 x.length, .int .i64 (checkD d)] ∧ (checkD d ≠ 0 → x = []) ∧ (checkD d = 0 → settleR d x) ∧ M = L) := by
  refine fn_start (sz := 14) Tryz.func11 rfl rfl rfl ?_
  repeat' (first
    | (apply so_vo; (· exact voA); (· rfl))
    | refine so_nil ?_
    | refine q_go ?_
    | refine sw_region ?_
    | (refine goQ ?_; intro _ _)
    | refine go1 ?_
    | (refine goU ?_; intro nu)
    | (refine goB ?_; intro nb)
    | (refine goM ?_; intro nm)
    | (refine go2 ?_ ?_ <;> intro h <;> (try simp only [Bool.not_true, Bool.not_false, decide_eq_true_eq, decide_eq_false_iff_not, Bool.not_eq_true', Bool.not_eq_false', ne_eq, Decidable.not_not, Int.not_lt, Int.not_le, not_false_eq_true] at h))
    | fail)
  refine so_call rfl rfl rfl (Settle_ok _ u us d) ?_
  rintro _ _ ⟨u', x, rfl, h1, h2, rfl⟩
  repeat' (first
    | (apply so_vo; (· exact voA); (· rfl))
    | refine so_nil ?_
    | refine q_go ?_
    | refine sw_region ?_
    | (refine goQ ?_; intro _ _)
    | refine go1 ?_
    | (refine goU ?_; intro nu)
    | (refine goB ?_; intro nb)
    | (refine goM ?_; intro nm)
    | (refine go2 ?_ ?_ <;> intro h <;> (try simp only [Bool.not_true, Bool.not_false, decide_eq_true_eq, decide_eq_false_iff_not, Bool.not_eq_true', Bool.not_eq_false', ne_eq, Decidable.not_not, Int.not_lt, Int.not_le, not_false_eq_true] at h))
    | fail)
  apply rq2 rfl rfl rfl
  · exact ⟨x, rfl, h1, h2, rfl⟩
  · (first | infer_instance | exact ⟨fun _ H => H⟩)
theorem Settles1_ok (L : List SP) (u : SlV) (b : Nat) (p : Int × Int × Int) (us : List SlV) [c : Cl L b 24 [u.v]] [r : RdSl L u.v SlV encSl us] : FnC Tryz.prog 50 [enc3.val p, .pointer (some ⟨b, 0, none⟩)] L (fun v M => v = .bool (inP us.length p) ∧ M = L) := by
  refine FnC.pure r.len fun hlen => ?_
  refine fn_start (sz := 18) Tryz.func50 rfl rfl rfl ?_
  repeat' (first
    | (apply so_vo; (· exact voA); (· rfl))
    | refine so_nil ?_
    | refine q_go ?_
    | refine sw_region ?_
    | (refine goQ ?_; intro _ _)
    | refine go1 ?_
    | (refine goU ?_; intro nu)
    | (refine goB ?_; intro nb)
    | (refine goM ?_; intro nm)
    | (refine go2 ?_ ?_ <;> intro h <;> (try simp only [Bool.not_true, Bool.not_false, decide_eq_true_eq, decide_eq_false_iff_not, Bool.not_eq_true', Bool.not_eq_false', ne_eq, Decidable.not_not, Int.not_lt, Int.not_le, not_false_eq_true] at h))
    | fail)
  refine so_call rfl rfl rfl (in_ok _ p.1 0 _) ?_
  rintro _ _ ⟨rfl, rfl⟩
  repeat' (first
    | (apply so_vo; (· exact voA); (· rfl))
    | refine so_nil ?_
    | refine q_go ?_
    | refine sw_region ?_
    | (refine goQ ?_; intro _ _)
    | refine go1 ?_
    | (refine goU ?_; intro nu)
    | (refine goB ?_; intro nb)
    | (refine goM ?_; intro nm)
    | (refine go2 ?_ ?_ <;> intro h <;> (try simp only [Bool.not_true, Bool.not_false, decide_eq_true_eq, decide_eq_false_iff_not, Bool.not_eq_true', Bool.not_eq_false', ne_eq, Decidable.not_not, Int.not_lt, Int.not_le, not_false_eq_true] at h))
    | fail)
  · refine so_call rfl rfl rfl (in_ok _ p.2.1 0 _) ?_
    rintro _ _ ⟨rfl, rfl⟩
    repeat' (first
      | (apply so_vo; (· exact voA); (· rfl))
      | refine so_nil ?_
      | refine q_go ?_
      | refine sw_region ?_
      | (refine goQ ?_; intro _ _)
      | refine go1 ?_
      | (refine goU ?_; intro nu)
      | (refine goB ?_; intro nb)
      | (refine goM ?_; intro nm)
      | (refine go2 ?_ ?_ <;> intro h <;> (try simp only [Bool.not_true, Bool.not_false, decide_eq_true_eq, decide_eq_false_iff_not, Bool.not_eq_true', Bool.not_eq_false', ne_eq, Decidable.not_not, Int.not_lt, Int.not_le, not_false_eq_true] at h))
      | fail)
    apply rq1 rfl rfl
    · exact ⟨by unfold inP; rw [decide_eq_true h]; rfl, rfl⟩
    · (first | infer_instance | exact ⟨fun _ H => H⟩)
  · apply rq1 rfl rfl
    · exact ⟨by unfold inP; rw [decide_eq_false h]; rfl, rfl⟩
    · (first | infer_instance | exact ⟨fun _ H => H⟩)
theorem Settles2_ok (L : List SP) (p : Int × Int × Int) : FnC Tryz.prog 52 [enc3.val p] L (fun v M => v = .bool (decide (p.1 ≠ p.2.1)) ∧ M = L) := by
  refine fn_start (sz := 8) Tryz.func52 rfl rfl rfl ?_
  repeat' (first
    | (apply so_vo; (· exact voA); (· rfl))
    | refine so_nil ?_
    | refine q_go ?_
    | refine sw_region ?_
    | (refine goQ ?_; intro _ _)
    | refine go1 ?_
    | (refine goU ?_; intro nu)
    | (refine goB ?_; intro nb)
    | (refine goM ?_; intro nm)
    | (refine go2 ?_ ?_ <;> intro h <;> (try simp only [Bool.not_true, Bool.not_false, decide_eq_true_eq, decide_eq_false_iff_not, Bool.not_eq_true', Bool.not_eq_false', ne_eq, Decidable.not_not, Int.not_lt, Int.not_le, not_false_eq_true] at h))
    | fail)
  apply rq1 rfl rfl
  · exact ⟨rfl, rfl⟩
  · (first | infer_instance | exact ⟨fun _ H => H⟩)
theorem Settles3_ok (L : List SP) (p : Int × Int × Int) : FnC Tryz.prog 53 [enc3.val p] L (fun v M => v = .bool (decide (1 ≤ p.2.2 ∧ p.2.2 ≤ 6000000)) ∧ M = L) := by
  refine fn_start (sz := 6) Tryz.func53 rfl rfl rfl ?_
  repeat' (first
    | (apply so_vo; (· exact voA); (· rfl))
    | refine so_nil ?_
    | refine q_go ?_
    | refine sw_region ?_
    | (refine goQ ?_; intro _ _)
    | refine go1 ?_
    | (refine goU ?_; intro nu)
    | (refine goB ?_; intro nb)
    | (refine goM ?_; intro nm)
    | (refine go2 ?_ ?_ <;> intro h <;> (try simp only [Bool.not_true, Bool.not_false, decide_eq_true_eq, decide_eq_false_iff_not, Bool.not_eq_true', Bool.not_eq_false', ne_eq, Decidable.not_not, Int.not_lt, Int.not_le, not_false_eq_true] at h))
    | fail)
  refine so_call rfl rfl rfl (in_ok _ p.2.2 1 6000000) ?_
  rintro _ _ ⟨rfl, rfl⟩
  repeat' (first
    | (apply so_vo; (· exact voA); (· rfl))
    | refine so_nil ?_
    | refine q_go ?_
    | refine sw_region ?_
    | (refine goQ ?_; intro _ _)
    | refine go1 ?_
    | (refine goU ?_; intro nu)
    | (refine goB ?_; intro nb)
    | (refine goM ?_; intro nm)
    | (refine go2 ?_ ?_ <;> intro h <;> (try simp only [Bool.not_true, Bool.not_false, decide_eq_true_eq, decide_eq_false_iff_not, Bool.not_eq_true', Bool.not_eq_false', ne_eq, Decidable.not_not, Int.not_lt, Int.not_le, not_false_eq_true] at h))
    | fail)
  apply rq1 rfl rfl
  · exact ⟨rfl, rfl⟩
  · (first | infer_instance | exact ⟨fun _ H => H⟩)
theorem Settles4_ok (L : List SP) (n : Int) : FnC Tryz.prog 55 [.int .i64 n] L (fun v M => v = .bool (decide (n = 0)) ∧ M = L) := by
  refine fn_start (sz := 5) Tryz.func55 rfl rfl rfl ?_
  repeat' (first
    | (apply so_vo; (· exact voA); (· rfl))
    | refine so_nil ?_
    | refine q_go ?_
    | refine sw_region ?_
    | (refine goQ ?_; intro _ _)
    | refine go1 ?_
    | (refine goU ?_; intro nu)
    | (refine goB ?_; intro nb)
    | (refine goM ?_; intro nm)
    | (refine go2 ?_ ?_ <;> intro h <;> (try simp only [Bool.not_true, Bool.not_false, decide_eq_true_eq, decide_eq_false_iff_not, Bool.not_eq_true', Bool.not_eq_false', ne_eq, Decidable.not_not, Int.not_lt, Int.not_le, not_false_eq_true] at h))
    | fail)
  apply rq1 rfl rfl
  · exact ⟨rfl, rfl⟩
  · (first | infer_instance | exact ⟨fun _ H => H⟩)
theorem Settles_ok (L : List SP) (u ul : SlV) (us : List SlV) (d : List (List Int)) (l : List (Int × Int × Int)) [r : RdSl L u.v SlV encSl us] [rm : RdM L us Int encInt d] [rl : RdSl L ul.v (Int × Int × Int) enc3 l] (hl : l.length ≤ 1000) : FnC Tryz.prog 12 [u.v, ul.v] L (fun v M => v = .tuple #[.bool (settlesB d l), .int .i64 (settlesE d l)] ∧ M = L) := by
  refine FnC.pure rm.len fun hlm => ?_
  have d0 : (0, 0, 0) = ((0, 0, 0) : Int × Int × Int) := rfl
  refine fn_start (sz := 58) Tryz.func12 rfl rfl rfl ?_
  repeat' (first
    | (apply so_vo; (· exact voA); (· rfl))
    | refine so_nil ?_
    | refine q_go ?_
    | refine sw_region ?_
    | (refine goQ ?_; intro _ _)
    | refine go1 ?_
    | (refine goU ?_; intro nu)
    | (refine goB ?_; intro nb)
    | (refine goM ?_; intro nm)
    | (refine go2 ?_ ?_ <;> intro h <;> (try simp only [Bool.not_true, Bool.not_false, decide_eq_true_eq, decide_eq_false_iff_not, Bool.not_eq_true', Bool.not_eq_false', ne_eq, Decidable.not_not, Int.not_lt, Int.not_le, not_false_eq_true] at h))
    | fail)
  refine so_call rfl rfl rfl (CheckDebts_ok _ u us d) ?_
  rintro _ _ ⟨rfl, rfl⟩
  by_cases h0 : checkD d = 0
  rotate_left
  · have e : settlesE d l = checkD d := by unfold settlesE; rw [if_pos h0]
    have e2 : settlesB d l = false := by unfold settlesB; rw [e, decide_eq_false h0]; rfl
    repeat' (first
      | (apply so_vo; (· exact voA); (· rfl))
      | refine so_nil ?_
      | refine q_go ?_
      | refine sw_region ?_
      | (refine goQ ?_; intro _ _)
      | refine go1 ?_
      | (refine goU ?_; intro nu)
      | (refine goB ?_; intro nb)
      | (refine goM ?_; intro nm)
      | (refine go2 ?_ ?_ <;> intro h <;> (try simp only [Bool.not_true, Bool.not_false, decide_eq_true_eq, decide_eq_false_iff_not, Bool.not_eq_true', Bool.not_eq_false', ne_eq, Decidable.not_not, Int.not_lt, Int.not_le, not_false_eq_true] at h))
      | fail)
    apply rq2 rfl rfl rfl
    · exact ⟨by rw [e, e2], rfl⟩
    · (first | infer_instance | exact ⟨fun _ H => H⟩)
  obtain ⟨hd, hd1, hz⟩ := checkD_ok h0
  have hd7 := hd.len
  repeat' (first
    | (apply so_vo; (· exact voA); (· rfl))
    | refine so_nil ?_
    | refine q_go ?_
    | refine sw_region ?_
    | (refine goQ ?_; intro _ _)
    | refine go1 ?_
    | (refine goU ?_; intro nu)
    | (refine goB ?_; intro nb)
    | (refine goM ?_; intro nm)
    | (refine go2 ?_ ?_ <;> intro h <;> (try simp only [Bool.not_true, Bool.not_false, decide_eq_true_eq, decide_eq_false_iff_not, Bool.not_eq_true', Bool.not_eq_false', ne_eq, Decidable.not_not, Int.not_lt, Int.not_le, not_false_eq_true] at h))
    | fail)
  refine so_call rfl rfl rfl (every_staddle_loan_Promise _ ul _ l (fun i => inP us.length (l.getD i (0, 0, 0))) ⟨_, _, _, rfl, inferInstance, fun L' s i y hy => ?_⟩) ?_
  · haveI := Cl.up (L := L') (b := nb) (inferInstance : Cl (cl nb _ [u.v] :: L) nb _ _) s
    haveI := RdSl.up r ((Suf.mk' [_] L).trans s)
    simp only [getD_of hy]
    exact Settles1_ok L' u nb y us
  rintro _ _ ⟨rfl, rfl⟩
  rw [all_range l _ (inP us.length) (fun i x h => by rw [getD_of h]), hlm]
  by_cases h1 : l.all (inP d.length) = false
  · have e : settlesE d l = 1 := by unfold settlesE; rw [if_neg (by omega), if_pos h1]
    have e2 : settlesB d l = false := by unfold settlesB; rw [e]; rfl
    repeat' (first
      | (apply so_vo; (· exact voA); (· rfl))
      | refine so_nil ?_
      | refine q_go ?_
      | refine sw_region ?_
      | (refine goQ ?_; intro _ _)
      | refine go1 ?_
      | (refine goU ?_; intro nu)
      | (refine goB ?_; intro nb)
      | (refine goM ?_; intro nm)
      | (refine go2 ?_ ?_ <;> intro h <;> (try simp only [Bool.not_true, Bool.not_false, decide_eq_true_eq, decide_eq_false_iff_not, Bool.not_eq_true', Bool.not_eq_false', ne_eq, Decidable.not_not, Int.not_lt, Int.not_le, not_false_eq_true] at h))
      | fail)
    apply rq2 rfl rfl rfl
    · exact ⟨by rw [e, e2], rfl⟩
    · (first | infer_instance | exact ⟨fun _ H => H⟩)
  have h1' : l.all (inP d.length) = true := (Bool.not_eq_false _).mp h1
  repeat' (first
    | (apply so_vo; (· exact voA); (· rfl))
    | refine so_nil ?_
    | refine q_go ?_
    | refine sw_region ?_
    | (refine goQ ?_; intro _ _)
    | refine go1 ?_
    | (refine goU ?_; intro nu)
    | (refine goB ?_; intro nb)
    | (refine goM ?_; intro nm)
    | (refine go2 ?_ ?_ <;> intro h <;> (try simp only [Bool.not_true, Bool.not_false, decide_eq_true_eq, decide_eq_false_iff_not, Bool.not_eq_true', Bool.not_eq_false', ne_eq, Decidable.not_not, Int.not_lt, Int.not_le, not_false_eq_true] at h))
    | fail)
  refine so_call rfl rfl rfl (every_staddle_loan_Promise _ ul _ l (fun i => decide ((l.getD i (0, 0, 0)).1 ≠ (l.getD i (0, 0, 0)).2.1)) ⟨_, _, _, rfl, inferInstance, fun L' s i y hy => ?_⟩) ?_
  · simp only [getD_of hy]
    exact Settles2_ok L' y
  rintro _ _ ⟨rfl, rfl⟩
  rw [all_range l _ (fun p => decide (p.1 ≠ p.2.1)) (fun i x h => by rw [getD_of h])]
  by_cases h2 : (l.all fun p => decide (p.1 ≠ p.2.1)) = false
  · have e : settlesE d l = 5 := by unfold settlesE; rw [if_neg (by omega), if_neg h1, if_pos h2]
    have e2 : settlesB d l = false := by unfold settlesB; rw [e]; rfl
    repeat' (first
      | (apply so_vo; (· exact voA); (· rfl))
      | refine so_nil ?_
      | refine q_go ?_
      | refine sw_region ?_
      | (refine goQ ?_; intro _ _)
      | refine go1 ?_
      | (refine goU ?_; intro nu)
      | (refine goB ?_; intro nb)
      | (refine goM ?_; intro nm)
      | (refine go2 ?_ ?_ <;> intro h <;> (try simp only [Bool.not_true, Bool.not_false, decide_eq_true_eq, decide_eq_false_iff_not, Bool.not_eq_true', Bool.not_eq_false', ne_eq, Decidable.not_not, Int.not_lt, Int.not_le, not_false_eq_true] at h))
      | fail)
    apply rq2 rfl rfl rfl
    · exact ⟨by rw [e, e2], rfl⟩
    · (first | infer_instance | exact ⟨fun _ H => H⟩)
  have h2' : (l.all fun p => decide (p.1 ≠ p.2.1)) = true := (Bool.not_eq_false _).mp h2
  repeat' (first
    | (apply so_vo; (· exact voA); (· rfl))
    | refine so_nil ?_
    | refine q_go ?_
    | refine sw_region ?_
    | (refine goQ ?_; intro _ _)
    | refine go1 ?_
    | (refine goU ?_; intro nu)
    | (refine goB ?_; intro nb)
    | (refine goM ?_; intro nm)
    | (refine go2 ?_ ?_ <;> intro h <;> (try simp only [Bool.not_true, Bool.not_false, decide_eq_true_eq, decide_eq_false_iff_not, Bool.not_eq_true', Bool.not_eq_false', ne_eq, Decidable.not_not, Int.not_lt, Int.not_le, not_false_eq_true] at h))
    | fail)
  refine so_call rfl rfl rfl (every_staddle_loan_Promise _ ul _ l (fun i => decide (1 ≤ (l.getD i (0, 0, 0)).2.2 ∧ (l.getD i (0, 0, 0)).2.2 ≤ 6000000)) ⟨_, _, _, rfl, inferInstance, fun L' s i y hy => ?_⟩) ?_
  · simp only [getD_of hy]
    exact Settles3_ok L' y
  rintro _ _ ⟨rfl, rfl⟩
  rw [all_range l _ (fun p => decide (1 ≤ p.2.2 ∧ p.2.2 ≤ 6000000)) (fun i x h => by rw [getD_of h])]
  by_cases h3 : (l.all fun p => decide (1 ≤ p.2.2 ∧ p.2.2 ≤ 6000000)) = false
  · have e : settlesE d l = 3 := by unfold settlesE; rw [if_neg (by omega), if_neg h1, if_neg h2, if_pos h3]
    have e2 : settlesB d l = false := by unfold settlesB; rw [e]; rfl
    repeat' (first
      | (apply so_vo; (· exact voA); (· rfl))
      | refine so_nil ?_
      | refine q_go ?_
      | refine sw_region ?_
      | (refine goQ ?_; intro _ _)
      | refine go1 ?_
      | (refine goU ?_; intro nu)
      | (refine goB ?_; intro nb)
      | (refine goM ?_; intro nm)
      | (refine go2 ?_ ?_ <;> intro h <;> (try simp only [Bool.not_true, Bool.not_false, decide_eq_true_eq, decide_eq_false_iff_not, Bool.not_eq_true', Bool.not_eq_false', ne_eq, Decidable.not_not, Int.not_lt, Int.not_le, not_false_eq_true] at h))
      | fail)
    apply rq2 rfl rfl rfl
    · exact ⟨by rw [e, e2], rfl⟩
    · (first | infer_instance | exact ⟨fun _ H => H⟩)
  have h3' : (l.all fun p => decide (1 ≤ p.2.2 ∧ p.2.2 ≤ 6000000)) = true := (Bool.not_eq_false _).mp h3
  have e : settlesE d l = 0 := by unfold settlesE; rw [if_neg (by omega), if_neg h1, if_neg h2, if_neg h3]
  have hrng : ∀ p ∈ l, (0 ≤ p.1 ∧ p.1 < d.length ∧ 0 ≤ p.2.1 ∧ p.2.1 < d.length) ∧ p.1 ≠ p.2.1 ∧ 1 ≤ p.2.2 ∧ p.2.2 ≤ 6000000 := fun p hp => by
    have a1 := List.all_eq_true.1 h1' p hp
    have a2 := List.all_eq_true.1 h2' p hp
    have a3 := List.all_eq_true.1 h3' p hp
    simp only [inP, Bool.and_eq_true, decide_eq_true_eq] at a1 a2 a3
    exact ⟨by omega, a2, a3⟩
  repeat' (first
    | (apply so_vo; (· exact voA); (· rfl))
    | refine so_nil ?_
    | refine q_go ?_
    | refine sw_region ?_
    | (refine goQ ?_; intro _ _)
    | refine go1 ?_
    | (refine goU ?_; intro nu)
    | (refine goB ?_; intro nb)
    | (refine goM ?_; intro nm)
    | (refine go2 ?_ ?_ <;> intro h <;> (try simp only [Bool.not_true, Bool.not_false, decide_eq_true_eq, decide_eq_false_iff_not, Bool.not_eq_true', Bool.not_eq_false', ne_eq, Decidable.not_not, Int.not_lt, Int.not_le, not_false_eq_true] at h))
    | fail)
  refine so_call rfl rfl rfl (net_ok _ u us d hd) ?_
  rintro _ _ ⟨un, rfl, rfl⟩
  repeat' (first
    | (apply so_vo; (· exact voA); (· rfl))
    | refine so_nil ?_
    | refine q_go ?_
    | refine sw_region ?_
    | (refine goQ ?_; intro _ _)
    | refine go1 ?_
    | (refine goU ?_; intro nu)
    | (refine goB ?_; intro nb)
    | (refine goM ?_; intro nm)
    | (refine go2 ?_ ?_ <;> intro h <;> (try simp only [Bool.not_true, Bool.not_false, decide_eq_true_eq, decide_eq_false_iff_not, Bool.not_eq_true', Bool.not_eq_false', ne_eq, Decidable.not_not, Int.not_lt, Int.not_le, not_false_eq_true] at h))
    | fail)
  have hnl := netM_len d hd
  refine sw_range (τ := Unit) (fun k _ => [(7, un.v), (31, ul.v)]) (fun k _ => ownSl 3 encInt un.v ((l.take k).foldl payStep (netM d)) :: cl nb 24 [u.v] :: L) (fun k _ => True) () trivial (by rfl) (by rfl) (by omega) (by (exact fsA)) (fun _ h => h) (fun _ _ => by rfl) (by rfl) (fun k t hlt hI _ _ => ?_) (fun t hI => ?_)
  · obtain ⟨p, hp⟩ := get_some hlt
    obtain ⟨o, ho⟩ : ∃ o, o = (l.take k).foldl payStep (netM d) := ⟨_, rfl⟩
    have hol : o.length = d.length := by rw [ho, payFold_len]; exact hnl
    have hs : (l.take (k + 1)).foldl payStep (netM d) = payStep o p := by rw [take_snoc hp, List.foldl_append, ← ho]; rfl
    obtain ⟨q1, q2, q3⟩ := hrng p (List.mem_of_getElem? hp)
    have hob : ∀ j : Int, 0 ≤ j → -10000000000 ≤ gv o j ∧ gv o j ≤ 10000000000 := fun j hj => by
      rw [ho, payFold_gv _ _ hnl (fun p hp => (hrng p (List.mem_of_mem_take hp)).1) j hj]
      have b1 := eff_bd (l.take k) (fun p hp => by have := (hrng p (List.mem_of_mem_take hp)).2.2; omega) j
      have b2 := netF_bd6 hd hz j.toNat
      have b3 : (l.take k).length ≤ 1000 := by simp; omega
      have b4 : gv (netM d) j = netF d j.toNat := rfl
      rw [b4]
      omega
    simp only [← ho]
    have g1 : o[p.1.toNat]? = some (gv o p.1) := getD_get (by omega)
    have g2 : (o.set p.1.toNat (gv o p.1 + p.2.2))[p.2.1.toNat]? = some (gv o p.2.1) := by rw [List.getElem?_set_ne (by omega)]; exact getD_get (by omega)
    have g3 := hob p.1 q1.1
    have g4 := hob p.2.1 q1.2.2.1
    have hst : payStep o p = (o.set p.1.toNat (gv o p.1 + p.2.2)).set p.2.1.toNat (gv o p.2.1 - p.2.2) := by
      have h5 := getD_of (d := 0) g2
      unfold payStep netStep; simp only [gv] at h5 ⊢; rw [h5]
    repeat' (first
      | (apply so_vo; (· exact voA); (· rfl))
      | refine so_nil ?_
      | refine q_go ?_
      | refine sw_region ?_
      | (refine goQ ?_; intro _ _)
      | refine go1 ?_
      | (refine goU ?_; intro nu)
      | (refine goB ?_; intro nb)
      | (refine goM ?_; intro nm)
      | (refine go2 ?_ ?_ <;> intro h <;> (try simp only [Bool.not_true, Bool.not_false, decide_eq_true_eq, decide_eq_false_iff_not, Bool.not_eq_true', Bool.not_eq_false', ne_eq, Decidable.not_not, Int.not_lt, Int.not_le, not_false_eq_true] at h))
      | fail)
    refine sa_start [8, 9] mixed (by kernel_rfl) ?_
    apply sa_stat 0 rfl (by kernel_rfl) rfl
    · (exact voA)
    apply sa_stat 1 rfl (by kernel_rfl) rfl
    · (exact voA)
    apply sa_stat 2 rfl (by kernel_rfl) rfl
    · (exact voA)
    apply sa_stat 3 rfl (by kernel_rfl) rfl
    · (exact voA)
    apply sa_stat 4 rfl (by kernel_rfl) rfl
    · (exact voA)
    apply sa_stat 5 rfl (by kernel_rfl) rfl
    · (exact voA)
    apply sa_stat 6 rfl (by kernel_rfl) rfl
    · (exact voA)
    apply sa_stat 7 rfl (by kernel_rfl) rfl
    · (exact voA)
    refine sa_rest (T' := [_, _]) rfl (by kernel_rfl) ?_
    repeat' (first
      | (apply so_vo; (· exact voA); (· rfl))
      | refine so_nil ?_
      | refine q_go ?_
      | refine sw_region ?_
      | (refine goQ ?_; intro _ _)
      | refine go1 ?_
      | (refine goU ?_; intro nu)
      | (refine goB ?_; intro nb)
      | (refine goM ?_; intro nm)
      | (refine go2 ?_ ?_ <;> intro h <;> (try simp only [Bool.not_true, Bool.not_false, decide_eq_true_eq, decide_eq_false_iff_not, Bool.not_eq_true', Bool.not_eq_false', ne_eq, Decidable.not_not, Int.not_lt, Int.not_le, not_false_eq_true] at h))
      | fail)
    refine sa_start [8, 9] mixed (by kernel_rfl) ?_
    apply sa_stat 0 rfl (by kernel_rfl) rfl
    · (exact voA)
    apply sa_stat 1 rfl (by kernel_rfl) rfl
    · (exact voA)
    apply sa_stat 2 rfl (by kernel_rfl) rfl
    · (exact voA)
    apply sa_stat 3 rfl (by kernel_rfl) rfl
    · (exact voA)
    apply sa_stat 4 rfl (by kernel_rfl) rfl
    · (exact voA)
    apply sa_stat 5 rfl (by kernel_rfl) rfl
    · (exact voA)
    apply sa_stat 6 rfl (by kernel_rfl) rfl
    · (exact voA)
    apply sa_stat 7 rfl (by kernel_rfl) rfl
    · (exact voA)
    refine sa_rest (T' := [_, _]) rfl (by kernel_rfl) ?_
    repeat' (first
      | (apply so_vo; (· exact voA); (· rfl))
      | refine so_nil ?_
      | refine q_go ?_
      | refine sw_region ?_
      | (refine goQ ?_; intro _ _)
      | refine go1 ?_
      | (refine goU ?_; intro nu)
      | (refine goB ?_; intro nb)
      | (refine goM ?_; intro nm)
      | (refine go2 ?_ ?_ <;> intro h <;> (try simp only [Bool.not_true, Bool.not_false, decide_eq_true_eq, decide_eq_false_iff_not, Bool.not_eq_true', Bool.not_eq_false', ne_eq, Decidable.not_not, Int.not_lt, Int.not_le, not_false_eq_true] at h))
      | fail)
    rw [hs, hst]
    refine ⟨rfl, (), trivial, ?_, ?_⟩
    · (exact fsA)
    · (first | exact fun _ h => h | exact HLess.sat inferInstance)
  · rw [List.take_of_length_le (Nat.le_refl _)] at *
    repeat' (first
      | (apply so_vo; (· exact voA); (· rfl))
      | refine so_nil ?_
      | refine q_go ?_
      | refine sw_region ?_
      | (refine goQ ?_; intro _ _)
      | refine go1 ?_
      | (refine goU ?_; intro nu)
      | (refine goB ?_; intro nb)
      | (refine goM ?_; intro nm)
      | (refine go2 ?_ ?_ <;> intro h <;> (try simp only [Bool.not_true, Bool.not_false, decide_eq_true_eq, decide_eq_false_iff_not, Bool.not_eq_true', Bool.not_eq_false', ne_eq, Decidable.not_not, Int.not_lt, Int.not_le, not_false_eq_true] at h))
      | fail)
    refine so_call rfl rfl rfl (every_int _ un _ (l.foldl payStep (netM d)) (fun i => decide ((l.foldl payStep (netM d)).getD i 0 = 0)) ⟨_, _, _, rfl, inferInstance, fun L' s i y hy => ?_⟩) ?_
    · simp only [getD_of hy]
      exact Settles4_ok L' y
    rintro _ _ ⟨rfl, rfl⟩
    rw [all_range (l.foldl payStep (netM d)) _ (fun n => decide (n = 0)) (fun i x h => by rw [getD_of h])]
    repeat' (first
      | (apply so_vo; (· exact voA); (· rfl))
      | refine so_nil ?_
      | refine q_go ?_
      | refine sw_region ?_
      | (refine goQ ?_; intro _ _)
      | refine go1 ?_
      | (refine goU ?_; intro nu)
      | (refine goB ?_; intro nb)
      | (refine goM ?_; intro nm)
      | (refine go2 ?_ ?_ <;> intro h <;> (try simp only [Bool.not_true, Bool.not_false, decide_eq_true_eq, decide_eq_false_iff_not, Bool.not_eq_true', Bool.not_eq_false', ne_eq, Decidable.not_not, Int.not_lt, Int.not_le, not_false_eq_true] at h))
      | fail)
    apply rq2 rfl rfl rfl
    · exact ⟨by rw [e]; unfold settlesB; rw [e]; rfl, rfl⟩
    · (first | infer_instance | exact ⟨fun _ H => H⟩)
end Go.Proofs.YtmhfhfhdblccjaaGreat
/-
  An own logic over the kit's calculus: room that is made ahead.
-/
namespace Go.Proofs.YtmhfhfhdblccjaaGreat
set_option linter.unusedSimpArgs false
open Go Go.RowKit
set_option linter.unusedVariables false
theorem own_sub0 {T : TypeId} {α : Type} {enc : Enc α} {v : Value} {xs : List α} {k : Nat} (hk : enc.k = k) : ∀ h, ownSl T enc v xs h → ownSl T enc (subsl k v 0 0) [] h := fun h H => by
  obtain ⟨h0, ⟨a, e, rfl⟩ | ⟨b, c, cs, e, h1, h2, h3, h4⟩⟩ := H
  · subst e; exact ⟨by simp, .inl ⟨a, by simp [subsl], rfl⟩⟩
  · subst e
    refine ⟨by simp, .inr ⟨b, c, cs, ?_, h1, Nat.zero_le _, h3, fun j x hx => by simp at hx⟩⟩
    simp only [subsl, List.length_nil, Nat.sub_zero, Nat.zero_mul]
    split
    · rfl
    · simp [Addr.add]
section
variable {P : Program} {ro : Option Nat} {sz : Nat} {fr : Fr} {ds : List Deferred} {L : List SP} {Q : Post} {ops : Array Oper} {l : List Oper} {d : Nat} {ty : TypeId} {pos : String} {aft : Array Edge}
theorem run_appendMade {T TI E ty : TypeId} {z : Value} {agg : Bool} {size bytes : Nat} [hT : TyU P T (.slice E)] [hI : TyU P TI (.int .i64)] [hE : TyI P E agg z size bytes] {α : Type} {enc : Enc α} (x0 : α) (hz : z.cells = (enc.cells x0).toArray) (hk : enc.k = size) (hb : bytes ≤ 4096) {n : Nat} (h0 : 0 < n) (hn : n ≤ 1000000000) {w : World} (H : Sat L w) :
    ∃ v' w', (Builtin.append_ #[T, TI] ty #[.slice none 0 0, .int .i64 n]).run P w = .ok v' w' ∧ (∃ u : SlV, v' = u.v) ∧ Sat (ownSl E enc v' (List.replicate n x0) :: L) w' ∧ Kept w w' := by
  obtain ⟨i0, hi, hz0, hz1, hz2⟩ := hE.info
  subst hk
  have hs : z.cells.size = enc.k := by rw [hz]; simp [enc.len]
  have hpos := enc.pos
  have hnb : (n : Int) * i0.bytes ≤ 281474976710656 := by
    have h6 : (n : Int) * i0.bytes ≤ 1000000000 * 4096 := Int.mul_le_mul (by omega) (by omega) (by omega) (by omega)
    omega
  have hw : IntKind.i64.wrap (n : Int) = n := wrap_ok (by omega) (by omega)
  have h63' : ¬ (9223372036854775807 < (n : Int)) := by omega
  have hcap : ¬ (281474976710656 < Builtin.nextslicecap n 0 * i0.bytes) := by
    have := bytes_bound _ i0.bytes n 0 h0 (by omega) (by omega) (cap_bound n 0 h0)
    omega
  have hlt : ¬ ((n : Int) * i0.bytes > 281474976710656) := by omega
  have hge := grownCap_ge w n 0 E
  have hne : ¬ (n = 0 ∨ i0.size = 0) := by omega
  refine ⟨.slice (some ⟨w.heap.size, 0, none⟩) n (grownCap w n 0 E), w.drew.alloc (.cells (Builtin.zeroCells z.cells n ++ Builtin.zeroCells z.cells (grownCap w n 0 E - n)) E), ?_, ⟨⟨_, _, _, _, rfl⟩, rfl⟩, ?_, ⟨rfl, rfl, rfl, by simp⟩⟩
  · have hn0 : ¬ (n : Int) < 0 := by omega
    have hn1 : ¬ n = 0 := by omega
    have hn2 : ¬ (n * i0.size = 0) := by rw [Nat.mul_eq_zero]; omega
    simp [Builtin.append_, run_underlying hT.out, run_underlying hI.out, sizeOf, typeInfo, zeroValue, hi, hz0, asInt, asIntOf, hw, hn1, hlt, hne, h63', hcap, Question.forced, run_firstCells_none, newRow, grownCap]
    rw [if_neg (by omega), if_neg hn2]
  · have e1 : Builtin.zeroCells z.cells n = madeCells z.cells (n * enc.k) := by unfold Builtin.zeroCells madeCells; rw [hs]
    have e2 : (Builtin.zeroCells z.cells (grownCap w n 0 E - n)).size = (grownCap w n 0 E - n) * enc.k := by rw [size_zeroCells, hs]
    have e3 : (Builtin.zeroCells z.cells n).size = n * enc.k := by rw [size_zeroCells, hs]
    have e4 : n * enc.k + (grownCap w n 0 E - n) * enc.k = grownCap w n 0 E * enc.k := by rw [← Nat.add_mul]; congr 1; omega
    have := own_new (T := E) (enc := enc) (w' := w.drew.alloc (.cells (Builtin.zeroCells z.cells n ++ Builtin.zeroCells z.cells (grownCap w n 0 E - n)) E)) H (xs := List.replicate n x0) (c := grownCap w n 0 E) rfl (by simpa using hge) (by rw [Array.size_append, e2, e3, e4]) (by simp; omega) (fun j x hx i u hu => by
      rw [List.getElem?_replicate] at hx
      split at hx
      · rename_i hj
        injection hx with hx; subst hx
        have hi' : i < enc.k := by rw [← enc.len x0]; exact (List.getElem?_eq_some_iff.1 hu).1
        have h5 : (j + 1) * enc.k ≤ n * enc.k := Nat.mul_le_mul_right _ hj
        rw [Nat.succ_mul] at h5
        rw [Array.getElem?_append_left (by rw [e3]; omega), e1]
        exact zero_get enc hz n j hj i u hu
      · cases hx)
    simpa using this
theorem so_appendMade {x y : Operand} {T TI E : TypeId} {z : Value} {agg : Bool} {size bytes : Nat} {α : Type} {enc : Enc α} {n : Nat} (x0 : α) (hx : Fr.ev fr x = some (.slice none 0 0)) (hy : Fr.ev fr y = some (.int .i64 n)) [hT : TyU P T (.slice E)] [hI : TyU P TI (.int .i64)] [hE : TyI P E agg z size bytes] (hz : z.cells = (enc.cells x0).toArray) (hk : (Nat.beq enc.k size && Nat.ble bytes 4096) = true) (hd : Nat.blt d sz = true) (hn : 0 < n ∧ n ≤ 1000000000)
    (k : ∀ u : SlV, SO l P ro sz ops ((d, u.v) :: fr) ds (ownSl E enc u.v (List.replicate n x0) :: L) Q) : SO (⟨some d, .call ⟨.builtin .append, #[x, y], #[T, TI]⟩, ty, pos, aft, none⟩ :: l) P ro sz ops fr ds L Q := by
  simp only [Bool.and_eq_true] at hk
  refine so_gen (fun c h => by cases h) (fun v' L' => ∃ u : SlV, v' = u.v ∧ L' = ownSl E enc v' (List.replicate n x0) :: L) (fun tm w h1 h2 h3 => ?_) hd (fun v' L' ⟨u, e1, e⟩ => by subst e; subst e1; exact k u)
  obtain ⟨v', w', e1, ⟨u, e2⟩, e3, e4⟩ := run_appendMade (P := P) (T := T) (TI := TI) (ty := ty) (enc := enc) x0 hz (Nat.eq_of_beq_eq_true hk.1) (Nat.le_of_ble_eq_true hk.2) hn.1 hn.2 h3
  exact ⟨v', w', _, by simp [execOp, resolve, invoke, builtin, h2.ev hx, h2.ev hy, e1], ⟨u, e2, rfl⟩, e3, e4⟩
end
end Go.Proofs.YtmhfhfhdblccjaaGreat
/-
  What groups show.
-/
namespace Go.Proofs.YtmhfhfhdblccjaaGreat
open Go Go.RowKit
set_option linter.unusedVariables false
set_option linter.unusedSimpArgs false
set_option maxRecDepth 100000
set_option maxHeartbeats 4000000
def inN (n : Nat) (k : Int) : Bool := decide (0 ≤ k ∧ k ≤ (n : Int) - 1)
/-- a group that is none -/
def badG (d : List (List Int)) (l : List Int) : Bool := (l.any fun k => decide (gv (netM d) k = 0)) || decide (lsum (gv (netM d)) l ≠ 0)
def badK (d : List (List Int)) (gs : List (List Int)) (k : Nat) : Bool := decide (netF d k ≠ 0) && decide (gs.flatten.count (k : Int) ≠ 1)
def showsE (d : List (List Int)) (gs : List (List Int)) : Int :=
  if checkD d ≠ 0 then checkD d else if gs.flatten.all (inN d.length) = false then 1 else if (gs.all fun l => decide (0 < l.length) && risingB l) = false then 4
  else if gs.any (badG d) then 8 else if (List.range d.length).any (badK d gs) then 8 else 0
def showsN (d : List (List Int)) (gs : List (List Int)) : Int := if showsE d gs = 0 then (openN (netF d) d.length : Int) - gs.length else 0
theorem lsum_app (f : Int → Int) (l m : List Int) : lsum f (l ++ m) = lsum f l + lsum f m := by simp [lsum]
theorem lsum_bd {f : Int → Int} (hf : ∀ k, -7000000 ≤ f k ∧ f k ≤ 7000000) : ∀ l : List Int, -(7000000 * (l.length : Int)) ≤ lsum f l ∧ lsum f l ≤ 7000000 * (l.length : Int)
  | [] => by simp [lsum]
  | x :: l => by have := lsum_bd hf l; have := hf x; rw [lsum_cons]; simp only [List.length_cons]; omega
theorem flatten_take {α : Type} {xss : List (List α)} {k : Nat} {xs : List α} (h : xss[k]? = some xs) : (xss.take (k + 1)).flatten = (xss.take k).flatten ++ xs := by rw [take_snoc h, List.flatten_append]; simp
theorem flatten_take_le {α : Type} (xss : List (List α)) (k : Nat) : (xss.take k).flatten.length ≤ xss.flatten.length := by
  have h := congrArg List.flatten (List.take_append_drop k xss)
  rw [List.flatten_append] at h
  rw [← h, List.length_append]; omega
theorem take_any {α : Type} {xs : List α} {k : Nat} {x : α} (h : xs[k]? = some x) (p : α → Bool) : (xs.take (k + 1)).any p = ((xs.take k).any p || p x) := by rw [take_snoc h, List.any_append]; simp
theorem any_take {α : Type} {xs : List α} {k : Nat} {x : α} (h : xs[k]? = some x) {p : α → Bool} (hp : p x = true) : xs.any p = true := List.any_eq_true.2 ⟨x, List.mem_of_getElem? h, hp⟩
theorem count_snoc {xs : List Int} {k : Nat} {x : Int} (h : xs[k]? = some x) (y : Int) : (xs.take (k + 1)).count y = (xs.take k).count y + if x = y then 1 else 0 := by
  rw [take_snoc h, List.count_append]; congr 1; rw [List.count_singleton]; simp
attribute [local irreducible] SW SO FnC retQ SA VO
theorem Grow_ok (L : List SP) (n : Nat) (hn : n ≤ 1000000) : FnC Tryz.prog 95 [.slice none 0 0, .int .i64 n] L (fun v M => ∃ u : SlV, v = u.v ∧ M = ownSl 3 encInt u.v [] :: L) := by
  refine fn_start (sz := 27) Tryz.func95 rfl rfl rfl ?_
  have hl0 : ([] : List Int).length = 0 := rfl
  by_cases h0 : n = 0
  · repeat' (first
      | (apply so_vo; (· exact voA); (· rfl))
      | refine so_nil ?_
      | refine q_go ?_
      | refine sw_region ?_
      | (refine goQ ?_; intro _ _)
      | refine go1 ?_
      | (refine goU ?_; intro nu)
      | (refine goB ?_; intro nb)
      | (refine goM ?_; intro nm)
      | (refine go2 ?_ ?_ <;> intro h <;> (try simp only [Bool.not_true, Bool.not_false, decide_eq_true_eq, decide_eq_false_iff_not, Bool.not_eq_true', Bool.not_eq_false', ne_eq, Decidable.not_not, Int.not_lt, Int.not_le, not_false_eq_true] at h))
      | fail)
    apply rq1 rfl rfl
    · exact ⟨nilS, rfl, rfl⟩
    · exact ⟨fun w H => own_nil none H⟩
  · repeat' (first
      | (apply so_vo; (· exact voA); (· rfl))
      | refine so_nil ?_
      | refine q_go ?_
      | refine sw_region ?_
      | (refine goQ ?_; intro _ _)
      | refine go1 ?_
      | (refine goU ?_; intro nu)
      | (refine goB ?_; intro nb)
      | (refine goM ?_; intro nm)
      | (refine go2 ?_ ?_ <;> intro h <;> (try simp only [Bool.not_true, Bool.not_false, decide_eq_true_eq, decide_eq_false_iff_not, Bool.not_eq_true', Bool.not_eq_false', ne_eq, Decidable.not_not, Int.not_lt, Int.not_le, not_false_eq_true] at h))
      | fail)
    refine so_appendMade (n := n) (enc := encInt) (0 : Int) rfl (show some (Value.int IntKind.i64 ((n : Int) - (((0 : Nat) : Int) - (([] : List Int).length : Int)))) = _ by congr 2 <;> omega) rfl rfl rfl ⟨by omega, by omega⟩ (fun u => ?_)
    have hr : (List.replicate n (0 : Int)).length = n := by simp
    repeat' (first
      | (apply so_vo; (· exact voA); (· rfl))
      | refine so_nil ?_
      | refine q_go ?_
      | refine sw_region ?_
      | (refine goQ ?_; intro _ _)
      | refine go1 ?_
      | (refine goU ?_; intro nu)
      | (refine goB ?_; intro nb)
      | (refine goM ?_; intro nm)
      | (refine go2 ?_ ?_ <;> intro h <;> (try simp only [Bool.not_true, Bool.not_false, decide_eq_true_eq, decide_eq_false_iff_not, Bool.not_eq_true', Bool.not_eq_false', ne_eq, Decidable.not_not, Int.not_lt, Int.not_le, not_false_eq_true] at h))
      | fail)
    apply rq1 rfl rfl
    · exact ⟨subu 1 u 0 0, rfl, rfl⟩
    · exact ⟨fun w H => Sat.weaken H (fun h H => own_sub0 rfl h H)⟩
theorem Concat_ok (L : List SP) (u : SlV) (us : List SlV) (xss : List (List Int)) [r : RdSl L u.v SlV encSl us] [rm : RdM L us Int encInt xss] (hn : xss.flatten.length ≤ 1000000) : FnC Tryz.prog 56 [u.v] L (fun v M => ∃ u' : SlV, v = u'.v ∧ M = ownSl 3 encInt u'.v xss.flatten :: L) := by
  refine FnC.pure rm.len fun hl => FnC.pure r.len fun hlu => ?_
  refine fn_start (sz := 36) Tryz.func56 rfl rfl rfl ?_
  repeat' (first
    | (apply so_vo; (· exact voA); (· rfl))
    | refine so_nil ?_
    | refine q_go ?_
    | refine sw_region ?_
    | (refine goQ ?_; intro _ _)
    | refine go1 ?_
    | (refine goU ?_; intro nu)
    | (refine goB ?_; intro nb)
    | (refine goM ?_; intro nm)
    | (refine go2 ?_ ?_ <;> intro h <;> (try simp only [Bool.not_true, Bool.not_false, decide_eq_true_eq, decide_eq_false_iff_not, Bool.not_eq_true', Bool.not_eq_false', ne_eq, Decidable.not_not, Int.not_lt, Int.not_le, not_false_eq_true] at h))
    | fail)
  refine sw_range (τ := Unit) (fun k _ => [(0, u.v), (3, .int .i64 (xss.take k).flatten.length), (9, u.v)]) (fun _ _ => L) (fun _ _ => True) () trivial (by rfl) (by rfl) (by omega) (by (exact fsA)) (fun _ h => h) (fun _ _ => by rfl) (by rfl) (fun k t hlt hI _ _ => ?_) (fun t hI => ?_)
  · have hx := atx_get (xss := xss) (i := k) (by omega)
    have h1 := flatten_take hx
    have h2 := flatten_take_le xss (k + 1)
    have h3 : (xss.take (k + 1)).flatten.length = (xss.take k).flatten.length + (atx xss k).length := by rw [h1, List.length_append]
    repeat' (first
      | (apply so_vo; (· exact voA); (· rfl))
      | refine so_nil ?_
      | refine q_go ?_
      | refine sw_region ?_
      | (refine goQ ?_; intro _ _)
      | refine go1 ?_
      | (refine goU ?_; intro nu)
      | (refine goB ?_; intro nb)
      | (refine goM ?_; intro nm)
      | (refine go2 ?_ ?_ <;> intro h <;> (try simp only [Bool.not_true, Bool.not_false, decide_eq_true_eq, decide_eq_false_iff_not, Bool.not_eq_true', Bool.not_eq_false', ne_eq, Decidable.not_not, Int.not_lt, Int.not_le, not_false_eq_true] at h))
      | fail)
    refine ⟨rfl, (), trivial, ?_, ?_⟩
    · (exact fsA)
    · (first | exact fun _ h => h | exact HLess.sat inferInstance)
  · rw [List.take_of_length_le (by omega)]
    repeat' (first
      | (apply so_vo; (· exact voA); (· rfl))
      | refine so_nil ?_
      | refine q_go ?_
      | refine sw_region ?_
      | (refine goQ ?_; intro _ _)
      | refine go1 ?_
      | (refine goU ?_; intro nu)
      | (refine goB ?_; intro nb)
      | (refine goM ?_; intro nm)
      | (refine go2 ?_ ?_ <;> intro h <;> (try simp only [Bool.not_true, Bool.not_false, decide_eq_true_eq, decide_eq_false_iff_not, Bool.not_eq_true', Bool.not_eq_false', ne_eq, Decidable.not_not, Int.not_lt, Int.not_le, not_false_eq_true] at h))
      | fail)
    refine so_call rfl rfl rfl (Grow_ok _ _ hn) ?_
    rintro _ _ ⟨ug, rfl, rfl⟩
    repeat' (first
      | (apply so_vo; (· exact voA); (· rfl))
      | refine so_nil ?_
      | refine q_go ?_
      | refine sw_region ?_
      | (refine goQ ?_; intro _ _)
      | refine go1 ?_
      | (refine goU ?_; intro nu)
      | (refine goB ?_; intro nb)
      | (refine goM ?_; intro nm)
      | (refine go2 ?_ ?_ <;> intro h <;> (try simp only [Bool.not_true, Bool.not_false, decide_eq_true_eq, decide_eq_false_iff_not, Bool.not_eq_true', Bool.not_eq_false', ne_eq, Decidable.not_not, Int.not_lt, Int.not_le, not_false_eq_true] at h))
      | fail)
    refine sw_range (τ := SlV) (fun k t => [(6, t.v), (25, u.v)]) (fun k t => ownSl 3 encInt t.v (xss.take k).flatten :: L) (fun _ _ => True) ug trivial (by rfl) (by rfl) (by omega) (by (exact fsA)) (fun _ h => h) (fun _ _ => by rfl) (by rfl) (fun k t hlt hI _ _ => ?_) (fun t hI => ?_)
    · have hx := atx_get (xss := xss) (i := k) (by omega)
      have h1 := flatten_take hx
      have h2 := flatten_take_le xss (k + 1)
      have h3 : (xss.take (k + 1)).flatten.length = (xss.take k).flatten.length + (atx xss k).length := by rw [h1, List.length_append]
      repeat' (first
        | (apply so_vo; (· exact voA); (· rfl))
        | refine so_nil ?_
        | refine q_go ?_
        | refine sw_region ?_
        | (refine goQ ?_; intro _ _)
        | refine go1 ?_
        | (refine goU ?_; intro nu)
        | (refine goB ?_; intro nb)
        | (refine goM ?_; intro nm)
        | (refine go2 ?_ ?_ <;> intro h <;> (try simp only [Bool.not_true, Bool.not_false, decide_eq_true_eq, decide_eq_false_iff_not, Bool.not_eq_true', Bool.not_eq_false', ne_eq, Decidable.not_not, Int.not_lt, Int.not_le, not_false_eq_true] at h))
        | fail)
      rw [← h1]
      refine ⟨rfl, nu, trivial, ?_, ?_⟩
      · (exact fsA)
      · (first | exact fun _ h => h | exact HLess.sat inferInstance)
    · rw [List.take_of_length_le (by omega)]
      repeat' (first
        | (apply so_vo; (· exact voA); (· rfl))
        | refine so_nil ?_
        | refine q_go ?_
        | refine sw_region ?_
        | (refine goQ ?_; intro _ _)
        | refine go1 ?_
        | (refine goU ?_; intro nu)
        | (refine goB ?_; intro nb)
        | (refine goM ?_; intro nm)
        | (refine go2 ?_ ?_ <;> intro h <;> (try simp only [Bool.not_true, Bool.not_false, decide_eq_true_eq, decide_eq_false_iff_not, Bool.not_eq_true', Bool.not_eq_false', ne_eq, Decidable.not_not, Int.not_lt, Int.not_le, not_false_eq_true] at h))
        | fail)
      apply rq1 rfl rfl
      · exact ⟨t, rfl, rfl⟩
      · (first | infer_instance | exact ⟨fun _ H => H⟩)
theorem Shows1_ok (L : List SP) (u : SlV) (b : Nat) (k : Int) (us : List SlV) [c : Cl L b 24 [u.v]] [r : RdSl L u.v SlV encSl us] : FnC Tryz.prog 57 [.int .i64 k, .pointer (some ⟨b, 0, none⟩)] L (fun v M => v = .bool (inN us.length k) ∧ M = L) := by
  refine FnC.pure r.len fun hlen => ?_
  refine fn_start (sz := 9) Tryz.func57 rfl rfl rfl ?_
  repeat' (first
    | (apply so_vo; (· exact voA); (· rfl))
    | refine so_nil ?_
    | refine q_go ?_
    | refine sw_region ?_
    | (refine goQ ?_; intro _ _)
    | refine go1 ?_
    | (refine goU ?_; intro nu)
    | (refine goB ?_; intro nb)
    | (refine goM ?_; intro nm)
    | (refine go2 ?_ ?_ <;> intro h <;> (try simp only [Bool.not_true, Bool.not_false, decide_eq_true_eq, decide_eq_false_iff_not, Bool.not_eq_true', Bool.not_eq_false', ne_eq, Decidable.not_not, Int.not_lt, Int.not_le, not_false_eq_true] at h))
    | fail)
  refine so_call rfl rfl rfl (in_ok _ k 0 _) ?_
  rintro _ _ ⟨rfl, rfl⟩
  repeat' (first
    | (apply so_vo; (· exact voA); (· rfl))
    | refine so_nil ?_
    | refine q_go ?_
    | refine sw_region ?_
    | (refine goQ ?_; intro _ _)
    | refine go1 ?_
    | (refine goU ?_; intro nu)
    | (refine goB ?_; intro nb)
    | (refine goM ?_; intro nm)
    | (refine go2 ?_ ?_ <;> intro h <;> (try simp only [Bool.not_true, Bool.not_false, decide_eq_true_eq, decide_eq_false_iff_not, Bool.not_eq_true', Bool.not_eq_false', ne_eq, Decidable.not_not, Int.not_lt, Int.not_le, not_false_eq_true] at h))
    | fail)
  apply rq1 rfl rfl
  · exact ⟨rfl, rfl⟩
  · (first | infer_instance | exact ⟨fun _ H => H⟩)
theorem Shows2_ok (L : List SP) (u : SlV) (l : List Int) [r : RdSl L u.v Int encInt l] : FnC Tryz.prog 59 [u.v] L (fun v M => v = .bool (decide (0 < l.length) && risingB l) ∧ M = L) := by
  refine FnC.pure r.len fun hlen => ?_
  refine fn_start (sz := 10) Tryz.func59 rfl rfl rfl ?_
  by_cases h0 : 0 < l.length
  · repeat' (first
      | (apply so_vo; (· exact voA); (· rfl))
      | refine so_nil ?_
      | refine q_go ?_
      | refine sw_region ?_
      | (refine goQ ?_; intro _ _)
      | refine go1 ?_
      | (refine goU ?_; intro nu)
      | (refine goB ?_; intro nb)
      | (refine goM ?_; intro nm)
      | (refine go2 ?_ ?_ <;> intro h <;> (try simp only [Bool.not_true, Bool.not_false, decide_eq_true_eq, decide_eq_false_iff_not, Bool.not_eq_true', Bool.not_eq_false', ne_eq, Decidable.not_not, Int.not_lt, Int.not_le, not_false_eq_true] at h))
      | fail)
    refine so_call rfl rfl rfl (rising_ok _ u l) ?_
    rintro _ _ ⟨rfl, rfl⟩
    repeat' (first
      | (apply so_vo; (· exact voA); (· rfl))
      | refine so_nil ?_
      | refine q_go ?_
      | refine sw_region ?_
      | (refine goQ ?_; intro _ _)
      | refine go1 ?_
      | (refine goU ?_; intro nu)
      | (refine goB ?_; intro nb)
      | (refine goM ?_; intro nm)
      | (refine go2 ?_ ?_ <;> intro h <;> (try simp only [Bool.not_true, Bool.not_false, decide_eq_true_eq, decide_eq_false_iff_not, Bool.not_eq_true', Bool.not_eq_false', ne_eq, Decidable.not_not, Int.not_lt, Int.not_le, not_false_eq_true] at h))
      | fail)
    apply rq1 rfl rfl
    · exact ⟨by rw [decide_eq_true h0]; rfl, rfl⟩
    · (first | infer_instance | exact ⟨fun _ H => H⟩)
  · repeat' (first
      | (apply so_vo; (· exact voA); (· rfl))
      | refine so_nil ?_
      | refine q_go ?_
      | refine sw_region ?_
      | (refine goQ ?_; intro _ _)
      | refine go1 ?_
      | (refine goU ?_; intro nu)
      | (refine goB ?_; intro nb)
      | (refine goM ?_; intro nm)
      | (refine go2 ?_ ?_ <;> intro h <;> (try simp only [Bool.not_true, Bool.not_false, decide_eq_true_eq, decide_eq_false_iff_not, Bool.not_eq_true', Bool.not_eq_false', ne_eq, Decidable.not_not, Int.not_lt, Int.not_le, not_false_eq_true] at h))
      | fail)
    apply rq1 rfl rfl
    · exact ⟨by rw [decide_eq_false h0]; rfl, rfl⟩
    · (first | infer_instance | exact ⟨fun _ H => H⟩)
theorem Shows_ok (L : List SP) (u ug : SlV) (us usg : List SlV) (d gs : List (List Int)) [r : RdSl L u.v SlV encSl us] [rm : RdM L us Int encInt d] [rg : RdSl L ug.v SlV encSl usg] [rmg : RdM L usg Int encInt gs] (hn : gs.flatten.length ≤ 1000000) (hgn : gs.length ≤ 1000000) : FnC Tryz.prog 14 [u.v, ug.v] L (fun v M => v = .tuple #[.int .i64 (showsN d gs), .int .i64 (showsE d gs)] ∧ M = L) := by
  refine FnC.pure rm.len fun hlm => FnC.pure rmg.len fun hlg => ?_
  have fin : ∀ e : Int, e ≠ 0 → showsE d gs = e → showsN d gs = 0 := fun e h1 h2 => by unfold showsN; rw [if_neg (by omega)]
  refine fn_start (sz := 95) Tryz.func14 rfl rfl rfl ?_
  repeat' (first
    | (apply so_vo; (· exact voA); (· rfl))
    | refine so_nil ?_
    | refine q_go ?_
    | refine sw_region ?_
    | (refine goQ ?_; intro _ _)
    | refine go1 ?_
    | (refine goU ?_; intro nu)
    | (refine goB ?_; intro nb)
    | (refine goM ?_; intro nm)
    | (refine go2 ?_ ?_ <;> intro h <;> (try simp only [Bool.not_true, Bool.not_false, decide_eq_true_eq, decide_eq_false_iff_not, Bool.not_eq_true', Bool.not_eq_false', ne_eq, Decidable.not_not, Int.not_lt, Int.not_le, not_false_eq_true] at h))
    | fail)
  refine so_call rfl rfl rfl (CheckDebts_ok _ u us d) ?_
  rintro _ _ ⟨rfl, rfl⟩
  by_cases h0 : checkD d = 0
  rotate_left
  · have e : showsE d gs = checkD d := by unfold showsE; rw [if_pos h0]
    have e2 := fin _ h0 e
    repeat' (first
      | (apply so_vo; (· exact voA); (· rfl))
      | refine so_nil ?_
      | refine q_go ?_
      | refine sw_region ?_
      | (refine goQ ?_; intro _ _)
      | refine go1 ?_
      | (refine goU ?_; intro nu)
      | (refine goB ?_; intro nb)
      | (refine goM ?_; intro nm)
      | (refine go2 ?_ ?_ <;> intro h <;> (try simp only [Bool.not_true, Bool.not_false, decide_eq_true_eq, decide_eq_false_iff_not, Bool.not_eq_true', Bool.not_eq_false', ne_eq, Decidable.not_not, Int.not_lt, Int.not_le, not_false_eq_true] at h))
      | fail)
    apply rq2 rfl rfl rfl
    · exact ⟨by rw [e, e2], rfl⟩
    · (first | infer_instance | exact ⟨fun _ H => H⟩)
  obtain ⟨hd, hd1, hz⟩ := checkD_ok h0
  have hd7 := hd.len
  repeat' (first
    | (apply so_vo; (· exact voA); (· rfl))
    | refine so_nil ?_
    | refine q_go ?_
    | refine sw_region ?_
    | (refine goQ ?_; intro _ _)
    | refine go1 ?_
    | (refine goU ?_; intro nu)
    | (refine goB ?_; intro nb)
    | (refine goM ?_; intro nm)
    | (refine go2 ?_ ?_ <;> intro h <;> (try simp only [Bool.not_true, Bool.not_false, decide_eq_true_eq, decide_eq_false_iff_not, Bool.not_eq_true', Bool.not_eq_false', ne_eq, Decidable.not_not, Int.not_lt, Int.not_le, not_false_eq_true] at h))
    | fail)
  refine so_call rfl rfl rfl (Concat_ok _ ug usg gs hn) ?_
  rintro _ _ ⟨ua, rfl, rfl⟩
  repeat' (first
    | (apply so_vo; (· exact voA); (· rfl))
    | refine so_nil ?_
    | refine q_go ?_
    | refine sw_region ?_
    | (refine goQ ?_; intro _ _)
    | refine go1 ?_
    | (refine goU ?_; intro nu)
    | (refine goB ?_; intro nb)
    | (refine goM ?_; intro nm)
    | (refine go2 ?_ ?_ <;> intro h <;> (try simp only [Bool.not_true, Bool.not_false, decide_eq_true_eq, decide_eq_false_iff_not, Bool.not_eq_true', Bool.not_eq_false', ne_eq, Decidable.not_not, Int.not_lt, Int.not_le, not_false_eq_true] at h))
    | fail)
  refine so_call rfl rfl rfl (every_int _ ua _ gs.flatten (fun i => inN us.length (gs.flatten.getD i 0)) ⟨_, _, _, rfl, inferInstance, fun L' s i y hy => ?_⟩) ?_
  · haveI := Cl.up (L := L') (b := nb) (inferInstance : Cl (ownSl 3 encInt ua.v gs.flatten :: cl nb _ [u.v] :: L) nb _ _) s
    haveI := RdSl.up r ((Suf.mk' [_, _] L).trans s)
    simp only [getD_of hy]
    exact Shows1_ok L' u nb y us
  rintro _ _ ⟨rfl, rfl⟩
  rw [all_range gs.flatten _ (inN us.length) (fun i x h => by rw [getD_of h]), hlm]
  by_cases h1 : gs.flatten.all (inN d.length) = false
  · have e : showsE d gs = 1 := by unfold showsE; rw [if_neg (by omega), if_pos h1]
    have e2 := fin _ (by decide) e
    repeat' (first
      | (apply so_vo; (· exact voA); (· rfl))
      | refine so_nil ?_
      | refine q_go ?_
      | refine sw_region ?_
      | (refine goQ ?_; intro _ _)
      | refine go1 ?_
      | (refine goU ?_; intro nu)
      | (refine goB ?_; intro nb)
      | (refine goM ?_; intro nm)
      | (refine go2 ?_ ?_ <;> intro h <;> (try simp only [Bool.not_true, Bool.not_false, decide_eq_true_eq, decide_eq_false_iff_not, Bool.not_eq_true', Bool.not_eq_false', ne_eq, Decidable.not_not, Int.not_lt, Int.not_le, not_false_eq_true] at h))
      | fail)
    apply rq2 rfl rfl rfl
    · exact ⟨by rw [e, e2], rfl⟩
    · (first | infer_instance | exact ⟨fun _ H => H⟩)
  have h1' := (Bool.not_eq_false _).mp h1
  repeat' (first
    | (apply so_vo; (· exact voA); (· rfl))
    | refine so_nil ?_
    | refine q_go ?_
    | refine sw_region ?_
    | (refine goQ ?_; intro _ _)
    | refine go1 ?_
    | (refine goU ?_; intro nu)
    | (refine goB ?_; intro nb)
    | (refine goM ?_; intro nm)
    | (refine go2 ?_ ?_ <;> intro h <;> (try simp only [Bool.not_true, Bool.not_false, decide_eq_true_eq, decide_eq_false_iff_not, Bool.not_eq_true', Bool.not_eq_false', ne_eq, Decidable.not_not, Int.not_lt, Int.not_le, not_false_eq_true] at h))
    | fail)
  refine so_call rfl rfl rfl (every_ints _ ug _ usg (fun i => decide (0 < (atx gs i).length) && risingB (atx gs i)) ⟨_, _, _, rfl, inferInstance, fun L' s i y hy => ?_⟩) ?_
  · haveI := RdM.up rmg ((Suf.mk' [_, _] L).trans s)
    rw [← at_eq hy]
    exact Shows2_ok L' (at' usg i) (atx gs i)
  rintro _ _ ⟨rfl, rfl⟩
  rw [hlg, all_range gs _ (fun l => decide (0 < l.length) && risingB l) (fun i x h => by rw [atx_eq h])]
  by_cases h2 : (gs.all fun l => decide (0 < l.length) && risingB l) = false
  · have e : showsE d gs = 4 := by unfold showsE; rw [if_neg (by omega), if_neg h1, if_pos h2]
    have e2 := fin _ (by decide) e
    repeat' (first
      | (apply so_vo; (· exact voA); (· rfl))
      | refine so_nil ?_
      | refine q_go ?_
      | refine sw_region ?_
      | (refine goQ ?_; intro _ _)
      | refine go1 ?_
      | (refine goU ?_; intro nu)
      | (refine goB ?_; intro nb)
      | (refine goM ?_; intro nm)
      | (refine go2 ?_ ?_ <;> intro h <;> (try simp only [Bool.not_true, Bool.not_false, decide_eq_true_eq, decide_eq_false_iff_not, Bool.not_eq_true', Bool.not_eq_false', ne_eq, Decidable.not_not, Int.not_lt, Int.not_le, not_false_eq_true] at h))
      | fail)
    apply rq2 rfl rfl rfl
    · exact ⟨by rw [e, e2], rfl⟩
    · (first | infer_instance | exact ⟨fun _ H => H⟩)
  have h2' := (Bool.not_eq_false _).mp h2
  repeat' (first
    | (apply so_vo; (· exact voA); (· rfl))
    | refine so_nil ?_
    | refine q_go ?_
    | refine sw_region ?_
    | (refine goQ ?_; intro _ _)
    | refine go1 ?_
    | (refine goU ?_; intro nu)
    | (refine goB ?_; intro nb)
    | (refine goM ?_; intro nm)
    | (refine go2 ?_ ?_ <;> intro h <;> (try simp only [Bool.not_true, Bool.not_false, decide_eq_true_eq, decide_eq_false_iff_not, Bool.not_eq_true', Bool.not_eq_false', ne_eq, Decidable.not_not, Int.not_lt, Int.not_le, not_false_eq_true] at h))
    | fail)
  refine so_call rfl rfl rfl (net_ok _ u us d hd) ?_
  rintro _ _ ⟨un, rfl, rfl⟩
  have hnl := netM_len d hd
  have hfb : ∀ k : Int, -7000000 ≤ gv (netM d) k ∧ gv (netM d) k ≤ 7000000 := fun k => netF_bd hd k.toNat
  have hin : ∀ l ∈ gs, ∀ k ∈ l, 0 ≤ k ∧ k < d.length := fun l hl k hk => by
    have := List.all_eq_true.1 h1' k (List.mem_flatten.2 ⟨l, hl, hk⟩)
    simp only [inN, decide_eq_true_eq] at this; omega
  repeat' (first
    | (apply so_vo; (· exact voA); (· rfl))
    | refine so_nil ?_
    | refine q_go ?_
    | refine sw_region ?_
    | (refine goQ ?_; intro _ _)
    | refine go1 ?_
    | (refine goU ?_; intro nu)
    | (refine goB ?_; intro nb)
    | (refine goM ?_; intro nm)
    | (refine go2 ?_ ?_ <;> intro h <;> (try simp only [Bool.not_true, Bool.not_false, decide_eq_true_eq, decide_eq_false_iff_not, Bool.not_eq_true', Bool.not_eq_false', ne_eq, Decidable.not_not, Int.not_lt, Int.not_le, not_false_eq_true] at h))
    | fail)
  refine sw_range (τ := Unit) (fun k _ => [(1, ug.v), (7, ua.v), (8, un.v), (38, ug.v)]) (fun _ _ => ownSl 3 encInt un.v (netM d) :: ownSl 3 encInt ua.v gs.flatten :: cl nb 24 [u.v] :: L) (fun k _ => (gs.take k).any (badG d) = false) () rfl (by rfl) (by rfl) (by omega) (by (exact fsA)) (fun _ h => h) (fun _ _ => by rfl) (by rfl) (fun ka ta hlta hIa _ _ => ?_) (fun ta hIa => ?_)
  · have hx := atx_get (xss := gs) (i := ka) (by omega)
    have hxm := List.mem_of_getElem? hx
    have hxl : (atx gs ka).length ≤ 1000000 := by
      have h3 := flatten_take hx
      have h4 := flatten_take_le gs (ka + 1)
      rw [h3, List.length_append] at h4; omega
    have hbad : badG d (atx gs ka) = true → showsE d gs = 8 := fun hb => by unfold showsE; rw [if_neg (by omega), if_neg h1, if_neg h2, if_pos (any_take hx hb)]
    repeat' (first
      | (apply so_vo; (· exact voA); (· rfl))
      | refine so_nil ?_
      | refine q_go ?_
      | refine sw_region ?_
      | (refine goQ ?_; intro _ _)
      | refine go1 ?_
      | (refine goU ?_; intro nu)
      | (refine goB ?_; intro nb)
      | (refine goM ?_; intro nm)
      | (refine go2 ?_ ?_ <;> intro h <;> (try simp only [Bool.not_true, Bool.not_false, decide_eq_true_eq, decide_eq_false_iff_not, Bool.not_eq_true', Bool.not_eq_false', ne_eq, Decidable.not_not, Int.not_lt, Int.not_le, not_false_eq_true] at h))
      | fail)
    refine sw_range (τ := Unit) (fun k _ => [(1, ug.v), (7, ua.v), (8, un.v), (10, (at' usg ka).v), (11, .int .i64 (lsum (gv (netM d)) ((atx gs ka).take k))), (38, ug.v), (39, .int .i64 usg.length), (40, .int .i64 ka), (44, (at' usg ka).v)]) (fun _ _ => ownSl 3 encInt un.v (netM d) :: ownSl 3 encInt ua.v gs.flatten :: cl nb 24 [u.v] :: L) (fun k _ => ((atx gs ka).take k).any (fun k => decide (gv (netM d) k = 0)) = false) () rfl (by rfl) (by rfl) (by omega) (by (exact fsA)) (fun _ h => h) (fun _ _ => by rfl) (by rfl) (fun kb tb hltb hIb _ _ => ?_) (fun tb hIb => ?_)
    · obtain ⟨x, hxb⟩ := get_some hltb
      have hxr := hin _ hxm x (List.mem_of_getElem? hxb)
      have hg : (netM d)[x.toNat]? = some (gv (netM d) x) := getD_get (by omega)
      have hb1 := lsum_bd hfb ((atx gs ka).take kb)
      have hb2 : ((atx gs ka).take kb).length ≤ 1000000 := by simp; omega
      have hb3 := hfb x
      have hs : lsum (gv (netM d)) ((atx gs ka).take (kb + 1)) = lsum (gv (netM d)) ((atx gs ka).take kb) + gv (netM d) x := by rw [take_snoc hxb, lsum_app]; simp [lsum]
      repeat' (first
        | (apply so_vo; (· exact voA); (· rfl))
        | refine so_nil ?_
        | refine q_go ?_
        | refine sw_region ?_
        | (refine goQ ?_; intro _ _)
        | refine go1 ?_
        | (refine goU ?_; intro nu)
        | (refine goB ?_; intro nb)
        | (refine goM ?_; intro nm)
        | (refine go2 ?_ ?_ <;> intro h <;> (try simp only [Bool.not_true, Bool.not_false, decide_eq_true_eq, decide_eq_false_iff_not, Bool.not_eq_true', Bool.not_eq_false', ne_eq, Decidable.not_not, Int.not_lt, Int.not_le, not_false_eq_true] at h))
        | fail)
      · have e := hbad (by unfold badG; rw [any_take hxb (decide_eq_true h)]; rfl)
        have e2 := fin _ (by decide) e
        apply rq2 rfl rfl rfl
        · exact ⟨by rw [e, e2], rfl⟩
        · (first | infer_instance | exact ⟨fun _ H => H⟩)
      · rw [← hs]
        refine ⟨rfl, (), by rw [take_any hxb, hIb, decide_eq_false h]; rfl, ?_, ?_⟩
        · (exact fsA)
        · (first | exact fun _ h => h | exact HLess.sat inferInstance)
    · rw [List.take_of_length_le (Nat.le_refl _)] at *
      repeat' (first
        | (apply so_vo; (· exact voA); (· rfl))
        | refine so_nil ?_
        | refine q_go ?_
        | refine sw_region ?_
        | (refine goQ ?_; intro _ _)
        | refine go1 ?_
        | (refine goU ?_; intro nu)
        | (refine goB ?_; intro nb)
        | (refine goM ?_; intro nm)
        | (refine go2 ?_ ?_ <;> intro h <;> (try simp only [Bool.not_true, Bool.not_false, decide_eq_true_eq, decide_eq_false_iff_not, Bool.not_eq_true', Bool.not_eq_false', ne_eq, Decidable.not_not, Int.not_lt, Int.not_le, not_false_eq_true] at h))
        | fail)
      · have e := hbad (by unfold badG; rw [decide_eq_true (show lsum (gv (netM d)) (atx gs ka) ≠ 0 from h)]; simp)
        have e2 := fin _ (by decide) e
        apply rq2 rfl rfl rfl
        · exact ⟨by rw [e, e2], rfl⟩
        · (first | infer_instance | exact ⟨fun _ H => H⟩)
      · have h5 : badG d (atx gs ka) = false := by unfold badG; rw [hIb, decide_eq_false (by simpa using h)]; rfl
        refine ⟨rfl, (), by rw [take_any hx, hIa, h5]; rfl, ?_, ?_⟩
        · (exact fsA)
        · (first | exact fun _ h => h | exact HLess.sat inferInstance)
  rw [List.take_of_length_le (by omega)] at hIa
  have hbg := hIa
  clear hIa
  repeat' (first
    | (apply so_vo; (· exact voA); (· rfl))
    | refine so_nil ?_
    | refine q_go ?_
    | refine sw_region ?_
    | (refine goQ ?_; intro _ _)
    | refine go1 ?_
    | (refine goU ?_; intro nu)
    | (refine goB ?_; intro nb)
    | (refine goM ?_; intro nm)
    | (refine go2 ?_ ?_ <;> intro h <;> (try simp only [Bool.not_true, Bool.not_false, decide_eq_true_eq, decide_eq_false_iff_not, Bool.not_eq_true', Bool.not_eq_false', ne_eq, Decidable.not_not, Int.not_lt, Int.not_le, not_false_eq_true] at h))
    | fail)
  refine sw_range (τ := Unit) (fun k _ => [(1, ug.v), (7, ua.v), (14, .int .i64 (openN (netF d) k)), (65, un.v)]) (fun _ _ => ownSl 3 encInt un.v (netM d) :: ownSl 3 encInt ua.v gs.flatten :: cl nb 24 [u.v] :: L) (fun k _ => ∀ i, i < k → badK d gs i = false) () (fun i hi => by omega) (by rfl) (by rfl) (by omega) (by (exact fsA)) (fun _ h => h) (fun _ _ => by rfl) (by rfl) (fun ka ta hlta hIa _ _ => ?_) (fun ta hIa => ?_)
  · have hg : (netM d)[ka]? = some (netF d ka) := getD_get hlta
    have ho := openN_le (netF d) ka
    by_cases hf : netF d ka = 0
    · have ho2 : openN (netF d) (ka + 1) = openN (netF d) ka := by rw [openN, if_neg (fun x => x hf)]; rfl
      repeat' (first
        | (apply so_vo; (· exact voA); (· rfl))
        | refine so_nil ?_
        | refine q_go ?_
        | refine sw_region ?_
        | (refine goQ ?_; intro _ _)
        | refine go1 ?_
        | (refine goU ?_; intro nu)
        | (refine goB ?_; intro nb)
        | (refine goM ?_; intro nm)
        | (refine go2 ?_ ?_ <;> intro h <;> (try simp only [Bool.not_true, Bool.not_false, decide_eq_true_eq, decide_eq_false_iff_not, Bool.not_eq_true', Bool.not_eq_false', ne_eq, Decidable.not_not, Int.not_lt, Int.not_le, not_false_eq_true] at h))
        | fail)
      rw [← ho2]
      refine ⟨rfl, (), upto_succ hIa (by unfold badK; rw [decide_eq_false (fun x => x hf)]; rfl), ?_, ?_⟩
      · (exact fsA)
      · (first | exact fun _ h => h | exact HLess.sat inferInstance)
    · have ho2 : openN (netF d) (ka + 1) = openN (netF d) ka + 1 := by rw [openN, if_pos hf]
      repeat' (first
        | (apply so_vo; (· exact voA); (· rfl))
        | refine so_nil ?_
        | refine q_go ?_
        | refine sw_region ?_
        | (refine goQ ?_; intro _ _)
        | refine go1 ?_
        | (refine goU ?_; intro nu)
        | (refine goB ?_; intro nb)
        | (refine goM ?_; intro nm)
        | (refine go2 ?_ ?_ <;> intro h <;> (try simp only [Bool.not_true, Bool.not_false, decide_eq_true_eq, decide_eq_false_iff_not, Bool.not_eq_true', Bool.not_eq_false', ne_eq, Decidable.not_not, Int.not_lt, Int.not_le, not_false_eq_true] at h))
        | fail)
      refine sw_range (τ := Unit) (fun k _ => [(1, ug.v), (7, ua.v), (14, .int .i64 (openN (netF d) ka)), (15, .int .i64 ka), (17, .int .i64 ((gs.flatten.take k).count (ka : Int))), (65, un.v), (66, .int .i64 (netM d).length), (67, .int .i64 ka), (74, ua.v)]) (fun _ _ => ownSl 3 encInt un.v (netM d) :: ownSl 3 encInt ua.v gs.flatten :: cl nb 24 [u.v] :: L) (fun k _ => True) () trivial (by rfl) (by rfl) (by omega) (by (exact fsA)) (fun _ h => h) (fun _ _ => by rfl) (by rfl) (fun kb tb hltb hIb _ _ => ?_) (fun tb hIb => ?_)
      · obtain ⟨x, hxb⟩ := get_some hltb
        have hc := count_snoc hxb (ka : Int)
        have hcl : (gs.flatten.take kb).count (ka : Int) ≤ kb := by have := List.count_le_length (a := (ka : Int)) (l := gs.flatten.take kb); simp at this; omega
        repeat' (first
          | (apply so_vo; (· exact voA); (· rfl))
          | refine so_nil ?_
          | refine q_go ?_
          | refine sw_region ?_
          | (refine goQ ?_; intro _ _)
          | refine go1 ?_
          | (refine goU ?_; intro nu)
          | (refine goB ?_; intro nb)
          | (refine goM ?_; intro nm)
          | (refine go2 ?_ ?_ <;> intro h <;> (try simp only [Bool.not_true, Bool.not_false, decide_eq_true_eq, decide_eq_false_iff_not, Bool.not_eq_true', Bool.not_eq_false', ne_eq, Decidable.not_not, Int.not_lt, Int.not_le, not_false_eq_true] at h))
          | fail)
        · rw [if_pos h] at hc
          refine ⟨rfl, (), trivial, ?_, ?_⟩
          · (exact fsA)
          · (first | exact fun _ h => h | exact HLess.sat inferInstance)
        · rw [if_neg h] at hc
          refine ⟨rfl, (), trivial, ?_, ?_⟩
          · (exact fsA)
          · (first | exact fun _ h => h | exact HLess.sat inferInstance)
      · rw [List.take_of_length_le (Nat.le_refl _)]
        have hcl : gs.flatten.count (ka : Int) ≤ gs.flatten.length := List.count_le_length
        repeat' (first
          | (apply so_vo; (· exact voA); (· rfl))
          | refine so_nil ?_
          | refine q_go ?_
          | refine sw_region ?_
          | (refine goQ ?_; intro _ _)
          | refine go1 ?_
          | (refine goU ?_; intro nu)
          | (refine goB ?_; intro nb)
          | (refine goM ?_; intro nm)
          | (refine go2 ?_ ?_ <;> intro h <;> (try simp only [Bool.not_true, Bool.not_false, decide_eq_true_eq, decide_eq_false_iff_not, Bool.not_eq_true', Bool.not_eq_false', ne_eq, Decidable.not_not, Int.not_lt, Int.not_le, not_false_eq_true] at h))
          | fail)
        · have h5 : badK d gs ka = true := by unfold badK; rw [decide_eq_true hf, decide_eq_true (by omega)]; rfl
          have e : showsE d gs = 8 := by unfold showsE; rw [if_neg (by omega), if_neg h1, if_neg h2, if_neg (by rw [hbg]; decide), if_pos (any_of (by omega) h5)]
          have e2 := fin _ (by decide) e
          apply rq2 rfl rfl rfl
          · exact ⟨by rw [e, e2], rfl⟩
          · (first | infer_instance | exact ⟨fun _ H => H⟩)
        · have h5 : badK d gs ka = false := by unfold badK; rw [decide_eq_true hf, decide_eq_false (by omega)]; rfl
          refine ⟨rfl, (), upto_succ hIa h5, ?_, ?_⟩
          · (exact fsA)
          · (first | exact fun _ h => h | exact HLess.sat inferInstance)
  · have e : showsE d gs = 0 := by unfold showsE; rw [if_neg (by omega), if_neg h1, if_neg h2, if_neg (by rw [hbg]; decide), if_neg (by rw [any_not (fun i hi => hIa i (by omega))]; decide)]
    have ho := openN_le (netF d) (netM d).length
    repeat' (first
      | (apply so_vo; (· exact voA); (· rfl))
      | refine so_nil ?_
      | refine q_go ?_
      | refine sw_region ?_
      | (refine goQ ?_; intro _ _)
      | refine go1 ?_
      | (refine goU ?_; intro nu)
      | (refine goB ?_; intro nb)
      | (refine goM ?_; intro nm)
      | (refine go2 ?_ ?_ <;> intro h <;> (try simp only [Bool.not_true, Bool.not_false, decide_eq_true_eq, decide_eq_false_iff_not, Bool.not_eq_true', Bool.not_eq_false', ne_eq, Decidable.not_not, Int.not_lt, Int.not_le, not_false_eq_true] at h))
      | fail)
    apply rq2 rfl rfl rfl
    · exact ⟨by rw [e]; unfold showsN; rw [if_pos e, hnl, hlg], rfl⟩
    · (first | infer_instance | exact ⟨fun _ H => H⟩)
end Go.Proofs.YtmhfhfhdblccjaaGreat
/-
  An own logic over the kit's calculus: loops over a function; rows in a variable.
-/
namespace Go.Proofs.YtmhfhfhdblccjaaGreat
open Go Go.RowKit
set_option linter.unusedVariables false

/-- What a call of yield comes to. -/
def YC (P : Program) (yv : Value) (args : List Value) (L : List SP) (R : Value → List SP → Prop) : Prop :=
  ∃ l, yv = .func (.yield l) #[] #[] ∧ ∀ w, Sat L w → ∃ f tmps assign body, (Instr.yield l args.toArray).run P w = .ok (.round l f tmps assign body) w ∧ ∀ n, RoundIn (fen none) n P l f tmps assign body w (fun e w' => ∃ v L', e = .returned v ∧ R v L' ∧ Sat L' w' ∧ Kept w w')
/-- An iterator that yields xs, whatever memory the rounds keep. -/
def SeqC (P : Program) (gf : Nat) (lb : List Value) {α σ : Type} (enc : α → Value) (xs : List α) (N : σ → List SP) : Prop :=
  ∀ (I : Nat → σ → Prop) (yv : Value) (s0 : σ), I 0 s0 → (∀ k x s, xs[k]? = some x → I k s → YC P yv [enc x] (N s) (fun v L' => v = .bool true ∧ ∃ s', I (k + 1) s' ∧ L' = N s')) →
    FnC P gf (yv :: lb) (N s0) (fun v L' => ∃ s', I xs.length s' ∧ L' = N s')
section
variable {P : Program} {ro : Option Nat} {sz : Nat} {fr : Fr} {ds : List Deferred} {L : List SP} {Q : Post} {ops : Array Oper} {l : List Oper} {d : Nat} {ty : TypeId} {pos : String} {aft : Array Edge}
theorem so_yield {x : Operand} {aops : List Operand} {ats : Array TypeId} {yv : Value} {vs : List Value} {R : Value → List SP → Prop} (hx : Fr.ev fr x = some yv) (ha : Fr.evs fr aops = some vs) (hd : Nat.blt d sz = true)
    (hc : YC P yv vs L R) (k : ∀ v L', R v L' → SO l P none sz ops ((d, v) :: fr) ds L' Q) : SO (⟨some d, .call ⟨.value x, aops.toArray, ats⟩, ty, pos, aft, none⟩ :: l) P none sz ops fr ds L Q := by
  obtain ⟨y, rfl, hc⟩ := hc
  intro tm w n h1 h2 h3
  have hd' : d < sz := by simpa [Nat.blt_eq] using hd
  obtain ⟨f, tmps, assign, body, hy, hr⟩ := hc w h3
  have hargs : (#[] ++ (aops.toArray.map (Act.mk tm ds).eval)) = vs.toArray := by
    rw [List.map_toArray, h2.evs (ds := ds) ha]; simp
  have e' : (Oper.semAt (fen none).round (Act.mk tm ds).eval ⟨some d, .call ⟨.value x, aops.toArray, ats⟩, ty, pos, aft, none⟩).run P w = .ok (.round y f tmps assign body) w := by
    rw [Oper.semAt_eq _ _ _ (fun c h => by cases h)]
    have hr : (resolve (Act.mk tm ds).eval ⟨.value x, aops.toArray, ats⟩ ty).run P w = .ok ⟨.fn (.yield y) #[], #[] ++ aops.toArray.map (Act.mk tm ds).eval⟩ w := by
      simp only [resolve, h2.ev hx, Deferred.ofValue]; rfl
    simp only [execOp, Sem.run_bind, hr, Result.andThen_ok, invoke, hargs]
    exact hy
  unfold wpListIn
  rw [if_pos (by simp [Region.wanted])]
  refine ⟨fun _ _ => trivial, ?_⟩
  rw [e', Oper.uponIn_round]
  refine ⟨fun h => fen_depth h, ?_⟩
  refine (hr (n - 1)).mono ?_
  rintro e w' ⟨v, L', rfl, r, s, kp⟩
  have := k v L' r (tm.setIfInBounds d v) w' n (by simp [h1]) (h2.put (by omega) v) s
  exact wpListIn_mono (fun _ _ _ q => q.later kp) _ _ _ this
def twoI (l D : Nat) (r : Loop) : SP := fun h => Holds [pts l (.loop r), pts D (.deferred (some []))] h
theorem twoI_out {l D : Nat} {r : Loop} {L : List SP} {w : World} (H : Sat (twoI l D r :: L) w) : Sat (pts l (.loop r) :: pts D (.deferred (some [])) :: L) w := Holds.ungroup (M := [pts l (.loop r), pts D (.deferred (some []))]) H
theorem twoI_in {l D : Nat} {r : Loop} {L : List SP} {w : World} (H : Sat (pts l (.loop r) :: pts D (.deferred (some [])) :: L) w) : Sat (twoI l D r :: L) w := Holds.group (M := [pts l (.loop r), pts D (.deferred (some []))]) H
theorem twoI_put {l D : Nat} {r : Loop} (r' : Loop) {L : List SP} {w : World} (H : Sat (twoI l D r :: L) w) : w.heap[l]? = some (.loop r) ∧ Sat (twoI l D r' :: L) (w.putObj l (.loop r')) := by
  have h := twoI_out H
  have hb := h.pts_block
  exact ⟨hb, twoI_in (h.setBlock (World.putObj_heap_same (lt_of_heap hb)) fun k hk => World.putObj_heap_other hk)⟩
theorem kept_put (w : World) (l : Nat) (o : Obj) : Kept w (w.putObj l o) := ⟨rfl, rfl, rfl, by simp⟩
/-- The loop over a function. Each round goes on to the next one. -/
theorem sw_rangeFunc {g : Operand} {p : Nat} {assign body : Code} {gf : Nat} {lb : List Value} {α σ : Type} {enc : α → Value} {xs : List α} {K : Fr → List Deferred → List SP → Prop} (M : σ → List SP) (I : Nat → σ → Prop) (s0 : σ)
    (hg : Fr.ev fr g = some (.func (.func gf) #[] lb.toArray)) [he : Ent P gf] (hpsz : Nat.blt p sz = true) (h0 : I 0 s0) (hm : ∀ w, Sat L w → Sat (M s0) w) (hseq : ∀ R : SP, SeqC P gf lb enc xs (fun s => R :: M s))
    (round : ∀ (R R2 : SP) (lp k : Nat) (x : α) (s : σ), xs[k]? = some x → I k s → ∀ Q', QThen Q' (fun f' ds' L' => ds' = [] ∧ L' = R :: M s ∧ ∀ Q2, QThen Q2 (fun f2 ds2 L2 => ds2 = [] ∧ ∃ s', I (k + 1) s' ∧ ∀ w, Sat L2 w → Sat (R2 :: M s') w) (fun _ _ _ _ => False) → SW body P (some lp) sz f' [] (R2 :: M s) Q2) (fun _ _ _ _ => False) → SW assign P (some lp) sz ((p, enc x) :: fr) [] (R :: M s) Q')
    [hq : QE Q .normal K] (hK : ∀ D s, I xs.length s → K fr (⟨.collected D, #[]⟩ :: ds) (pts D (.deferred (some [])) :: M s)) : SW (.rangeFunc g #[p] assign body) P none sz fr ds L Q := by
  intro tm w n h1 h2 h3
  have hp' : p < sz := by simpa [Nat.blt_eq] using hpsz
  refine wpIn_rangeFunc ?_
  intro fn hfn
  obtain ⟨rec, hrec⟩ : ∃ rec : LoopState → Option Code → Loop, rec = fun st pe => { state := st, pending := pe, fn, tmps := tm, params := #[p], assign, body, defers := w.heap.size } := ⟨_, rfl⟩
  obtain ⟨W1, hW1⟩ : ∃ W1, (w.alloc (.deferred (some []))).alloc (.loop (rec .ready none)) = W1 := ⟨_, rfl⟩
  have hS1 : Sat (twoI (w.heap.size + 1) w.heap.size (rec .ready none) :: M s0) W1 := by
    have a1 : Sat (pts w.heap.size (.deferred (some [])) :: M s0) (w.alloc (.deferred (some []))) := (hm w h3).alloc rfl
    have a2 := a1.alloc (o := .loop (rec .ready none)) (w' := W1) (by rw [← hW1]; rfl)
    rw [World.size_alloc] at a2
    exact twoI_in a2
  have hk1 : Kept w W1 := by rw [← hW1]; exact (alloc_kept _ _).trans (alloc_kept _ _)
  have hyield : ∀ k x s, xs[k]? = some x → I k s → YC P (.func (.yield (w.heap.size + 1)) #[] #[]) [enc x] (twoI (w.heap.size + 1) w.heap.size (rec .ready none) :: M s) (fun v L' => v = .bool true ∧ ∃ s', I (k + 1) s' ∧ L' = twoI (w.heap.size + 1) w.heap.size (rec .ready none) :: M s') := by
    intro k x s hx hI
    refine ⟨_, rfl, fun w' H => ?_⟩
    have hb := (twoI_out H).pts_block
    have hy := run_yield (P := P) (args := #[enc x]) hb (by rw [hrec]; rfl)
    have htm : (((rec .ready none).params.zip #[enc x]).foldl (fun tmps (t, a) => tmps.setIfInBounds t a) (rec .ready none).tmps) = tm.setIfInBounds p (enc x) := by rw [hrec]; simp
    rw [htm] at hy
    refine ⟨fn, tm.setIfInBounds p (enc x), assign, body, ?_, fun n' => roundIn_of_wpIn hfn ?_⟩
    · have e1 : (rec .ready none).fn = fn ∧ (rec .ready none).assign = assign ∧ (rec .ready none).body = body := by rw [hrec]; exact ⟨rfl, rfl, rfl⟩
      rw [e1.1, e1.2.1, e1.2.2] at hy
      exact hy
    have hr := round (twoI (w.heap.size + 1) w.heap.size (rec .ready none)) (twoI (w.heap.size + 1) w.heap.size (rec .busy none)) (w.heap.size + 1) k x s hx hI (thenQ _ (fun _ _ _ _ => False)) ⟨fun _ _ _ h => h, fun e _ _ _ hne h => by cases e <;> exact h.elim⟩
    have h := hr (tm.setIfInBounds p (enc x)) w' n' (by simp [h1]) (h2.put (by omega) _) H
    refine wpIn_mono h ?_
    rintro e a₁ w₁ ⟨f', L', q, g1, g2, g3, g4⟩
    cases e with
    | normal =>
      obtain ⟨e1, e2, hbody⟩ := q
      subst e2
      have hl1 := (twoI_out g3).pts_block
      have hput := twoI_put (rec .busy none) g3
      refine ⟨_, run_beginRound hl1 (by rw [hrec]), ?_⟩
      have ebusy : ({ rec .ready none with state := .busy } : Loop) = rec .busy none := by rw [hrec]
      rw [ebusy]
      have hb2 := hbody (thenQ _ (fun _ _ _ _ => False)) ⟨fun _ _ _ h => h, fun e _ _ _ hne h => by cases e <;> exact h.elim⟩ a₁.tmps (w₁.putObj (w.heap.size + 1) (.loop (rec .busy none))) n' g1 g2 hput.2
      have ea : a₁ = ⟨a₁.tmps, []⟩ := by cases a₁; simp at e1; subst e1; rfl
      rw [ea]
      refine wpIn_mono hb2 ?_
      rintro e a₂ w₂ ⟨f2, L2, q2, k1, k2, k3, k4⟩
      cases e with
      | normal =>
        obtain ⟨_, s', i1, i2⟩ := q2
        have hs2 := i2 w₂ k3
        have hput2 := twoI_put (rec .ready none) hs2
        have hend := run_endRound (P := P) none hput2.1
        have eready : ({ rec .busy none with state := if (none : Option Code).isNone then .ready else .done, pending := none } : Loop) = rec .ready none := by rw [hrec]; rfl
        rw [eready] at hend
        refine ⟨_, _, hend, _, _, rfl, ⟨rfl, s', i1, rfl⟩, hput2.2, g4.trans ((kept_put _ _ _).trans (k4.trans (kept_put _ _ _)))⟩
      | exit id => exact q2.elim
      | goto t => exact q2.elim
      | ret => exact q2.elim
      | panic ch => exact q2.elim
      | outgrown => exact q2.elim
    | exit id => exact q.elim
    | goto t => exact q.elim
    | ret => exact q.elim
    | panic ch => exact q.elim
    | outgrown => exact q.elim
  have hcall := hseq (twoI (w.heap.size + 1) w.heap.size (rec .ready none)) I (.func (.yield (w.heap.size + 1)) #[] #[]) s0 h0 hyield W1 hS1
  refine ⟨w.heap.size + 1, [{ target := .collected w.heap.size, args := #[] }], W1, { target := .fn (.func gf) lb.toArray, args := #[.func (.yield (w.heap.size + 1)) #[] #[]] }, W1, gf,
    #[.func (.yield (w.heap.size + 1)) #[] #[]] ++ lb.toArray, W1, ?_, ?_, fun f' hf' => trivial, ?_, fun h => fen_depth h, ?_⟩
  · rw [← hW1, hrec]; exact run_enterLoop_outer _ _ _ _ _
  · simp only [resolve, h2.ev hg]
    simp [go_sem]
  · simp [invoke, go_sem, he.out]
  · have hc := (callsIn_wide (n := n - 1)).2 hcall
    have hargs : (#[.func (.yield (w.heap.size + 1)) #[] #[]] ++ lb.toArray : Array Value) = ((.func (.yield (w.heap.size + 1)) #[] #[]) :: lb).toArray := by simp
    rw [hargs]
    have h' : CallsIn (fen none) (n - 1) P gf ((.func (.yield (w.heap.size + 1)) #[] #[]) :: lb).toArray W1 _ := hc
    refine h'.mono ?_
    rintro e w₂ ⟨v, L', rfl, ⟨s', i1, rfl⟩, k1, k2⟩
    have hput := twoI_put (rec .exhausted none) k1
    have hend := run_endLoop (P := P) hput.1 (by rw [hrec]; simp)
    have eex : ({ rec .ready none with state := .exhausted } : Loop) = rec .exhausted none := by rw [hrec]
    rw [eex] at hend
    refine ⟨none, _, by rw [hend, hrec], fr, pts w.heap.size (.deferred (some [])) :: M s', hq.out _ _ _ (hK w.heap.size s' i1), h1, h2, (twoI_out hput.2).tail, hk1.trans (k2.trans (kept_put _ _ _))⟩
end
end Go.Proofs.YtmhfhfhdblccjaaGreat
/-
  An own logic over the kit's calculus: arrays in variables, method values, structs that are compared, ends behind loops over functions.
-/
namespace Go.Proofs.YtmhfhfhdblccjaaGreat
open Go Go.RowKit
set_option linter.unusedVariables false
/-- Structs of two numbers that are compared. -/
class Eq2 (P : Program) (T : TypeId) : Prop where
  guard : P.eqGuardType P.depth T = false
  eq : ∀ (a b c e : Int) (w : World), (Op.equalIn 10000 T (.agg #[.int .i64 a, .int .i64 b]) (.agg #[.int .i64 c, .int .i64 e])).run P w = .ok (decide (a = c ∧ b = e)) w
section
variable {P : Program} {ro : Option Nat} {sz : Nat} {fr : Fr} {ds : List Deferred} {L : List SP} {Q : Post} {ops : Array Oper} {l : List Oper} {d : Nat} {ty : TypeId} {pos : String} {aft : Array Edge}
theorem vo_makeFunc1 {g : Nat} {firsts caps : List Operand} {us vs : List Value} (hf : Fr.evs fr firsts = some us) (hc : Fr.evs fr caps = some vs) : VO P ds ⟨some d, .makeFunc (.func g) firsts.toArray caps.toArray, ty, pos, aft, none⟩ fr L (.func (.func g) us.toArray vs.toArray) :=
  ⟨(fun c h => by cases h), fun tm w h2 h3 => by simp [execOp, Instr.makeFunc, h2.evs (ds := ds) hc, h2.evs (ds := ds) hf]⟩
theorem vo_indexAddr_arr {x y : Operand} {T E n b o : Nat} {m : Int} {agg : Bool} {z : Value} {bytes : Nat} (hx : Fr.ev fr x = some (.pointer (some ⟨b, o, none⟩))) (hy : Fr.ev fr y = some (.int .i64 m)) [hT : TyU P T (.array n E)] [hE : TyI P E agg z 1 bytes] (hm : 0 ≤ m ∧ m < n) : VO P ds ⟨some d, .indexAddr T x y, ty, pos, aft, none⟩ fr L (.pointer (some ⟨b, o + m.toNat, none⟩)) :=
  ⟨(fun c h => by cases h), fun tm w h2 h3 => by
    simp [execOp, h2.ev hx, h2.ev hy, Instr.indexAt, asIntOf, run_underlying hT.out, Instr.sureAddr, hm.1, hm.2, hE.sizeOf, addr_add]⟩
theorem vo_load_is {x : Operand} {T b o : Nat} {z u : Value} {size bytes E : Nat} {cs : List Value} (hx : Fr.ev fr x = some (.pointer (some ⟨b, o, none⟩))) [ht : TyI P T false z size bytes] [hc : Cl L b E cs] (hu : cs[o]? = some u) : VO P ds ⟨some d, .load T x, ty, pos, aft, none⟩ fr L (u) := vo_load hx hu
theorem so_store_at {x y : Operand} {T b o : Nat} {z u : Value} {bytes E : Nat} {agg : Bool} {cs : List Value} (cs' : List Value) {L' : List SP} (hx : Fr.ev fr x = some (.pointer (some ⟨b, o, none⟩))) (hy : Fr.ev fr y = some u) (hu : u.oneCell' = true) [ht : TyI P T agg z 1 bytes] [hc : Cl L b E cs] (ho : o < cs.length) (e : cs.set o u = cs') [hl : ClSet L b cs' L']
    (k : SO l P ro sz ops fr ds L' Q) : SO (⟨none, .store T x y, ty, pos, aft, none⟩ :: l) P ro sz ops fr ds L Q :=
  so_gen0 (fun c h => by cases h) (fun M => M = L') (fun tm w h1 h2 h3 => by
    have hb := hc.block h3
    refine ⟨w.setCell ⟨b, o, none⟩ u, L', ?_, rfl, hl.run h3 (fun T' cs1 e1 => ?_) (fun k hk => Below.heap_setCell _ _ _ _ hk), set_kept _ _ _⟩
    · have := run_storeVar1 (P := P) (ht.sizeOf w) hb (by simpa using ho) hu
      simp [execOp, h2.ev hx, h2.ev hy, Instr.storeAt, Instr.sureAddr, this]
    · rw [setCell_heap w b o u _ _ _ e1]
      rw [hb] at e1; injection e1 with e1; injection e1 with e1 e2; subst e1; subst e2
      simp [← e]) (fun _ e => by subst e; exact k)
theorem vo_eql_2 {x y : Operand} {T T' : TypeId} {a b c e : Int} (hx : Fr.ev fr x = some (.agg (List.toArray [.int .i64 a, .int .i64 b]))) (hy : Fr.ev fr y = some (.agg (List.toArray [.int .i64 c, .int .i64 e]))) [h : Eq2 P T] : VO P ds ⟨some d, .binOp .eql T x y T', ty, pos, aft, none⟩ fr L (.bool (decide (a = c ∧ b = e))) :=
  ⟨(fun c h => by cases h), fun tm w h2 h3 => by
    simp only [execOp, h2.ev hx, h2.ev hy, Sem.run_bind, run_eqGuard_agg w .eql T x y _ _ h.guard, Result.andThen_ok, run_eql_struct]
    rw [h.eq]; rfl⟩
theorem rqm0 {fn : Func} {R : Value → List SP → Prop} {L1 L2 : List SP} {D : Nat} [hp : Put L (pts D (.deferred (some []))) (pts D (.deferred none)) L1] (hr : fn.results = #[]) (h : R (.tuple #[]) L2) (hl : Less L1 L2) : retQ P fn R fr [⟨.collected D, #[]⟩] L := ⟨_, L1, L2, .cons D #[] [] L L1 L1 hp (.nil L1), ret0 hr, hl.out, h⟩
theorem rqm1 {fn : Func} {R : Value → List SP → Prop} {L1 L2 : List SP} {D t : Nat} {v : Value} [hp : Put L (pts D (.deferred (some []))) (pts D (.deferred none)) L1] (hr : fn.results = #[.tmp t]) (hv : Fr.get fr t = some v) (h : R v L2) (hl : Less L1 L2) : retQ P fn R fr [⟨.collected D, #[]⟩] L := ⟨v, L1, L2, .cons D #[] [] L L1 L1 hp (.nil L1), ret1 hr hv, hl.out, h⟩
theorem rqm2 {fn : Func} {R : Value → List SP → Prop} {L1 L2 : List SP} {D t u : Nat} {v x : Value} [hp : Put L (pts D (.deferred (some []))) (pts D (.deferred none)) L1] (hr : fn.results = #[.tmp t, .tmp u]) (hv : Fr.get fr t = some v) (hx : Fr.get fr u = some x) (h : R (.tuple #[v, x]) L2) (hl : Less L1 L2) : retQ P fn R fr [⟨.collected D, #[]⟩] L := ⟨_, L1, L2, .cons D #[] [] L L1 L1 hp (.nil L1), ret2 hr hv hx, hl.out, h⟩
end
instance : Eq2 Tryz.prog 105 where
  guard := Tryz.eqGuardType105
  eq a b c e w := by
    have hf := Tryz.underlying105
    have ht : Tryz.prog.underlying 105 = some (.struct (Tryz.prog.fieldsOf 105)) := by unfold Program.fieldsOf; rw [hf]
    rw [run_equalIn_struct w 9999 105 _ _ ht Tryz.stoodInHeld105]
    unfold Program.fieldsOf
    rw [hf]
    have hi : Tryz.prog.underlying 3 = some (.int .i64) := Tryz.underlying3
    have hp : ∀ (cs : Array Value) (i : Nat) (v : Value) (w : World), cs[i]? = some v → (part 3 cs i).run Tryz.prog w = .ok v w := fun cs i v w h => by simp [part, Tryz.isAgg3, h]
    simp only [Op.eqFields, Sem.run_bind, Sem.run_ite]
    rw [hp #[.int .i64 a, .int .i64 b] 0 (.int .i64 a) w rfl]
    simp only [Result.andThen_ok]
    rw [hp #[.int .i64 c, .int .i64 e] 0 (.int .i64 c) w rfl]
    simp only [Result.andThen_ok]
    rw [run_equalIn_int w 9998 3 .i64 .i64 a c hi]
    by_cases h1 : a = c
    · subst h1
      simp only [Result.andThen_ok]
      rw [hp #[.int .i64 a, .int .i64 b] 1 (.int .i64 b) w rfl]
      simp only [Result.andThen_ok]
      rw [hp #[.int .i64 a, .int .i64 e] 1 (.int .i64 e) w rfl]
      simp only [Result.andThen_ok]
      rw [run_equalIn_int w 9998 3 .i64 .i64 b e hi]
      by_cases h2 : b = e <;> simp [h2]
    · simp [h1]
end Go.Proofs.YtmhfhfhdblccjaaGreat
/-
  Ledgers in plain terms.
-/
namespace Go.Proofs.YtmhfhfhdblccjaaGreat
set_option linter.unusedVariables false
abbrev P3 := Int × Int × Int
structure Led where
  folk : Int
  years : Int
  bad : List Int
  forg : List Int
  loans : List P3
  pays : List P3
  proms : List P3
/-- A ledger that is right. -/
structure OkL (l : Led) : Prop where
  folk : 1 ≤ l.folk ∧ l.folk ≤ 7
  years : 1 ≤ l.years ∧ l.years ≤ 9
  nl : l.loans.length ≤ 10
  np : l.pays.length ≤ 12
  nq : l.proms.length ≤ 12
  loan : ∀ x ∈ l.loans, (1 ≤ x.1 ∧ x.1 ≤ l.folk - 1) ∧ (0 ≤ x.2.1 ∧ x.2.1 ≤ l.years - 1) ∧ 1 ≤ x.2.2 ∧ x.2.2 ≤ 500
  pay : ∀ x ∈ l.pays, (1 ≤ x.1 ∧ x.1 ≤ l.folk - 1) ∧ (0 ≤ x.2.1 ∧ x.2.1 ≤ l.years - 1) ∧ 1 ≤ x.2.2 ∧ x.2.2 ≤ 500
  prom : ∀ x ∈ l.proms, (0 ≤ x.1 ∧ x.1 ≤ l.folk - 1) ∧ (0 ≤ x.2.1 ∧ x.2.1 ≤ l.folk - 1) ∧ x.1 ≠ x.2.1 ∧ 1 ≤ x.2.2 ∧ x.2.2 ≤ 500
  bad : risingB l.bad = true ∧ ∀ x ∈ l.bad, 0 ≤ x ∧ x ≤ l.years - 1
  forg : risingB l.forg = true ∧ ∀ x ∈ l.forg, 0 ≤ x ∧ x ≤ (l.loans.length : Int) - 1
  sorted : ∀ i, i + 1 < l.pays.length → (l.pays.getD i (0, 0, 0)).2.1 ≤ (l.pays.getD (i + 1) (0, 0, 0)).2.1
def ln (l : Led) (i : Nat) : P3 := l.loans.getD i (0, 0, 0)
def askedM (l : Led) (i : Nat) : Int := if (i : Int) ∈ l.forg then 0 else (ln l i).2.2 + ((ln l i).2.2 + 9) / 10
/-- the first year from y on that is not bad -/
def goodFrom (l : Led) : Nat → Int → Int
  | 0, _ => -1
  | n + 1, y => if y < l.years then (if y ∈ l.bad then goodFrom l n (y + 1) else y) else -1
def dueM (l : Led) (i : Nat) : Int := goodFrom l 10 (ln l i).2.1
/-- the loans that count, the oldest one first -/
def yearM (l : Led) (c : Nat → Bool) (y : Nat) : List Nat := (List.range l.loans.length).filter fun i => decide ((ln l i).2.1 = (y : Int)) && c i
def orderM (l : Led) (c : Nat → Bool) : List Nat := (List.range l.years.toNat).flatMap (yearM l c)
theorem orderM_lt {l : Led} {c : Nat → Bool} {i : Nat} (h : i ∈ orderM l c) : i < l.loans.length ∧ c i = true := by
  unfold orderM yearM at h
  simp only [List.mem_flatMap, List.mem_filter, List.mem_range, Bool.and_eq_true] at h
  obtain ⟨y, _, h1, _, h3⟩ := h
  exact ⟨h1, h3⟩
structure Bk where
  bk : List Int
  parts : List (Int × Int)
  over : Int
def bkStep (l : Led) (s : Bk) (i : Nat) : Bk :=
  if min s.over (askedM l i - s.bk.getD i 0) = 0 then s else ⟨s.bk.set i (s.bk.getD i 0 + min s.over (askedM l i - s.bk.getD i 0)), s.parts ++ [((i : Int), min s.over (askedM l i - s.bk.getD i 0))], s.over - min s.over (askedM l i - s.bk.getD i 0)⟩
def counts (l : Led) (p : P3) (i : Nat) : Bool := decide ((ln l i).1 = p.1) && decide ((ln l i).2.1 ≤ p.2.1)
def bookM (l : Led) (bk : List Int) (p : P3) : Bk := (orderM l (counts l p)).foldl (bkStep l) ⟨bk, [], p.2.2⟩
def bookK (l : Led) (bk : List Int) (year : Int) (ps : List P3) : List Int := ps.foldl (fun bk p => if p.2.1 ≤ year then (bookM l bk p).bk else bk) bk
def zeros : List Int := List.replicate 10 0
def untilM (l : Led) (year : Int) : List Int := bookK l zeros year l.pays
def leftStep (l : Led) (bk : List Int) (year : Int) (s : Int) (i : Nat) : Int := if (ln l i).2.1 ≤ year then s + (askedM l i - bk.getD i 0) else s
def leftM (l : Led) (bk : List Int) (year : Int) (c : Nat → Bool) : Int := (orderM l c).foldl (leftStep l bk year) 0
def owesM (l : Led) (who year : Int) : Int := leftM l (untilM l year) year fun i => decide ((ln l i).1 = who)
def overdueM (l : Led) (who year : Int) : Int := leftM l (untilM l year) year fun i => decide ((ln l i).1 = who) && decide (0 ≤ dueM l i ∧ dueM l i ≤ year)
/-- What is booked is right. -/
structure OkBk (l : Led) (bk : List Int) : Prop where
  len : bk.length = 10
  rng : ∀ i, 0 ≤ bk.getD i 0 ∧ bk.getD i 0 ≤ askedM l i
theorem OkL.ln {l : Led} (h : OkL l) {i : Nat} (hi : i < l.loans.length) : (1 ≤ (ln l i).1 ∧ (ln l i).1 ≤ l.folk - 1) ∧ (0 ≤ (ln l i).2.1 ∧ (ln l i).2.1 ≤ l.years - 1) ∧ 1 ≤ (ln l i).2.2 ∧ (ln l i).2.2 ≤ 500 := by
  refine h.loan _ ?_
  unfold Proofs.YtmhfhfhdblccjaaGreat.ln
  rw [getD_of (List.getElem?_eq_getElem hi)]
  exact List.getElem_mem hi
theorem OkL.ln_rng {l : Led} (h : OkL l) (i : Nat) : 0 ≤ (Proofs.YtmhfhfhdblccjaaGreat.ln l i).2.2 ∧ (Proofs.YtmhfhfhdblccjaaGreat.ln l i).2.2 ≤ 500 := by
  rcases Nat.lt_or_ge i l.loans.length with hi | hi
  · have := h.ln hi; omega
  · unfold Proofs.YtmhfhfhdblccjaaGreat.ln; simp [List.getD, List.getElem?_eq_none hi]
theorem asked_rng {l : Led} (h : OkL l) (i : Nat) : 0 ≤ askedM l i ∧ askedM l i ≤ 600 := by
  have := h.ln_rng i
  unfold askedM
  split
  · decide
  · omega
theorem OkBk.zero {l : Led} (h : OkL l) : OkBk l zeros := ⟨rfl, fun i => by
  have h1 := asked_rng h i
  have : zeros.getD i 0 = 0 := by
    unfold zeros; simp only [List.getD, List.getElem?_replicate]; split <;> rfl
  omega⟩
/-- While a payment is booked. -/
structure OkB (l : Led) (s : Bk) : Prop where
  bk : OkBk l s.bk
  over : 0 ≤ s.over ∧ s.over ≤ 500
  parts : s.parts.length ≤ 1000
theorem OkB.step {l : Led} (h : OkL l) {s : Bk} (hs : OkB l s) {i : Nat} (hi : i < 10) : OkBk l (bkStep l s i).bk ∧ (0 ≤ (bkStep l s i).over ∧ (bkStep l s i).over ≤ 500) ∧ (bkStep l s i).parts.length ≤ s.parts.length + 1 := by
  have h1 := hs.bk.rng i
  have h2 := hs.over
  unfold bkStep
  split
  · exact ⟨hs.bk, hs.over, by omega⟩
  · refine ⟨⟨by simp [hs.bk.len], fun j => ?_⟩, by simp only; omega, by simp⟩
    simp only
    rw [getD_set]
    split
    · rename_i e; obtain ⟨e, _⟩ := e; subst e; omega
    · exact hs.bk.rng j
theorem order_len {l : Led} (h : OkL l) (c : Nat → Bool) : (orderM l c).length ≤ 90 := by
  have hy := h.years
  have hn := h.nl
  unfold orderM
  rw [List.length_flatMap]
  have key : ∀ n : Nat, (List.map (fun y => (yearM l c y).length) (List.range n)).sum ≤ 10 * n := fun n => by
    induction n with
    | zero => simp
    | succ n ih =>
      rw [List.range_succ, List.map_append, List.sum_append]
      have : (yearM l c n).length ≤ 10 := by
        unfold yearM
        have := List.length_filter_le (fun i => decide ((ln l i).2.1 = (n : Int)) && c i) (List.range l.loans.length)
        simp at this ⊢; omega
      simp only [List.map_cons, List.map_nil, List.sum_cons, List.sum_nil]; omega
  have := key l.years.toNat
  omega
theorem book_ok {l : Led} (h : OkL l) {bk : List Int} (hb : OkBk l bk) {p : P3} (hp : 0 ≤ p.2.2 ∧ p.2.2 ≤ 500) : ∀ k, OkB l (((orderM l (counts l p)).take k).foldl (bkStep l) ⟨bk, [], p.2.2⟩) ∧ (((orderM l (counts l p)).take k).foldl (bkStep l) ⟨bk, [], p.2.2⟩).parts.length ≤ min k (orderM l (counts l p)).length
  | 0 => ⟨⟨hb, hp, by simp⟩, by simp⟩
  | k + 1 => by
    obtain ⟨i1, i2⟩ := book_ok h hb hp k
    have hl := order_len h (counts l p)
    rcases Nat.lt_or_ge k (orderM l (counts l p)).length with hk | hk
    · have hx := List.getElem?_eq_getElem hk
      rw [take_snoc hx, List.foldl_append]
      have hlt := (orderM_lt (List.mem_of_getElem? hx)).1
      have hn := h.nl
      obtain ⟨s1, s2, s3⟩ := i1.step h (i := (orderM l (counts l p))[k]) (by omega)
      exact ⟨⟨s1, s2, by simp only [List.foldl_cons, List.foldl_nil]; omega⟩, by simp only [List.foldl_cons, List.foldl_nil]; omega⟩
    · rw [List.take_of_length_le (by omega)]
      rw [List.take_of_length_le hk] at i1 i2
      exact ⟨i1, by omega⟩
theorem bookM_ok {l : Led} (h : OkL l) {bk : List Int} (hb : OkBk l bk) {p : P3} (hp : 0 ≤ p.2.2 ∧ p.2.2 ≤ 500) : OkB l (bookM l bk p) := by
  have := (book_ok h hb hp (orderM l (counts l p)).length).1
  rw [List.take_length] at this
  exact this
theorem bookK_ok {l : Led} (h : OkL l) (year : Int) : ∀ (ps : List P3) {bk : List Int}, OkBk l bk → (∀ p ∈ ps, 0 ≤ p.2.2 ∧ p.2.2 ≤ 500) → OkBk l (bookK l bk year ps)
  | [], bk, hb, _ => hb
  | p :: ps, bk, hb, hp => by
    unfold bookK
    rw [List.foldl_cons]
    refine bookK_ok h year ps ?_ (fun q hq => hp q (by simp [hq]))
    split
    · exact (bookM_ok h hb (hp p (by simp))).bk
    · exact hb
theorem untilM_ok {l : Led} (h : OkL l) (year : Int) : OkBk l (untilM l year) := bookK_ok h year l.pays (OkBk.zero h) (fun p hp => by have := h.pay p hp; omega)
end Go.Proofs.YtmhfhfhdblccjaaGreat
