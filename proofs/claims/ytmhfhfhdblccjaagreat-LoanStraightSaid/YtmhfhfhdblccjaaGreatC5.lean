/-
  What the small functions of the package loan do.
-/
import Derived.Test.YtmhfhfhdblccjaaGreatC4
namespace Go.Proofs.YtmhfhfhdblccjaaGreat
open Go Go.RowKit
set_option maxHeartbeats 4000000
set_option linter.unusedVariables false
set_option linter.unusedSimpArgs false
set_option maxRecDepth 20000
def risingB (xs : List Int) : Bool := decide (∀ j, j < xs.length - 1 → xs.getD j 0 < xs.getD (j + 1) 0)
theorem rising_step {xs : List Int} {s : Nat} {x y : Int} (h1 : 1 ≤ s) (h2 : ∀ j, j < s - 1 → j < xs.length - 1 → xs.getD j 0 < xs.getD (j + 1) 0) (e1 : xs.getD s 0 = x) (e2 : xs.getD (s - 1) 0 = y) (h : y < x) : ∀ j, j < s + 1 - 1 → j < xs.length - 1 → xs.getD j 0 < xs.getD (j + 1) 0 := fun j g1 g2 => by
  by_cases hj : j < s - 1
  · exact h2 j hj g2
  · have : j = s - 1 := by omega
    subst this; rw [e2, show s - 1 + 1 = s by omega, e1]; exact h
attribute [local irreducible] SW SO FnC retQ SA VO

theorem in_ok (L : List SP) (n lo hi : Int) : FnC Tryz.prog 51 [.int .i64 n, .int .i64 lo, .int .i64 hi] L (fun v M => v = .bool (decide (lo ≤ n ∧ n ≤ hi)) ∧ M = L) := by
  refine fn_start (sz := 15) Tryz.func51 rfl rfl rfl ?_
  repeat' (first
    | (apply so_vo; (· exact voA); (· rfl))
    | refine so_nil ?_
    | refine q_go ?_
    | refine sw_region ?_
    | (refine goQ ?_; intro _ _)
    | refine go1 ?_
    | (refine goU ?_; intro nu)
    | (refine goB ?_; intro nb)
    | (refine goM ?_; intro nm)
    | (refine go2 ?_ ?_ <;> intro h <;> (try simp only [Bool.not_true, Bool.not_false, decide_eq_true_eq, decide_eq_false_iff_not, Bool.not_eq_true', Bool.not_eq_false', ne_eq, Decidable.not_not, Int.not_lt, Int.not_le, not_false_eq_true] at h))
    | fail)
  · apply rq1 rfl rfl
    · exact ⟨by simp [h], rfl⟩
    · (first | infer_instance | exact ⟨fun _ H => H⟩)
  · apply rq1 rfl rfl
    · exact ⟨by rw [decide_eq_false (by omega)], rfl⟩
    · (first | infer_instance | exact ⟨fun _ H => H⟩)
theorem rising_ok (L : List SP) (u : SlV) (xs : List Int) [r : RdSl L u.v Int encInt xs] : FnC Tryz.prog 60 [u.v] L (fun v M => v = .bool (risingB xs) ∧ M = L) := by
  refine FnC.pure r.len fun hlen => ?_
  refine fn_start (sz := 20) Tryz.func60 rfl rfl rfl ?_
  repeat' (first
    | (apply so_vo; (· exact voA); (· rfl))
    | refine so_nil ?_
    | refine q_go ?_
    | refine sw_region ?_
    | (refine goQ ?_; intro _ _)
    | refine go1 ?_
    | (refine goU ?_; intro nu)
    | (refine goB ?_; intro nb)
    | (refine goM ?_; intro nm)
    | (refine go2 ?_ ?_ <;> intro h <;> (try simp only [Bool.not_true, Bool.not_false, decide_eq_true_eq, decide_eq_false_iff_not, Bool.not_eq_true', Bool.not_eq_false', ne_eq, Decidable.not_not, Int.not_lt, Int.not_le, not_false_eq_true] at h))
    | fail)
  refine sw_block' (fun _ _ => ?_)
  refine sw_loop' (σ := Nat) (fun k => [(0, u.v), (3, .int .i64 k)]) (fun _ => L) (fun k => 1 ≤ k ∧ ∀ j, j < k - 1 → j < xs.length - 1 → xs.getD j 0 < xs.getD (j + 1) 0) (fun k => xs.length - k) 1 ⟨by omega, fun j h => by omega⟩ (by (exact fsA)) (fun _ h => h) (fun s hs _ _ => ?_)
  obtain ⟨h1, h2⟩ := hs
  by_cases h0 : s < xs.length
  · obtain ⟨x, hx⟩ := get_some h0
    obtain ⟨y, hy⟩ := get_some (xs := xs) (k := s - 1) (by omega)
    have e1 : xs.getD s 0 = x := by simp [List.getD, hx]
    have e2 : xs.getD (s - 1) 0 = y := by simp [List.getD, hy]
    have e3 : (Int.toNat ((s : Int) - 1)) = s - 1 := by omega
    rw [← e3] at hy
    repeat' (first
      | (apply so_vo; (· exact voA); (· rfl))
      | refine so_nil ?_
      | refine q_go ?_
      | refine sw_region ?_
      | (refine goQ ?_; intro _ _)
      | refine go1 ?_
      | (refine goU ?_; intro nu)
      | (refine goB ?_; intro nb)
      | (refine goM ?_; intro nm)
      | (refine go2 ?_ ?_ <;> intro h <;> (try simp only [Bool.not_true, Bool.not_false, decide_eq_true_eq, decide_eq_false_iff_not, Bool.not_eq_true', Bool.not_eq_false', ne_eq, Decidable.not_not, Int.not_lt, Int.not_le, not_false_eq_true] at h))
      | fail)
    refine sa_start [] mixed (by kernel_rfl) ?_
    apply sa_stat 0 rfl (by kernel_rfl) rfl
    · (exact voA)
    apply sa_stat 1 rfl (by kernel_rfl) rfl
    · (exact voA)
    apply sa_stat 2 rfl (by kernel_rfl) rfl
    · (exact voA)
    apply sa_stat 3 rfl (by kernel_rfl) rfl
    · (exact voA)
    apply sa_stat 4 rfl (by kernel_rfl) rfl
    · (exact voA)
    apply sa_stat 5 rfl (by kernel_rfl) rfl
    · (exact voA)
    apply sa_stat 6 rfl (by kernel_rfl) rfl
    · (exact voA)
    apply sa_stat 7 rfl (by kernel_rfl) rfl
    · (exact voA)
    apply sa_stat 8 rfl (by kernel_rfl) rfl
    · (exact voA)
    apply sa_stat 9 rfl (by kernel_rfl) rfl
    · (exact voA)
    refine sa_rest (T' := []) rfl (by kernel_rfl) ?_
    repeat' (first
      | (apply so_vo; (· exact voA); (· rfl))
      | refine so_nil ?_
      | refine q_go ?_
      | refine sw_region ?_
      | (refine goQ ?_; intro _ _)
      | refine go1 ?_
      | (refine goU ?_; intro nu)
      | (refine goB ?_; intro nb)
      | (refine goM ?_; intro nm)
      | (refine go2 ?_ ?_ <;> intro h <;> (try simp only [Bool.not_true, Bool.not_false, decide_eq_true_eq, decide_eq_false_iff_not, Bool.not_eq_true', Bool.not_eq_false', ne_eq, Decidable.not_not, Int.not_lt, Int.not_le, not_false_eq_true] at h))
      | fail)
    · apply rq1 rfl rfl
      · exact ⟨by rw [risingB, decide_eq_false]; intro hh; have := hh (s - 1) (by omega); rw [e2, show s - 1 + 1 = s by omega, e1] at this; omega, rfl⟩
      · (first | infer_instance | exact ⟨fun _ H => H⟩)
    · refine ⟨rfl, s + 1, ⟨by omega, rising_step h1 h2 e1 e2 h⟩, by omega, ?_, ?_⟩
      · (exact fsA)
      · (first | exact fun _ h => h | exact HLess.sat inferInstance)
  · repeat' (first
      | (apply so_vo; (· exact voA); (· rfl))
      | refine so_nil ?_
      | refine q_go ?_
      | refine sw_region ?_
      | (refine goQ ?_; intro _ _)
      | refine go1 ?_
      | (refine goU ?_; intro nu)
      | (refine goB ?_; intro nb)
      | (refine goM ?_; intro nm)
      | (refine go2 ?_ ?_ <;> intro h <;> (try simp only [Bool.not_true, Bool.not_false, decide_eq_true_eq, decide_eq_false_iff_not, Bool.not_eq_true', Bool.not_eq_false', ne_eq, Decidable.not_not, Int.not_lt, Int.not_le, not_false_eq_true] at h))
      | fail)
    apply rq1 rfl rfl
    · exact ⟨by rw [risingB, decide_eq_true]; exact fun j g => h2 j (by omega) g, rfl⟩
    · (first | infer_instance | exact ⟨fun _ H => H⟩)
theorem least_ok (L : List SP) (n : Int) (u : SlV) (xs : List Int) [r : RdSl L u.v Int encInt xs] : FnC Tryz.prog 48 [.int .i64 n, u.v] L (fun v M => v = .int .i64 (xs.foldl min n) ∧ M = L) := by
  refine FnC.pure r.len fun hlen => ?_
  refine fn_start (sz := 18) Tryz.func48 rfl rfl rfl ?_
  repeat' (first
    | (apply so_vo; (· exact voA); (· rfl))
    | refine so_nil ?_
    | refine q_go ?_
    | refine sw_region ?_
    | (refine goQ ?_; intro _ _)
    | refine go1 ?_
    | (refine goU ?_; intro nu)
    | (refine goB ?_; intro nb)
    | (refine goM ?_; intro nm)
    | (refine go2 ?_ ?_ <;> intro h <;> (try simp only [Bool.not_true, Bool.not_false, decide_eq_true_eq, decide_eq_false_iff_not, Bool.not_eq_true', Bool.not_eq_false', ne_eq, Decidable.not_not, Int.not_lt, Int.not_le, not_false_eq_true] at h))
    | fail)
  refine sw_range (τ := Unit) (fun k _ => [(0, .int .i64 ((xs.take k).foldl min n)), (7, u.v)]) (fun _ _ => L) (fun k _ => True) () trivial (by rfl) (by rfl) (by omega) (by (exact fsA)) (fun _ h => h) (fun _ _ => by rfl) (by rfl) (fun k t hlt hI _ _ => ?_) (fun t hI => ?_)
  · obtain ⟨x, hx⟩ := get_some hlt
    repeat' (first
      | (apply so_vo; (· exact voA); (· rfl))
      | refine so_nil ?_
      | refine q_go ?_
      | refine sw_region ?_
      | (refine goQ ?_; intro _ _)
      | refine go1 ?_
      | (refine goU ?_; intro nu)
      | (refine goB ?_; intro nb)
      | (refine goM ?_; intro nm)
      | (refine go2 ?_ ?_ <;> intro h <;> (try simp only [Bool.not_true, Bool.not_false, decide_eq_true_eq, decide_eq_false_iff_not, Bool.not_eq_true', Bool.not_eq_false', ne_eq, Decidable.not_not, Int.not_lt, Int.not_le, not_false_eq_true] at h))
      | fail)
    have e : min (List.foldl min n (xs.take k)) x = List.foldl min n (xs.take (k + 1)) := by rw [take_snoc hx, List.foldl_append]; rfl
    rw [e]
    refine ⟨rfl, (), trivial, ?_, ?_⟩
    · (exact fsA)
    · (first | exact fun _ h => h | exact HLess.sat inferInstance)
  · repeat' (first
      | (apply so_vo; (· exact voA); (· rfl))
      | refine so_nil ?_
      | refine q_go ?_
      | refine sw_region ?_
      | (refine goQ ?_; intro _ _)
      | refine go1 ?_
      | (refine goU ?_; intro nu)
      | (refine goB ?_; intro nb)
      | (refine goM ?_; intro nm)
      | (refine go2 ?_ ?_ <;> intro h <;> (try simp only [Bool.not_true, Bool.not_false, decide_eq_true_eq, decide_eq_false_iff_not, Bool.not_eq_true', Bool.not_eq_false', ne_eq, Decidable.not_not, Int.not_lt, Int.not_le, not_false_eq_true] at h))
      | fail)
    apply rq1 rfl rfl
    · exact ⟨by rw [List.take_of_length_le (Nat.le_refl _)], rfl⟩
    · (first | infer_instance | exact ⟨fun _ H => H⟩)
def idxOf (xs : List Int) (x : Int) : Int := idx xs.length (fun i => decide (x = xs.getD i 0))
theorem getD_of {α : Type} {xs : List α} {k : Nat} {x d : α} (h : xs[k]? = some x) : xs.getD k d = x := by simp [List.getD, h]
theorem Index_int (L : List SP) (u : SlV) (x : Int) (xs : List Int) [r : RdSl L u.v Int encInt xs] : FnC Tryz.prog 61 [u.v, .int .i64 x] L (fun v M => v = .int .i64 (idxOf xs x) ∧ M = L) := by
  refine FnC.pure r.len fun hlen => ?_
  refine fn_start (sz := 19) Tryz.func61 rfl rfl rfl ?_
  repeat' (first
    | (apply so_vo; (· exact voA); (· rfl))
    | refine so_nil ?_
    | refine q_go ?_
    | refine sw_region ?_
    | (refine goQ ?_; intro _ _)
    | refine go1 ?_
    | (refine goU ?_; intro nu)
    | (refine goB ?_; intro nb)
    | (refine goM ?_; intro nm)
    | (refine go2 ?_ ?_ <;> intro h <;> (try simp only [Bool.not_true, Bool.not_false, decide_eq_true_eq, decide_eq_false_iff_not, Bool.not_eq_true', Bool.not_eq_false', ne_eq, Decidable.not_not, Int.not_lt, Int.not_le, not_false_eq_true] at h))
    | fail)
  refine sw_range (τ := Unit) (fun k _ => [(0, u.v), (1, .int .i64 x)]) (fun _ _ => L) (fun k _ => ∀ i, i < k → decide (x = xs.getD i 0) = false) () (fun i h => by omega) (by rfl) (by rfl) (by omega) (by (exact fsA)) (fun _ h => h) (fun _ _ => by rfl) (by rfl) (fun k t hlt hI _ _ => ?_) (fun t hI => ?_)
  · obtain ⟨y, hx⟩ := get_some hlt
    have e := getD_of (d := 0) hx
    repeat' (first
      | (apply so_vo; (· exact voA); (· rfl))
      | refine so_nil ?_
      | refine q_go ?_
      | refine sw_region ?_
      | (refine goQ ?_; intro _ _)
      | refine go1 ?_
      | (refine goU ?_; intro nu)
      | (refine goB ?_; intro nb)
      | (refine goM ?_; intro nm)
      | (refine go2 ?_ ?_ <;> intro h <;> (try simp only [Bool.not_true, Bool.not_false, decide_eq_true_eq, decide_eq_false_iff_not, Bool.not_eq_true', Bool.not_eq_false', ne_eq, Decidable.not_not, Int.not_lt, Int.not_le, not_false_eq_true] at h))
      | fail)
    · apply rq1 rfl rfl
      · exact ⟨by unfold idxOf; rw [idx_some hlt hI (by rw [e]; exact decide_eq_true h)], rfl⟩
      · (first | infer_instance | exact ⟨fun _ H => H⟩)
    · refine ⟨rfl, (), upto_succ hI (by rw [e]; exact decide_eq_false h), ?_, ?_⟩
      · (exact fsA)
      · (first | exact fun _ h => h | exact HLess.sat inferInstance)
  · repeat' (first
      | (apply so_vo; (· exact voA); (· rfl))
      | refine so_nil ?_
      | refine q_go ?_
      | refine sw_region ?_
      | (refine goQ ?_; intro _ _)
      | refine go1 ?_
      | (refine goU ?_; intro nu)
      | (refine goB ?_; intro nb)
      | (refine goM ?_; intro nm)
      | (refine go2 ?_ ?_ <;> intro h <;> (try simp only [Bool.not_true, Bool.not_false, decide_eq_true_eq, decide_eq_false_iff_not, Bool.not_eq_true', Bool.not_eq_false', ne_eq, Decidable.not_not, Int.not_lt, Int.not_le, not_false_eq_true] at h))
      | fail)
    apply rq1 rfl rfl
    · exact ⟨by unfold idxOf; rw [idx_none hI], rfl⟩
    · (first | infer_instance | exact ⟨fun _ H => H⟩)
theorem idxOf_any (xs : List Int) (x : Int) : decide (0 ≤ idxOf xs x) = decide (x ∈ xs) := by
  unfold idxOf
  rw [idx_any, any_range xs _ (fun y => decide (x = y)) (fun i y h => by rw [getD_of h])]
  rw [Bool.eq_iff_iff]; simp
theorem Contains_int (L : List SP) (u : SlV) (x : Int) (xs : List Int) [r : RdSl L u.v Int encInt xs] : FnC Tryz.prog 17 [u.v, .int .i64 x] L (fun v M => v = .bool (decide (x ∈ xs)) ∧ M = L) := by
  refine fn_start (sz := 9) Tryz.func17 rfl rfl rfl ?_
  repeat' (first
    | (apply so_vo; (· exact voA); (· rfl))
    | refine so_nil ?_
    | refine q_go ?_
    | refine sw_region ?_
    | (refine goQ ?_; intro _ _)
    | refine go1 ?_
    | (refine goU ?_; intro nu)
    | (refine goB ?_; intro nb)
    | (refine goM ?_; intro nm)
    | (refine go2 ?_ ?_ <;> intro h <;> (try simp only [Bool.not_true, Bool.not_false, decide_eq_true_eq, decide_eq_false_iff_not, Bool.not_eq_true', Bool.not_eq_false', ne_eq, Decidable.not_not, Int.not_lt, Int.not_le, not_false_eq_true] at h))
    | fail)
  refine so_call rfl rfl rfl (Index_int L u x xs) ?_
  rintro _ _ ⟨rfl, rfl⟩
  repeat' (first
    | (apply so_vo; (· exact voA); (· rfl))
    | refine so_nil ?_
    | refine q_go ?_
    | refine sw_region ?_
    | (refine goQ ?_; intro _ _)
    | refine go1 ?_
    | (refine goU ?_; intro nu)
    | (refine goB ?_; intro nb)
    | (refine goM ?_; intro nm)
    | (refine go2 ?_ ?_ <;> intro h <;> (try simp only [Bool.not_true, Bool.not_false, decide_eq_true_eq, decide_eq_false_iff_not, Bool.not_eq_true', Bool.not_eq_false', ne_eq, Decidable.not_not, Int.not_lt, Int.not_le, not_false_eq_true] at h))
    | fail)
  apply rq1 rfl rfl
  · exact ⟨by rw [idxOf_any], rfl⟩
  · (first | infer_instance | exact ⟨fun _ H => H⟩)
theorem Clone_int (L : List SP) (u : SlV) (xs : List Int) [r : RdSl L u.v Int encInt xs] (hn : xs.length ≤ 100000000) : FnC Tryz.prog 107 [u.v] L (fun v M => ∃ u' : SlV, v = u'.v ∧ M = ownSl 3 encInt u'.v xs :: L) := by
  refine FnC.pure r.nilE fun hnil => ?_
  refine fn_start (sz := 8) Tryz.func107 rfl rfl rfl ?_
  repeat' (first
    | (apply so_vo; (· exact voA); (· rfl))
    | refine so_nil ?_
    | refine q_go ?_
    | refine sw_region ?_
    | (refine goQ ?_; intro _ _)
    | refine go1 ?_
    | (refine goU ?_; intro nu)
    | (refine goB ?_; intro nb)
    | (refine goM ?_; intro nm)
    | (refine go2 ?_ ?_ <;> intro h <;> (try simp only [Bool.not_true, Bool.not_false, decide_eq_true_eq, decide_eq_false_iff_not, Bool.not_eq_true', Bool.not_eq_false', ne_eq, Decidable.not_not, Int.not_lt, Int.not_le, not_false_eq_true] at h))
    | fail)
  · apply rq1 rfl rfl
    · exact ⟨nilS, rfl, rfl⟩
    · rw [hnil h]; exact ⟨fun w H => own_nil none H⟩
  · apply rq1 rfl rfl
    · exact ⟨_, rfl, rfl⟩
    · (first | infer_instance | exact ⟨fun _ H => H⟩)
theorem every1_int (L : List SP) (b : Nat) (T : TypeId) (fv : Value) (x : Int) [c : Cl L b T [fv]] (q : Bool) (hf : ∃ g fst cap, fv = .func (.func g) fst cap ∧ Ent Tryz.prog g ∧ ∀ L', Suf L L' → FnC Tryz.prog g (fst.toList ++ [encInt.val x] ++ cap.toList) L' (fun v M => v = .bool q ∧ M = L')) : FnC Tryz.prog 94 [encInt.val x, .pointer (some ⟨b, 0, none⟩)] L (fun v M => v = .bool (!q) ∧ M = L) := by
  obtain ⟨g, fst, cap, rfl, he, hf⟩ := hf
  refine fn_start (sz := 8) Tryz.func94 rfl rfl rfl ?_
  repeat' (first
    | (apply so_vo; (· exact voA); (· rfl))
    | refine so_nil ?_
    | refine q_go ?_
    | refine sw_region ?_
    | (refine goQ ?_; intro _ _)
    | refine go1 ?_
    | (refine goU ?_; intro nu)
    | (refine goB ?_; intro nb)
    | (refine goM ?_; intro nm)
    | (refine go2 ?_ ?_ <;> intro h <;> (try simp only [Bool.not_true, Bool.not_false, decide_eq_true_eq, decide_eq_false_iff_not, Bool.not_eq_true', Bool.not_eq_false', ne_eq, Decidable.not_not, Int.not_lt, Int.not_le, not_false_eq_true] at h))
    | fail)
  refine so_call rfl rfl rfl (hf _ inferInstance) ?_
  rintro _ _ ⟨rfl, rfl⟩
  repeat' (first
    | (apply so_vo; (· exact voA); (· rfl))
    | refine so_nil ?_
    | refine q_go ?_
    | refine sw_region ?_
    | (refine goQ ?_; intro _ _)
    | refine go1 ?_
    | (refine goU ?_; intro nu)
    | (refine goB ?_; intro nb)
    | (refine goM ?_; intro nm)
    | (refine go2 ?_ ?_ <;> intro h <;> (try simp only [Bool.not_true, Bool.not_false, decide_eq_true_eq, decide_eq_false_iff_not, Bool.not_eq_true', Bool.not_eq_false', ne_eq, Decidable.not_not, Int.not_lt, Int.not_le, not_false_eq_true] at h))
    | fail)
  apply rq1 rfl rfl
  · exact ⟨rfl, rfl⟩
  · (first | infer_instance | exact ⟨fun _ H => H⟩)
theorem every_int (L : List SP) (u : SlV) (fv : Value) (xs : List (Int)) (p : Nat → Bool) [r : RdSl L u.v (Int) encInt xs] (hf : PredC Tryz.prog fv L encInt.val xs p) : FnC Tryz.prog 54 [u.v, fv] L (fun v M => v = .bool ((List.range xs.length).all p) ∧ M = L) := by
  have hf' := hf
  obtain ⟨g, fst, cap, rfl, he, hg⟩ := hf'
  refine fn_start (sz := 9) Tryz.func54 rfl rfl rfl ?_
  repeat' (first
    | (apply so_vo; (· exact voA); (· rfl))
    | refine so_nil ?_
    | refine q_go ?_
    | refine sw_region ?_
    | (refine goQ ?_; intro _ _)
    | refine go1 ?_
    | (refine goU ?_; intro nu)
    | (refine goB ?_; intro nb)
    | (refine goM ?_; intro nm)
    | (refine go2 ?_ ?_ <;> intro h <;> (try simp only [Bool.not_true, Bool.not_false, decide_eq_true_eq, decide_eq_false_iff_not, Bool.not_eq_true', Bool.not_eq_false', ne_eq, Decidable.not_not, Int.not_lt, Int.not_le, not_false_eq_true] at h))
    | fail)
  refine so_call rfl rfl rfl (ContainsFunc_int _ u _ xs (fun i => !p i) ⟨_, _, _, rfl, inferInstance, fun L' s i x hx => ?_⟩) ?_
  · haveI := Cl.up (L := L') (b := nb) (inferInstance : Cl (cl nb _ [Value.func (Fn.func g) fst cap] :: L) nb _ _) s
    exact every1_int L' nb _ _ x (p i) ⟨g, fst, cap, rfl, he, fun L2 s2 => hg L2 ((Suf.mk' [_] L).trans (s.trans s2)) i x hx⟩
  rintro _ _ ⟨rfl, rfl⟩
  repeat' (first
    | (apply so_vo; (· exact voA); (· rfl))
    | refine so_nil ?_
    | refine q_go ?_
    | refine sw_region ?_
    | (refine goQ ?_; intro _ _)
    | refine go1 ?_
    | (refine goU ?_; intro nu)
    | (refine goB ?_; intro nb)
    | (refine goM ?_; intro nm)
    | (refine go2 ?_ ?_ <;> intro h <;> (try simp only [Bool.not_true, Bool.not_false, decide_eq_true_eq, decide_eq_false_iff_not, Bool.not_eq_true', Bool.not_eq_false', ne_eq, Decidable.not_not, Int.not_lt, Int.not_le, not_false_eq_true] at h))
    | fail)
  apply rq1 rfl rfl
  · exact ⟨by rw [not_any], rfl⟩
  · (first | infer_instance | exact ⟨fun _ H => H⟩)
theorem every1_ints (L : List SP) (b : Nat) (T : TypeId) (fv : Value) (x : SlV) [c : Cl L b T [fv]] (q : Bool) (hf : ∃ g fst cap, fv = .func (.func g) fst cap ∧ Ent Tryz.prog g ∧ ∀ L', Suf L L' → FnC Tryz.prog g (fst.toList ++ [encSl.val x] ++ cap.toList) L' (fun v M => v = .bool q ∧ M = L')) : FnC Tryz.prog 97 [encSl.val x, .pointer (some ⟨b, 0, none⟩)] L (fun v M => v = .bool (!q) ∧ M = L) := by
  obtain ⟨g, fst, cap, rfl, he, hf⟩ := hf
  refine fn_start (sz := 8) Tryz.func97 rfl rfl rfl ?_
  repeat' (first
    | (apply so_vo; (· exact voA); (· rfl))
    | refine so_nil ?_
    | refine q_go ?_
    | refine sw_region ?_
    | (refine goQ ?_; intro _ _)
    | refine go1 ?_
    | (refine goU ?_; intro nu)
    | (refine goB ?_; intro nb)
    | (refine goM ?_; intro nm)
    | (refine go2 ?_ ?_ <;> intro h <;> (try simp only [Bool.not_true, Bool.not_false, decide_eq_true_eq, decide_eq_false_iff_not, Bool.not_eq_true', Bool.not_eq_false', ne_eq, Decidable.not_not, Int.not_lt, Int.not_le, not_false_eq_true] at h))
    | fail)
  refine so_call rfl rfl rfl (hf _ inferInstance) ?_
  rintro _ _ ⟨rfl, rfl⟩
  repeat' (first
    | (apply so_vo; (· exact voA); (· rfl))
    | refine so_nil ?_
    | refine q_go ?_
    | refine sw_region ?_
    | (refine goQ ?_; intro _ _)
    | refine go1 ?_
    | (refine goU ?_; intro nu)
    | (refine goB ?_; intro nb)
    | (refine goM ?_; intro nm)
    | (refine go2 ?_ ?_ <;> intro h <;> (try simp only [Bool.not_true, Bool.not_false, decide_eq_true_eq, decide_eq_false_iff_not, Bool.not_eq_true', Bool.not_eq_false', ne_eq, Decidable.not_not, Int.not_lt, Int.not_le, not_false_eq_true] at h))
    | fail)
  apply rq1 rfl rfl
  · exact ⟨rfl, rfl⟩
  · (first | infer_instance | exact ⟨fun _ H => H⟩)
theorem every_ints (L : List SP) (u : SlV) (fv : Value) (xs : List (SlV)) (p : Nat → Bool) [r : RdSl L u.v (SlV) encSl xs] (hf : PredC Tryz.prog fv L encSl.val xs p) : FnC Tryz.prog 58 [u.v, fv] L (fun v M => v = .bool ((List.range xs.length).all p) ∧ M = L) := by
  have hf' := hf
  obtain ⟨g, fst, cap, rfl, he, hg⟩ := hf'
  refine fn_start (sz := 9) Tryz.func58 rfl rfl rfl ?_
  repeat' (first
    | (apply so_vo; (· exact voA); (· rfl))
    | refine so_nil ?_
    | refine q_go ?_
    | refine sw_region ?_
    | (refine goQ ?_; intro _ _)
    | refine go1 ?_
    | (refine goU ?_; intro nu)
    | (refine goB ?_; intro nb)
    | (refine goM ?_; intro nm)
    | (refine go2 ?_ ?_ <;> intro h <;> (try simp only [Bool.not_true, Bool.not_false, decide_eq_true_eq, decide_eq_false_iff_not, Bool.not_eq_true', Bool.not_eq_false', ne_eq, Decidable.not_not, Int.not_lt, Int.not_le, not_false_eq_true] at h))
    | fail)
  refine so_call rfl rfl rfl (ContainsFunc_ints _ u _ xs (fun i => !p i) ⟨_, _, _, rfl, inferInstance, fun L' s i x hx => ?_⟩) ?_
  · haveI := Cl.up (L := L') (b := nb) (inferInstance : Cl (cl nb _ [Value.func (Fn.func g) fst cap] :: L) nb _ _) s
    exact every1_ints L' nb _ _ x (p i) ⟨g, fst, cap, rfl, he, fun L2 s2 => hg L2 ((Suf.mk' [_] L).trans (s.trans s2)) i x hx⟩
  rintro _ _ ⟨rfl, rfl⟩
  repeat' (first
    | (apply so_vo; (· exact voA); (· rfl))
    | refine so_nil ?_
    | refine q_go ?_
    | refine sw_region ?_
    | (refine goQ ?_; intro _ _)
    | refine go1 ?_
    | (refine goU ?_; intro nu)
    | (refine goB ?_; intro nb)
    | (refine goM ?_; intro nm)
    | (refine go2 ?_ ?_ <;> intro h <;> (try simp only [Bool.not_true, Bool.not_false, decide_eq_true_eq, decide_eq_false_iff_not, Bool.not_eq_true', Bool.not_eq_false', ne_eq, Decidable.not_not, Int.not_lt, Int.not_le, not_false_eq_true] at h))
    | fail)
  apply rq1 rfl rfl
  · exact ⟨by rw [not_any], rfl⟩
  · (first | infer_instance | exact ⟨fun _ H => H⟩)
theorem every1_staddle_loan_Promise (L : List SP) (b : Nat) (T : TypeId) (fv : Value) (x : Int×Int×Int) [c : Cl L b T [fv]] (q : Bool) (hf : ∃ g fst cap, fv = .func (.func g) fst cap ∧ Ent Tryz.prog g ∧ ∀ L', Suf L L' → FnC Tryz.prog g (fst.toList ++ [enc3.val x] ++ cap.toList) L' (fun v M => v = .bool q ∧ M = L')) : FnC Tryz.prog 92 [enc3.val x, .pointer (some ⟨b, 0, none⟩)] L (fun v M => v = .bool (!q) ∧ M = L) := by
  obtain ⟨g, fst, cap, rfl, he, hf⟩ := hf
  refine fn_start (sz := 8) Tryz.func92 rfl rfl rfl ?_
  repeat' (first
    | (apply so_vo; (· exact voA); (· rfl))
    | refine so_nil ?_
    | refine q_go ?_
    | refine sw_region ?_
    | (refine goQ ?_; intro _ _)
    | refine go1 ?_
    | (refine goU ?_; intro nu)
    | (refine goB ?_; intro nb)
    | (refine goM ?_; intro nm)
    | (refine go2 ?_ ?_ <;> intro h <;> (try simp only [Bool.not_true, Bool.not_false, decide_eq_true_eq, decide_eq_false_iff_not, Bool.not_eq_true', Bool.not_eq_false', ne_eq, Decidable.not_not, Int.not_lt, Int.not_le, not_false_eq_true] at h))
    | fail)
  refine so_call rfl rfl rfl (hf _ inferInstance) ?_
  rintro _ _ ⟨rfl, rfl⟩
  repeat' (first
    | (apply so_vo; (· exact voA); (· rfl))
    | refine so_nil ?_
    | refine q_go ?_
    | refine sw_region ?_
    | (refine goQ ?_; intro _ _)
    | refine go1 ?_
    | (refine goU ?_; intro nu)
    | (refine goB ?_; intro nb)
    | (refine goM ?_; intro nm)
    | (refine go2 ?_ ?_ <;> intro h <;> (try simp only [Bool.not_true, Bool.not_false, decide_eq_true_eq, decide_eq_false_iff_not, Bool.not_eq_true', Bool.not_eq_false', ne_eq, Decidable.not_not, Int.not_lt, Int.not_le, not_false_eq_true] at h))
    | fail)
  apply rq1 rfl rfl
  · exact ⟨rfl, rfl⟩
  · (first | infer_instance | exact ⟨fun _ H => H⟩)
theorem every_staddle_loan_Promise (L : List SP) (u : SlV) (fv : Value) (xs : List (Int×Int×Int)) (p : Nat → Bool) [r : RdSl L u.v (Int×Int×Int) enc3 xs] (hf : PredC Tryz.prog fv L enc3.val xs p) : FnC Tryz.prog 49 [u.v, fv] L (fun v M => v = .bool ((List.range xs.length).all p) ∧ M = L) := by
  have hf' := hf
  obtain ⟨g, fst, cap, rfl, he, hg⟩ := hf'
  refine fn_start (sz := 9) Tryz.func49 rfl rfl rfl ?_
  repeat' (first
    | (apply so_vo; (· exact voA); (· rfl))
    | refine so_nil ?_
    | refine q_go ?_
    | refine sw_region ?_
    | (refine goQ ?_; intro _ _)
    | refine go1 ?_
    | (refine goU ?_; intro nu)
    | (refine goB ?_; intro nb)
    | (refine goM ?_; intro nm)
    | (refine go2 ?_ ?_ <;> intro h <;> (try simp only [Bool.not_true, Bool.not_false, decide_eq_true_eq, decide_eq_false_iff_not, Bool.not_eq_true', Bool.not_eq_false', ne_eq, Decidable.not_not, Int.not_lt, Int.not_le, not_false_eq_true] at h))
    | fail)
  refine so_call rfl rfl rfl (ContainsFunc_staddle_loan_Promise _ u _ xs (fun i => !p i) ⟨_, _, _, rfl, inferInstance, fun L' s i x hx => ?_⟩) ?_
  · haveI := Cl.up (L := L') (b := nb) (inferInstance : Cl (cl nb _ [Value.func (Fn.func g) fst cap] :: L) nb _ _) s
    exact every1_staddle_loan_Promise L' nb _ _ x (p i) ⟨g, fst, cap, rfl, he, fun L2 s2 => hg L2 ((Suf.mk' [_] L).trans (s.trans s2)) i x hx⟩
  rintro _ _ ⟨rfl, rfl⟩
  repeat' (first
    | (apply so_vo; (· exact voA); (· rfl))
    | refine so_nil ?_
    | refine q_go ?_
    | refine sw_region ?_
    | (refine goQ ?_; intro _ _)
    | refine go1 ?_
    | (refine goU ?_; intro nu)
    | (refine goB ?_; intro nb)
    | (refine goM ?_; intro nm)
    | (refine go2 ?_ ?_ <;> intro h <;> (try simp only [Bool.not_true, Bool.not_false, decide_eq_true_eq, decide_eq_false_iff_not, Bool.not_eq_true', Bool.not_eq_false', ne_eq, Decidable.not_not, Int.not_lt, Int.not_le, not_false_eq_true] at h))
    | fail)
  apply rq1 rfl rfl
  · exact ⟨by rw [not_any], rfl⟩
  · (first | infer_instance | exact ⟨fun _ H => H⟩)
theorem every1_staddle_loan_Loan (L : List SP) (b : Nat) (T : TypeId) (fv : Value) (x : Int×Int×Int) [c : Cl L b T [fv]] (q : Bool) (hf : ∃ g fst cap, fv = .func (.func g) fst cap ∧ Ent Tryz.prog g ∧ ∀ L', Suf L L' → FnC Tryz.prog g (fst.toList ++ [enc3.val x] ++ cap.toList) L' (fun v M => v = .bool q ∧ M = L')) : FnC Tryz.prog 134 [enc3.val x, .pointer (some ⟨b, 0, none⟩)] L (fun v M => v = .bool (!q) ∧ M = L) := by
  obtain ⟨g, fst, cap, rfl, he, hf⟩ := hf
  refine fn_start (sz := 8) Tryz.func134 rfl rfl rfl ?_
  repeat' (first
    | (apply so_vo; (· exact voA); (· rfl))
    | refine so_nil ?_
    | refine q_go ?_
    | refine sw_region ?_
    | (refine goQ ?_; intro _ _)
    | refine go1 ?_
    | (refine goU ?_; intro nu)
    | (refine goB ?_; intro nb)
    | (refine goM ?_; intro nm)
    | (refine go2 ?_ ?_ <;> intro h <;> (try simp only [Bool.not_true, Bool.not_false, decide_eq_true_eq, decide_eq_false_iff_not, Bool.not_eq_true', Bool.not_eq_false', ne_eq, Decidable.not_not, Int.not_lt, Int.not_le, not_false_eq_true] at h))
    | fail)
  refine so_call rfl rfl rfl (hf _ inferInstance) ?_
  rintro _ _ ⟨rfl, rfl⟩
  repeat' (first
    | (apply so_vo; (· exact voA); (· rfl))
    | refine so_nil ?_
    | refine q_go ?_
    | refine sw_region ?_
    | (refine goQ ?_; intro _ _)
    | refine go1 ?_
    | (refine goU ?_; intro nu)
    | (refine goB ?_; intro nb)
    | (refine goM ?_; intro nm)
    | (refine go2 ?_ ?_ <;> intro h <;> (try simp only [Bool.not_true, Bool.not_false, decide_eq_true_eq, decide_eq_false_iff_not, Bool.not_eq_true', Bool.not_eq_false', ne_eq, Decidable.not_not, Int.not_lt, Int.not_le, not_false_eq_true] at h))
    | fail)
  apply rq1 rfl rfl
  · exact ⟨rfl, rfl⟩
  · (first | infer_instance | exact ⟨fun _ H => H⟩)
theorem every_staddle_loan_Loan (L : List SP) (u : SlV) (fv : Value) (xs : List (Int×Int×Int)) (p : Nat → Bool) [r : RdSl L u.v (Int×Int×Int) enc3 xs] (hf : PredC Tryz.prog fv L enc3.val xs p) : FnC Tryz.prog 113 [u.v, fv] L (fun v M => v = .bool ((List.range xs.length).all p) ∧ M = L) := by
  have hf' := hf
  obtain ⟨g, fst, cap, rfl, he, hg⟩ := hf'
  refine fn_start (sz := 9) Tryz.func113 rfl rfl rfl ?_
  repeat' (first
    | (apply so_vo; (· exact voA); (· rfl))
    | refine so_nil ?_
    | refine q_go ?_
    | refine sw_region ?_
    | (refine goQ ?_; intro _ _)
    | refine go1 ?_
    | (refine goU ?_; intro nu)
    | (refine goB ?_; intro nb)
    | (refine goM ?_; intro nm)
    | (refine go2 ?_ ?_ <;> intro h <;> (try simp only [Bool.not_true, Bool.not_false, decide_eq_true_eq, decide_eq_false_iff_not, Bool.not_eq_true', Bool.not_eq_false', ne_eq, Decidable.not_not, Int.not_lt, Int.not_le, not_false_eq_true] at h))
    | fail)
  refine so_call rfl rfl rfl (ContainsFunc_staddle_loan_Loan _ u _ xs (fun i => !p i) ⟨_, _, _, rfl, inferInstance, fun L' s i x hx => ?_⟩) ?_
  · haveI := Cl.up (L := L') (b := nb) (inferInstance : Cl (cl nb _ [Value.func (Fn.func g) fst cap] :: L) nb _ _) s
    exact every1_staddle_loan_Loan L' nb _ _ x (p i) ⟨g, fst, cap, rfl, he, fun L2 s2 => hg L2 ((Suf.mk' [_] L).trans (s.trans s2)) i x hx⟩
  rintro _ _ ⟨rfl, rfl⟩
  repeat' (first
    | (apply so_vo; (· exact voA); (· rfl))
    | refine so_nil ?_
    | refine q_go ?_
    | refine sw_region ?_
    | (refine goQ ?_; intro _ _)
    | refine go1 ?_
    | (refine goU ?_; intro nu)
    | (refine goB ?_; intro nb)
    | (refine goM ?_; intro nm)
    | (refine go2 ?_ ?_ <;> intro h <;> (try simp only [Bool.not_true, Bool.not_false, decide_eq_true_eq, decide_eq_false_iff_not, Bool.not_eq_true', Bool.not_eq_false', ne_eq, Decidable.not_not, Int.not_lt, Int.not_le, not_false_eq_true] at h))
    | fail)
  apply rq1 rfl rfl
  · exact ⟨by rw [not_any], rfl⟩
  · (first | infer_instance | exact ⟨fun _ H => H⟩)
theorem every1_staddle_loan_Payment (L : List SP) (b : Nat) (T : TypeId) (fv : Value) (x : Int×Int×Int) [c : Cl L b T [fv]] (q : Bool) (hf : ∃ g fst cap, fv = .func (.func g) fst cap ∧ Ent Tryz.prog g ∧ ∀ L', Suf L L' → FnC Tryz.prog g (fst.toList ++ [enc3.val x] ++ cap.toList) L' (fun v M => v = .bool q ∧ M = L')) : FnC Tryz.prog 136 [enc3.val x, .pointer (some ⟨b, 0, none⟩)] L (fun v M => v = .bool (!q) ∧ M = L) := by
  obtain ⟨g, fst, cap, rfl, he, hf⟩ := hf
  refine fn_start (sz := 8) Tryz.func136 rfl rfl rfl ?_
  repeat' (first
    | (apply so_vo; (· exact voA); (· rfl))
    | refine so_nil ?_
    | refine q_go ?_
    | refine sw_region ?_
    | (refine goQ ?_; intro _ _)
    | refine go1 ?_
    | (refine goU ?_; intro nu)
    | (refine goB ?_; intro nb)
    | (refine goM ?_; intro nm)
    | (refine go2 ?_ ?_ <;> intro h <;> (try simp only [Bool.not_true, Bool.not_false, decide_eq_true_eq, decide_eq_false_iff_not, Bool.not_eq_true', Bool.not_eq_false', ne_eq, Decidable.not_not, Int.not_lt, Int.not_le, not_false_eq_true] at h))
    | fail)
  refine so_call rfl rfl rfl (hf _ inferInstance) ?_
  rintro _ _ ⟨rfl, rfl⟩
  repeat' (first
    | (apply so_vo; (· exact voA); (· rfl))
    | refine so_nil ?_
    | refine q_go ?_
    | refine sw_region ?_
    | (refine goQ ?_; intro _ _)
    | refine go1 ?_
    | (refine goU ?_; intro nu)
    | (refine goB ?_; intro nb)
    | (refine goM ?_; intro nm)
    | (refine go2 ?_ ?_ <;> intro h <;> (try simp only [Bool.not_true, Bool.not_false, decide_eq_true_eq, decide_eq_false_iff_not, Bool.not_eq_true', Bool.not_eq_false', ne_eq, Decidable.not_not, Int.not_lt, Int.not_le, not_false_eq_true] at h))
    | fail)
  apply rq1 rfl rfl
  · exact ⟨rfl, rfl⟩
  · (first | infer_instance | exact ⟨fun _ H => H⟩)
theorem every_staddle_loan_Payment (L : List SP) (u : SlV) (fv : Value) (xs : List (Int×Int×Int)) (p : Nat → Bool) [r : RdSl L u.v (Int×Int×Int) enc3 xs] (hf : PredC Tryz.prog fv L enc3.val xs p) : FnC Tryz.prog 116 [u.v, fv] L (fun v M => v = .bool ((List.range xs.length).all p) ∧ M = L) := by
  have hf' := hf
  obtain ⟨g, fst, cap, rfl, he, hg⟩ := hf'
  refine fn_start (sz := 9) Tryz.func116 rfl rfl rfl ?_
  repeat' (first
    | (apply so_vo; (· exact voA); (· rfl))
    | refine so_nil ?_
    | refine q_go ?_
    | refine sw_region ?_
    | (refine goQ ?_; intro _ _)
    | refine go1 ?_
    | (refine goU ?_; intro nu)
    | (refine goB ?_; intro nb)
    | (refine goM ?_; intro nm)
    | (refine go2 ?_ ?_ <;> intro h <;> (try simp only [Bool.not_true, Bool.not_false, decide_eq_true_eq, decide_eq_false_iff_not, Bool.not_eq_true', Bool.not_eq_false', ne_eq, Decidable.not_not, Int.not_lt, Int.not_le, not_false_eq_true] at h))
    | fail)
  refine so_call rfl rfl rfl (ContainsFunc_staddle_loan_Payment _ u _ xs (fun i => !p i) ⟨_, _, _, rfl, inferInstance, fun L' s i x hx => ?_⟩) ?_
  · haveI := Cl.up (L := L') (b := nb) (inferInstance : Cl (cl nb _ [Value.func (Fn.func g) fst cap] :: L) nb _ _) s
    exact every1_staddle_loan_Payment L' nb _ _ x (p i) ⟨g, fst, cap, rfl, he, fun L2 s2 => hg L2 ((Suf.mk' [_] L).trans (s.trans s2)) i x hx⟩
  rintro _ _ ⟨rfl, rfl⟩
  repeat' (first
    | (apply so_vo; (· exact voA); (· rfl))
    | refine so_nil ?_
    | refine q_go ?_
    | refine sw_region ?_
    | (refine goQ ?_; intro _ _)
    | refine go1 ?_
    | (refine goU ?_; intro nu)
    | (refine goB ?_; intro nb)
    | (refine goM ?_; intro nm)
    | (refine go2 ?_ ?_ <;> intro h <;> (try simp only [Bool.not_true, Bool.not_false, decide_eq_true_eq, decide_eq_false_iff_not, Bool.not_eq_true', Bool.not_eq_false', ne_eq, Decidable.not_not, Int.not_lt, Int.not_le, not_false_eq_true] at h))
    | fail)
  apply rq1 rfl rfl
  · exact ⟨by rw [not_any], rfl⟩
  · (first | infer_instance | exact ⟨fun _ H => H⟩)
end Go.Proofs.YtmhfhfhdblccjaaGreat
/-
  What the functions of the package loan do with debts: which are right, nets, copies.
-/
namespace Go.Proofs.YtmhfhfhdblccjaaGreat
open Go Go.RowKit
set_option maxHeartbeats 4000000
set_option linter.unusedVariables false
set_option linter.unusedSimpArgs false
set_option maxRecDepth 20000
def row7 (row : List Int) : Bool := row.all fun n => decide (0 ≤ n ∧ n ≤ 1000000)
def checkD (d : List (List Int)) : Int :=
  if !(decide (1 ≤ (d.length : Int) ∧ (d.length : Int) ≤ 7) && d.all fun row => decide (row.length = d.length)) then 2
  else if !(d.all row7) then 3
  else if (List.range d.length).any fun k => decide ((atx d k).getD k 0 ≠ 0) then 5 else 0
attribute [local irreducible] SW SO FnC retQ SA VO

theorem CheckDebts1_ok (L : List SP) (x u : SlV) (b : Nat) (row : List Int) (us : List SlV) [c : Cl L b 24 [u.v]] [r : RdSl L u.v SlV encSl us] [rx : RdSl L x.v Int encInt row] : FnC Tryz.prog 70 [x.v, .pointer (some ⟨b, 0, none⟩)] L (fun v M => v = .bool (decide (row.length = us.length)) ∧ M = L) := by
  refine fn_start (sz := 9) Tryz.func70 rfl rfl rfl ?_
  repeat' (first
    | (apply so_vo; (· exact voA); (· rfl))
    | refine so_nil ?_
    | refine q_go ?_
    | refine sw_region ?_
    | (refine goQ ?_; intro _ _)
    | refine go1 ?_
    | (refine goU ?_; intro nu)
    | (refine goB ?_; intro nb)
    | (refine goM ?_; intro nm)
    | (refine go2 ?_ ?_ <;> intro h <;> (try simp only [Bool.not_true, Bool.not_false, decide_eq_true_eq, decide_eq_false_iff_not, Bool.not_eq_true', Bool.not_eq_false', ne_eq, Decidable.not_not, Int.not_lt, Int.not_le, not_false_eq_true] at h))
    | fail)
  apply rq1 rfl rfl
  · exact ⟨by congr 1; rw [decide_eq_decide]; omega, rfl⟩
  · (first | infer_instance | exact ⟨fun _ H => H⟩)
theorem CheckDebts21_ok (L : List SP) (n : Int) : FnC Tryz.prog 72 [.int .i64 n] L (fun v M => v = .bool (decide (0 ≤ n ∧ n ≤ 1000000)) ∧ M = L) := by
  refine fn_start (sz := 5) Tryz.func72 rfl rfl rfl ?_
  repeat' (first
    | (apply so_vo; (· exact voA); (· rfl))
    | refine so_nil ?_
    | refine q_go ?_
    | refine sw_region ?_
    | (refine goQ ?_; intro _ _)
    | refine go1 ?_
    | (refine goU ?_; intro nu)
    | (refine goB ?_; intro nb)
    | (refine goM ?_; intro nm)
    | (refine go2 ?_ ?_ <;> intro h <;> (try simp only [Bool.not_true, Bool.not_false, decide_eq_true_eq, decide_eq_false_iff_not, Bool.not_eq_true', Bool.not_eq_false', ne_eq, Decidable.not_not, Int.not_lt, Int.not_le, not_false_eq_true] at h))
    | fail)
  refine so_call rfl rfl rfl (in_ok L n 0 1000000) ?_
  rintro _ _ ⟨rfl, rfl⟩
  repeat' (first
    | (apply so_vo; (· exact voA); (· rfl))
    | refine so_nil ?_
    | refine q_go ?_
    | refine sw_region ?_
    | (refine goQ ?_; intro _ _)
    | refine go1 ?_
    | (refine goU ?_; intro nu)
    | (refine goB ?_; intro nb)
    | (refine goM ?_; intro nm)
    | (refine go2 ?_ ?_ <;> intro h <;> (try simp only [Bool.not_true, Bool.not_false, decide_eq_true_eq, decide_eq_false_iff_not, Bool.not_eq_true', Bool.not_eq_false', ne_eq, Decidable.not_not, Int.not_lt, Int.not_le, not_false_eq_true] at h))
    | fail)
  apply rq1 rfl rfl
  · exact ⟨rfl, rfl⟩
  · (first | infer_instance | exact ⟨fun _ H => H⟩)
theorem CheckDebts2_ok (L : List SP) (x : SlV) (row : List Int) [rx : RdSl L x.v Int encInt row] : FnC Tryz.prog 71 [x.v] L (fun v M => v = .bool (row7 row) ∧ M = L) := by
  refine fn_start (sz := 5) Tryz.func71 rfl rfl rfl ?_
  repeat' (first
    | (apply so_vo; (· exact voA); (· rfl))
    | refine so_nil ?_
    | refine q_go ?_
    | refine sw_region ?_
    | (refine goQ ?_; intro _ _)
    | refine go1 ?_
    | (refine goU ?_; intro nu)
    | (refine goB ?_; intro nb)
    | (refine goM ?_; intro nm)
    | (refine go2 ?_ ?_ <;> intro h <;> (try simp only [Bool.not_true, Bool.not_false, decide_eq_true_eq, decide_eq_false_iff_not, Bool.not_eq_true', Bool.not_eq_false', ne_eq, Decidable.not_not, Int.not_lt, Int.not_le, not_false_eq_true] at h))
    | fail)
  refine so_call rfl rfl rfl (every_int L x _ row (fun i => decide (0 ≤ row.getD i 0 ∧ row.getD i 0 ≤ 1000000)) ⟨_, _, _, rfl, inferInstance, fun L' s i y hy => ?_⟩) ?_
  · simp only [getD_of hy]; exact CheckDebts21_ok L' y
  rintro _ _ ⟨rfl, rfl⟩
  repeat' (first
    | (apply so_vo; (· exact voA); (· rfl))
    | refine so_nil ?_
    | refine q_go ?_
    | refine sw_region ?_
    | (refine goQ ?_; intro _ _)
    | refine go1 ?_
    | (refine goU ?_; intro nu)
    | (refine goB ?_; intro nb)
    | (refine goM ?_; intro nm)
    | (refine go2 ?_ ?_ <;> intro h <;> (try simp only [Bool.not_true, Bool.not_false, decide_eq_true_eq, decide_eq_false_iff_not, Bool.not_eq_true', Bool.not_eq_false', ne_eq, Decidable.not_not, Int.not_lt, Int.not_le, not_false_eq_true] at h))
    | fail)
  apply rq1 rfl rfl
  · exact ⟨by rw [all_range row _ (fun n => decide (0 ≤ n ∧ n ≤ 1000000)) (fun i x h => by rw [getD_of h])]; rfl, rfl⟩
  · (first | infer_instance | exact ⟨fun _ H => H⟩)
theorem CheckDebts_ok (L : List SP) (u : SlV) (us : List SlV) (d : List (List Int)) [r : RdSl L u.v SlV encSl us] [rm : RdM L us Int encInt d] : FnC Tryz.prog 29 [u.v] L (fun v M => v = .int .i64 (checkD d) ∧ M = L) := by
  refine FnC.pure r.len fun hlen => FnC.pure rm.len fun hl => ?_
  have hA : ((List.range us.length).all fun i => decide ((atx d i).length = us.length)) = d.all fun row => decide (row.length = d.length) := by
    rw [hl]; exact all_range d _ _ fun i x h => by rw [atx_eq h]
  have hB : ((List.range us.length).all fun i => row7 (atx d i)) = d.all row7 := by
    rw [hl]; exact all_range d _ _ fun i x h => by rw [atx_eq h]
  refine fn_start (sz := 33) Tryz.func29 rfl rfl rfl ?_
  repeat' (first
    | (apply so_vo; (· exact voA); (· rfl))
    | refine so_nil ?_
    | refine q_go ?_
    | refine sw_region ?_
    | (refine goQ ?_; intro _ _)
    | refine go1 ?_
    | (refine goU ?_; intro nu)
    | (refine goB ?_; intro nb)
    | (refine goM ?_; intro nm)
    | (refine go2 ?_ ?_ <;> intro h <;> (try simp only [Bool.not_true, Bool.not_false, decide_eq_true_eq, decide_eq_false_iff_not, Bool.not_eq_true', Bool.not_eq_false', ne_eq, Decidable.not_not, Int.not_lt, Int.not_le, not_false_eq_true] at h))
    | fail)
  refine so_call rfl rfl rfl (in_ok _ _ 1 7) ?_
  rintro _ _ ⟨rfl, rfl⟩
  repeat' (first
    | (apply so_vo; (· exact voA); (· rfl))
    | refine so_nil ?_
    | refine q_go ?_
    | refine sw_region ?_
    | (refine goQ ?_; intro _ _)
    | refine go1 ?_
    | (refine goU ?_; intro nu)
    | (refine goB ?_; intro nb)
    | (refine goM ?_; intro nm)
    | (refine go2 ?_ ?_ <;> intro h <;> (try simp only [Bool.not_true, Bool.not_false, decide_eq_true_eq, decide_eq_false_iff_not, Bool.not_eq_true', Bool.not_eq_false', ne_eq, Decidable.not_not, Int.not_lt, Int.not_le, not_false_eq_true] at h))
    | fail)
  · have h0 := h
    refine so_call rfl rfl rfl (every_ints _ u _ us (fun i => decide ((atx d i).length = us.length)) ⟨_, _, _, rfl, inferInstance, fun L' s i y hy => ?_⟩) ?_
    · haveI := Cl.up (L := L') (b := nb) (inferInstance : Cl (cl nb _ [u.v] :: L) nb _ _) s
      haveI := RdSl.up r ((Suf.mk' [_] L).trans s)
      haveI := RdM.up rm ((Suf.mk' [_] L).trans s)
      rw [← at_eq hy]
      exact CheckDebts1_ok L' (at' us i) u nb (atx d i) us
    rintro _ _ ⟨rfl, rfl⟩
    repeat' (first
      | (apply so_vo; (· exact voA); (· rfl))
      | refine so_nil ?_
      | refine q_go ?_
      | refine sw_region ?_
      | (refine goQ ?_; intro _ _)
      | refine go1 ?_
      | (refine goU ?_; intro nu)
      | (refine goB ?_; intro nb)
      | (refine goM ?_; intro nm)
      | (refine go2 ?_ ?_ <;> intro h <;> (try simp only [Bool.not_true, Bool.not_false, decide_eq_true_eq, decide_eq_false_iff_not, Bool.not_eq_true', Bool.not_eq_false', ne_eq, Decidable.not_not, Int.not_lt, Int.not_le, not_false_eq_true] at h))
      | fail)
    · apply rq1 rfl rfl
      · exact ⟨by rw [hA] at h; simp only [checkD, h, Bool.and_false]; rfl, rfl⟩
      · (first | infer_instance | exact ⟨fun _ H => H⟩)
    have h1 := h
    rw [hA] at h1
    rw [hl] at h0
    have h0' : decide (1 ≤ (d.length : Int) ∧ (d.length : Int) ≤ 7) = true := decide_eq_true h0
    refine so_call rfl rfl rfl (every_ints _ u _ us (fun i => row7 (atx d i)) ⟨_, _, _, rfl, inferInstance, fun L' s i y hy => ?_⟩) ?_
    · haveI := RdM.up rm ((Suf.mk' [_] L).trans s)
      rw [← at_eq hy]
      exact CheckDebts2_ok L' (at' us i) (atx d i)
    rintro _ _ ⟨rfl, rfl⟩
    repeat' (first
      | (apply so_vo; (· exact voA); (· rfl))
      | refine so_nil ?_
      | refine q_go ?_
      | refine sw_region ?_
      | (refine goQ ?_; intro _ _)
      | refine go1 ?_
      | (refine goU ?_; intro nu)
      | (refine goB ?_; intro nb)
      | (refine goM ?_; intro nm)
      | (refine go2 ?_ ?_ <;> intro h <;> (try simp only [Bool.not_true, Bool.not_false, decide_eq_true_eq, decide_eq_false_iff_not, Bool.not_eq_true', Bool.not_eq_false', ne_eq, Decidable.not_not, Int.not_lt, Int.not_le, not_false_eq_true] at h))
      | fail)
    · apply rq1 rfl rfl
      · exact ⟨by rw [hB] at h; simp only [checkD, h, h1, h0']; rfl, rfl⟩
      · (first | infer_instance | exact ⟨fun _ H => H⟩)
    have h2 := h
    rw [hB] at h2
    refine sw_range (τ := Unit) (fun k _ => [(1, .pointer (some ⟨nb, 0, none⟩))]) (fun _ _ => cl nb 24 [u.v] :: L) (fun k _ => ∀ i, i < k → decide ((atx d i).getD i 0 ≠ 0) = false) () (fun i h => by omega) (by rfl) (by rfl) (by omega) (by (exact fsA)) (fun _ h => h) (fun _ _ => by rfl) (by rfl) (fun k t hlt hI _ _ => ?_) (fun t hI => ?_)
    · have hk : (atx d k).length = d.length := by
        have := List.all_eq_true.1 h1 _ (List.mem_of_getElem? (atx_get (xss := d) (i := k) (by omega)))
        simpa using this
      obtain ⟨x, hx⟩ := get_some (xs := atx d k) (k := k) (by omega)
      have e := getD_of (d := 0) hx
      repeat' (first
        | (apply so_vo; (· exact voA); (· rfl))
        | refine so_nil ?_
        | refine q_go ?_
        | refine sw_region ?_
        | (refine goQ ?_; intro _ _)
        | refine go1 ?_
        | (refine goU ?_; intro nu)
        | (refine goB ?_; intro nb)
        | (refine goM ?_; intro nm)
        | (refine go2 ?_ ?_ <;> intro h <;> (try simp only [Bool.not_true, Bool.not_false, decide_eq_true_eq, decide_eq_false_iff_not, Bool.not_eq_true', Bool.not_eq_false', ne_eq, Decidable.not_not, Int.not_lt, Int.not_le, not_false_eq_true] at h))
        | fail)
      · have h4 : ((List.range d.length).any fun k => decide ((atx d k).getD k 0 ≠ 0)) = true := by
          rw [List.any_eq_true]; exact ⟨k, List.mem_range.2 (by omega), by rw [e]; exact decide_eq_true h⟩
        apply rq1 rfl rfl
        · exact ⟨by simp only [checkD, h0', h1, h2, h4]; rfl, rfl⟩
        · (first | infer_instance | exact ⟨fun _ H => H⟩)
      · refine ⟨rfl, (), upto_succ hI (by rw [e]; exact decide_eq_false (by simpa using h)), ?_, ?_⟩
        · (exact fsA)
        · (first | exact fun _ h => h | exact HLess.sat inferInstance)
    · repeat' (first
        | (apply so_vo; (· exact voA); (· rfl))
        | refine so_nil ?_
        | refine q_go ?_
        | refine sw_region ?_
        | (refine goQ ?_; intro _ _)
        | refine go1 ?_
        | (refine goU ?_; intro nu)
        | (refine goB ?_; intro nb)
        | (refine goM ?_; intro nm)
        | (refine go2 ?_ ?_ <;> intro h <;> (try simp only [Bool.not_true, Bool.not_false, decide_eq_true_eq, decide_eq_false_iff_not, Bool.not_eq_true', Bool.not_eq_false', ne_eq, Decidable.not_not, Int.not_lt, Int.not_le, not_false_eq_true] at h))
        | fail)
      have h4 : ((List.range d.length).any fun k => decide ((atx d k).getD k 0 ≠ 0)) = false := by
        rw [List.any_eq_false]; intro i hi; rw [hI i (by rw [hl]; exact List.mem_range.1 hi)]; simp
      apply rq1 rfl rfl
      · exact ⟨by simp only [checkD, h0', h1, h2, h4]; rfl, rfl⟩
      · (first | infer_instance | exact ⟨fun _ H => H⟩)
  · apply rq1 rfl rfl
    · exact ⟨by simp only [checkD]; rw [decide_eq_false (by omega)]; rfl, rfl⟩
    · (first | infer_instance | exact ⟨fun _ H => H⟩)
end Go.Proofs.YtmhfhfhdblccjaaGreat
/-
  Debts in plain terms: nets.
-/
namespace Go.Proofs.YtmhfhfhdblccjaaGreat
set_option linter.unusedVariables false

/-- Debts that are right, but for what somebody owes to himself. -/
structure OkD (d : List (List Int)) : Prop where
  len : d.length ≤ 7
  sq : ∀ row ∈ d, row.length = d.length
  rng : ∀ row ∈ d, ∀ n ∈ row, 0 ≤ n ∧ n ≤ 1000000
theorem OkD.row {d : List (List Int)} (h : OkD d) {a : Nat} (ha : a < d.length) : (atx d a).length = d.length := h.sq _ (List.mem_of_getElem? (atx_get ha))
theorem OkD.val {d : List (List Int)} (h : OkD d) {a b : Nat} : 0 ≤ (atx d a).getD b 0 ∧ (atx d a).getD b 0 ≤ 1000000 := by
  rcases Nat.lt_or_ge a d.length with ha | ha
  · rcases Nat.lt_or_ge b (atx d a).length with hb | hb
    · have h1 := List.getElem?_eq_getElem hb
      rw [getD_of h1]
      exact h.rng _ (List.mem_of_getElem? (atx_get ha)) _ (List.getElem_mem hb)
    · simp [List.getD, List.getElem?_eq_none hb]
  · simp [atx, List.getElem?_eq_none ha]
theorem checkD_ok {d : List (List Int)} (h : checkD d = 0) : OkD d ∧ 1 ≤ d.length ∧ ∀ a, (atx d a).getD a 0 = 0 := by
  unfold checkD at h
  split at h
  · cases h
  · rename_i h1
    split at h
    · cases h
    · rename_i h2
      split at h
      · cases h
      · rename_i h3
        simp only [Bool.not_eq_true', Bool.not_eq_false, Bool.and_eq_true, decide_eq_true_eq, List.all_eq_true] at h1 h2
        refine ⟨⟨by omega, h1.2, fun row hr n hn => ?_⟩, by omega, fun a => ?_⟩
        · have := h2 row hr
          simp only [row7, List.all_eq_true, decide_eq_true_eq] at this
          exact this n hn
        · rcases Nat.lt_or_ge a d.length with ha | ha
          · have h4 : ((List.range d.length).any fun k => decide ((atx d k).getD k 0 ≠ 0)) = false := by simpa using h3
            rw [List.any_eq_false] at h4
            have := h4 a (List.mem_range.2 ha)
            simpa using this
          · simp [atx, List.getElem?_eq_none ha]
theorem checkD_of {d : List (List Int)} (h : OkD d) (h1 : 1 ≤ d.length) (h2 : ∀ a, (atx d a).getD a 0 = 0) : checkD d = 0 := by
  have e1 : decide (1 ≤ (d.length : Int) ∧ (d.length : Int) ≤ 7) = true := decide_eq_true ⟨by omega, by have := h.len; omega⟩
  have e2 : (d.all fun row => decide (row.length = d.length)) = true := by rw [List.all_eq_true]; exact fun row hr => decide_eq_true (h.sq row hr)
  have e3 : d.all row7 = true := by
    rw [List.all_eq_true]; intro row hr; simp only [row7, List.all_eq_true, decide_eq_true_eq]; exact h.rng row hr
  have e4 : ((List.range d.length).any fun k => decide ((atx d k).getD k 0 ≠ 0)) = false := by
    rw [List.any_eq_false]; intro i hi; rw [h2 i]; simp
  simp only [checkD, e1, e2, e3, e4]; rfl

/-- what one debt does to the nets -/
def netStep (a : Nat) (out : List Int) (p : Int × Nat) : List Int :=
  (out.set p.2 (out.getD p.2 0 + p.1)).set a ((out.set p.2 (out.getD p.2 0 + p.1)).getD a 0 - p.1)
def netRow (out : List Int) (p : List Int × Nat) : List Int := p.1.zipIdx.foldl (netStep p.2) out
def netM (d : List (List Int)) : List Int := d.zipIdx.foldl netRow (List.replicate d.length 0)
theorem zipIdx_take {α : Type} {xs : List α} {k : Nat} {x : α} (h : xs[k]? = some x) : (xs.take (k + 1)).zipIdx = (xs.take k).zipIdx ++ [(x, k)] := by
  rw [take_snoc h, List.zipIdx_append]
  have : (xs.take k).length = k := by have := (List.getElem?_eq_some_iff.1 h).1; simp; omega
  simp [this]
theorem fold_snoc {α β : Type} {xs : List α} {k : Nat} {x : α} (h : xs[k]? = some x) (f : β → α × Nat → β) (s : β) : (xs.take (k + 1)).zipIdx.foldl f s = f ((xs.take k).zipIdx.foldl f s) (x, k) := by
  rw [zipIdx_take h, List.foldl_append]; rfl
theorem getD_set (xs : List Int) (i j : Nat) (v : Int) : (xs.set i v).getD j 0 = if i = j ∧ j < xs.length then v else xs.getD j 0 := by
  simp only [List.getD, List.getElem?_set]
  by_cases h : i = j
  · subst h
    by_cases h2 : i < xs.length
    · simp [h2]
    · simp [h2]
  · simp [h]
theorem netStep_len (a : Nat) (out : List Int) (p : Int × Nat) : (netStep a out p).length = out.length := by simp [netStep]
theorem netStep_getD (a : Nat) (out : List Int) (p : Int × Nat) (j : Nat) (hb : p.2 < out.length) (ha : a < out.length) : (netStep a out p).getD j 0 = out.getD j 0 + (if j = p.2 then p.1 else 0) - (if j = a then p.1 else 0) := by
  unfold netStep
  rw [getD_set, getD_set, getD_set]
  simp only [List.length_set]
  by_cases h1 : a = j
  · subst h1
    by_cases h2 : p.2 = a
    · subst h2; simp [ha]
    · simp [ha, h2, Ne.symm h2]
  · by_cases h2 : p.2 = j
    · subst h2; simp [hb, h1, Ne.symm h1]
    · simp [h1, h2, Ne.symm h1, Ne.symm h2]
/-- All numbers lie within c. -/
def Bd (c : Int) (out : List Int) : Prop := ∀ j, -c ≤ out.getD j 0 ∧ out.getD j 0 ≤ c
theorem Bd.step {c : Int} {out : List Int} {a : Nat} {p : Int × Nat} (h : Bd c out) (h0 : 0 ≤ c) (ha : a < out.length) (hb : p.2 < out.length) (h1 : 0 ≤ p.1 ∧ p.1 ≤ 1000000) : Bd (c + 1000000) (netStep a out p) := fun j => by
  rw [netStep_getD _ _ _ _ hb ha]
  have := h j
  split <;> split <;> omega
theorem Bd.mono {c c' : Int} {out : List Int} (h : Bd c out) (hc : c ≤ c') : Bd c' out := fun j => by have := h j; omega
theorem Bd.zero (n : Nat) : Bd 0 (List.replicate n 0) := fun j => by simp [List.getD, List.getElem?_replicate]; split <;> simp
theorem getD_get {xs : List Int} {k : Nat} (h : k < xs.length) : xs[k]? = some (xs.getD k 0) := by
  rw [List.getElem?_eq_getElem h]; simp [List.getD, List.getElem?_eq_getElem h]
theorem netRow_len (out : List Int) (p : List Int × Nat) : (netRow out p).length = out.length := by
  unfold netRow
  have : ∀ (l : List (Int × Nat)) (o : List Int), (l.foldl (netStep p.2) o).length = o.length := by
    intro l; induction l with
    | nil => intro o; rfl
    | cons x l ih => intro o; rw [List.foldl_cons, ih, netStep_len]
  exact this _ _
theorem fold_len (l : List (List Int × Nat)) : ∀ o : List Int, (l.foldl netRow o).length = o.length := by
  induction l with
  | nil => intro o; rfl
  | cons x l ih => intro o; rw [List.foldl_cons, ih, netRow_len]
end Go.Proofs.YtmhfhfhdblccjaaGreat
/-
  Debts in plain terms: circles, and what is left without one.
-/
namespace Go.Proofs.YtmhfhfhdblccjaaGreat
set_option linter.unusedVariables false

/-- the debt of a to b, and debts with another one there -/
def dv (d : List (List Int)) (a b : Int) : Int := (atx d a.toNat).getD b.toNat 0
def setv (d : List (List Int)) (a b x : Int) : List (List Int) := d.set a.toNat ((atx d a.toNat).set b.toNat x)
/-- the one to whom the i-th one of a circle owes -/
def nxt (c : List Int) (i : Nat) : Int := c.getD ((i + 1) % c.length) 0
def byM (d : List (List Int)) (c : List Int) (k : Nat) : Int := (List.range k).foldl (fun m i => min m (dv d (c.getD i 0) (nxt c i))) 1000000
def cancelK (d : List (List Int)) (c : List Int) (k : Nat) : List (List Int) := (List.range k).foldl (fun o i => setv o (c.getD i 0) (nxt c i) (dv o (c.getD i 0) (nxt c i) - byM d c c.length)) d
def cancelM (d : List (List Int)) (c : List Int) : List (List Int) := cancelK d c c.length
theorem byM_succ (d : List (List Int)) (c : List Int) (k : Nat) : byM d c (k + 1) = min (byM d c k) (dv d (c.getD k 0) (nxt c k)) := by
  unfold byM; rw [List.range_succ, List.foldl_append]; rfl
theorem cancelK_succ (d : List (List Int)) (c : List Int) (k : Nat) : cancelK d c (k + 1) = setv (cancelK d c k) (c.getD k 0) (nxt c k) (dv (cancelK d c k) (c.getD k 0) (nxt c k) - byM d c c.length) := by
  unfold cancelK; rw [List.range_succ, List.foldl_append]; rfl
structure OkC (n : Nat) (c : List Int) : Prop where
  len : c.length ≤ 100000000
  rng : ∀ x ∈ c, 0 ≤ x ∧ x < n
theorem OkC.at {n : Nat} {c : List Int} (h : OkC n c) {i : Nat} (hi : i < c.length) : 0 ≤ c.getD i 0 ∧ c.getD i 0 < n := h.rng _ (List.mem_of_getElem? (getD_get hi))
theorem OkC.nxt {n : Nat} {c : List Int} (h : OkC n c) (hne : 0 < c.length) (i : Nat) : 0 ≤ nxt c i ∧ nxt c i < n := h.at (Nat.mod_lt _ hne)
theorem byM_rng {d : List (List Int)} (h : OkD d) (c : List Int) : ∀ k, 0 ≤ byM d c k ∧ byM d c k ≤ 1000000
  | 0 => by simp [byM]
  | k + 1 => by
    have := byM_rng h c k
    have h2 := h.val (a := (c.getD k 0).toNat) (b := (nxt c k).toNat)
    rw [byM_succ]; unfold dv; omega
/-- Rows of one length, numbers within bounds. -/
structure Sq (n : Nat) (lo hi : Int) (d : List (List Int)) : Prop where
  len : d.length = n
  sq : ∀ a, a < n → (atx d a).length = n
  rng : ∀ a b, lo ≤ (atx d a).getD b 0 ∧ (atx d a).getD b 0 ≤ hi
theorem OkD.toSq {d : List (List Int)} (h : OkD d) : Sq d.length 0 1000000 d := ⟨rfl, fun a ha => h.row ha, fun a b => h.val⟩
theorem atx_set {α : Type} (d : List (List α)) (i j : Nat) (r : List α) : atx (d.set i r) j = if i = j ∧ j < d.length then r else atx d j := by
  simp only [atx, List.getElem?_set]
  by_cases h : i = j
  · subst h
    by_cases h2 : i < d.length
    · simp [h2]
    · simp [h2]
  · simp [h]
theorem Sq.setv {n : Nat} {lo hi lo' : Int} {d : List (List Int)} (h : Sq n lo hi d) {a b x : Int} (hl : lo' ≤ lo) (hx : lo' ≤ x ∧ x ≤ hi) : Sq n lo' hi (setv d a b x) := by
  refine ⟨by simp [Proofs.YtmhfhfhdblccjaaGreat.setv, h.len], fun i hi => ?_, fun i j => ?_⟩
  · unfold Proofs.YtmhfhfhdblccjaaGreat.setv
    rw [atx_set]; split
    · rename_i e; rw [List.length_set, e.1]; exact h.sq i hi
    · exact h.sq i hi
  · unfold Proofs.YtmhfhfhdblccjaaGreat.setv
    rw [atx_set]; split
    · rename_i e
      rw [getD_set]; split
      · exact hx
      · rw [e.1]; have := h.rng i j; omega
    · have := h.rng i j; omega
theorem cancelK_sq {d : List (List Int)} (h : OkD d) (c : List Int) : ∀ k : Nat, Sq d.length (-1000000 * k) 1000000 (cancelK d c k)
  | 0 => by have := h.toSq; simpa [cancelK] using this
  | k + 1 => by
    have ih := cancelK_sq h c k
    have hb := byM_rng h c c.length
    rw [cancelK_succ]
    have hr := ih.rng (c.getD k 0).toNat (nxt c k).toNat
    exact ih.setv (by omega) ⟨by unfold dv; omega, by unfold dv; omega⟩
theorem emod_nat (k n : Nat) : (((k : Int) + 1) % (n : Int)).toNat = (k + 1) % n := by
  have : ((k : Int) + 1) % (n : Int) = (((k + 1) % n : Nat) : Int) := by rw [Int.natCast_emod]; rfl
  rw [this]; rfl
end Go.Proofs.YtmhfhfhdblccjaaGreat
/-
  Debts in plain terms: circles and walks.
-/
namespace Go.Proofs.YtmhfhfhdblccjaaGreat
set_option linter.unusedVariables false

theorem getD_app_left {xs ys : List Int} {i : Nat} (h : i < xs.length) : (xs ++ ys).getD i 0 = xs.getD i 0 := by simp [List.getD, List.getElem?_append_left h]
theorem getD_app_right {xs ys : List Int} {i : Nat} (h : xs.length ≤ i) : (xs ++ ys).getD i 0 = ys.getD (i - xs.length) 0 := by simp [List.getD, List.getElem?_append_right h]
theorem nodup_len : ∀ (n : Nat) (l : List Int), l.Nodup → (∀ x ∈ l, 0 ≤ x ∧ x < n) → l.length ≤ n
  | 0, [], _, _ => Nat.le_refl _
  | 0, x :: l, _, h => by have := h x (by simp); omega
  | n + 1, l, hn, h => by
    have h1 := nodup_len n (l.erase (n : Int)) (hn.erase _) (fun x hx => by
      have h2 := h x (List.mem_of_mem_erase hx)
      have h3 : x ≠ (n : Int) := fun e => by subst e; exact (List.Nodup.not_mem_erase hn) hx
      omega)
    have h4 := List.length_erase (a := (n : Int)) (l := l)
    split at h4 <;> omega
/-- People each of whom owes to the next one. -/
structure Path (d : List (List Int)) (l : List Int) : Prop where
  rng : ∀ x ∈ l, 0 ≤ x ∧ x < d.length
  nd : l.Nodup
  lnk : ∀ i, i + 1 < l.length → dv d (l.getD i 0) (l.getD (i + 1) 0) ≠ 0
structure IsC (d : List (List Int)) (c : List Int) : Prop where
  ne : c ≠ []
  rng : ∀ x ∈ c, 0 ≤ x ∧ x < d.length
  nd : c.Nodup
  lnk : ∀ i, i < c.length → dv d (c.getD i 0) (nxt c i) ≠ 0
def Walk (d : List (List Int)) : Nat → Int → Prop
  | 0, _ => True
  | k + 1, a => ∃ b : Int, 0 ≤ b ∧ b < d.length ∧ dv d a b ≠ 0 ∧ Walk d k b
theorem Walk.le {d : List (List Int)} : ∀ {k j : Nat} {a : Int}, j ≤ k → Walk d k a → Walk d j a
  | _, 0, _, _, _ => trivial
  | 0, j + 1, _, h, _ => by omega
  | k + 1, j + 1, a, h, ⟨b, h1, h2, h3, h4⟩ => ⟨b, h1, h2, h3, Walk.le (by omega) h4⟩
def Acyc (d : List (List Int)) : Prop := ∀ a : Int, 0 ≤ a → a < d.length → ¬ Walk d d.length a
theorem IsC.walk {d : List (List Int)} {c : List Int} (h : IsC d c) : ∀ (k i : Nat), i < c.length → Walk d k (c.getD i 0)
  | 0, i, hi => trivial
  | k + 1, i, hi => by
    have hj : (i + 1) % c.length < c.length := Nat.mod_lt _ (by omega)
    have hr := h.rng _ (List.mem_of_getElem? (getD_get hj))
    exact ⟨nxt c i, hr.1, hr.2, h.lnk i hi, h.walk k _ hj⟩
theorem IsC.not_acyc {d : List (List Int)} {c : List Int} (h : IsC d c) : ¬ Acyc d := fun ha => by
  have hpos := List.length_pos_iff.2 h.ne
  have hr := h.rng _ (List.mem_of_getElem? (getD_get hpos))
  exact ha _ hr.1 hr.2 (h.walk _ 0 hpos)
theorem IsC.two {d : List (List Int)} {c : List Int} (h : IsC d c) (hz : ∀ a, (atx d a).getD a 0 = 0) : 2 ≤ c.length := by
  have hpos := List.length_pos_iff.2 h.ne
  rcases Nat.lt_or_ge c.length 2 with h2 | h2
  · have h1 := h.lnk 0 hpos
    have e : nxt c 0 = c.getD 0 0 := by unfold nxt; rw [show c.length = 1 by omega]
    rw [e] at h1
    exact absurd (hz _) h1
  · exact h2
theorem Path.snoc {d : List (List Int)} {l : List Int} (h : Path d l) {x : Int} (hx : 0 ≤ x ∧ x < d.length) (hn : x ∉ l) (hl : l ≠ [] → dv d (l.getD (l.length - 1) 0) x ≠ 0) : Path d (l ++ [x]) := by
  refine ⟨fun y hy => ?_, ?_, fun i hi => ?_⟩
  · rcases List.mem_append.1 hy with hy | hy
    · exact h.rng y hy
    · simp at hy; subst hy; exact hx
  · rw [List.nodup_append]; exact ⟨h.nd, by simp, fun a ha b hb => by simp at hb; subst hb; exact fun e => hn (e ▸ ha)⟩
  · simp at hi
    rcases Nat.lt_or_ge (i + 1) l.length with h1 | h1
    · have := h.lnk i h1
      rw [getD_app_left (by omega), getD_app_left h1]; exact this
    · have e : i + 1 = l.length := by omega
      rw [getD_app_left (by omega), getD_app_right (by omega), e, Nat.sub_self]
      have := hl (fun e2 => by subst e2; simp at e)
      rw [show l.length - 1 = i by omega] at this
      exact this
/-- what comes behind the place i of a path whose last one owes to the one there -/
theorem Path.drop {d : List (List Int)} {l : List Int} (h : Path d l) {i : Nat} (hi : i < l.length) (hl : dv d (l.getD (l.length - 1) 0) (l.getD i 0) ≠ 0) : IsC d (l.drop i) := by
  refine ⟨fun e => by have := congrArg List.length e; simp at this; omega, fun x hx => h.rng x (List.mem_of_mem_drop hx), h.nd.sublist (List.drop_sublist _ _), fun j hj => ?_⟩
  simp at hj
  have e1 : (l.drop i).getD j 0 = l.getD (i + j) 0 := by simp [List.getD, List.getElem?_drop]
  rw [e1]
  unfold nxt
  rw [List.length_drop]
  rcases Nat.lt_or_ge (j + 1) (l.length - i) with h1 | h1
  · rw [Nat.mod_eq_of_lt h1]
    have e2 : (l.drop i).getD (j + 1) 0 = l.getD (i + j + 1) 0 := by simp [List.getD, List.getElem?_drop, Nat.add_assoc]
    rw [e2]; exact h.lnk (i + j) (by omega)
  · rw [show j + 1 = l.length - i by omega, Nat.mod_self]
    have e2 : (l.drop i).getD 0 0 = l.getD i 0 := by simp [List.getD, List.getElem?_drop]
    rw [e2, show i + j = l.length - 1 by omega]; exact hl
theorem Path.len {d : List (List Int)} {l : List Int} (h : Path d l) : l.length ≤ d.length := nodup_len _ _ h.nd h.rng
end Go.Proofs.YtmhfhfhdblccjaaGreat
/-
  Nets.
-/
namespace Go.Proofs.YtmhfhfhdblccjaaGreat
open Go Go.RowKit
set_option maxHeartbeats 4000000
set_option linter.unusedVariables false
set_option linter.unusedSimpArgs false
set_option maxRecDepth 20000
attribute [local irreducible] SW SO FnC retQ SA VO

theorem net_ok (L : List SP) (u : SlV) (us : List SlV) (d : List (List Int)) [r : RdSl L u.v SlV encSl us] [rm : RdM L us Int encInt d] (hd : OkD d) : FnC Tryz.prog 46 [u.v] L (fun v M => ∃ u' : SlV, v = u'.v ∧ M = ownSl 3 encInt u'.v (netM d) :: L) := by
  refine FnC.pure rm.len fun hl => ?_
  have hd7 := hd.len
  refine fn_start (sz := 42) Tryz.func46 rfl rfl rfl ?_
  repeat' (first
    | (apply so_vo; (· exact voA); (· rfl))
    | refine so_nil ?_
    | refine q_go ?_
    | refine sw_region ?_
    | (refine goQ ?_; intro _ _)
    | refine go1 ?_
    | (refine goU ?_; intro nu)
    | (refine goB ?_; intro nb)
    | (refine goM ?_; intro nm)
    | (refine go2 ?_ ?_ <;> intro h <;> (try simp only [Bool.not_true, Bool.not_false, decide_eq_true_eq, decide_eq_false_iff_not, Bool.not_eq_true', Bool.not_eq_false', ne_eq, Decidable.not_not, Int.not_lt, Int.not_le, not_false_eq_true] at h))
    | fail)
  refine sw_range (τ := Unit) (fun k _ => [(3, nu.v), (11, u.v)]) (fun k _ => ownSl 3 encInt nu.v ((d.take k).zipIdx.foldl netRow (List.replicate us.length 0)) :: L) (fun k _ => Bd (7000000 * k) ((d.take k).zipIdx.foldl netRow (List.replicate us.length 0))) () (by exact Bd.zero _) (by rfl) (by rfl) (by omega) (by (exact fsA)) (fun _ h => h) (fun _ _ => by rfl) (by rfl) (fun ka ta hlta hIa _ _ => ?_) (fun ta hIa => ?_)
  · have hrow := hd.row (a := ka) (by omega)
    obtain ⟨o, ho⟩ : ∃ o, o = (d.take ka).zipIdx.foldl netRow (List.replicate us.length 0) := ⟨_, rfl⟩
    have hol : o.length = d.length := by rw [ho, fold_len]; simp [hl]
    rw [← ho] at hIa
    simp only [← ho]
    repeat' (first
      | (apply so_vo; (· exact voA); (· rfl))
      | refine so_nil ?_
      | refine q_go ?_
      | refine sw_region ?_
      | (refine goQ ?_; intro _ _)
      | refine go1 ?_
      | (refine goU ?_; intro nu)
      | (refine goB ?_; intro nb)
      | (refine goM ?_; intro nm)
      | (refine go2 ?_ ?_ <;> intro h <;> (try simp only [Bool.not_true, Bool.not_false, decide_eq_true_eq, decide_eq_false_iff_not, Bool.not_eq_true', Bool.not_eq_false', ne_eq, Decidable.not_not, Int.not_lt, Int.not_le, not_false_eq_true] at h))
      | fail)
    refine sw_range (τ := Unit) (fun k _ => [(3, nu.v), (4, .int .i64 ka), (18, (at' us ka).v), (11, u.v), (12, .int .i64 us.length), (13, .int .i64 ka)]) (fun k _ => ownSl 3 encInt nu.v (((atx d ka).take k).zipIdx.foldl (netStep ka) o) :: L) (fun k _ => (((atx d ka).take k).zipIdx.foldl (netStep ka) o).length = d.length ∧ Bd (7000000 * ka + 1000000 * k) (((atx d ka).take k).zipIdx.foldl (netStep ka) o)) () ⟨hol, by simpa using hIa⟩ (by rfl) (by rfl) (by omega) (by (exact fsA)) (fun _ h => h) (fun _ _ => by rfl) (by rfl) (fun k t hlt hI _ _ => ?_) (fun t hI => ?_)
    · obtain ⟨q, hq⟩ : ∃ q, q = ((atx d ka).take k).zipIdx.foldl (netStep ka) o := ⟨_, rfl⟩
      obtain ⟨x, hx⟩ := get_some hlt
      have hxr := hd.rng _ (List.mem_of_getElem? (atx_get (xss := d) (i := ka) (by omega))) _ (List.mem_of_getElem? hx)
      have hs := fold_snoc hx (netStep ka) o
      rw [← hq] at hI hs
      obtain ⟨hq1, hq2⟩ := hI
      simp only [← hq]
      have g1 := getD_get (xs := q) (k := k) (by omega)
      have g2 := getD_get (xs := q.set k (q.getD k 0 + x)) (k := ka) (by simp; omega)
      have b1 := hq2 k
      have b2 := hq2 ka
      have b3 := getD_set q k ka (q.getD k 0 + x)
      have b4 : -1000000000 ≤ (q.set k (q.getD k 0 + x)).getD ka 0 ∧ (q.set k (q.getD k 0 + x)).getD ka 0 ≤ 1000000000 := by rw [b3]; split <;> omega
      repeat' (first
        | (apply so_vo; (· exact voA); (· rfl))
        | refine so_nil ?_
        | refine q_go ?_
        | refine sw_region ?_
        | (refine goQ ?_; intro _ _)
        | refine go1 ?_
        | (refine goU ?_; intro nu)
        | (refine goB ?_; intro nb)
        | (refine goM ?_; intro nm)
        | (refine go2 ?_ ?_ <;> intro h <;> (try simp only [Bool.not_true, Bool.not_false, decide_eq_true_eq, decide_eq_false_iff_not, Bool.not_eq_true', Bool.not_eq_false', ne_eq, Decidable.not_not, Int.not_lt, Int.not_le, not_false_eq_true] at h))
        | fail)
      refine ⟨rfl, (), ⟨by rw [hs, netStep_len]; exact hq1, by rw [hs]; exact (hq2.step (by omega) (by omega) (by simp; omega) hxr).mono (by omega)⟩, ?_, fun w H => ?_⟩
      · (exact fsA)
      · rw [hs]; exact H
    · repeat' (first
        | (apply so_vo; (· exact voA); (· rfl))
        | refine so_nil ?_
        | refine q_go ?_
        | refine sw_region ?_
        | (refine goQ ?_; intro _ _)
        | refine go1 ?_
        | (refine goU ?_; intro nu)
        | (refine goB ?_; intro nb)
        | (refine goM ?_; intro nm)
        | (refine go2 ?_ ?_ <;> intro h <;> (try simp only [Bool.not_true, Bool.not_false, decide_eq_true_eq, decide_eq_false_iff_not, Bool.not_eq_true', Bool.not_eq_false', ne_eq, Decidable.not_not, Int.not_lt, Int.not_le, not_false_eq_true] at h))
        | fail)
      have e1 : (atx d ka).take (atx d ka).length = atx d ka := List.take_of_length_le (Nat.le_refl _)
      have e2 := fold_snoc (atx_get (xss := d) (i := ka) (by omega)) netRow (List.replicate us.length 0)
      rw [← ho] at e2
      rw [e1] at hI
      refine ⟨rfl, (), by rw [e2]; exact hI.2.mono (by omega), ?_, fun w H => by rw [e1] at H; rw [e2]; exact H⟩
      (exact fsA)
  · repeat' (first
      | (apply so_vo; (· exact voA); (· rfl))
      | refine so_nil ?_
      | refine q_go ?_
      | refine sw_region ?_
      | (refine goQ ?_; intro _ _)
      | refine go1 ?_
      | (refine goU ?_; intro nu)
      | (refine goB ?_; intro nb)
      | (refine goM ?_; intro nm)
      | (refine go2 ?_ ?_ <;> intro h <;> (try simp only [Bool.not_true, Bool.not_false, decide_eq_true_eq, decide_eq_false_iff_not, Bool.not_eq_true', Bool.not_eq_false', ne_eq, Decidable.not_not, Int.not_lt, Int.not_le, not_false_eq_true] at h))
      | fail)
    have e3 : (d.take us.length).zipIdx.foldl netRow (List.replicate us.length 0) = netM d := by rw [List.take_of_length_le (by omega), hl]; rfl
    simp only [e3]
    apply rq1 rfl rfl
    · exact ⟨nu, rfl, rfl⟩
    · (first | infer_instance | exact ⟨fun _ H => H⟩)
theorem nets_ok (L : List SP) (u : SlV) (us : List SlV) (d : List (List Int)) [r : RdSl L u.v SlV encSl us] [rm : RdM L us Int encInt d] (hd : OkD d) (hz : ∀ a, (atx d a).getD a 0 = 0) : FnC Tryz.prog 9 [u.v] L (fun v M => ∃ u' : SlV, v = u'.v ∧ M = ownSl 3 encInt u'.v (netM d) :: L) := by
  refine FnC.pure rm.len fun hl => ?_
  have hd7 := hd.len
  refine fn_start (sz := 46) Tryz.func9 rfl rfl rfl ?_
  repeat' (first
    | (apply so_vo; (· exact voA); (· rfl))
    | refine so_nil ?_
    | refine q_go ?_
    | refine sw_region ?_
    | (refine goQ ?_; intro _ _)
    | refine go1 ?_
    | (refine goU ?_; intro nu)
    | (refine goB ?_; intro nb)
    | (refine goM ?_; intro nm)
    | (refine go2 ?_ ?_ <;> intro h <;> (try simp only [Bool.not_true, Bool.not_false, decide_eq_true_eq, decide_eq_false_iff_not, Bool.not_eq_true', Bool.not_eq_false', ne_eq, Decidable.not_not, Int.not_lt, Int.not_le, not_false_eq_true] at h))
    | fail)
  refine sw_range (τ := Unit) (fun k _ => [(3, nu.v), (11, u.v)]) (fun k _ => ownSl 3 encInt nu.v ((d.take k).zipIdx.foldl netRow (List.replicate us.length 0)) :: L) (fun k _ => Bd (7000000 * k) ((d.take k).zipIdx.foldl netRow (List.replicate us.length 0))) () (by exact Bd.zero _) (by rfl) (by rfl) (by omega) (by (exact fsA)) (fun _ h => h) (fun _ _ => by rfl) (by rfl) (fun ka ta hlta hIa _ _ => ?_) (fun ta hIa => ?_)
  · have hrow := hd.row (a := ka) (by omega)
    obtain ⟨o, ho⟩ : ∃ o, o = (d.take ka).zipIdx.foldl netRow (List.replicate us.length 0) := ⟨_, rfl⟩
    have hol : o.length = d.length := by rw [ho, fold_len]; simp [hl]
    rw [← ho] at hIa
    simp only [← ho]
    repeat' (first
      | (apply so_vo; (· exact voA); (· rfl))
      | refine so_nil ?_
      | refine q_go ?_
      | refine sw_region ?_
      | (refine goQ ?_; intro _ _)
      | refine go1 ?_
      | (refine goU ?_; intro nu)
      | (refine goB ?_; intro nb)
      | (refine goM ?_; intro nm)
      | (refine go2 ?_ ?_ <;> intro h <;> (try simp only [Bool.not_true, Bool.not_false, decide_eq_true_eq, decide_eq_false_iff_not, Bool.not_eq_true', Bool.not_eq_false', ne_eq, Decidable.not_not, Int.not_lt, Int.not_le, not_false_eq_true] at h))
      | fail)
    refine sw_range (τ := Unit) (fun k _ => [(3, nu.v), (4, .int .i64 ka), (18, (at' us ka).v), (11, u.v), (12, .int .i64 us.length), (13, .int .i64 ka)]) (fun k _ => ownSl 3 encInt nu.v (((atx d ka).take k).zipIdx.foldl (netStep ka) o) :: L) (fun k _ => (((atx d ka).take k).zipIdx.foldl (netStep ka) o).length = d.length ∧ Bd (7000000 * ka + 1000000 * k) (((atx d ka).take k).zipIdx.foldl (netStep ka) o)) () ⟨hol, by simpa using hIa⟩ (by rfl) (by rfl) (by omega) (by (exact fsA)) (fun _ h => h) (fun _ _ => by rfl) (by rfl) (fun k t hlt hI _ _ => ?_) (fun t hI => ?_)
    · obtain ⟨q, hq⟩ : ∃ q, q = ((atx d ka).take k).zipIdx.foldl (netStep ka) o := ⟨_, rfl⟩
      obtain ⟨x, hx⟩ := get_some hlt
      have hxr := hd.rng _ (List.mem_of_getElem? (atx_get (xss := d) (i := ka) (by omega))) _ (List.mem_of_getElem? hx)
      have hs := fold_snoc hx (netStep ka) o
      rw [← hq] at hI hs
      obtain ⟨hq1, hq2⟩ := hI
      simp only [← hq]
      have g1 := getD_get (xs := q) (k := k) (by omega)
      have g2 := getD_get (xs := q) (k := ka) (by omega)
      have hxz : k = ka → x = 0 := fun e => by subst e; have := hz k; rw [getD_of hx] at this; exact this
      have g3 : (q.set k (q.getD k 0 + x))[ka]? = some (q.getD ka 0) := by
        rw [getD_get (by simp; omega), getD_set]
        by_cases e : k = ka
        · have := hxz e; subst e; simp [this]
        · simp [e]
      have b1 := hq2 k
      have b2 := hq2 ka
      have es : netStep ka q (x, k) = (q.set k (q.getD k 0 + x)).set ka (q.getD ka 0 - x) := by
        unfold netStep
        have : (q.set k (q.getD k 0 + x)).getD ka 0 = q.getD ka 0 := getD_of g3
        rw [this]
      have hne : q ≠ [] := fun e => by rw [e] at hq1; simp at hq1; omega
      refine sw_pure (φ := Hdr nu.v q.length) (fun w H => (RdSl.own 3 Int encInt nu.v q L).hdr w H hne) fun hh => ?_
      repeat' (first
        | (apply so_vo; (· exact voA); (· rfl))
        | refine so_nil ?_
        | refine q_go ?_
        | refine sw_region ?_
        | (refine goQ ?_; intro _ _)
        | refine go1 ?_
        | (refine goU ?_; intro nu)
        | (refine goB ?_; intro nb)
        | (refine goM ?_; intro nm)
        | (refine go2 ?_ ?_ <;> intro h <;> (try simp only [Bool.not_true, Bool.not_false, decide_eq_true_eq, decide_eq_false_iff_not, Bool.not_eq_true', Bool.not_eq_false', ne_eq, Decidable.not_not, Int.not_lt, Int.not_le, not_false_eq_true] at h))
        | fail)
      refine sa_start0 mixed (by kernel_rfl) ?_
      apply sa_pure 0 rfl (by kernel_rfl) rfl
      · (first | (refine vo_indexAddr_hd rfl rfl (by assumption) ?_; omega) | (refine vo_indexAddr_hdi rfl rfl (by assumption) ?_; omega) | ((exact voA)))
      apply sa_pure 1 rfl (by kernel_rfl) rfl
      · (first | (refine vo_indexAddr_hd rfl rfl (by assumption) ?_; omega) | (refine vo_indexAddr_hdi rfl rfl (by assumption) ?_; omega) | ((exact voA)))
      apply sa_pure 2 rfl (by kernel_rfl) rfl
      · (first | (refine vo_indexAddr_hd rfl rfl (by assumption) ?_; omega) | (refine vo_indexAddr_hdi rfl rfl (by assumption) ?_; omega) | ((exact voA)))
      apply sa_pure 3 rfl (by kernel_rfl) rfl
      · (first | (refine vo_indexAddr_hd rfl rfl (by assumption) ?_; omega) | (refine vo_indexAddr_hdi rfl rfl (by assumption) ?_; omega) | ((exact voA)))
      apply sa_pure 4 rfl (by kernel_rfl) rfl
      · (first | (refine vo_indexAddr_hd rfl rfl (by assumption) ?_; omega) | (refine vo_indexAddr_hdi rfl rfl (by assumption) ?_; omega) | ((exact voA)))
      apply sa_pure 5 rfl (by kernel_rfl) rfl
      · (first | (refine vo_indexAddr_hd rfl rfl (by assumption) ?_; omega) | (refine vo_indexAddr_hdi rfl rfl (by assumption) ?_; omega) | ((exact voA)))
      apply sa_pure 6 rfl (by kernel_rfl) rfl
      · (first | (refine vo_indexAddr_hd rfl rfl (by assumption) ?_; omega) | (refine vo_indexAddr_hdi rfl rfl (by assumption) ?_; omega) | ((exact voA)))
      apply sa_pure 8 rfl (by kernel_rfl) rfl
      · (first | (refine vo_indexAddr_hd rfl rfl (by assumption) ?_; omega) | (refine vo_indexAddr_hdi rfl rfl (by assumption) ?_; omega) | ((exact voA)))
      apply sa_pure 10 rfl (by kernel_rfl) rfl
      · (first | (refine vo_indexAddr_hd rfl rfl (by assumption) ?_; omega) | (refine vo_indexAddr_hdi rfl rfl (by assumption) ?_; omega) | ((exact voA)))
      apply sa_pure 11 rfl (by kernel_rfl) rfl
      · (first | (refine vo_indexAddr_hd rfl rfl (by assumption) ?_; omega) | (refine vo_indexAddr_hdi rfl rfl (by assumption) ?_; omega) | ((exact voA)))
      apply sa_pure 12 rfl (by kernel_rfl) rfl
      · (first | (refine vo_indexAddr_hd rfl rfl (by assumption) ?_; omega) | (refine vo_indexAddr_hdi rfl rfl (by assumption) ?_; omega) | ((exact voA)))
      apply sa_pure 14 rfl (by kernel_rfl) rfl
      · (first | (refine vo_indexAddr_hd rfl rfl (by assumption) ?_; omega) | (refine vo_indexAddr_hdi rfl rfl (by assumption) ?_; omega) | ((exact voA)))
      refine sa_fork0 7 13 rfl rfl (by kernel_rfl) ?_ ?_
      · repeat' (first
          | (apply so_vo; (· exact voA); (· rfl))
          | refine so_nil ?_
          | refine q_go ?_
          | refine sw_region ?_
          | (refine goQ ?_; intro _ _)
          | refine go1 ?_
          | (refine goU ?_; intro nu)
          | (refine goB ?_; intro nb)
          | (refine goM ?_; intro nm)
          | (refine go2 ?_ ?_ <;> intro h <;> (try simp only [Bool.not_true, Bool.not_false, decide_eq_true_eq, decide_eq_false_iff_not, Bool.not_eq_true', Bool.not_eq_false', ne_eq, Decidable.not_not, Int.not_lt, Int.not_le, not_false_eq_true] at h))
          | fail)
        refine ⟨rfl, rfl, ?_⟩
        apply sa_pure 9 rfl (by kernel_rfl) rfl
        · (first | (refine vo_indexAddr_hd rfl rfl (by assumption) ?_; omega) | (refine vo_indexAddr_hdi rfl rfl (by assumption) ?_; omega) | ((exact voA)))
        refine sa_chain0 13 rfl (by kernel_rfl) ?_
        repeat' (first
          | (apply so_vo; (· exact voA); (· rfl))
          | refine so_nil ?_
          | refine q_go ?_
          | refine sw_region ?_
          | (refine goQ ?_; intro _ _)
          | refine go1 ?_
          | (refine goU ?_; intro nu)
          | (refine goB ?_; intro nb)
          | (refine goM ?_; intro nm)
          | (refine go2 ?_ ?_ <;> intro h <;> (try simp only [Bool.not_true, Bool.not_false, decide_eq_true_eq, decide_eq_false_iff_not, Bool.not_eq_true', Bool.not_eq_false', ne_eq, Decidable.not_not, Int.not_lt, Int.not_le, not_false_eq_true] at h))
          | fail)
        refine ⟨rfl, rfl, ?_⟩
        apply sa_pure 15 rfl (by kernel_rfl) rfl
        · (first | (refine vo_indexAddr_hd rfl rfl (by assumption) ?_; omega) | (refine vo_indexAddr_hdi rfl rfl (by assumption) ?_; omega) | ((exact voA)))
        apply sa_pure 16 rfl (by kernel_rfl) rfl
        · (first | (refine vo_indexAddr_hd rfl rfl (by assumption) ?_; omega) | (refine vo_indexAddr_hdi rfl rfl (by assumption) ?_; omega) | ((exact voA)))
        refine sa_chain0 17 rfl (by kernel_rfl) ?_
        repeat' (first
          | (apply so_vo; (· exact voA); (· rfl))
          | refine so_nil ?_
          | refine q_go ?_
          | refine sw_region ?_
          | (refine goQ ?_; intro _ _)
          | refine go1 ?_
          | (refine goU ?_; intro nu)
          | (refine goB ?_; intro nb)
          | (refine goM ?_; intro nm)
          | (refine go2 ?_ ?_ <;> intro h <;> (try simp only [Bool.not_true, Bool.not_false, decide_eq_true_eq, decide_eq_false_iff_not, Bool.not_eq_true', Bool.not_eq_false', ne_eq, Decidable.not_not, Int.not_lt, Int.not_le, not_false_eq_true] at h))
          | fail)
        refine ⟨rfl, rfl, ?_⟩
        apply sa_pure 18 rfl (by kernel_rfl) rfl
        · (first | (refine vo_indexAddr_hd rfl rfl (by assumption) ?_; omega) | (refine vo_indexAddr_hdi rfl rfl (by assumption) ?_; omega) | ((exact voA)))
        refine sa_chain0 19 rfl (by kernel_rfl) ?_
        repeat' (first
          | (apply so_vo; (· exact voA); (· rfl))
          | refine so_nil ?_
          | refine q_go ?_
          | refine sw_region ?_
          | (refine goQ ?_; intro _ _)
          | refine go1 ?_
          | (refine goU ?_; intro nu)
          | (refine goB ?_; intro nb)
          | (refine goM ?_; intro nm)
          | (refine go2 ?_ ?_ <;> intro h <;> (try simp only [Bool.not_true, Bool.not_false, decide_eq_true_eq, decide_eq_false_iff_not, Bool.not_eq_true', Bool.not_eq_false', ne_eq, Decidable.not_not, Int.not_lt, Int.not_le, not_false_eq_true] at h))
          | fail)
        refine ⟨rfl, rfl, ?_⟩
        refine sa_rest (T := []) rfl (by kernel_rfl) ?_
        repeat' (first
          | (apply so_vo; (· exact voA); (· rfl))
          | refine so_nil ?_
          | refine q_go ?_
          | refine sw_region ?_
          | (refine goQ ?_; intro _ _)
          | refine go1 ?_
          | (refine goU ?_; intro nu)
          | (refine goB ?_; intro nb)
          | (refine goM ?_; intro nm)
          | (refine go2 ?_ ?_ <;> intro h <;> (try simp only [Bool.not_true, Bool.not_false, decide_eq_true_eq, decide_eq_false_iff_not, Bool.not_eq_true', Bool.not_eq_false', ne_eq, Decidable.not_not, Int.not_lt, Int.not_le, not_false_eq_true] at h))
          | fail)
        (refine ⟨rfl, (), ⟨by rw [hs, netStep_len]; exact hq1, by rw [hs]; exact (hq2.step (by omega) (by omega) (by simp; omega) hxr).mono (by omega)⟩, ?_, fun w H => ?_⟩; (· (exact fsA)); (· rw [hs, es]; exact H))
      · repeat' (first
          | (apply so_vo; (· exact voA); (· rfl))
          | refine so_nil ?_
          | refine q_go ?_
          | refine sw_region ?_
          | (refine goQ ?_; intro _ _)
          | refine go1 ?_
          | (refine goU ?_; intro nu)
          | (refine goB ?_; intro nb)
          | (refine goM ?_; intro nm)
          | (refine go2 ?_ ?_ <;> intro h <;> (try simp only [Bool.not_true, Bool.not_false, decide_eq_true_eq, decide_eq_false_iff_not, Bool.not_eq_true', Bool.not_eq_false', ne_eq, Decidable.not_not, Int.not_lt, Int.not_le, not_false_eq_true] at h))
          | fail)
        refine ⟨rfl, rfl, ?_⟩
        apply sa_pure 15 rfl (by kernel_rfl) rfl
        · (first | (refine vo_indexAddr_hd rfl rfl (by assumption) ?_; omega) | (refine vo_indexAddr_hdi rfl rfl (by assumption) ?_; omega) | ((exact voA)))
        refine sa_chain0 7 rfl (by kernel_rfl) ?_
        repeat' (first
          | (apply so_vo; (· exact voA); (· rfl))
          | refine so_nil ?_
          | refine q_go ?_
          | refine sw_region ?_
          | (refine goQ ?_; intro _ _)
          | refine go1 ?_
          | (refine goU ?_; intro nu)
          | (refine goB ?_; intro nb)
          | (refine goM ?_; intro nm)
          | (refine go2 ?_ ?_ <;> intro h <;> (try simp only [Bool.not_true, Bool.not_false, decide_eq_true_eq, decide_eq_false_iff_not, Bool.not_eq_true', Bool.not_eq_false', ne_eq, Decidable.not_not, Int.not_lt, Int.not_le, not_false_eq_true] at h))
          | fail)
        refine ⟨rfl, rfl, ?_⟩
        apply sa_pure 9 rfl (by kernel_rfl) rfl
        · (first | (refine vo_indexAddr_hd rfl rfl (by assumption) ?_; omega) | (refine vo_indexAddr_hdi rfl rfl (by assumption) ?_; omega) | ((exact voA)))
        apply sa_pure 16 rfl (by kernel_rfl) rfl
        · (first | (refine vo_indexAddr_hd rfl rfl (by assumption) ?_; omega) | (refine vo_indexAddr_hdi rfl rfl (by assumption) ?_; omega) | ((exact voA)))
        refine sa_chain0 17 rfl (by kernel_rfl) ?_
        repeat' (first
          | (apply so_vo; (· exact voA); (· rfl))
          | refine so_nil ?_
          | refine q_go ?_
          | refine sw_region ?_
          | (refine goQ ?_; intro _ _)
          | refine go1 ?_
          | (refine goU ?_; intro nu)
          | (refine goB ?_; intro nb)
          | (refine goM ?_; intro nm)
          | (refine go2 ?_ ?_ <;> intro h <;> (try simp only [Bool.not_true, Bool.not_false, decide_eq_true_eq, decide_eq_false_iff_not, Bool.not_eq_true', Bool.not_eq_false', ne_eq, Decidable.not_not, Int.not_lt, Int.not_le, not_false_eq_true] at h))
          | fail)
        refine ⟨rfl, rfl, ?_⟩
        apply sa_pure 18 rfl (by kernel_rfl) rfl
        · (first | (refine vo_indexAddr_hd rfl rfl (by assumption) ?_; omega) | (refine vo_indexAddr_hdi rfl rfl (by assumption) ?_; omega) | ((exact voA)))
        refine sa_chain0 19 rfl (by kernel_rfl) ?_
        repeat' (first
          | (apply so_vo; (· exact voA); (· rfl))
          | refine so_nil ?_
          | refine q_go ?_
          | refine sw_region ?_
          | (refine goQ ?_; intro _ _)
          | refine go1 ?_
          | (refine goU ?_; intro nu)
          | (refine goB ?_; intro nb)
          | (refine goM ?_; intro nm)
          | (refine go2 ?_ ?_ <;> intro h <;> (try simp only [Bool.not_true, Bool.not_false, decide_eq_true_eq, decide_eq_false_iff_not, Bool.not_eq_true', Bool.not_eq_false', ne_eq, Decidable.not_not, Int.not_lt, Int.not_le, not_false_eq_true] at h))
          | fail)
        refine ⟨rfl, rfl, ?_⟩
        refine sa_rest (T := []) rfl (by kernel_rfl) ?_
        repeat' (first
          | (apply so_vo; (· exact voA); (· rfl))
          | refine so_nil ?_
          | refine q_go ?_
          | refine sw_region ?_
          | (refine goQ ?_; intro _ _)
          | refine go1 ?_
          | (refine goU ?_; intro nu)
          | (refine goB ?_; intro nb)
          | (refine goM ?_; intro nm)
          | (refine go2 ?_ ?_ <;> intro h <;> (try simp only [Bool.not_true, Bool.not_false, decide_eq_true_eq, decide_eq_false_iff_not, Bool.not_eq_true', Bool.not_eq_false', ne_eq, Decidable.not_not, Int.not_lt, Int.not_le, not_false_eq_true] at h))
          | fail)
        (refine ⟨rfl, (), ⟨by rw [hs, netStep_len]; exact hq1, by rw [hs]; exact (hq2.step (by omega) (by omega) (by simp; omega) hxr).mono (by omega)⟩, ?_, fun w H => ?_⟩; (· (exact fsA)); (· rw [hs, es]; exact H))
    · repeat' (first
        | (apply so_vo; (· exact voA); (· rfl))
        | refine so_nil ?_
        | refine q_go ?_
        | refine sw_region ?_
        | (refine goQ ?_; intro _ _)
        | refine go1 ?_
        | (refine goU ?_; intro nu)
        | (refine goB ?_; intro nb)
        | (refine goM ?_; intro nm)
        | (refine go2 ?_ ?_ <;> intro h <;> (try simp only [Bool.not_true, Bool.not_false, decide_eq_true_eq, decide_eq_false_iff_not, Bool.not_eq_true', Bool.not_eq_false', ne_eq, Decidable.not_not, Int.not_lt, Int.not_le, not_false_eq_true] at h))
        | fail)
      have e1 : (atx d ka).take (atx d ka).length = atx d ka := List.take_of_length_le (Nat.le_refl _)
      have e2 := fold_snoc (atx_get (xss := d) (i := ka) (by omega)) netRow (List.replicate us.length 0)
      rw [← ho] at e2
      rw [e1] at hI
      refine ⟨rfl, (), by rw [e2]; exact hI.2.mono (by omega), ?_, fun w H => by rw [e1] at H; rw [e2]; exact H⟩
      (exact fsA)
  · repeat' (first
      | (apply so_vo; (· exact voA); (· rfl))
      | refine so_nil ?_
      | refine q_go ?_
      | refine sw_region ?_
      | (refine goQ ?_; intro _ _)
      | refine go1 ?_
      | (refine goU ?_; intro nu)
      | (refine goB ?_; intro nb)
      | (refine goM ?_; intro nm)
      | (refine go2 ?_ ?_ <;> intro h <;> (try simp only [Bool.not_true, Bool.not_false, decide_eq_true_eq, decide_eq_false_iff_not, Bool.not_eq_true', Bool.not_eq_false', ne_eq, Decidable.not_not, Int.not_lt, Int.not_le, not_false_eq_true] at h))
      | fail)
    have e3 : (d.take us.length).zipIdx.foldl netRow (List.replicate us.length 0) = netM d := by rw [List.take_of_length_le (by omega), hl]; rfl
    simp only [e3]
    apply rq1 rfl rfl
    · exact ⟨nu, rfl, rfl⟩
    · (first | infer_instance | exact ⟨fun _ H => H⟩)
end Go.Proofs.YtmhfhfhdblccjaaGreat
/-
  Net, copies of debts, circles that are cancelled.
-/
namespace Go.Proofs.YtmhfhfhdblccjaaGreat
open Go Go.RowKit
set_option maxHeartbeats 4000000
set_option linter.unusedVariables false
set_option linter.unusedSimpArgs false
set_option maxRecDepth 20000
/-- The result of what is asked of debts: nothing if they are not right. -/
def okOr {β : Type} (d : List (List Int)) (x : List β) : List β := if checkD d = 0 then x else []
theorem HLess.nilOwn (T : TypeId) {α : Type} (enc : Enc α) (L : List SP) : Less L (ownSl T enc (.slice none 0 0) [] :: L) := ⟨fun w H => own_nil none H⟩
attribute [local irreducible] SW SO FnC retQ SA VO

theorem Net_ok (L : List SP) (u : SlV) (us : List SlV) (d : List (List Int)) [r : RdSl L u.v SlV encSl us] [rm : RdM L us Int encInt d] : FnC Tryz.prog 33 [u.v] L (fun v M => ∃ u' : SlV, v = .tuple #[u'.v, .int .i64 (checkD d)] ∧ M = ownSl 3 encInt u'.v (okOr d (netM d)) :: L) := by
  refine fn_start (sz := 12) Tryz.func33 rfl rfl rfl ?_
  repeat' (first
    | (apply so_vo; (· exact voA); (· rfl))
    | refine so_nil ?_
    | refine q_go ?_
    | refine sw_region ?_
    | (refine goQ ?_; intro _ _)
    | refine go1 ?_
    | (refine goU ?_; intro nu)
    | (refine goB ?_; intro nb)
    | (refine goM ?_; intro nm)
    | (refine go2 ?_ ?_ <;> intro h <;> (try simp only [Bool.not_true, Bool.not_false, decide_eq_true_eq, decide_eq_false_iff_not, Bool.not_eq_true', Bool.not_eq_false', ne_eq, Decidable.not_not, Int.not_lt, Int.not_le, not_false_eq_true] at h))
    | fail)
  refine so_call rfl rfl rfl (CheckDebts_ok L u us d) ?_
  rintro _ _ ⟨rfl, rfl⟩
  repeat' (first
    | (apply so_vo; (· exact voA); (· rfl))
    | refine so_nil ?_
    | refine q_go ?_
    | refine sw_region ?_
    | (refine goQ ?_; intro _ _)
    | refine go1 ?_
    | (refine goU ?_; intro nu)
    | (refine goB ?_; intro nb)
    | (refine goM ?_; intro nm)
    | (refine go2 ?_ ?_ <;> intro h <;> (try simp only [Bool.not_true, Bool.not_false, decide_eq_true_eq, decide_eq_false_iff_not, Bool.not_eq_true', Bool.not_eq_false', ne_eq, Decidable.not_not, Int.not_lt, Int.not_le, not_false_eq_true] at h))
    | fail)
  · apply rq2 rfl rfl rfl
    · exact ⟨nilS, rfl, by rw [okOr, if_neg h]⟩
    · exact HLess.nilOwn _ _ _
  · refine so_call rfl rfl rfl (net_ok _ u us d (checkD_ok h).1) ?_
    rintro _ _ ⟨u', rfl, rfl⟩
    repeat' (first
      | (apply so_vo; (· exact voA); (· rfl))
      | refine so_nil ?_
      | refine q_go ?_
      | refine sw_region ?_
      | (refine goQ ?_; intro _ _)
      | refine go1 ?_
      | (refine goU ?_; intro nu)
      | (refine goB ?_; intro nb)
      | (refine goM ?_; intro nm)
      | (refine go2 ?_ ?_ <;> intro h <;> (try simp only [Bool.not_true, Bool.not_false, decide_eq_true_eq, decide_eq_false_iff_not, Bool.not_eq_true', Bool.not_eq_false', ne_eq, Decidable.not_not, Int.not_lt, Int.not_le, not_false_eq_true] at h))
      | fail)
    apply rq2 rfl rfl rfl
    · exact ⟨u', by rw [h], by rw [okOr, if_pos h]⟩
    · (first | infer_instance | exact ⟨fun _ H => H⟩)
theorem clone_ok (L : List SP) (u : SlV) (us : List SlV) (xss : List (List Int)) [r : RdSl L u.v SlV encSl us] [rm : RdM L us Int encInt xss] (hn : xss.length ≤ 100000000) (hr : ∀ xs ∈ xss, xs.length ≤ 100000000) : FnC Tryz.prog 77 [u.v] L (fun v M => ∃ (u' : SlV) (us' : List SlV), v = u'.v ∧ us'.length = xss.length ∧ M = ownSl 28 encSl u'.v us' :: rows 3 encInt us' xss :: L) := by
  refine FnC.pure rm.len fun hlen => ?_
  refine fn_start (sz := 23) Tryz.func77 rfl rfl rfl ?_
  repeat' (first
    | (apply so_vo; (· exact voA); (· rfl))
    | refine so_nil ?_
    | refine q_go ?_
    | refine sw_region ?_
    | (refine goQ ?_; intro _ _)
    | refine go1 ?_
    | (refine goU ?_; intro nu)
    | (refine goB ?_; intro nb)
    | (refine goM ?_; intro nm)
    | (refine go2 ?_ ?_ <;> intro h <;> (try simp only [Bool.not_true, Bool.not_false, decide_eq_true_eq, decide_eq_false_iff_not, Bool.not_eq_true', Bool.not_eq_false', ne_eq, Decidable.not_not, Int.not_lt, Int.not_le, not_false_eq_true] at h))
    | fail)
  refine sw_mem (L' := ownSl 28 encSl nu.v (List.replicate us.length nilS) :: rows 3 encInt [] [] :: L) (fun w H => Holds.cons_mono (fun _ h => rows_nil h) H) ?_
  refine sw_range (τ := List SlV) (fun k _ => [(0, u.v), (3, nu.v), (9, u.v)]) (fun k us1 => ownSl 28 encSl nu.v us1 :: rows 3 encInt (us1.take k) (xss.take k) :: L) (fun k us1 => us1.length = us.length) _ (by simp) (by rfl) (by rfl) (by omega) (by (exact fsA)) (fun _ h => h) (fun _ _ => by rfl) (by rfl) (fun k t hlt hI _ _ => ?_) (fun t hI => ?_)
  · have h1 := atx_get (xss := xss) (i := k) (by omega)
    repeat' (first
      | (apply so_vo; (· exact voA); (· rfl))
      | refine so_nil ?_
      | refine q_go ?_
      | refine sw_region ?_
      | (refine goQ ?_; intro _ _)
      | refine go1 ?_
      | (refine goU ?_; intro nu)
      | (refine goB ?_; intro nb)
      | (refine goM ?_; intro nm)
      | (refine go2 ?_ ?_ <;> intro h <;> (try simp only [Bool.not_true, Bool.not_false, decide_eq_true_eq, decide_eq_false_iff_not, Bool.not_eq_true', Bool.not_eq_false', ne_eq, Decidable.not_not, Int.not_lt, Int.not_le, not_false_eq_true] at h))
      | fail)
    refine so_call rfl rfl rfl (Clone_int _ (at' us k) _ (hr _ (List.mem_of_getElem? h1))) ?_
    rintro _ _ ⟨u2, rfl, rfl⟩
    repeat' (first
      | (apply so_vo; (· exact voA); (· rfl))
      | refine so_nil ?_
      | refine q_go ?_
      | refine sw_region ?_
      | (refine goQ ?_; intro _ _)
      | refine go1 ?_
      | (refine goU ?_; intro nu)
      | (refine goB ?_; intro nb)
      | (refine goM ?_; intro nm)
      | (refine go2 ?_ ?_ <;> intro h <;> (try simp only [Bool.not_true, Bool.not_false, decide_eq_true_eq, decide_eq_false_iff_not, Bool.not_eq_true', Bool.not_eq_false', ne_eq, Decidable.not_not, Int.not_lt, Int.not_le, not_false_eq_true] at h))
      | fail)
    refine ⟨rfl, t.set k u2, by simp [hI], ?_, fun w H => ?_⟩
    · (exact fsA)
    · rw [take_set_snoc (by omega), atx_snoc (by omega)]
      exact Holds.cons_mono (fun _ h => rows_push h) (Holds.swap H)
  · repeat' (first
      | (apply so_vo; (· exact voA); (· rfl))
      | refine so_nil ?_
      | refine q_go ?_
      | refine sw_region ?_
      | (refine goQ ?_; intro _ _)
      | refine go1 ?_
      | (refine goU ?_; intro nu)
      | (refine goB ?_; intro nb)
      | (refine goM ?_; intro nm)
      | (refine go2 ?_ ?_ <;> intro h <;> (try simp only [Bool.not_true, Bool.not_false, decide_eq_true_eq, decide_eq_false_iff_not, Bool.not_eq_true', Bool.not_eq_false', ne_eq, Decidable.not_not, Int.not_lt, Int.not_le, not_false_eq_true] at h))
      | fail)
    have e1 : t.take us.length = t := List.take_of_length_le (by omega)
    have e2 : xss.take us.length = xss := List.take_of_length_le (by omega)
    simp only [e1, e2]
    apply rq1 rfl rfl
    · exact ⟨nu, t, rfl, by omega, rfl⟩
    · (first | infer_instance | exact ⟨fun _ H => H⟩)
theorem cancel_ok (L : List SP) (u uc : SlV) (us : List SlV) (d : List (List Int)) (c : List Int) [r : RdSl L u.v SlV encSl us] [rm : RdM L us Int encInt d] [rc : RdSl L uc.v Int encInt c] (hd : OkD d) (hc : OkC d.length c) : FnC Tryz.prog 76 [u.v, uc.v] L (fun v M => ∃ (u' : SlV) (us' : List SlV), v = u'.v ∧ us'.length = d.length ∧ M = ownSl 28 encSl u'.v us' :: rows 3 encInt us' (cancelM d c) :: L) := by
  refine FnC.pure rm.len fun hl => ?_
  have hd7 := hd.len
  have hcl := hc.len
  refine fn_start (sz := 64) Tryz.func76 rfl rfl rfl ?_
  repeat' (first
    | (apply so_vo; (· exact voA); (· rfl))
    | refine so_nil ?_
    | refine q_go ?_
    | refine sw_region ?_
    | (refine goQ ?_; intro _ _)
    | refine go1 ?_
    | (refine goU ?_; intro nu)
    | (refine goB ?_; intro nb)
    | (refine goM ?_; intro nm)
    | (refine go2 ?_ ?_ <;> intro h <;> (try simp only [Bool.not_true, Bool.not_false, decide_eq_true_eq, decide_eq_false_iff_not, Bool.not_eq_true', Bool.not_eq_false', ne_eq, Decidable.not_not, Int.not_lt, Int.not_le, not_false_eq_true] at h))
    | fail)
  refine so_call rfl rfl rfl (clone_ok _ u us d (by omega) (fun xs hx => by have := hd.sq xs hx; omega)) ?_
  rintro _ _ ⟨un, usn, rfl, hun, rfl⟩
  repeat' (first
    | (apply so_vo; (· exact voA); (· rfl))
    | refine so_nil ?_
    | refine q_go ?_
    | refine sw_region ?_
    | (refine goQ ?_; intro _ _)
    | refine go1 ?_
    | (refine goU ?_; intro nu)
    | (refine goB ?_; intro nb)
    | (refine goM ?_; intro nm)
    | (refine go2 ?_ ?_ <;> intro h <;> (try simp only [Bool.not_true, Bool.not_false, decide_eq_true_eq, decide_eq_false_iff_not, Bool.not_eq_true', Bool.not_eq_false', ne_eq, Decidable.not_not, Int.not_lt, Int.not_le, not_false_eq_true] at h))
    | fail)
  refine sw_range (τ := Unit) (fun k _ => [(0, u.v), (1, uc.v), (5, un.v), (6, .int .i64 (byM d c k)), (13, uc.v)]) (fun _ _ => ownSl 28 encSl un.v usn :: rows 3 encInt usn d :: L) (fun k _ => True) () trivial (by rfl) (by rfl) (by omega) (by (exact fsA)) (fun _ h => h) (fun _ _ => by rfl) (by rfl) (fun k t hlt hI _ _ => ?_) (fun t hI => ?_)
  · have h1 := hc.at hlt
    have h2 := hc.nxt (by omega) k
    have hx := getD_get hlt
    have e1 := emod_nat k c.length
    have h3 := Int.emod_nonneg ((k : Int) + 1) (b := (c.length : Int)) (by omega)
    have h4 := Int.emod_lt_of_pos ((k : Int) + 1) (b := (c.length : Int)) (by omega)
    have hy : c[(((k : Int) + 1) % (c.length : Int)).toNat]? = some (nxt c k) := by rw [e1]; exact getD_get (Nat.mod_lt _ (by omega))
    have h5 := hd.row (a := (c.getD k 0).toNat) (by omega)
    have hz := getD_get (xs := atx d (c.getD k 0).toNat) (k := (nxt c k).toNat) (by omega)
    repeat' (first
      | (apply so_vo; (· exact voA); (· rfl))
      | refine so_nil ?_
      | refine q_go ?_
      | refine sw_region ?_
      | (refine goQ ?_; intro _ _)
      | refine go1 ?_
      | (refine goU ?_; intro nu)
      | (refine goB ?_; intro nb)
      | (refine goM ?_; intro nm)
      | (refine go2 ?_ ?_ <;> intro h <;> (try simp only [Bool.not_true, Bool.not_false, decide_eq_true_eq, decide_eq_false_iff_not, Bool.not_eq_true', Bool.not_eq_false', ne_eq, Decidable.not_not, Int.not_lt, Int.not_le, not_false_eq_true] at h))
      | fail)
    refine sa_start [17] mixed (by kernel_rfl) ?_
    apply sa_stat 0 rfl (by kernel_rfl) rfl
    · (exact voA)
    apply sa_stat 1 rfl (by kernel_rfl) rfl
    · (exact voA)
    apply sa_stat 2 rfl (by kernel_rfl) rfl
    · (exact voA)
    apply sa_stat 3 rfl (by kernel_rfl) rfl
    · (exact voA)
    apply sa_stat 4 rfl (by kernel_rfl) rfl
    · (exact voA)
    apply sa_stat 5 rfl (by kernel_rfl) rfl
    · (exact voA)
    apply sa_stat 6 rfl (by kernel_rfl) rfl
    · (exact voA)
    apply sa_stat 7 rfl (by kernel_rfl) rfl
    · (exact voA)
    apply sa_stat 8 rfl (by kernel_rfl) rfl
    · (exact voA)
    apply sa_stat 9 rfl (by kernel_rfl) rfl
    · (exact voA)
    apply sa_stat 10 rfl (by kernel_rfl) rfl
    · (exact voA)
    apply sa_stat 11 rfl (by kernel_rfl) rfl
    · (exact voA)
    apply sa_stat 12 rfl (by kernel_rfl) rfl
    · (exact voA)
    apply sa_stat 13 rfl (by kernel_rfl) rfl
    · (exact voA)
    apply sa_stat 14 rfl (by kernel_rfl) rfl
    · (exact voA)
    refine sa_chainL 15 rfl (by kernel_rfl) ?_
    repeat' (first
      | (apply so_vo; (· exact voA); (· rfl))
      | refine so_nil ?_
      | refine q_go ?_
      | refine sw_region ?_
      | (refine goQ ?_; intro _ _)
      | refine go1 ?_
      | (refine goU ?_; intro nu)
      | (refine goB ?_; intro nb)
      | (refine goM ?_; intro nm)
      | (refine go2 ?_ ?_ <;> intro h <;> (try simp only [Bool.not_true, Bool.not_false, decide_eq_true_eq, decide_eq_false_iff_not, Bool.not_eq_true', Bool.not_eq_false', ne_eq, Decidable.not_not, Int.not_lt, Int.not_le, not_false_eq_true] at h))
      | fail)
    refine ⟨rfl, rfl, HLess.sat inferInstance, ?_⟩
    refine sa_chainL 16 rfl (by kernel_rfl) ?_
    (refine so_call rfl rfl rfl (least_ok _ _ nu _) ?_; rintro _ _ ⟨rfl, rfl⟩)
    repeat' (first
      | (apply so_vo; (· exact voA); (· rfl))
      | refine so_nil ?_
      | refine q_go ?_
      | refine sw_region ?_
      | (refine goQ ?_; intro _ _)
      | refine go1 ?_
      | (refine goU ?_; intro nu)
      | (refine goB ?_; intro nb)
      | (refine goM ?_; intro nm)
      | (refine go2 ?_ ?_ <;> intro h <;> (try simp only [Bool.not_true, Bool.not_false, decide_eq_true_eq, decide_eq_false_iff_not, Bool.not_eq_true', Bool.not_eq_false', ne_eq, Decidable.not_not, Int.not_lt, Int.not_le, not_false_eq_true] at h))
      | fail)
    refine ⟨rfl, rfl, HLess.sat inferInstance, ?_⟩
    refine sa_rest (T' := [_]) rfl (by kernel_rfl) ?_
    repeat' (first
      | (apply so_vo; (· exact voA); (· rfl))
      | refine so_nil ?_
      | refine q_go ?_
      | refine sw_region ?_
      | (refine goQ ?_; intro _ _)
      | refine go1 ?_
      | (refine goU ?_; intro nu)
      | (refine goB ?_; intro nb)
      | (refine goM ?_; intro nm)
      | (refine go2 ?_ ?_ <;> intro h <;> (try simp only [Bool.not_true, Bool.not_false, decide_eq_true_eq, decide_eq_false_iff_not, Bool.not_eq_true', Bool.not_eq_false', ne_eq, Decidable.not_not, Int.not_lt, Int.not_le, not_false_eq_true] at h))
      | fail)
    have e2 : List.foldl min (byM d c k) [(atx d (c.getD k 0).toNat).getD (nxt c k).toNat 0] = byM d c (k + 1) := by rw [byM_succ]; rfl
    rw [e2]
    refine ⟨rfl, (), trivial, ?_, ?_⟩
    · (exact fsA)
    · (first | exact fun _ h => h | exact HLess.sat inferInstance)
  · repeat' (first
      | (apply so_vo; (· exact voA); (· rfl))
      | refine so_nil ?_
      | refine q_go ?_
      | refine sw_region ?_
      | (refine goQ ?_; intro _ _)
      | refine go1 ?_
      | (refine goU ?_; intro nu)
      | (refine goB ?_; intro nb)
      | (refine goM ?_; intro nm)
      | (refine go2 ?_ ?_ <;> intro h <;> (try simp only [Bool.not_true, Bool.not_false, decide_eq_true_eq, decide_eq_false_iff_not, Bool.not_eq_true', Bool.not_eq_false', ne_eq, Decidable.not_not, Int.not_lt, Int.not_le, not_false_eq_true] at h))
      | fail)
    refine sw_range (τ := Unit) (fun k _ => [(1, uc.v), (5, un.v), (6, .int .i64 (byM d c c.length)), (38, uc.v)]) (fun k _ => ownSl 28 encSl un.v usn :: rows 3 encInt usn (cancelK d c k) :: L) (fun k _ => True) () trivial (by rfl) (by rfl) (by omega) (by (exact fsA)) (fun _ h => h) (fun _ _ => by rfl) (by rfl) (fun k t hlt hI _ _ => ?_) (fun t hI => ?_)
    · have h1 := hc.at hlt
      have h2 := hc.nxt (by omega) k
      have hx := getD_get hlt
      have e1 := emod_nat k c.length
      have h3 := Int.emod_nonneg ((k : Int) + 1) (b := (c.length : Int)) (by omega)
      have h4 := Int.emod_lt_of_pos ((k : Int) + 1) (b := (c.length : Int)) (by omega)
      have hy : c[(((k : Int) + 1) % (c.length : Int)).toNat]? = some (nxt c k) := by rw [e1]; exact getD_get (Nat.mod_lt _ (by omega))
      have hs := cancelK_sq hd c k
      have h5 := hs.sq (c.getD k 0).toNat (by omega)
      have h6 := hs.len
      have h7 := hs.rng (c.getD k 0).toNat (nxt c k).toNat
      have h8 := byM_rng hd c c.length
      have hz := getD_get (xs := atx (cancelK d c k) (c.getD k 0).toNat) (k := (nxt c k).toNat) (by omega)
      repeat' (first
        | (apply so_vo; (· exact voA); (· rfl))
        | refine so_nil ?_
        | refine q_go ?_
        | refine sw_region ?_
        | (refine goQ ?_; intro _ _)
        | refine go1 ?_
        | (refine goU ?_; intro nu)
        | (refine goB ?_; intro nb)
        | (refine goM ?_; intro nm)
        | (refine go2 ?_ ?_ <;> intro h <;> (try simp only [Bool.not_true, Bool.not_false, decide_eq_true_eq, decide_eq_false_iff_not, Bool.not_eq_true', Bool.not_eq_false', ne_eq, Decidable.not_not, Int.not_lt, Int.not_le, not_false_eq_true] at h))
        | fail)
      refine sa_start [16, 17] mixed (by kernel_rfl) ?_
      apply sa_stat 0 rfl (by kernel_rfl) rfl
      · (exact voA)
      apply sa_stat 1 rfl (by kernel_rfl) rfl
      · (exact voA)
      apply sa_stat 2 rfl (by kernel_rfl) rfl
      · (exact voA)
      apply sa_stat 3 rfl (by kernel_rfl) rfl
      · (exact voA)
      apply sa_stat 4 rfl (by kernel_rfl) rfl
      · (exact voA)
      apply sa_stat 5 rfl (by kernel_rfl) rfl
      · (exact voA)
      apply sa_stat 6 rfl (by kernel_rfl) rfl
      · (exact voA)
      apply sa_stat 7 rfl (by kernel_rfl) rfl
      · (exact voA)
      apply sa_stat 8 rfl (by kernel_rfl) rfl
      · (exact voA)
      apply sa_stat 9 rfl (by kernel_rfl) rfl
      · (exact voA)
      apply sa_stat 10 rfl (by kernel_rfl) rfl
      · (exact voA)
      apply sa_stat 11 rfl (by kernel_rfl) rfl
      · (exact voA)
      apply sa_stat 12 rfl (by kernel_rfl) rfl
      · (exact voA)
      apply sa_stat 13 rfl (by kernel_rfl) rfl
      · (exact voA)
      apply sa_stat 14 rfl (by kernel_rfl) rfl
      · (exact voA)
      apply sa_stat 15 rfl (by kernel_rfl) rfl
      · (exact voA)
      refine sa_rest (T' := [_, _]) rfl (by kernel_rfl) ?_
      repeat' (first
        | (apply so_vo; (· exact voA); (· rfl))
        | refine so_nil ?_
        | refine q_go ?_
        | refine sw_region ?_
        | (refine goQ ?_; intro _ _)
        | refine go1 ?_
        | (refine goU ?_; intro nu)
        | (refine goB ?_; intro nb)
        | (refine goM ?_; intro nm)
        | (refine go2 ?_ ?_ <;> intro h <;> (try simp only [Bool.not_true, Bool.not_false, decide_eq_true_eq, decide_eq_false_iff_not, Bool.not_eq_true', Bool.not_eq_false', ne_eq, Decidable.not_not, Int.not_lt, Int.not_le, not_false_eq_true] at h))
        | fail)
      refine ⟨rfl, (), trivial, ?_, fun w H => by rw [cancelK_succ]; exact H⟩
      (exact fsA)
    · repeat' (first
        | (apply so_vo; (· exact voA); (· rfl))
        | refine so_nil ?_
        | refine q_go ?_
        | refine sw_region ?_
        | (refine goQ ?_; intro _ _)
        | refine go1 ?_
        | (refine goU ?_; intro nu)
        | (refine goB ?_; intro nb)
        | (refine goM ?_; intro nm)
        | (refine go2 ?_ ?_ <;> intro h <;> (try simp only [Bool.not_true, Bool.not_false, decide_eq_true_eq, decide_eq_false_iff_not, Bool.not_eq_true', Bool.not_eq_false', ne_eq, Decidable.not_not, Int.not_lt, Int.not_le, not_false_eq_true] at h))
        | fail)
      apply rq1 rfl rfl
      · exact ⟨un, usn, rfl, hun, rfl⟩
      · (first | infer_instance | exact ⟨fun _ H => H⟩)
end Go.Proofs.YtmhfhfhdblccjaaGreat
