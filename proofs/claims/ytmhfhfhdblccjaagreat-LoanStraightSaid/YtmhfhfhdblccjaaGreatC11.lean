/-
  How a payment is booked.
-/
import Derived.Test.YtmhfhfhdblccjaaGreatC10
import Derived.Test.YtmhfhfhdblccjaaGreatC9
namespace Go.Proofs.YtmhfhfhdblccjaaGreat
open Go Go.RowKit
set_option linter.unusedVariables false
set_option linter.unusedSimpArgs false
set_option maxRecDepth 100000
set_option maxHeartbeats 4000000
theorem desk_get (l : Led) (v : LedV) (bk : List Int) {i : Nat} (hi : i < bk.length) : (deskC l v bk)[7 + ((i : Nat) : Int).toNat]? = some (.int .i64 (bk.getD i 0)) := by
  rw [Int.toNat_natCast, Nat.add_comm 7 i]
  show (bk.map keyInt)[i]? = _
  rw [List.getElem?_map, getD_get hi]; rfl
theorem desk_set (l : Led) (v : LedV) (bk : List Int) {i : Nat} (hi : i < bk.length) (x : Int) : SetC (deskC l v bk) (7 + ((i : Nat) : Int).toNat) (.int .i64 x) (deskC l v (bk.set i x)) := by
  rw [Int.toNat_natCast, Nat.add_comm 7 i]
  refine ⟨by simp; omega, ?_⟩
  show _ :: _ :: _ :: _ :: _ :: _ :: _ :: (bk.map keyInt).set i (keyInt x) = _
  rw [← List.map_set]
attribute [local irreducible] SW SO FnC retQ SA VO
theorem book1_ok (L : List SP) (b2 b3 bd : Nat) (v : LedV) (l : Led) (bk : List Int) (p : P3) [c2 : Cl L b2 112 [.pointer (some ⟨bd, 0, none⟩)]] [c3 : Cl L b3 80 (enc3.cells p)] [cd : Cl L bd 132 (deskC l v bk)] [k : RdL L v l] (i : Nat) (hi : i < l.loans.length) : FnC Tryz.prog 130 [.int .i64 i, .pointer (some ⟨b2, 0, none⟩), .pointer (some ⟨b3, 0, none⟩)] L (fun r M => r = .bool (counts l p i) ∧ M = L) := by
  have h2 := ln_get hi
  refine fn_start (sz := 31) Tryz.func130 rfl rfl rfl ?_
  repeat' (first
    | (apply so_vo; (· exact voA); (· rfl))
    | refine so_nil ?_
    | refine q_go ?_
    | refine sw_region ?_
    | (refine goQ ?_; intro _ _)
    | refine go1 ?_
    | (refine goU ?_; intro nu)
    | (refine goB ?_; intro nb)
    | (refine goM ?_; intro nm)
    | (refine go2 ?_ ?_ <;> intro h <;> (try simp only [Bool.not_true, Bool.not_false, decide_eq_true_eq, decide_eq_false_iff_not, Bool.not_eq_true', Bool.not_eq_false', ne_eq, Decidable.not_not, Int.not_lt, Int.not_le, not_false_eq_true] at h))
    | fail)
  by_cases e1 : (ln l i).1 = p.1
  · refine sa_start [26] mixed (by kernel_rfl) ?_
    apply sa_stat 0 rfl (by kernel_rfl) rfl
    · (exact voA)
    apply sa_stat 1 rfl (by kernel_rfl) rfl
    · (exact voA)
    apply sa_stat 2 rfl (by kernel_rfl) rfl
    · (exact voA)
    apply sa_stat 3 rfl (by kernel_rfl) rfl
    · (exact voA)
    apply sa_stat 4 rfl (by kernel_rfl) rfl
    · (exact voA)
    apply sa_stat 5 rfl (by kernel_rfl) rfl
    · (exact voA)
    apply sa_stat 6 rfl (by kernel_rfl) rfl
    · (exact voA)
    apply sa_stat 7 rfl (by kernel_rfl) rfl
    · (exact voA)
    apply sa_stat 8 rfl (by kernel_rfl) rfl
    · (exact voA)
    apply sa_stat 9 rfl (by kernel_rfl) rfl
    · (exact voA)
    apply sa_stat 10 rfl (by kernel_rfl) rfl
    · (exact voA)
    apply sa_stat 11 rfl (by kernel_rfl) rfl
    · (exact voA)
    apply sa_stat 12 rfl (by kernel_rfl) rfl
    · (exact voA)
    first | (apply sa_stat_on 13 rfl rfl rfl rfl (by kernel_rfl) rfl; (· ((exact voA)))) | (refine sa_stat_off 13 rfl rfl (.inl ⟨rfl, rfl⟩) (by kernel_rfl) rfl ?_) | (refine sa_stat_off 13 rfl rfl (.inr rfl) (by kernel_rfl) rfl ?_) | (apply sa_stat_on 13 rfl rfl rfl ?_ (by kernel_rfl) rfl; (· ((exact voA))); (rotate_left 1); (· (exact decA))) | (refine sa_stat_off 13 rfl rfl (.inl ⟨rfl, ?_⟩) (by kernel_rfl) rfl ?_; (· (exact decA)))
    first | (apply sa_stat_on 14 rfl rfl rfl rfl (by kernel_rfl) rfl; (· ((exact voA)))) | (refine sa_stat_off 14 rfl rfl (.inl ⟨rfl, rfl⟩) (by kernel_rfl) rfl ?_) | (refine sa_stat_off 14 rfl rfl (.inr rfl) (by kernel_rfl) rfl ?_) | (apply sa_stat_on 14 rfl rfl rfl ?_ (by kernel_rfl) rfl; (· ((exact voA))); (rotate_left 1); (· (exact decA))) | (refine sa_stat_off 14 rfl rfl (.inl ⟨rfl, ?_⟩) (by kernel_rfl) rfl ?_; (· (exact decA)))
    first | (apply sa_stat_on 15 rfl rfl rfl rfl (by kernel_rfl) rfl; (· ((exact voA)))) | (refine sa_stat_off 15 rfl rfl (.inl ⟨rfl, rfl⟩) (by kernel_rfl) rfl ?_) | (refine sa_stat_off 15 rfl rfl (.inr rfl) (by kernel_rfl) rfl ?_) | (apply sa_stat_on 15 rfl rfl rfl ?_ (by kernel_rfl) rfl; (· ((exact voA))); (rotate_left 1); (· (exact decA))) | (refine sa_stat_off 15 rfl rfl (.inl ⟨rfl, ?_⟩) (by kernel_rfl) rfl ?_; (· (exact decA)))
    first | (apply sa_stat_on 16 rfl rfl rfl rfl (by kernel_rfl) rfl; (· ((exact voA)))) | (refine sa_stat_off 16 rfl rfl (.inl ⟨rfl, rfl⟩) (by kernel_rfl) rfl ?_) | (refine sa_stat_off 16 rfl rfl (.inr rfl) (by kernel_rfl) rfl ?_) | (apply sa_stat_on 16 rfl rfl rfl ?_ (by kernel_rfl) rfl; (· ((exact voA))); (rotate_left 1); (· (exact decA))) | (refine sa_stat_off 16 rfl rfl (.inl ⟨rfl, ?_⟩) (by kernel_rfl) rfl ?_; (· (exact decA)))
    first | (apply sa_stat_on 17 rfl rfl rfl rfl (by kernel_rfl) rfl; (· ((exact voA)))) | (refine sa_stat_off 17 rfl rfl (.inl ⟨rfl, rfl⟩) (by kernel_rfl) rfl ?_) | (refine sa_stat_off 17 rfl rfl (.inr rfl) (by kernel_rfl) rfl ?_) | (apply sa_stat_on 17 rfl rfl rfl ?_ (by kernel_rfl) rfl; (· ((exact voA))); (rotate_left 1); (· (exact decA))) | (refine sa_stat_off 17 rfl rfl (.inl ⟨rfl, ?_⟩) (by kernel_rfl) rfl ?_; (· (exact decA)))
    first | (apply sa_stat_on 18 rfl rfl rfl rfl (by kernel_rfl) rfl; (· ((exact voA)))) | (refine sa_stat_off 18 rfl rfl (.inl ⟨rfl, rfl⟩) (by kernel_rfl) rfl ?_) | (refine sa_stat_off 18 rfl rfl (.inr rfl) (by kernel_rfl) rfl ?_) | (apply sa_stat_on 18 rfl rfl rfl ?_ (by kernel_rfl) rfl; (· ((exact voA))); (rotate_left 1); (· (exact decA))) | (refine sa_stat_off 18 rfl rfl (.inl ⟨rfl, ?_⟩) (by kernel_rfl) rfl ?_; (· (exact decA)))
    first | (apply sa_stat_on 19 rfl rfl rfl rfl (by kernel_rfl) rfl; (· ((exact voA)))) | (refine sa_stat_off 19 rfl rfl (.inl ⟨rfl, rfl⟩) (by kernel_rfl) rfl ?_) | (refine sa_stat_off 19 rfl rfl (.inr rfl) (by kernel_rfl) rfl ?_) | (apply sa_stat_on 19 rfl rfl rfl ?_ (by kernel_rfl) rfl; (· ((exact voA))); (rotate_left 1); (· (exact decA))) | (refine sa_stat_off 19 rfl rfl (.inl ⟨rfl, ?_⟩) (by kernel_rfl) rfl ?_; (· (exact decA)))
    first | (apply sa_stat_on 20 rfl rfl rfl rfl (by kernel_rfl) rfl; (· ((exact voA)))) | (refine sa_stat_off 20 rfl rfl (.inl ⟨rfl, rfl⟩) (by kernel_rfl) rfl ?_) | (refine sa_stat_off 20 rfl rfl (.inr rfl) (by kernel_rfl) rfl ?_) | (apply sa_stat_on 20 rfl rfl rfl ?_ (by kernel_rfl) rfl; (· ((exact voA))); (rotate_left 1); (· (exact decA))) | (refine sa_stat_off 20 rfl rfl (.inl ⟨rfl, ?_⟩) (by kernel_rfl) rfl ?_; (· (exact decA)))
    first | (apply sa_stat_on 21 rfl rfl rfl rfl (by kernel_rfl) rfl; (· ((exact voA)))) | (refine sa_stat_off 21 rfl rfl (.inl ⟨rfl, rfl⟩) (by kernel_rfl) rfl ?_) | (refine sa_stat_off 21 rfl rfl (.inr rfl) (by kernel_rfl) rfl ?_) | (apply sa_stat_on 21 rfl rfl rfl ?_ (by kernel_rfl) rfl; (· ((exact voA))); (rotate_left 1); (· (exact decA))) | (refine sa_stat_off 21 rfl rfl (.inl ⟨rfl, ?_⟩) (by kernel_rfl) rfl ?_; (· (exact decA)))
    first | (apply sa_stat_on 22 rfl rfl rfl rfl (by kernel_rfl) rfl; (· ((exact voA)))) | (refine sa_stat_off 22 rfl rfl (.inl ⟨rfl, rfl⟩) (by kernel_rfl) rfl ?_) | (refine sa_stat_off 22 rfl rfl (.inr rfl) (by kernel_rfl) rfl ?_) | (apply sa_stat_on 22 rfl rfl rfl ?_ (by kernel_rfl) rfl; (· ((exact voA))); (rotate_left 1); (· (exact decA))) | (refine sa_stat_off 22 rfl rfl (.inl ⟨rfl, ?_⟩) (by kernel_rfl) rfl ?_; (· (exact decA)))
    first | (apply sa_stat_on 23 rfl rfl rfl rfl (by kernel_rfl) rfl; (· ((exact voA)))) | (refine sa_stat_off 23 rfl rfl (.inl ⟨rfl, rfl⟩) (by kernel_rfl) rfl ?_) | (refine sa_stat_off 23 rfl rfl (.inr rfl) (by kernel_rfl) rfl ?_) | (apply sa_stat_on 23 rfl rfl rfl ?_ (by kernel_rfl) rfl; (· ((exact voA))); (rotate_left 1); (· (exact decA))) | (refine sa_stat_off 23 rfl rfl (.inl ⟨rfl, ?_⟩) (by kernel_rfl) rfl ?_; (· (exact decA)))
    first | (apply sa_stat_on 24 rfl rfl rfl rfl (by kernel_rfl) rfl; (· ((exact voA)))) | (refine sa_stat_off 24 rfl rfl (.inl ⟨rfl, rfl⟩) (by kernel_rfl) rfl ?_) | (refine sa_stat_off 24 rfl rfl (.inr rfl) (by kernel_rfl) rfl ?_) | (apply sa_stat_on 24 rfl rfl rfl ?_ (by kernel_rfl) rfl; (· ((exact voA))); (rotate_left 1); (· (exact decA))) | (refine sa_stat_off 24 rfl rfl (.inl ⟨rfl, ?_⟩) (by kernel_rfl) rfl ?_; (· (exact decA)))
    apply sa_stat 25 rfl (by kernel_rfl) rfl
    · (exact voA)
    refine sa_rest (T' := [_]) rfl (by kernel_rfl) ?_
    repeat' (first
      | (apply so_vo; (· exact voA); (· rfl))
      | refine so_nil ?_
      | refine q_go ?_
      | refine sw_region ?_
      | (refine goQ ?_; intro _ _)
      | refine go1 ?_
      | (refine goU ?_; intro nu)
      | (refine goB ?_; intro nb)
      | (refine goM ?_; intro nm)
      | (refine go2 ?_ ?_ <;> intro h <;> (try simp only [Bool.not_true, Bool.not_false, decide_eq_true_eq, decide_eq_false_iff_not, Bool.not_eq_true', Bool.not_eq_false', ne_eq, Decidable.not_not, Int.not_lt, Int.not_le, not_false_eq_true] at h))
      | fail)
    apply rq1 rfl rfl
    · exact ⟨by unfold counts; rw [decide_eq_true e1]; rfl, rfl⟩
    · (first | infer_instance | exact ⟨fun _ H => H⟩)
  · refine sa_start [26] mixed (by kernel_rfl) ?_
    apply sa_stat 0 rfl (by kernel_rfl) rfl
    · (exact voA)
    apply sa_stat 1 rfl (by kernel_rfl) rfl
    · (exact voA)
    apply sa_stat 2 rfl (by kernel_rfl) rfl
    · (exact voA)
    apply sa_stat 3 rfl (by kernel_rfl) rfl
    · (exact voA)
    apply sa_stat 4 rfl (by kernel_rfl) rfl
    · (exact voA)
    apply sa_stat 5 rfl (by kernel_rfl) rfl
    · (exact voA)
    apply sa_stat 6 rfl (by kernel_rfl) rfl
    · (exact voA)
    apply sa_stat 7 rfl (by kernel_rfl) rfl
    · (exact voA)
    apply sa_stat 8 rfl (by kernel_rfl) rfl
    · (exact voA)
    apply sa_stat 9 rfl (by kernel_rfl) rfl
    · (exact voA)
    apply sa_stat 10 rfl (by kernel_rfl) rfl
    · (exact voA)
    apply sa_stat 11 rfl (by kernel_rfl) rfl
    · (exact voA)
    apply sa_stat 12 rfl (by kernel_rfl) rfl
    · (exact voA)
    first | (apply sa_stat_on 13 rfl rfl rfl rfl (by kernel_rfl) rfl; (· ((exact voA)))) | (refine sa_stat_off 13 rfl rfl (.inl ⟨rfl, rfl⟩) (by kernel_rfl) rfl ?_) | (refine sa_stat_off 13 rfl rfl (.inr rfl) (by kernel_rfl) rfl ?_) | (apply sa_stat_on 13 rfl rfl rfl ?_ (by kernel_rfl) rfl; (· ((exact voA))); (rotate_left 1); (· (exact decA))) | (refine sa_stat_off 13 rfl rfl (.inl ⟨rfl, ?_⟩) (by kernel_rfl) rfl ?_; (· (exact decA)))
    first | (apply sa_stat_on 14 rfl rfl rfl rfl (by kernel_rfl) rfl; (· ((exact voA)))) | (refine sa_stat_off 14 rfl rfl (.inl ⟨rfl, rfl⟩) (by kernel_rfl) rfl ?_) | (refine sa_stat_off 14 rfl rfl (.inr rfl) (by kernel_rfl) rfl ?_) | (apply sa_stat_on 14 rfl rfl rfl ?_ (by kernel_rfl) rfl; (· ((exact voA))); (rotate_left 1); (· (exact decA))) | (refine sa_stat_off 14 rfl rfl (.inl ⟨rfl, ?_⟩) (by kernel_rfl) rfl ?_; (· (exact decA)))
    first | (apply sa_stat_on 15 rfl rfl rfl rfl (by kernel_rfl) rfl; (· ((exact voA)))) | (refine sa_stat_off 15 rfl rfl (.inl ⟨rfl, rfl⟩) (by kernel_rfl) rfl ?_) | (refine sa_stat_off 15 rfl rfl (.inr rfl) (by kernel_rfl) rfl ?_) | (apply sa_stat_on 15 rfl rfl rfl ?_ (by kernel_rfl) rfl; (· ((exact voA))); (rotate_left 1); (· (exact decA))) | (refine sa_stat_off 15 rfl rfl (.inl ⟨rfl, ?_⟩) (by kernel_rfl) rfl ?_; (· (exact decA)))
    first | (apply sa_stat_on 16 rfl rfl rfl rfl (by kernel_rfl) rfl; (· ((exact voA)))) | (refine sa_stat_off 16 rfl rfl (.inl ⟨rfl, rfl⟩) (by kernel_rfl) rfl ?_) | (refine sa_stat_off 16 rfl rfl (.inr rfl) (by kernel_rfl) rfl ?_) | (apply sa_stat_on 16 rfl rfl rfl ?_ (by kernel_rfl) rfl; (· ((exact voA))); (rotate_left 1); (· (exact decA))) | (refine sa_stat_off 16 rfl rfl (.inl ⟨rfl, ?_⟩) (by kernel_rfl) rfl ?_; (· (exact decA)))
    first | (apply sa_stat_on 17 rfl rfl rfl rfl (by kernel_rfl) rfl; (· ((exact voA)))) | (refine sa_stat_off 17 rfl rfl (.inl ⟨rfl, rfl⟩) (by kernel_rfl) rfl ?_) | (refine sa_stat_off 17 rfl rfl (.inr rfl) (by kernel_rfl) rfl ?_) | (apply sa_stat_on 17 rfl rfl rfl ?_ (by kernel_rfl) rfl; (· ((exact voA))); (rotate_left 1); (· (exact decA))) | (refine sa_stat_off 17 rfl rfl (.inl ⟨rfl, ?_⟩) (by kernel_rfl) rfl ?_; (· (exact decA)))
    first | (apply sa_stat_on 18 rfl rfl rfl rfl (by kernel_rfl) rfl; (· ((exact voA)))) | (refine sa_stat_off 18 rfl rfl (.inl ⟨rfl, rfl⟩) (by kernel_rfl) rfl ?_) | (refine sa_stat_off 18 rfl rfl (.inr rfl) (by kernel_rfl) rfl ?_) | (apply sa_stat_on 18 rfl rfl rfl ?_ (by kernel_rfl) rfl; (· ((exact voA))); (rotate_left 1); (· (exact decA))) | (refine sa_stat_off 18 rfl rfl (.inl ⟨rfl, ?_⟩) (by kernel_rfl) rfl ?_; (· (exact decA)))
    first | (apply sa_stat_on 19 rfl rfl rfl rfl (by kernel_rfl) rfl; (· ((exact voA)))) | (refine sa_stat_off 19 rfl rfl (.inl ⟨rfl, rfl⟩) (by kernel_rfl) rfl ?_) | (refine sa_stat_off 19 rfl rfl (.inr rfl) (by kernel_rfl) rfl ?_) | (apply sa_stat_on 19 rfl rfl rfl ?_ (by kernel_rfl) rfl; (· ((exact voA))); (rotate_left 1); (· (exact decA))) | (refine sa_stat_off 19 rfl rfl (.inl ⟨rfl, ?_⟩) (by kernel_rfl) rfl ?_; (· (exact decA)))
    first | (apply sa_stat_on 20 rfl rfl rfl rfl (by kernel_rfl) rfl; (· ((exact voA)))) | (refine sa_stat_off 20 rfl rfl (.inl ⟨rfl, rfl⟩) (by kernel_rfl) rfl ?_) | (refine sa_stat_off 20 rfl rfl (.inr rfl) (by kernel_rfl) rfl ?_) | (apply sa_stat_on 20 rfl rfl rfl ?_ (by kernel_rfl) rfl; (· ((exact voA))); (rotate_left 1); (· (exact decA))) | (refine sa_stat_off 20 rfl rfl (.inl ⟨rfl, ?_⟩) (by kernel_rfl) rfl ?_; (· (exact decA)))
    first | (apply sa_stat_on 21 rfl rfl rfl rfl (by kernel_rfl) rfl; (· ((exact voA)))) | (refine sa_stat_off 21 rfl rfl (.inl ⟨rfl, rfl⟩) (by kernel_rfl) rfl ?_) | (refine sa_stat_off 21 rfl rfl (.inr rfl) (by kernel_rfl) rfl ?_) | (apply sa_stat_on 21 rfl rfl rfl ?_ (by kernel_rfl) rfl; (· ((exact voA))); (rotate_left 1); (· (exact decA))) | (refine sa_stat_off 21 rfl rfl (.inl ⟨rfl, ?_⟩) (by kernel_rfl) rfl ?_; (· (exact decA)))
    first | (apply sa_stat_on 22 rfl rfl rfl rfl (by kernel_rfl) rfl; (· ((exact voA)))) | (refine sa_stat_off 22 rfl rfl (.inl ⟨rfl, rfl⟩) (by kernel_rfl) rfl ?_) | (refine sa_stat_off 22 rfl rfl (.inr rfl) (by kernel_rfl) rfl ?_) | (apply sa_stat_on 22 rfl rfl rfl ?_ (by kernel_rfl) rfl; (· ((exact voA))); (rotate_left 1); (· (exact decA))) | (refine sa_stat_off 22 rfl rfl (.inl ⟨rfl, ?_⟩) (by kernel_rfl) rfl ?_; (· (exact decA)))
    first | (apply sa_stat_on 23 rfl rfl rfl rfl (by kernel_rfl) rfl; (· ((exact voA)))) | (refine sa_stat_off 23 rfl rfl (.inl ⟨rfl, rfl⟩) (by kernel_rfl) rfl ?_) | (refine sa_stat_off 23 rfl rfl (.inr rfl) (by kernel_rfl) rfl ?_) | (apply sa_stat_on 23 rfl rfl rfl ?_ (by kernel_rfl) rfl; (· ((exact voA))); (rotate_left 1); (· (exact decA))) | (refine sa_stat_off 23 rfl rfl (.inl ⟨rfl, ?_⟩) (by kernel_rfl) rfl ?_; (· (exact decA)))
    first | (apply sa_stat_on 24 rfl rfl rfl rfl (by kernel_rfl) rfl; (· ((exact voA)))) | (refine sa_stat_off 24 rfl rfl (.inl ⟨rfl, rfl⟩) (by kernel_rfl) rfl ?_) | (refine sa_stat_off 24 rfl rfl (.inr rfl) (by kernel_rfl) rfl ?_) | (apply sa_stat_on 24 rfl rfl rfl ?_ (by kernel_rfl) rfl; (· ((exact voA))); (rotate_left 1); (· (exact decA))) | (refine sa_stat_off 24 rfl rfl (.inl ⟨rfl, ?_⟩) (by kernel_rfl) rfl ?_; (· (exact decA)))
    apply sa_stat 25 rfl (by kernel_rfl) rfl
    · (exact voA)
    refine sa_rest (T' := [_]) rfl (by kernel_rfl) ?_
    repeat' (first
      | (apply so_vo; (· exact voA); (· rfl))
      | refine so_nil ?_
      | refine q_go ?_
      | refine sw_region ?_
      | (refine goQ ?_; intro _ _)
      | refine go1 ?_
      | (refine goU ?_; intro nu)
      | (refine goB ?_; intro nb)
      | (refine goM ?_; intro nm)
      | (refine go2 ?_ ?_ <;> intro h <;> (try simp only [Bool.not_true, Bool.not_false, decide_eq_true_eq, decide_eq_false_iff_not, Bool.not_eq_true', Bool.not_eq_false', ne_eq, Decidable.not_not, Int.not_lt, Int.not_le, not_false_eq_true] at h))
      | fail)
    apply rq1 rfl rfl
    · exact ⟨by unfold counts; rw [decide_eq_false e1]; rfl, rfl⟩
    · (first | infer_instance | exact ⟨fun _ H => H⟩)
theorem book_ok0 (L : List SP) (bd : Nat) (v : LedV) (l : Led) (bk : List Int) (p : P3) [k : RdL L v l] (hk : OkL l) (hb : OkBk l bk) (hp : 0 ≤ p.2.2 ∧ p.2.2 ≤ 500) : FnC Tryz.prog 99 [.pointer (some ⟨bd, 0, none⟩), enc3.val p] (cl bd 132 (deskC l v bk) :: L) (fun r M => ∃ u : SlV, r = .tuple #[u.v, .int .i64 (bookM l bk p).over] ∧ M = ownSl 105 enc2 u.v (bookM l bk p).parts :: cl bd 132 (deskC l v (bookM l bk p).bk) :: L) := by
  have hnl := hk.nl
  refine fn_start (sz := 61) Tryz.func99 rfl rfl rfl ?_
  repeat' (first
    | (apply so_vo; (· exact voA); (· rfl))
    | refine so_nil ?_
    | refine q_go ?_
    | refine sw_region ?_
    | (refine goQ ?_; intro _ _)
    | refine go1 ?_
    | (refine go2 ?_ ?_ <;> intro h <;> (try simp only [Bool.not_true, Bool.not_false, decide_eq_true_eq, decide_eq_false_iff_not, Bool.not_eq_true', Bool.not_eq_false', ne_eq, Decidable.not_not, Int.not_lt, Int.not_le, not_false_eq_true] at h))
    | fail)
  first
    | (refine goU ?_; intro b2)
    | (refine goB ?_; intro b2)
    | (refine goM ?_; intro b2)
  repeat' (first
    | (apply so_vo; (· exact voA); (· rfl))
    | refine so_nil ?_
    | refine q_go ?_
    | refine sw_region ?_
    | (refine goQ ?_; intro _ _)
    | refine go1 ?_
    | (refine go2 ?_ ?_ <;> intro h <;> (try simp only [Bool.not_true, Bool.not_false, decide_eq_true_eq, decide_eq_false_iff_not, Bool.not_eq_true', Bool.not_eq_false', ne_eq, Decidable.not_not, Int.not_lt, Int.not_le, not_false_eq_true] at h))
    | fail)
  first
    | (refine goU ?_; intro b3)
    | (refine goB ?_; intro b3)
    | (refine goM ?_; intro b3)
  repeat' (first
    | (apply so_vo; (· exact voA); (· rfl))
    | refine so_nil ?_
    | refine q_go ?_
    | refine sw_region ?_
    | (refine goQ ?_; intro _ _)
    | refine go1 ?_
    | (refine go2 ?_ ?_ <;> intro h <;> (try simp only [Bool.not_true, Bool.not_false, decide_eq_true_eq, decide_eq_false_iff_not, Bool.not_eq_true', Bool.not_eq_false', ne_eq, Decidable.not_not, Int.not_lt, Int.not_le, not_false_eq_true] at h))
    | fail)
  first
    | (refine goU ?_; intro b6)
    | (refine goB ?_; intro b6)
    | (refine goM ?_; intro b6)
  repeat' (first
    | (apply so_vo; (· exact voA); (· rfl))
    | refine so_nil ?_
    | refine q_go ?_
    | refine sw_region ?_
    | (refine goQ ?_; intro _ _)
    | refine go1 ?_
    | (refine go2 ?_ ?_ <;> intro h <;> (try simp only [Bool.not_true, Bool.not_false, decide_eq_true_eq, decide_eq_false_iff_not, Bool.not_eq_true', Bool.not_eq_false', ne_eq, Decidable.not_not, Int.not_lt, Int.not_le, not_false_eq_true] at h))
    | fail)
  first
    | (refine goU ?_; intro b7)
    | (refine goB ?_; intro b7)
    | (refine goM ?_; intro b7)
  repeat' (first
    | (apply so_vo; (· exact voA); (· rfl))
    | refine so_nil ?_
    | refine q_go ?_
    | refine sw_region ?_
    | (refine goQ ?_; intro _ _)
    | refine go1 ?_
    | (refine go2 ?_ ?_ <;> intro h <;> (try simp only [Bool.not_true, Bool.not_false, decide_eq_true_eq, decide_eq_false_iff_not, Bool.not_eq_true', Bool.not_eq_false', ne_eq, Decidable.not_not, Int.not_lt, Int.not_le, not_false_eq_true] at h))
    | fail)
  refine so_call rfl rfl rfl (loans_ok _ bd 130 #[] #[.pointer (some ⟨b2, 0, none⟩), .pointer (some ⟨b3, 0, none⟩)]) ?_
  rintro _ _ ⟨bA, bB, rfl, rfl⟩
  repeat' (first
    | (apply so_vo; (· exact voA); (· rfl))
    | refine so_nil ?_
    | refine q_go ?_
    | refine sw_region ?_
    | (refine goQ ?_; intro _ _)
    | refine go1 ?_
    | (refine goU ?_; intro nu)
    | (refine goB ?_; intro nb)
    | (refine goM ?_; intro nm)
    | (refine go2 ?_ ?_ <;> intro h <;> (try simp only [Bool.not_true, Bool.not_false, decide_eq_true_eq, decide_eq_false_iff_not, Bool.not_eq_true', Bool.not_eq_false', ne_eq, Decidable.not_not, Int.not_lt, Int.not_le, not_false_eq_true] at h))
    | fail)
  refine sw_block' (fun _ _ => ?_)
  have hlt : ∀ k x, (orderM l (counts l p))[k]? = some x → x < l.loans.length := fun k x hx => (orderM_lt (List.mem_of_getElem? hx)).1
  refine sw_rangeFunc (σ := SlV × Bk) (enc := fun i : Nat => Value.int .i64 i) (xs := orderM l (counts l p)) (fun s => ownSl 105 enc2 s.1.v s.2.parts :: cl bB 117 [.func (.func 130) #[] #[.pointer (some ⟨b2, 0, none⟩), .pointer (some ⟨b3, 0, none⟩)]] :: cl bA 112 [.pointer (some ⟨bd, 0, none⟩)] :: cl b7 3 [.int .i64 s.2.over] :: cl b6 98 [s.1.v] :: cl b3 80 (enc3.cells p) :: cl b2 112 [.pointer (some ⟨bd, 0, none⟩)] :: cl bd 132 (deskC l v s.2.bk) :: L)
    (fun k s => s.2 = ((orderM l (counts l p)).take k).foldl (bkStep l) ⟨bk, [], p.2.2⟩) (nilS, ⟨bk, [], p.2.2⟩) (lb := [.pointer (some ⟨bA, 0, none⟩), .pointer (some ⟨bB, 0, none⟩)]) rfl rfl rfl (fun w H => own_nil none H) (fun R => ?_) (fun R R2 lp k x s hx hI Q' hq => ?_) (fun D s hs => ?_)
  · refine loans1_seq (σ := SlV × Bk) _ (fun s : SlV × Bk => s.2.bk) bA bB bd _ _ _ v l (counts l p) hk (cA := fun s => inferInstance) (cB := fun s => inferInstance) (cd := fun s => inferInstance) (kl := fun s => inferInstance) (fun s L' hs i hi => ?_)
    haveI := Cl.up (L := L') (inferInstance : Cl _ b2 112 [.pointer (some ⟨bd, 0, none⟩)]) hs
    haveI := Cl.up (L := L') (inferInstance : Cl _ b3 80 (enc3.cells p)) hs
    haveI := Cl.up (L := L') (inferInstance : Cl _ bd 132 (deskC l v s.2.bk)) hs
    haveI := RdL.up (L' := L') (inferInstance : RdL _ v l) hs
    exact book1_ok L' b2 b3 bd v l s.2.bk p i hi
  · obtain ⟨u, q⟩ := s
    simp only at hI
    have hxl := hlt k x hx
    have hob := (book_ok hk hb hp k).1
    rw [← hI] at hob
    have hlen := hob.bk.len
    have hrg := hob.bk.rng x
    have hov := hob.over
    have hpl := hob.parts
    have hask := asked_rng hk x
    have hget := desk_get l v q.bk (i := x) (by omega)
    have hnext : ((orderM l (counts l p)).take (k + 1)).foldl (bkStep l) ⟨bk, [], p.2.2⟩ = bkStep l q x := by rw [take_snoc hx, List.foldl_append, ← hI]; rfl
    obtain ⟨m, hm⟩ : ∃ m, m = min q.over (askedM l x - q.bk.getD x 0) := ⟨_, rfl⟩
    have em : List.foldl min q.over [askedM l x - q.bk.getD x 0] = m := hm.symm
    repeat' (first
      | (apply so_vo; (· exact voA); (· rfl))
      | refine so_nil ?_
      | refine q_go ?_
      | refine sw_region ?_
      | (refine goQ ?_; intro _ _)
      | refine go1 ?_
      | (refine goU ?_; intro nu)
      | (refine goB ?_; intro nb)
      | (refine goM ?_; intro nm)
      | (refine go2 ?_ ?_ <;> intro h <;> (try simp only [Bool.not_true, Bool.not_false, decide_eq_true_eq, decide_eq_false_iff_not, Bool.not_eq_true', Bool.not_eq_false', ne_eq, Decidable.not_not, Int.not_lt, Int.not_le, not_false_eq_true] at h))
      | fail)
    refine ⟨rfl, rfl, fun Q2 hq2 => ?_⟩
    repeat' (first
      | (apply so_vo; (· exact voA); (· rfl))
      | refine so_nil ?_
      | refine q_go ?_
      | refine sw_region ?_
      | (refine goQ ?_; intro _ _)
      | refine go1 ?_
      | (refine goU ?_; intro nu)
      | (refine goB ?_; intro nb)
      | (refine goM ?_; intro nm)
      | (refine go2 ?_ ?_ <;> intro h <;> (try simp only [Bool.not_true, Bool.not_false, decide_eq_true_eq, decide_eq_false_iff_not, Bool.not_eq_true', Bool.not_eq_false', ne_eq, Decidable.not_not, Int.not_lt, Int.not_le, not_false_eq_true] at h))
      | fail)
    refine sw_mid (σ := Nat) (fun nb => [(2, .pointer (some ⟨b2, 0, none⟩)), (6, .pointer (some ⟨b6, 0, none⟩)), (7, .pointer (some ⟨b7, 0, none⟩)), (8, .int .i64 x), (9, .pointer (some ⟨nb, 0, none⟩))]) (fun nb => cl nb 105 [.int .i64 x, .int .i64 m] :: R2 :: ownSl 105 enc2 u.v q.parts :: cl bB 117 [.func (.func 130) #[] #[.pointer (some ⟨b2, 0, none⟩), .pointer (some ⟨b3, 0, none⟩)]] :: cl bA 112 [.pointer (some ⟨bd, 0, none⟩)] :: cl b7 3 [.int .i64 q.over] :: cl b6 98 [u.v] :: cl b3 80 (enc3.cells p) :: cl b2 112 [.pointer (some ⟨bd, 0, none⟩)] :: cl bd 132 (deskC l v q.bk) :: L) (fun _ => True) (fun _ _ _ _ h1 h2 h => sw_frame h1 (sw_mem h2 h)) (fun Q' hq => ?_) (fun s hs => ?_)
    · refine sa_start [19] mixed (by kernel_rfl) ?_
      apply sa_stat 0 rfl (by kernel_rfl) rfl
      · (exact voA)
      apply sa_stat 1 rfl (by kernel_rfl) rfl
      · (exact voA)
      apply sa_stat 2 rfl (by kernel_rfl) rfl
      · (exact voA)
      apply sa_stat 3 rfl (by kernel_rfl) rfl
      · (exact voA)
      apply sa_stat 4 rfl (by kernel_rfl) rfl
      · (exact voA)
      apply sa_stat 5 rfl (by kernel_rfl) rfl
      · (exact voA)
      apply sa_stat 6 rfl (by kernel_rfl) rfl
      · (exact voA)
      apply sa_stat 8 rfl (by kernel_rfl) rfl
      · (exact voA)
      apply sa_stat 9 rfl (by kernel_rfl) rfl
      · (exact voA)
      apply sa_stat 10 rfl (by kernel_rfl) rfl
      · (exact voA)
      apply sa_stat 11 rfl (by kernel_rfl) rfl
      · (exact voA)
      apply sa_stat 12 rfl (by kernel_rfl) rfl
      · (exact voA)
      apply sa_stat 13 rfl (by kernel_rfl) rfl
      · (exact voA)
      refine sa_forkL 7 18 rfl rfl (by kernel_rfl) ?_ ?_
      · (refine so_call rfl rfl rfl (asked_ok _ v l hk x hxl) ?_; rintro _ _ ⟨rfl, rfl⟩)
        repeat' (first
          | (apply so_vo; (· exact voA); (· rfl))
          | refine so_nil ?_
          | refine q_go ?_
          | refine sw_region ?_
          | (refine goQ ?_; intro _ _)
          | refine go1 ?_
          | (refine goU ?_; intro nu)
          | (refine goB ?_; intro nb)
          | (refine goM ?_; intro nm)
          | (refine go2 ?_ ?_ <;> intro h <;> (try simp only [Bool.not_true, Bool.not_false, decide_eq_true_eq, decide_eq_false_iff_not, Bool.not_eq_true', Bool.not_eq_false', ne_eq, Decidable.not_not, Int.not_lt, Int.not_le, not_false_eq_true] at h))
          | fail)
        refine ⟨rfl, rfl, HLess.sat inferInstance, ?_⟩
        apply sa_stat 14 rfl (by kernel_rfl) rfl
        · (exact voA)
        refine sa_forkL 15 18 rfl rfl (by kernel_rfl) ?_ ?_
        · repeat' (first
            | (apply so_vo; (· exact voA); (· rfl))
            | refine so_nil ?_
            | refine q_go ?_
            | refine sw_region ?_
            | (refine goQ ?_; intro _ _)
            | refine go1 ?_
            | (refine goU ?_; intro nu)
            | (refine goB ?_; intro nb)
            | (refine goM ?_; intro nm)
            | (refine go2 ?_ ?_ <;> intro h <;> (try simp only [Bool.not_true, Bool.not_false, decide_eq_true_eq, decide_eq_false_iff_not, Bool.not_eq_true', Bool.not_eq_false', ne_eq, Decidable.not_not, Int.not_lt, Int.not_le, not_false_eq_true] at h))
            | fail)
          refine ⟨rfl, rfl, HLess.sat inferInstance, ?_⟩
          refine sa_forkL 16 18 rfl rfl (by kernel_rfl) ?_ ?_
          · (refine so_call rfl rfl rfl (least_ok _ _ nu _) ?_; rintro _ _ ⟨rfl, rfl⟩; rw [em])
            repeat' (first
              | (apply so_vo; (· exact voA); (· rfl))
              | refine so_nil ?_
              | refine q_go ?_
              | refine sw_region ?_
              | (refine goQ ?_; intro _ _)
              | refine go1 ?_
              | (refine goU ?_; intro nu)
              | (refine goB ?_; intro nb)
              | (refine goM ?_; intro nm)
              | (refine go2 ?_ ?_ <;> intro h <;> (try simp only [Bool.not_true, Bool.not_false, decide_eq_true_eq, decide_eq_false_iff_not, Bool.not_eq_true', Bool.not_eq_false', ne_eq, Decidable.not_not, Int.not_lt, Int.not_le, not_false_eq_true] at h))
              | fail)
            refine ⟨rfl, rfl, HLess.sat inferInstance, ?_⟩
            apply sa_stat 17 rfl (by kernel_rfl) rfl
            · (exact voA)
            refine sa_chainL 18 rfl (by kernel_rfl) ?_
            repeat' (first
              | (apply so_vo; (· exact voA); (· rfl))
              | refine so_nil ?_
              | refine q_go ?_
              | refine sw_region ?_
              | (refine goQ ?_; intro _ _)
              | refine go1 ?_
              | (refine goU ?_; intro nu)
              | (refine goB ?_; intro nb)
              | (refine goM ?_; intro nm)
              | (refine go2 ?_ ?_ <;> intro h <;> (try simp only [Bool.not_true, Bool.not_false, decide_eq_true_eq, decide_eq_false_iff_not, Bool.not_eq_true', Bool.not_eq_false', ne_eq, Decidable.not_not, Int.not_lt, Int.not_le, not_false_eq_true] at h))
              | fail)
            refine ⟨rfl, rfl, HLess.sat inferInstance, ?_⟩
            refine sa_rest (T' := [_]) rfl (by kernel_rfl) ?_
            repeat' (first
              | (apply so_vo; (· exact voA); (· rfl))
              | refine so_nil ?_
              | refine q_go ?_
              | refine sw_region ?_
              | (refine goQ ?_; intro _ _)
              | refine go1 ?_
              | (refine goU ?_; intro nu)
              | (refine goB ?_; intro nb)
              | (refine goM ?_; intro nm)
              | (refine go2 ?_ ?_ <;> intro h <;> (try simp only [Bool.not_true, Bool.not_false, decide_eq_true_eq, decide_eq_false_iff_not, Bool.not_eq_true', Bool.not_eq_false', ne_eq, Decidable.not_not, Int.not_lt, Int.not_le, not_false_eq_true] at h))
              | fail)
            (refine ⟨rfl, nb, trivial, ?_, HLess.sat inferInstance⟩; (exact fsA))
          · repeat' (first
              | (apply so_vo; (· exact voA); (· rfl))
              | refine so_nil ?_
              | refine q_go ?_
              | refine sw_region ?_
              | (refine goQ ?_; intro _ _)
              | refine go1 ?_
              | (refine goU ?_; intro nu)
              | (refine goB ?_; intro nb)
              | (refine goM ?_; intro nm)
              | (refine go2 ?_ ?_ <;> intro h <;> (try simp only [Bool.not_true, Bool.not_false, decide_eq_true_eq, decide_eq_false_iff_not, Bool.not_eq_true', Bool.not_eq_false', ne_eq, Decidable.not_not, Int.not_lt, Int.not_le, not_false_eq_true] at h))
              | fail)
            refine ⟨rfl, rfl, HLess.sat inferInstance, ?_⟩
            refine sa_chainL 16 rfl (by kernel_rfl) ?_
            (refine so_call rfl rfl rfl (least_ok _ _ nu _) ?_; rintro _ _ ⟨rfl, rfl⟩; rw [em])
            repeat' (first
              | (apply so_vo; (· exact voA); (· rfl))
              | refine so_nil ?_
              | refine q_go ?_
              | refine sw_region ?_
              | (refine goQ ?_; intro _ _)
              | refine go1 ?_
              | (refine goU ?_; intro nu)
              | (refine goB ?_; intro nb)
              | (refine goM ?_; intro nm)
              | (refine go2 ?_ ?_ <;> intro h <;> (try simp only [Bool.not_true, Bool.not_false, decide_eq_true_eq, decide_eq_false_iff_not, Bool.not_eq_true', Bool.not_eq_false', ne_eq, Decidable.not_not, Int.not_lt, Int.not_le, not_false_eq_true] at h))
              | fail)
            refine ⟨rfl, rfl, HLess.sat inferInstance, ?_⟩
            apply sa_stat 17 rfl (by kernel_rfl) rfl
            · (exact voA)
            refine sa_rest (T' := [_]) rfl (by kernel_rfl) ?_
            repeat' (first
              | (apply so_vo; (· exact voA); (· rfl))
              | refine so_nil ?_
              | refine q_go ?_
              | refine sw_region ?_
              | (refine goQ ?_; intro _ _)
              | refine go1 ?_
              | (refine goU ?_; intro nu)
              | (refine goB ?_; intro nb)
              | (refine goM ?_; intro nm)
              | (refine go2 ?_ ?_ <;> intro h <;> (try simp only [Bool.not_true, Bool.not_false, decide_eq_true_eq, decide_eq_false_iff_not, Bool.not_eq_true', Bool.not_eq_false', ne_eq, Decidable.not_not, Int.not_lt, Int.not_le, not_false_eq_true] at h))
              | fail)
            (refine ⟨rfl, nb, trivial, ?_, HLess.sat inferInstance⟩; (exact fsA))
        · repeat' (first
            | (apply so_vo; (· exact voA); (· rfl))
            | refine so_nil ?_
            | refine q_go ?_
            | refine sw_region ?_
            | (refine goQ ?_; intro _ _)
            | refine go1 ?_
            | (refine goU ?_; intro nu)
            | (refine goB ?_; intro nb)
            | (refine goM ?_; intro nm)
            | (refine go2 ?_ ?_ <;> intro h <;> (try simp only [Bool.not_true, Bool.not_false, decide_eq_true_eq, decide_eq_false_iff_not, Bool.not_eq_true', Bool.not_eq_false', ne_eq, Decidable.not_not, Int.not_lt, Int.not_le, not_false_eq_true] at h))
            | fail)
          refine ⟨rfl, rfl, HLess.sat inferInstance, ?_⟩
          refine sa_chainL 15 rfl (by kernel_rfl) ?_
          repeat' (first
            | (apply so_vo; (· exact voA); (· rfl))
            | refine so_nil ?_
            | refine q_go ?_
            | refine sw_region ?_
            | (refine goQ ?_; intro _ _)
            | refine go1 ?_
            | (refine goU ?_; intro nu)
            | (refine goB ?_; intro nb)
            | (refine goM ?_; intro nm)
            | (refine go2 ?_ ?_ <;> intro h <;> (try simp only [Bool.not_true, Bool.not_false, decide_eq_true_eq, decide_eq_false_iff_not, Bool.not_eq_true', Bool.not_eq_false', ne_eq, Decidable.not_not, Int.not_lt, Int.not_le, not_false_eq_true] at h))
            | fail)
          refine ⟨rfl, rfl, HLess.sat inferInstance, ?_⟩
          refine sa_chainL 16 rfl (by kernel_rfl) ?_
          (refine so_call rfl rfl rfl (least_ok _ _ nu _) ?_; rintro _ _ ⟨rfl, rfl⟩; rw [em])
          repeat' (first
            | (apply so_vo; (· exact voA); (· rfl))
            | refine so_nil ?_
            | refine q_go ?_
            | refine sw_region ?_
            | (refine goQ ?_; intro _ _)
            | refine go1 ?_
            | (refine goU ?_; intro nu)
            | (refine goB ?_; intro nb)
            | (refine goM ?_; intro nm)
            | (refine go2 ?_ ?_ <;> intro h <;> (try simp only [Bool.not_true, Bool.not_false, decide_eq_true_eq, decide_eq_false_iff_not, Bool.not_eq_true', Bool.not_eq_false', ne_eq, Decidable.not_not, Int.not_lt, Int.not_le, not_false_eq_true] at h))
            | fail)
          refine ⟨rfl, rfl, HLess.sat inferInstance, ?_⟩
          apply sa_stat 17 rfl (by kernel_rfl) rfl
          · (exact voA)
          refine sa_rest (T' := [_]) rfl (by kernel_rfl) ?_
          repeat' (first
            | (apply so_vo; (· exact voA); (· rfl))
            | refine so_nil ?_
            | refine q_go ?_
            | refine sw_region ?_
            | (refine goQ ?_; intro _ _)
            | refine go1 ?_
            | (refine goU ?_; intro nu)
            | (refine goB ?_; intro nb)
            | (refine goM ?_; intro nm)
            | (refine go2 ?_ ?_ <;> intro h <;> (try simp only [Bool.not_true, Bool.not_false, decide_eq_true_eq, decide_eq_false_iff_not, Bool.not_eq_true', Bool.not_eq_false', ne_eq, Decidable.not_not, Int.not_lt, Int.not_le, not_false_eq_true] at h))
            | fail)
          (refine ⟨rfl, nb, trivial, ?_, HLess.sat inferInstance⟩; (exact fsA))
      · repeat' (first
          | (apply so_vo; (· exact voA); (· rfl))
          | refine so_nil ?_
          | refine q_go ?_
          | refine sw_region ?_
          | (refine goQ ?_; intro _ _)
          | refine go1 ?_
          | (refine goU ?_; intro nu)
          | (refine goB ?_; intro nb)
          | (refine goM ?_; intro nm)
          | (refine go2 ?_ ?_ <;> intro h <;> (try simp only [Bool.not_true, Bool.not_false, decide_eq_true_eq, decide_eq_false_iff_not, Bool.not_eq_true', Bool.not_eq_false', ne_eq, Decidable.not_not, Int.not_lt, Int.not_le, not_false_eq_true] at h))
          | fail)
        refine ⟨rfl, rfl, HLess.sat inferInstance, ?_⟩
        refine sa_chainL 7 rfl (by kernel_rfl) ?_
        (refine so_call rfl rfl rfl (asked_ok _ v l hk x hxl) ?_; rintro _ _ ⟨rfl, rfl⟩)
        repeat' (first
          | (apply so_vo; (· exact voA); (· rfl))
          | refine so_nil ?_
          | refine q_go ?_
          | refine sw_region ?_
          | (refine goQ ?_; intro _ _)
          | refine go1 ?_
          | (refine goU ?_; intro nu)
          | (refine goB ?_; intro nb)
          | (refine goM ?_; intro nm)
          | (refine go2 ?_ ?_ <;> intro h <;> (try simp only [Bool.not_true, Bool.not_false, decide_eq_true_eq, decide_eq_false_iff_not, Bool.not_eq_true', Bool.not_eq_false', ne_eq, Decidable.not_not, Int.not_lt, Int.not_le, not_false_eq_true] at h))
          | fail)
        refine ⟨rfl, rfl, HLess.sat inferInstance, ?_⟩
        apply sa_stat 14 rfl (by kernel_rfl) rfl
        · (exact voA)
        refine sa_chainL 15 rfl (by kernel_rfl) ?_
        repeat' (first
          | (apply so_vo; (· exact voA); (· rfl))
          | refine so_nil ?_
          | refine q_go ?_
          | refine sw_region ?_
          | (refine goQ ?_; intro _ _)
          | refine go1 ?_
          | (refine goU ?_; intro nu)
          | (refine goB ?_; intro nb)
          | (refine goM ?_; intro nm)
          | (refine go2 ?_ ?_ <;> intro h <;> (try simp only [Bool.not_true, Bool.not_false, decide_eq_true_eq, decide_eq_false_iff_not, Bool.not_eq_true', Bool.not_eq_false', ne_eq, Decidable.not_not, Int.not_lt, Int.not_le, not_false_eq_true] at h))
          | fail)
        refine ⟨rfl, rfl, HLess.sat inferInstance, ?_⟩
        refine sa_chainL 16 rfl (by kernel_rfl) ?_
        (refine so_call rfl rfl rfl (least_ok _ _ nu _) ?_; rintro _ _ ⟨rfl, rfl⟩; rw [em])
        repeat' (first
          | (apply so_vo; (· exact voA); (· rfl))
          | refine so_nil ?_
          | refine q_go ?_
          | refine sw_region ?_
          | (refine goQ ?_; intro _ _)
          | refine go1 ?_
          | (refine goU ?_; intro nu)
          | (refine goB ?_; intro nb)
          | (refine goM ?_; intro nm)
          | (refine go2 ?_ ?_ <;> intro h <;> (try simp only [Bool.not_true, Bool.not_false, decide_eq_true_eq, decide_eq_false_iff_not, Bool.not_eq_true', Bool.not_eq_false', ne_eq, Decidable.not_not, Int.not_lt, Int.not_le, not_false_eq_true] at h))
          | fail)
        refine ⟨rfl, rfl, HLess.sat inferInstance, ?_⟩
        apply sa_stat 17 rfl (by kernel_rfl) rfl
        · (exact voA)
        refine sa_rest (T' := [_]) rfl (by kernel_rfl) ?_
        repeat' (first
          | (apply so_vo; (· exact voA); (· rfl))
          | refine so_nil ?_
          | refine q_go ?_
          | refine sw_region ?_
          | (refine goQ ?_; intro _ _)
          | refine go1 ?_
          | (refine goU ?_; intro nu)
          | (refine goB ?_; intro nb)
          | (refine goM ?_; intro nm)
          | (refine go2 ?_ ?_ <;> intro h <;> (try simp only [Bool.not_true, Bool.not_false, decide_eq_true_eq, decide_eq_false_iff_not, Bool.not_eq_true', Bool.not_eq_false', ne_eq, Decidable.not_not, Int.not_lt, Int.not_le, not_false_eq_true] at h))
          | fail)
        (refine ⟨rfl, nb, trivial, ?_, HLess.sat inferInstance⟩; (exact fsA))
    · by_cases h0 : m = 0
      · have hst : bkStep l q x = q := by unfold bkStep; rw [← hm, if_pos h0]
        have hd0 : decide ((x : Int) = x ∧ m = 0) = true := decide_eq_true ⟨rfl, h0⟩
        repeat' (first
          | (apply so_vo; (· exact voA); (· rfl))
          | refine so_nil ?_
          | refine q_go ?_
          | refine sw_region ?_
          | (refine goQ ?_; intro _ _)
          | refine go1 ?_
          | (refine goU ?_; intro nu)
          | (refine goB ?_; intro nb)
          | (refine goM ?_; intro nm)
          | (refine go2 ?_ ?_ <;> intro h <;> (try simp only [Bool.not_true, Bool.not_false, decide_eq_true_eq, decide_eq_false_iff_not, Bool.not_eq_true', Bool.not_eq_false', ne_eq, Decidable.not_not, Int.not_lt, Int.not_le, not_false_eq_true] at h))
          | fail)
        refine ⟨rfl, (u, q), by rw [hnext, hst], HLess.sat inferInstance⟩
      · have hst : bkStep l q x = ⟨q.bk.set x (q.bk.getD x 0 + m), q.parts ++ [((x : Int), m)], q.over - m⟩ := by unfold bkStep; rw [← hm, if_neg h0]
        have hd0 : decide ((x : Int) = x ∧ m = 0) = false := decide_eq_false fun e => h0 e.2
        haveI := desk_set l v q.bk (i := x) (by omega) (q.bk.getD x 0 + m)
        repeat' (first
          | (apply so_vo; (· exact voA); (· rfl))
          | refine so_nil ?_
          | refine q_go ?_
          | refine sw_region ?_
          | (refine goQ ?_; intro _ _)
          | refine go1 ?_
          | (refine go2 ?_ ?_ <;> intro h <;> (try simp only [Bool.not_true, Bool.not_false, decide_eq_true_eq, decide_eq_false_iff_not, Bool.not_eq_true', Bool.not_eq_false', ne_eq, Decidable.not_not, Int.not_lt, Int.not_le, not_false_eq_true] at h))
          | fail)
        first
          | (refine goU ?_; intro x1)
          | (refine goB ?_; intro x1)
          | (refine goM ?_; intro x1)
        repeat' (first
          | (apply so_vo; (· exact voA); (· rfl))
          | refine so_nil ?_
          | refine q_go ?_
          | refine sw_region ?_
          | (refine goQ ?_; intro _ _)
          | refine go1 ?_
          | (refine go2 ?_ ?_ <;> intro h <;> (try simp only [Bool.not_true, Bool.not_false, decide_eq_true_eq, decide_eq_false_iff_not, Bool.not_eq_true', Bool.not_eq_false', ne_eq, Decidable.not_not, Int.not_lt, Int.not_le, not_false_eq_true] at h))
          | fail)
        first
          | (refine goU ?_; intro x2)
          | (refine goB ?_; intro x2)
          | (refine goM ?_; intro x2)
        repeat' (first
          | (apply so_vo; (· exact voA); (· rfl))
          | refine so_nil ?_
          | refine q_go ?_
          | refine sw_region ?_
          | (refine goQ ?_; intro _ _)
          | refine go1 ?_
          | (refine go2 ?_ ?_ <;> intro h <;> (try simp only [Bool.not_true, Bool.not_false, decide_eq_true_eq, decide_eq_false_iff_not, Bool.not_eq_true', Bool.not_eq_false', ne_eq, Decidable.not_not, Int.not_lt, Int.not_le, not_false_eq_true] at h))
          | fail)
        refine sw_mid (σ := Unit) (fun _ => [(7, .pointer (some ⟨b7, 0, none⟩)), (9, .pointer (some ⟨s, 0, none⟩))]) (fun _ => cl s 105 [.int .i64 x, .int .i64 m] :: R2 :: ownSl 105 enc2 x2.v (q.parts ++ [((x : Int), m)]) :: cl bB 117 [.func (.func 130) #[] #[.pointer (some ⟨b2, 0, none⟩), .pointer (some ⟨b3, 0, none⟩)]] :: cl bA 112 [.pointer (some ⟨bd, 0, none⟩)] :: cl b7 3 [.int .i64 q.over] :: cl b6 98 [x2.v] :: cl b3 80 (enc3.cells p) :: cl b2 112 [.pointer (some ⟨bd, 0, none⟩)] :: cl bd 132 (deskC l v (q.bk.set x (q.bk.getD x 0 + m))) :: L) (fun _ => True) (fun _ _ _ _ h1 h2 h => sw_frame h1 (sw_mem h2 h)) (fun Q' hq => ?_) (fun s hs => ?_)
        · refine sa_start0 mixed (by kernel_rfl) ?_
          apply sa_pure 1 rfl (by kernel_rfl) rfl
          · (first | (refine vo_indexAddr_hd rfl rfl (by assumption) ?_; omega) | (refine vo_indexAddr_hdi rfl rfl (by assumption) ?_; omega) | ((exact voA)))
          apply sa_pure 6 rfl (by kernel_rfl) rfl
          · (first | (refine vo_indexAddr_hd rfl rfl (by assumption) ?_; omega) | (refine vo_indexAddr_hdi rfl rfl (by assumption) ?_; omega) | ((exact voA)))
          refine sa_fork0 0 7 rfl rfl (by kernel_rfl) ?_ ?_
          · repeat' (first
              | (apply so_vo; (· exact voA); (· rfl))
              | refine so_nil ?_
              | refine q_go ?_
              | refine sw_region ?_
              | (refine goQ ?_; intro _ _)
              | refine go1 ?_
              | (refine goU ?_; intro nu)
              | (refine goB ?_; intro nb)
              | (refine goM ?_; intro nm)
              | (refine go2 ?_ ?_ <;> intro h <;> (try simp only [Bool.not_true, Bool.not_false, decide_eq_true_eq, decide_eq_false_iff_not, Bool.not_eq_true', Bool.not_eq_false', ne_eq, Decidable.not_not, Int.not_lt, Int.not_le, not_false_eq_true] at h))
              | fail)
            refine ⟨rfl, rfl, ?_⟩
            apply sa_pure 2 rfl (by kernel_rfl) rfl
            · (first | (refine vo_indexAddr_hd rfl rfl (by assumption) ?_; omega) | (refine vo_indexAddr_hdi rfl rfl (by assumption) ?_; omega) | ((exact voA)))
            apply sa_pure 3 rfl (by kernel_rfl) rfl
            · (first | (refine vo_indexAddr_hd rfl rfl (by assumption) ?_; omega) | (refine vo_indexAddr_hdi rfl rfl (by assumption) ?_; omega) | ((exact voA)))
            apply sa_pure 4 rfl (by kernel_rfl) rfl
            · (first | (refine vo_indexAddr_hd rfl rfl (by assumption) ?_; omega) | (refine vo_indexAddr_hdi rfl rfl (by assumption) ?_; omega) | ((exact voA)))
            apply sa_pure 9 rfl (by kernel_rfl) rfl
            · (first | (refine vo_indexAddr_hd rfl rfl (by assumption) ?_; omega) | (refine vo_indexAddr_hdi rfl rfl (by assumption) ?_; omega) | ((exact voA)))
            apply sa_pure 10 rfl (by kernel_rfl) rfl
            · (first | (refine vo_indexAddr_hd rfl rfl (by assumption) ?_; omega) | (refine vo_indexAddr_hdi rfl rfl (by assumption) ?_; omega) | ((exact voA)))
            refine sa_fork0 5 7 rfl rfl (by kernel_rfl) ?_ ?_
            · repeat' (first
                | (apply so_vo; (· exact voA); (· rfl))
                | refine so_nil ?_
                | refine q_go ?_
                | refine sw_region ?_
                | (refine goQ ?_; intro _ _)
                | refine go1 ?_
                | (refine goU ?_; intro nu)
                | (refine goB ?_; intro nb)
                | (refine goM ?_; intro nm)
                | (refine go2 ?_ ?_ <;> intro h <;> (try simp only [Bool.not_true, Bool.not_false, decide_eq_true_eq, decide_eq_false_iff_not, Bool.not_eq_true', Bool.not_eq_false', ne_eq, Decidable.not_not, Int.not_lt, Int.not_le, not_false_eq_true] at h))
                | fail)
              refine ⟨rfl, rfl, ?_⟩
              refine sa_chain0 7 rfl (by kernel_rfl) ?_
              repeat' (first
                | (apply so_vo; (· exact voA); (· rfl))
                | refine so_nil ?_
                | refine q_go ?_
                | refine sw_region ?_
                | (refine goQ ?_; intro _ _)
                | refine go1 ?_
                | (refine goU ?_; intro nu)
                | (refine goB ?_; intro nb)
                | (refine goM ?_; intro nm)
                | (refine go2 ?_ ?_ <;> intro h <;> (try simp only [Bool.not_true, Bool.not_false, decide_eq_true_eq, decide_eq_false_iff_not, Bool.not_eq_true', Bool.not_eq_false', ne_eq, Decidable.not_not, Int.not_lt, Int.not_le, not_false_eq_true] at h))
                | fail)
              refine ⟨rfl, rfl, ?_⟩
              apply sa_pure 8 rfl (by kernel_rfl) rfl
              · (first | (refine vo_indexAddr_hd rfl rfl (by assumption) ?_; omega) | (refine vo_indexAddr_hdi rfl rfl (by assumption) ?_; omega) | ((exact voA)))
              apply sa_pure 11 rfl (by kernel_rfl) rfl
              · (first | (refine vo_indexAddr_hd rfl rfl (by assumption) ?_; omega) | (refine vo_indexAddr_hdi rfl rfl (by assumption) ?_; omega) | ((exact voA)))
              refine sa_chain0 12 rfl (by kernel_rfl) ?_
              repeat' (first
                | (apply so_vo; (· exact voA); (· rfl))
                | refine so_nil ?_
                | refine q_go ?_
                | refine sw_region ?_
                | (refine goQ ?_; intro _ _)
                | refine go1 ?_
                | (refine goU ?_; intro nu)
                | (refine goB ?_; intro nb)
                | (refine goM ?_; intro nm)
                | (refine go2 ?_ ?_ <;> intro h <;> (try simp only [Bool.not_true, Bool.not_false, decide_eq_true_eq, decide_eq_false_iff_not, Bool.not_eq_true', Bool.not_eq_false', ne_eq, Decidable.not_not, Int.not_lt, Int.not_le, not_false_eq_true] at h))
                | fail)
              refine ⟨rfl, rfl, ?_⟩
              refine sa_rest (T := []) rfl (by kernel_rfl) ?_
              repeat' (first
                | (apply so_vo; (· exact voA); (· rfl))
                | refine so_nil ?_
                | refine q_go ?_
                | refine sw_region ?_
                | (refine goQ ?_; intro _ _)
                | refine go1 ?_
                | (refine goU ?_; intro nu)
                | (refine goB ?_; intro nb)
                | (refine goM ?_; intro nm)
                | (refine go2 ?_ ?_ <;> intro h <;> (try simp only [Bool.not_true, Bool.not_false, decide_eq_true_eq, decide_eq_false_iff_not, Bool.not_eq_true', Bool.not_eq_false', ne_eq, Decidable.not_not, Int.not_lt, Int.not_le, not_false_eq_true] at h))
                | fail)
              (refine ⟨rfl, (), trivial, ?_, HLess.sat inferInstance⟩; (exact fsA))
            · repeat' (first
                | (apply so_vo; (· exact voA); (· rfl))
                | refine so_nil ?_
                | refine q_go ?_
                | refine sw_region ?_
                | (refine goQ ?_; intro _ _)
                | refine go1 ?_
                | (refine goU ?_; intro nu)
                | (refine goB ?_; intro nb)
                | (refine goM ?_; intro nm)
                | (refine go2 ?_ ?_ <;> intro h <;> (try simp only [Bool.not_true, Bool.not_false, decide_eq_true_eq, decide_eq_false_iff_not, Bool.not_eq_true', Bool.not_eq_false', ne_eq, Decidable.not_not, Int.not_lt, Int.not_le, not_false_eq_true] at h))
                | fail)
              refine ⟨rfl, rfl, ?_⟩
              refine sa_chain0 5 rfl (by kernel_rfl) ?_
              repeat' (first
                | (apply so_vo; (· exact voA); (· rfl))
                | refine so_nil ?_
                | refine q_go ?_
                | refine sw_region ?_
                | (refine goQ ?_; intro _ _)
                | refine go1 ?_
                | (refine goU ?_; intro nu)
                | (refine goB ?_; intro nb)
                | (refine goM ?_; intro nm)
                | (refine go2 ?_ ?_ <;> intro h <;> (try simp only [Bool.not_true, Bool.not_false, decide_eq_true_eq, decide_eq_false_iff_not, Bool.not_eq_true', Bool.not_eq_false', ne_eq, Decidable.not_not, Int.not_lt, Int.not_le, not_false_eq_true] at h))
                | fail)
              refine ⟨rfl, rfl, ?_⟩
              apply sa_pure 8 rfl (by kernel_rfl) rfl
              · (first | (refine vo_indexAddr_hd rfl rfl (by assumption) ?_; omega) | (refine vo_indexAddr_hdi rfl rfl (by assumption) ?_; omega) | ((exact voA)))
              apply sa_pure 11 rfl (by kernel_rfl) rfl
              · (first | (refine vo_indexAddr_hd rfl rfl (by assumption) ?_; omega) | (refine vo_indexAddr_hdi rfl rfl (by assumption) ?_; omega) | ((exact voA)))
              refine sa_chain0 12 rfl (by kernel_rfl) ?_
              repeat' (first
                | (apply so_vo; (· exact voA); (· rfl))
                | refine so_nil ?_
                | refine q_go ?_
                | refine sw_region ?_
                | (refine goQ ?_; intro _ _)
                | refine go1 ?_
                | (refine goU ?_; intro nu)
                | (refine goB ?_; intro nb)
                | (refine goM ?_; intro nm)
                | (refine go2 ?_ ?_ <;> intro h <;> (try simp only [Bool.not_true, Bool.not_false, decide_eq_true_eq, decide_eq_false_iff_not, Bool.not_eq_true', Bool.not_eq_false', ne_eq, Decidable.not_not, Int.not_lt, Int.not_le, not_false_eq_true] at h))
                | fail)
              refine ⟨rfl, rfl, ?_⟩
              refine sa_rest (T := []) rfl (by kernel_rfl) ?_
              repeat' (first
                | (apply so_vo; (· exact voA); (· rfl))
                | refine so_nil ?_
                | refine q_go ?_
                | refine sw_region ?_
                | (refine goQ ?_; intro _ _)
                | refine go1 ?_
                | (refine goU ?_; intro nu)
                | (refine goB ?_; intro nb)
                | (refine goM ?_; intro nm)
                | (refine go2 ?_ ?_ <;> intro h <;> (try simp only [Bool.not_true, Bool.not_false, decide_eq_true_eq, decide_eq_false_iff_not, Bool.not_eq_true', Bool.not_eq_false', ne_eq, Decidable.not_not, Int.not_lt, Int.not_le, not_false_eq_true] at h))
                | fail)
              (refine ⟨rfl, (), trivial, ?_, HLess.sat inferInstance⟩; (exact fsA))
          · repeat' (first
              | (apply so_vo; (· exact voA); (· rfl))
              | refine so_nil ?_
              | refine q_go ?_
              | refine sw_region ?_
              | (refine goQ ?_; intro _ _)
              | refine go1 ?_
              | (refine goU ?_; intro nu)
              | (refine goB ?_; intro nb)
              | (refine goM ?_; intro nm)
              | (refine go2 ?_ ?_ <;> intro h <;> (try simp only [Bool.not_true, Bool.not_false, decide_eq_true_eq, decide_eq_false_iff_not, Bool.not_eq_true', Bool.not_eq_false', ne_eq, Decidable.not_not, Int.not_lt, Int.not_le, not_false_eq_true] at h))
              | fail)
            refine ⟨rfl, rfl, ?_⟩
            refine sa_chain0 0 rfl (by kernel_rfl) ?_
            repeat' (first
              | (apply so_vo; (· exact voA); (· rfl))
              | refine so_nil ?_
              | refine q_go ?_
              | refine sw_region ?_
              | (refine goQ ?_; intro _ _)
              | refine go1 ?_
              | (refine goU ?_; intro nu)
              | (refine goB ?_; intro nb)
              | (refine goM ?_; intro nm)
              | (refine go2 ?_ ?_ <;> intro h <;> (try simp only [Bool.not_true, Bool.not_false, decide_eq_true_eq, decide_eq_false_iff_not, Bool.not_eq_true', Bool.not_eq_false', ne_eq, Decidable.not_not, Int.not_lt, Int.not_le, not_false_eq_true] at h))
              | fail)
            refine ⟨rfl, rfl, ?_⟩
            apply sa_pure 2 rfl (by kernel_rfl) rfl
            · (first | (refine vo_indexAddr_hd rfl rfl (by assumption) ?_; omega) | (refine vo_indexAddr_hdi rfl rfl (by assumption) ?_; omega) | ((exact voA)))
            apply sa_pure 3 rfl (by kernel_rfl) rfl
            · (first | (refine vo_indexAddr_hd rfl rfl (by assumption) ?_; omega) | (refine vo_indexAddr_hdi rfl rfl (by assumption) ?_; omega) | ((exact voA)))
            apply sa_pure 4 rfl (by kernel_rfl) rfl
            · (first | (refine vo_indexAddr_hd rfl rfl (by assumption) ?_; omega) | (refine vo_indexAddr_hdi rfl rfl (by assumption) ?_; omega) | ((exact voA)))
            apply sa_pure 9 rfl (by kernel_rfl) rfl
            · (first | (refine vo_indexAddr_hd rfl rfl (by assumption) ?_; omega) | (refine vo_indexAddr_hdi rfl rfl (by assumption) ?_; omega) | ((exact voA)))
            apply sa_pure 10 rfl (by kernel_rfl) rfl
            · (first | (refine vo_indexAddr_hd rfl rfl (by assumption) ?_; omega) | (refine vo_indexAddr_hdi rfl rfl (by assumption) ?_; omega) | ((exact voA)))
            refine sa_chain0 5 rfl (by kernel_rfl) ?_
            repeat' (first
              | (apply so_vo; (· exact voA); (· rfl))
              | refine so_nil ?_
              | refine q_go ?_
              | refine sw_region ?_
              | (refine goQ ?_; intro _ _)
              | refine go1 ?_
              | (refine goU ?_; intro nu)
              | (refine goB ?_; intro nb)
              | (refine goM ?_; intro nm)
              | (refine go2 ?_ ?_ <;> intro h <;> (try simp only [Bool.not_true, Bool.not_false, decide_eq_true_eq, decide_eq_false_iff_not, Bool.not_eq_true', Bool.not_eq_false', ne_eq, Decidable.not_not, Int.not_lt, Int.not_le, not_false_eq_true] at h))
              | fail)
            refine ⟨rfl, rfl, ?_⟩
            apply sa_pure 8 rfl (by kernel_rfl) rfl
            · (first | (refine vo_indexAddr_hd rfl rfl (by assumption) ?_; omega) | (refine vo_indexAddr_hdi rfl rfl (by assumption) ?_; omega) | ((exact voA)))
            apply sa_pure 11 rfl (by kernel_rfl) rfl
            · (first | (refine vo_indexAddr_hd rfl rfl (by assumption) ?_; omega) | (refine vo_indexAddr_hdi rfl rfl (by assumption) ?_; omega) | ((exact voA)))
            refine sa_chain0 12 rfl (by kernel_rfl) ?_
            repeat' (first
              | (apply so_vo; (· exact voA); (· rfl))
              | refine so_nil ?_
              | refine q_go ?_
              | refine sw_region ?_
              | (refine goQ ?_; intro _ _)
              | refine go1 ?_
              | (refine goU ?_; intro nu)
              | (refine goB ?_; intro nb)
              | (refine goM ?_; intro nm)
              | (refine go2 ?_ ?_ <;> intro h <;> (try simp only [Bool.not_true, Bool.not_false, decide_eq_true_eq, decide_eq_false_iff_not, Bool.not_eq_true', Bool.not_eq_false', ne_eq, Decidable.not_not, Int.not_lt, Int.not_le, not_false_eq_true] at h))
              | fail)
            refine ⟨rfl, rfl, ?_⟩
            refine sa_rest (T := []) rfl (by kernel_rfl) ?_
            repeat' (first
              | (apply so_vo; (· exact voA); (· rfl))
              | refine so_nil ?_
              | refine q_go ?_
              | refine sw_region ?_
              | (refine goQ ?_; intro _ _)
              | refine go1 ?_
              | (refine goU ?_; intro nu)
              | (refine goB ?_; intro nb)
              | (refine goM ?_; intro nm)
              | (refine go2 ?_ ?_ <;> intro h <;> (try simp only [Bool.not_true, Bool.not_false, decide_eq_true_eq, decide_eq_false_iff_not, Bool.not_eq_true', Bool.not_eq_false', ne_eq, Decidable.not_not, Int.not_lt, Int.not_le, not_false_eq_true] at h))
              | fail)
            (refine ⟨rfl, (), trivial, ?_, HLess.sat inferInstance⟩; (exact fsA))
        · repeat' (first
            | (apply so_vo; (· exact voA); (· rfl))
            | refine so_nil ?_
            | refine q_go ?_
            | refine sw_region ?_
            | (refine goQ ?_; intro _ _)
            | refine go1 ?_
            | (refine goU ?_; intro nu)
            | (refine goB ?_; intro nb)
            | (refine goM ?_; intro nm)
            | (refine go2 ?_ ?_ <;> intro h <;> (try simp only [Bool.not_true, Bool.not_false, decide_eq_true_eq, decide_eq_false_iff_not, Bool.not_eq_true', Bool.not_eq_false', ne_eq, Decidable.not_not, Int.not_lt, Int.not_le, not_false_eq_true] at h))
            | fail)
          refine ⟨rfl, (x2, bkStep l q x), by rw [hnext], ?_⟩
          rw [hst]
          exact HLess.sat inferInstance
  · repeat' (first
      | (apply so_vo; (· exact voA); (· rfl))
      | refine so_nil ?_
      | refine q_go ?_
      | refine sw_region ?_
      | (refine goQ ?_; intro _ _)
      | refine go1 ?_
      | (refine goU ?_; intro nu)
      | (refine goB ?_; intro nb)
      | (refine goM ?_; intro nm)
      | (refine go2 ?_ ?_ <;> intro h <;> (try simp only [Bool.not_true, Bool.not_false, decide_eq_true_eq, decide_eq_false_iff_not, Bool.not_eq_true', Bool.not_eq_false', ne_eq, Decidable.not_not, Int.not_lt, Int.not_le, not_false_eq_true] at h))
      | fail)
    refine sa_start [3] mixed (by kernel_rfl) ?_
    apply sa_stat 0 rfl (by kernel_rfl) rfl
    · (exact voA)
    apply sa_stat 1 rfl (by kernel_rfl) rfl
    · (exact voA)
    apply sa_stat 2 rfl (by kernel_rfl) rfl
    · (exact voA)
    refine sa_rest (T' := [_]) rfl (by kernel_rfl) ?_
    repeat' (first
      | (apply so_vo; (· exact voA); (· rfl))
      | refine so_nil ?_
      | refine q_go ?_
      | refine sw_region ?_
      | (refine goQ ?_; intro _ _)
      | refine go1 ?_
      | (refine goU ?_; intro nu)
      | (refine goB ?_; intro nb)
      | (refine goM ?_; intro nm)
      | (refine go2 ?_ ?_ <;> intro h <;> (try simp only [Bool.not_true, Bool.not_false, decide_eq_true_eq, decide_eq_false_iff_not, Bool.not_eq_true', Bool.not_eq_false', ne_eq, Decidable.not_not, Int.not_lt, Int.not_le, not_false_eq_true] at h))
      | fail)
    have hs2 : s.2 = bookM l bk p := by rw [hs, List.take_length]; rfl
    apply rqm2 rfl rfl rfl
    · rw [hs2]
      exact ⟨s.1, rfl, rfl⟩
    · rw [← hs2]; infer_instance
theorem until_ok (L : List SP) (bd : Nat) (v : LedV) (l : Led) (bk : List Int) (y : Int) [k : RdL L v l] (hk : OkL l) (hb : OkBk l bk) : FnC Tryz.prog 103 [.pointer (some ⟨bd, 0, none⟩), .int .i64 y] (cl bd 132 (deskC l v bk) :: L) (fun r M => r = .tuple #[] ∧ M = cl bd 132 (deskC l v (bookK l bk y l.pays)) :: L) := by
  have hnp := hk.np
  refine fn_start (sz := 24) Tryz.func103 rfl rfl rfl ?_
  repeat' (first
    | (apply so_vo; (· exact voA); (· rfl))
    | refine so_nil ?_
    | refine q_go ?_
    | refine sw_region ?_
    | (refine goQ ?_; intro _ _)
    | refine go1 ?_
    | (refine goU ?_; intro nu)
    | (refine goB ?_; intro nb)
    | (refine goM ?_; intro nm)
    | (refine go2 ?_ ?_ <;> intro h <;> (try simp only [Bool.not_true, Bool.not_false, decide_eq_true_eq, decide_eq_false_iff_not, Bool.not_eq_true', Bool.not_eq_false', ne_eq, Decidable.not_not, Int.not_lt, Int.not_le, not_false_eq_true] at h))
    | fail)
  refine sw_range (τ := Unit) (fun _ _ => [(0, .pointer (some ⟨bd, 0, none⟩)), (1, .int .i64 y), (10, v.up.v)]) (fun k _ => cl bd 132 (deskC l v (bookK l bk y (l.pays.take k))) :: L) (fun k _ => OkBk l (bookK l bk y (l.pays.take k))) () hb (by rfl) (by rfl) (by omega) (by (exact fsA)) (fun _ h => h) (fun _ _ => by rfl) (by rfl) (fun ka ta hlta hIa _ _ => ?_) (fun ta hIa => ?_)
  · obtain ⟨p, hp⟩ := get_some hlta
    have hpp := hk.pay p (List.mem_of_getElem? hp)
    have hnext : bookK l bk y (l.pays.take (ka + 1)) = if p.2.1 ≤ y then (bookM l (bookK l bk y (l.pays.take ka)) p).bk else bookK l bk y (l.pays.take ka) := by unfold bookK; rw [take_snoc hp, List.foldl_append]; rfl
    by_cases h0 : p.2.1 ≤ y
    · rw [if_pos h0] at hnext
      repeat' (first
        | (apply so_vo; (· exact voA); (· rfl))
        | refine so_nil ?_
        | refine q_go ?_
        | refine sw_region ?_
        | (refine goQ ?_; intro _ _)
        | refine go1 ?_
        | (refine goU ?_; intro nu)
        | (refine goB ?_; intro nb)
        | (refine goM ?_; intro nm)
        | (refine go2 ?_ ?_ <;> intro h <;> (try simp only [Bool.not_true, Bool.not_false, decide_eq_true_eq, decide_eq_false_iff_not, Bool.not_eq_true', Bool.not_eq_false', ne_eq, Decidable.not_not, Int.not_lt, Int.not_le, not_false_eq_true] at h))
        | fail)
      refine so_call rfl rfl rfl (FnC.perm (.swap _ _ _) (book_ok0 _ bd v l (bookK l bk y (l.pays.take ka)) p hk hIa (by omega))) ?_
      rintro _ _ ⟨u, rfl, rfl⟩
      repeat' (first
        | (apply so_vo; (· exact voA); (· rfl))
        | refine so_nil ?_
        | refine q_go ?_
        | refine sw_region ?_
        | (refine goQ ?_; intro _ _)
        | refine go1 ?_
        | (refine goU ?_; intro nu)
        | (refine goB ?_; intro nb)
        | (refine goM ?_; intro nm)
        | (refine go2 ?_ ?_ <;> intro h <;> (try simp only [Bool.not_true, Bool.not_false, decide_eq_true_eq, decide_eq_false_iff_not, Bool.not_eq_true', Bool.not_eq_false', ne_eq, Decidable.not_not, Int.not_lt, Int.not_le, not_false_eq_true] at h))
        | fail)
      have hok := (bookM_ok hk hIa (p := p) (by omega)).bk
      rw [← hnext] at hok ⊢
      refine ⟨rfl, (), hok, ?_, ?_⟩
      · (exact fsA)
      · (first | exact fun _ h => h | exact HLess.sat inferInstance)
    · rw [if_neg h0] at hnext
      repeat' (first
        | (apply so_vo; (· exact voA); (· rfl))
        | refine so_nil ?_
        | refine q_go ?_
        | refine sw_region ?_
        | (refine goQ ?_; intro _ _)
        | refine go1 ?_
        | (refine goU ?_; intro nu)
        | (refine goB ?_; intro nb)
        | (refine goM ?_; intro nm)
        | (refine go2 ?_ ?_ <;> intro h <;> (try simp only [Bool.not_true, Bool.not_false, decide_eq_true_eq, decide_eq_false_iff_not, Bool.not_eq_true', Bool.not_eq_false', ne_eq, Decidable.not_not, Int.not_lt, Int.not_le, not_false_eq_true] at h))
        | fail)
      rw [← hnext] at hIa ⊢
      refine ⟨rfl, (), hIa, ?_, ?_⟩
      · (exact fsA)
      · (first | exact fun _ h => h | exact HLess.sat inferInstance)
  · rw [List.take_of_length_le (Nat.le_refl _)]
    repeat' (first
      | (apply so_vo; (· exact voA); (· rfl))
      | refine so_nil ?_
      | refine q_go ?_
      | refine sw_region ?_
      | (refine goQ ?_; intro _ _)
      | refine go1 ?_
      | (refine goU ?_; intro nu)
      | (refine goB ?_; intro nb)
      | (refine goM ?_; intro nm)
      | (refine go2 ?_ ?_ <;> intro h <;> (try simp only [Bool.not_true, Bool.not_false, decide_eq_true_eq, decide_eq_false_iff_not, Bool.not_eq_true', Bool.not_eq_false', ne_eq, Decidable.not_not, Int.not_lt, Int.not_le, not_false_eq_true] at h))
      | fail)
    apply rq0 rfl
    · exact ⟨rfl, rfl⟩
    · infer_instance
end Go.Proofs.YtmhfhfhdblccjaaGreat
/-
  What somebody owes.
-/
namespace Go.Proofs.YtmhfhfhdblccjaaGreat
open Go Go.RowKit
set_option linter.unusedVariables false
set_option linter.unusedSimpArgs false
set_option maxRecDepth 100000
set_option maxHeartbeats 4000000
theorem left_bd {l : Led} (hk : OkL l) {bk : List Int} (hb : OkBk l bk) (y : Int) : ∀ (xs : List Nat), 0 ≤ xs.foldl (leftStep l bk y) 0 ∧ xs.foldl (leftStep l bk y) 0 ≤ 600 * (xs.length : Int) := by
  have key : ∀ (xs : List Nat) (s : Int), 0 ≤ s → s ≤ xs.foldl (leftStep l bk y) s ∧ xs.foldl (leftStep l bk y) s ≤ s + 600 * (xs.length : Int) := by
    intro xs
    induction xs with
    | nil => intro s h; simp
    | cons x xs ih =>
      intro s h
      have h1 := hb.rng x
      have h2 := asked_rng hk x
      have h3 : s ≤ leftStep l bk y s x ∧ leftStep l bk y s x ≤ s + 600 := by unfold leftStep; split <;> omega
      have := ih (leftStep l bk y s x) (by omega)
      simp only [List.foldl_cons, List.length_cons]
      omega
  intro xs
  have := key xs 0 (Int.le_refl _)
  omega
attribute [local irreducible] SW SO FnC retQ SA VO
theorem left_ok (L : List SP) (bd g : Nat) (fst cap : Array Value) (v : LedV) (l : Led) (bk : List Int) (y : Int) (c : Nat → Bool) [k : RdL L v l] (hk : OkL l) (hb : OkBk l bk) [he : Ent Tryz.prog g] (hc : CountC Tryz.prog g fst cap (cl bd 132 (deskC l v bk) :: L) l.loans.length c) : FnC Tryz.prog 84 [.pointer (some ⟨bd, 0, none⟩), .int .i64 y, .agg (List.toArray [.func (.func g) fst cap])] (cl bd 132 (deskC l v bk) :: L) (fun r M => r = .int .i64 (leftM l bk y c) ∧ M = cl bd 132 (deskC l v bk) :: L) := by
  have hnl := hk.nl
  have hol := order_len hk c
  refine fn_start (sz := 40) Tryz.func84 rfl rfl rfl ?_
  repeat' (first
    | (apply so_vo; (· exact voA); (· rfl))
    | refine so_nil ?_
    | refine q_go ?_
    | refine sw_region ?_
    | (refine goQ ?_; intro _ _)
    | refine go1 ?_
    | (refine go2 ?_ ?_ <;> intro h <;> (try simp only [Bool.not_true, Bool.not_false, decide_eq_true_eq, decide_eq_false_iff_not, Bool.not_eq_true', Bool.not_eq_false', ne_eq, Decidable.not_not, Int.not_lt, Int.not_le, not_false_eq_true] at h))
    | fail)
  first
    | (refine goU ?_; intro b3)
    | (refine goB ?_; intro b3)
    | (refine goM ?_; intro b3)
  repeat' (first
    | (apply so_vo; (· exact voA); (· rfl))
    | refine so_nil ?_
    | refine q_go ?_
    | refine sw_region ?_
    | (refine goQ ?_; intro _ _)
    | refine go1 ?_
    | (refine go2 ?_ ?_ <;> intro h <;> (try simp only [Bool.not_true, Bool.not_false, decide_eq_true_eq, decide_eq_false_iff_not, Bool.not_eq_true', Bool.not_eq_false', ne_eq, Decidable.not_not, Int.not_lt, Int.not_le, not_false_eq_true] at h))
    | fail)
  first
    | (refine goU ?_; intro b4)
    | (refine goB ?_; intro b4)
    | (refine goM ?_; intro b4)
  repeat' (first
    | (apply so_vo; (· exact voA); (· rfl))
    | refine so_nil ?_
    | refine q_go ?_
    | refine sw_region ?_
    | (refine goQ ?_; intro _ _)
    | refine go1 ?_
    | (refine go2 ?_ ?_ <;> intro h <;> (try simp only [Bool.not_true, Bool.not_false, decide_eq_true_eq, decide_eq_false_iff_not, Bool.not_eq_true', Bool.not_eq_false', ne_eq, Decidable.not_not, Int.not_lt, Int.not_le, not_false_eq_true] at h))
    | fail)
  first
    | (refine goU ?_; intro b5)
    | (refine goB ?_; intro b5)
    | (refine goM ?_; intro b5)
  repeat' (first
    | (apply so_vo; (· exact voA); (· rfl))
    | refine so_nil ?_
    | refine q_go ?_
    | refine sw_region ?_
    | (refine goQ ?_; intro _ _)
    | refine go1 ?_
    | (refine go2 ?_ ?_ <;> intro h <;> (try simp only [Bool.not_true, Bool.not_false, decide_eq_true_eq, decide_eq_false_iff_not, Bool.not_eq_true', Bool.not_eq_false', ne_eq, Decidable.not_not, Int.not_lt, Int.not_le, not_false_eq_true] at h))
    | fail)
  first
    | (refine goU ?_; intro b7)
    | (refine goB ?_; intro b7)
    | (refine goM ?_; intro b7)
  repeat' (first
    | (apply so_vo; (· exact voA); (· rfl))
    | refine so_nil ?_
    | refine q_go ?_
    | refine sw_region ?_
    | (refine goQ ?_; intro _ _)
    | refine go1 ?_
    | (refine go2 ?_ ?_ <;> intro h <;> (try simp only [Bool.not_true, Bool.not_false, decide_eq_true_eq, decide_eq_false_iff_not, Bool.not_eq_true', Bool.not_eq_false', ne_eq, Decidable.not_not, Int.not_lt, Int.not_le, not_false_eq_true] at h))
    | fail)
  refine so_call rfl rfl rfl (loans_ok _ bd g fst cap) ?_
  rintro _ _ ⟨bA, bB, rfl, rfl⟩
  repeat' (first
    | (apply so_vo; (· exact voA); (· rfl))
    | refine so_nil ?_
    | refine q_go ?_
    | refine sw_region ?_
    | (refine goQ ?_; intro _ _)
    | refine go1 ?_
    | (refine goU ?_; intro nu)
    | (refine goB ?_; intro nb)
    | (refine goM ?_; intro nm)
    | (refine go2 ?_ ?_ <;> intro h <;> (try simp only [Bool.not_true, Bool.not_false, decide_eq_true_eq, decide_eq_false_iff_not, Bool.not_eq_true', Bool.not_eq_false', ne_eq, Decidable.not_not, Int.not_lt, Int.not_le, not_false_eq_true] at h))
    | fail)
  refine sw_block' (fun _ _ => ?_)
  have hlt : ∀ k x, (orderM l c)[k]? = some x → x < l.loans.length := fun k x hx => (orderM_lt (List.mem_of_getElem? hx)).1
  refine sw_rangeFunc (σ := Int) (enc := fun i : Nat => Value.int .i64 i) (xs := orderM l c) (fun s => cl bB 117 [.func (.func g) fst cap] :: cl bA 112 [.pointer (some ⟨bd, 0, none⟩)] :: cl b7 3 [.int .i64 s] :: cl b5 117 [.func (.func g) fst cap] :: cl b4 3 [.int .i64 y] :: cl b3 112 [.pointer (some ⟨bd, 0, none⟩)] :: cl bd 132 (deskC l v bk) :: L)
    (fun k s => s = ((orderM l c).take k).foldl (leftStep l bk y) 0) 0 (lb := [.pointer (some ⟨bA, 0, none⟩), .pointer (some ⟨bB, 0, none⟩)]) rfl rfl rfl (fun w H => H) (fun R => ?_) (fun R R2 lp k x s hx hI Q' hq => ?_) (fun D s hs => ?_)
  · refine loans1_seq (σ := Int) _ (fun _ => bk) bA bB bd _ _ _ v l c hk (cA := fun s => inferInstance) (cB := fun s => inferInstance) (cd := fun s => inferInstance) (kl := fun s => inferInstance) (fun s L' hs i hi => ?_)
    exact hc L' ((Suf.mk' [_, _, _, _, _, _, _] _).trans hs) i hi
  · have hxl := hlt k x hx
    have hlen := hb.len
    have hrg := hb.rng x
    have hask := asked_rng hk x
    have hget := desk_get l v bk (i := x) (by omega)
    have h2 := ln_get hxl
    have hsb := left_bd hk hb y ((orderM l c).take k)
    have hsl : ((orderM l c).take k).length ≤ 90 := by simp; omega
    have hnext : ((orderM l c).take (k + 1)).foldl (leftStep l bk y) 0 = leftStep l bk y s x := by rw [take_snoc hx, List.foldl_append, ← hI]; rfl
    rw [← hI] at hsb
    by_cases h0 : (ln l x).2.1 ≤ y
    · have hst : leftStep l bk y s x = s + (askedM l x - bk.getD x 0) := by unfold leftStep; rw [if_pos h0]
      repeat' (first
        | (apply so_vo; (· exact voA); (· rfl))
        | refine so_nil ?_
        | refine q_go ?_
        | refine sw_region ?_
        | (refine goQ ?_; intro _ _)
        | refine go1 ?_
        | (refine goU ?_; intro nu)
        | (refine goB ?_; intro nb)
        | (refine goM ?_; intro nm)
        | (refine go2 ?_ ?_ <;> intro h <;> (try simp only [Bool.not_true, Bool.not_false, decide_eq_true_eq, decide_eq_false_iff_not, Bool.not_eq_true', Bool.not_eq_false', ne_eq, Decidable.not_not, Int.not_lt, Int.not_le, not_false_eq_true] at h))
        | fail)
      refine ⟨rfl, rfl, fun Q2 hq2 => ?_⟩
      repeat' (first
        | (apply so_vo; (· exact voA); (· rfl))
        | refine so_nil ?_
        | refine q_go ?_
        | refine sw_region ?_
        | (refine goQ ?_; intro _ _)
        | refine go1 ?_
        | (refine goU ?_; intro nu)
        | (refine goB ?_; intro nb)
        | (refine goM ?_; intro nm)
        | (refine go2 ?_ ?_ <;> intro h <;> (try simp only [Bool.not_true, Bool.not_false, decide_eq_true_eq, decide_eq_false_iff_not, Bool.not_eq_true', Bool.not_eq_false', ne_eq, Decidable.not_not, Int.not_lt, Int.not_le, not_false_eq_true] at h))
        | fail)
      refine sa_start [] mixed (by kernel_rfl) ?_
      apply sa_stat 0 rfl (by kernel_rfl) rfl
      · (exact voA)
      apply sa_stat 1 rfl (by kernel_rfl) rfl
      · (exact voA)
      apply sa_stat 2 rfl (by kernel_rfl) rfl
      · (exact voA)
      apply sa_stat 3 rfl (by kernel_rfl) rfl
      · (exact voA)
      apply sa_stat 4 rfl (by kernel_rfl) rfl
      · (exact voA)
      apply sa_stat 5 rfl (by kernel_rfl) rfl
      · (exact voA)
      apply sa_stat 6 rfl (by kernel_rfl) rfl
      · (exact voA)
      apply sa_stat 7 rfl (by kernel_rfl) rfl
      · (exact voA)
      apply sa_stat 8 rfl (by kernel_rfl) rfl
      · (exact voA)
      apply sa_stat 9 rfl (by kernel_rfl) rfl
      · (exact voA)
      apply sa_stat 10 rfl (by kernel_rfl) rfl
      · (exact voA)
      refine sa_rest (T' := []) rfl (by kernel_rfl) ?_
      repeat' (first
        | (apply so_vo; (· exact voA); (· rfl))
        | refine so_nil ?_
        | refine q_go ?_
        | refine sw_region ?_
        | (refine goQ ?_; intro _ _)
        | refine go1 ?_
        | (refine goU ?_; intro nu)
        | (refine goB ?_; intro nb)
        | (refine goM ?_; intro nm)
        | (refine go2 ?_ ?_ <;> intro h <;> (try simp only [Bool.not_true, Bool.not_false, decide_eq_true_eq, decide_eq_false_iff_not, Bool.not_eq_true', Bool.not_eq_false', ne_eq, Decidable.not_not, Int.not_lt, Int.not_le, not_false_eq_true] at h))
        | fail)
      refine sa_start [15] mixed (by kernel_rfl) ?_
      apply sa_stat 0 rfl (by kernel_rfl) rfl
      · (exact voA)
      apply sa_stat 1 rfl (by kernel_rfl) rfl
      · (exact voA)
      apply sa_stat 2 rfl (by kernel_rfl) rfl
      · (exact voA)
      apply sa_stat 3 rfl (by kernel_rfl) rfl
      · (exact voA)
      apply sa_stat 4 rfl (by kernel_rfl) rfl
      · (exact voA)
      apply sa_stat 5 rfl (by kernel_rfl) rfl
      · (exact voA)
      apply sa_stat 7 rfl (by kernel_rfl) rfl
      · (exact voA)
      apply sa_stat 8 rfl (by kernel_rfl) rfl
      · (exact voA)
      apply sa_stat 9 rfl (by kernel_rfl) rfl
      · (exact voA)
      apply sa_stat 10 rfl (by kernel_rfl) rfl
      · (exact voA)
      apply sa_stat 11 rfl (by kernel_rfl) rfl
      · (exact voA)
      apply sa_stat 12 rfl (by kernel_rfl) rfl
      · (exact voA)
      refine sa_chainL 6 rfl (by kernel_rfl) ?_
      (refine so_call rfl rfl rfl (asked_ok _ v l hk x hxl) ?_; rintro _ _ ⟨rfl, rfl⟩)
      repeat' (first
        | (apply so_vo; (· exact voA); (· rfl))
        | refine so_nil ?_
        | refine q_go ?_
        | refine sw_region ?_
        | (refine goQ ?_; intro _ _)
        | refine go1 ?_
        | (refine goU ?_; intro nu)
        | (refine goB ?_; intro nb)
        | (refine goM ?_; intro nm)
        | (refine go2 ?_ ?_ <;> intro h <;> (try simp only [Bool.not_true, Bool.not_false, decide_eq_true_eq, decide_eq_false_iff_not, Bool.not_eq_true', Bool.not_eq_false', ne_eq, Decidable.not_not, Int.not_lt, Int.not_le, not_false_eq_true] at h))
        | fail)
      refine ⟨rfl, rfl, HLess.sat inferInstance, ?_⟩
      apply sa_stat 13 rfl (by kernel_rfl) rfl
      · (exact voA)
      apply sa_stat 14 rfl (by kernel_rfl) rfl
      · (exact voA)
      refine sa_rest (T' := [_]) rfl (by kernel_rfl) ?_
      repeat' (first
        | (apply so_vo; (· exact voA); (· rfl))
        | refine so_nil ?_
        | refine q_go ?_
        | refine sw_region ?_
        | (refine goQ ?_; intro _ _)
        | refine go1 ?_
        | (refine goU ?_; intro nu)
        | (refine goB ?_; intro nb)
        | (refine goM ?_; intro nm)
        | (refine go2 ?_ ?_ <;> intro h <;> (try simp only [Bool.not_true, Bool.not_false, decide_eq_true_eq, decide_eq_false_iff_not, Bool.not_eq_true', Bool.not_eq_false', ne_eq, Decidable.not_not, Int.not_lt, Int.not_le, not_false_eq_true] at h))
        | fail)
      refine ⟨rfl, _, hnext.symm, ?_⟩
      rw [hst]
      exact fun w h => h
    · have hst : leftStep l bk y s x = s := by unfold leftStep; rw [if_neg h0]
      repeat' (first
        | (apply so_vo; (· exact voA); (· rfl))
        | refine so_nil ?_
        | refine q_go ?_
        | refine sw_region ?_
        | (refine goQ ?_; intro _ _)
        | refine go1 ?_
        | (refine goU ?_; intro nu)
        | (refine goB ?_; intro nb)
        | (refine goM ?_; intro nm)
        | (refine go2 ?_ ?_ <;> intro h <;> (try simp only [Bool.not_true, Bool.not_false, decide_eq_true_eq, decide_eq_false_iff_not, Bool.not_eq_true', Bool.not_eq_false', ne_eq, Decidable.not_not, Int.not_lt, Int.not_le, not_false_eq_true] at h))
        | fail)
      refine ⟨rfl, rfl, fun Q2 hq2 => ?_⟩
      repeat' (first
        | (apply so_vo; (· exact voA); (· rfl))
        | refine so_nil ?_
        | refine q_go ?_
        | refine sw_region ?_
        | (refine goQ ?_; intro _ _)
        | refine go1 ?_
        | (refine goU ?_; intro nu)
        | (refine goB ?_; intro nb)
        | (refine goM ?_; intro nm)
        | (refine go2 ?_ ?_ <;> intro h <;> (try simp only [Bool.not_true, Bool.not_false, decide_eq_true_eq, decide_eq_false_iff_not, Bool.not_eq_true', Bool.not_eq_false', ne_eq, Decidable.not_not, Int.not_lt, Int.not_le, not_false_eq_true] at h))
        | fail)
      refine sa_start [] mixed (by kernel_rfl) ?_
      apply sa_stat 0 rfl (by kernel_rfl) rfl
      · (exact voA)
      apply sa_stat 1 rfl (by kernel_rfl) rfl
      · (exact voA)
      apply sa_stat 2 rfl (by kernel_rfl) rfl
      · (exact voA)
      apply sa_stat 3 rfl (by kernel_rfl) rfl
      · (exact voA)
      apply sa_stat 4 rfl (by kernel_rfl) rfl
      · (exact voA)
      apply sa_stat 5 rfl (by kernel_rfl) rfl
      · (exact voA)
      apply sa_stat 6 rfl (by kernel_rfl) rfl
      · (exact voA)
      apply sa_stat 7 rfl (by kernel_rfl) rfl
      · (exact voA)
      apply sa_stat 8 rfl (by kernel_rfl) rfl
      · (exact voA)
      apply sa_stat 9 rfl (by kernel_rfl) rfl
      · (exact voA)
      apply sa_stat 10 rfl (by kernel_rfl) rfl
      · (exact voA)
      refine sa_rest (T' := []) rfl (by kernel_rfl) ?_
      repeat' (first
        | (apply so_vo; (· exact voA); (· rfl))
        | refine so_nil ?_
        | refine q_go ?_
        | refine sw_region ?_
        | (refine goQ ?_; intro _ _)
        | refine go1 ?_
        | (refine goU ?_; intro nu)
        | (refine goB ?_; intro nb)
        | (refine goM ?_; intro nm)
        | (refine go2 ?_ ?_ <;> intro h <;> (try simp only [Bool.not_true, Bool.not_false, decide_eq_true_eq, decide_eq_false_iff_not, Bool.not_eq_true', Bool.not_eq_false', ne_eq, Decidable.not_not, Int.not_lt, Int.not_le, not_false_eq_true] at h))
        | fail)
      exact ⟨rfl, s, by rw [hnext, hst], fun w h => h⟩
  · repeat' (first
      | (apply so_vo; (· exact voA); (· rfl))
      | refine so_nil ?_
      | refine q_go ?_
      | refine sw_region ?_
      | (refine goQ ?_; intro _ _)
      | refine go1 ?_
      | (refine goU ?_; intro nu)
      | (refine goB ?_; intro nb)
      | (refine goM ?_; intro nm)
      | (refine go2 ?_ ?_ <;> intro h <;> (try simp only [Bool.not_true, Bool.not_false, decide_eq_true_eq, decide_eq_false_iff_not, Bool.not_eq_true', Bool.not_eq_false', ne_eq, Decidable.not_not, Int.not_lt, Int.not_le, not_false_eq_true] at h))
      | fail)
    have hs2 : s = leftM l bk y c := by rw [hs, List.take_length]; rfl
    apply rqm1 rfl rfl
    · rw [hs2]
      exact ⟨rfl, rfl⟩
    · infer_instance
theorem Owes1_ok (L : List SP) (b3 b4 : Nat) (v : LedV) (l : Led) (who : Int) [c3 : Cl L b3 74 (ledC l v)] [c4 : Cl L b4 3 [.int .i64 who]] [k : RdL L v l] (i : Nat) (hi : i < l.loans.length) : FnC Tryz.prog 85 [.int .i64 i, .pointer (some ⟨b3, 0, none⟩), .pointer (some ⟨b4, 0, none⟩)] L (fun r M => r = .bool (decide ((ln l i).1 = who)) ∧ M = L) := by
  have h2 := ln_get hi
  refine fn_start (sz := 13) Tryz.func85 rfl rfl rfl ?_
  repeat' (first
    | (apply so_vo; (· exact voA); (· rfl))
    | refine so_nil ?_
    | refine q_go ?_
    | refine sw_region ?_
    | (refine goQ ?_; intro _ _)
    | refine go1 ?_
    | (refine goU ?_; intro nu)
    | (refine goB ?_; intro nb)
    | (refine goM ?_; intro nm)
    | (refine go2 ?_ ?_ <;> intro h <;> (try simp only [Bool.not_true, Bool.not_false, decide_eq_true_eq, decide_eq_false_iff_not, Bool.not_eq_true', Bool.not_eq_false', ne_eq, Decidable.not_not, Int.not_lt, Int.not_le, not_false_eq_true] at h))
    | fail)
  refine sa_start [8] mixed (by kernel_rfl) ?_
  apply sa_stat 0 rfl (by kernel_rfl) rfl
  · (exact voA)
  apply sa_stat 1 rfl (by kernel_rfl) rfl
  · (exact voA)
  apply sa_stat 2 rfl (by kernel_rfl) rfl
  · (exact voA)
  apply sa_stat 3 rfl (by kernel_rfl) rfl
  · (exact voA)
  apply sa_stat 4 rfl (by kernel_rfl) rfl
  · (exact voA)
  apply sa_stat 5 rfl (by kernel_rfl) rfl
  · (exact voA)
  apply sa_stat 6 rfl (by kernel_rfl) rfl
  · (exact voA)
  apply sa_stat 7 rfl (by kernel_rfl) rfl
  · (exact voA)
  refine sa_rest (T' := [_]) rfl (by kernel_rfl) ?_
  repeat' (first
    | (apply so_vo; (· exact voA); (· rfl))
    | refine so_nil ?_
    | refine q_go ?_
    | refine sw_region ?_
    | (refine goQ ?_; intro _ _)
    | refine go1 ?_
    | (refine goU ?_; intro nu)
    | (refine goB ?_; intro nb)
    | (refine goM ?_; intro nm)
    | (refine go2 ?_ ?_ <;> intro h <;> (try simp only [Bool.not_true, Bool.not_false, decide_eq_true_eq, decide_eq_false_iff_not, Bool.not_eq_true', Bool.not_eq_false', ne_eq, Decidable.not_not, Int.not_lt, Int.not_le, not_false_eq_true] at h))
    | fail)
  apply rq1 rfl rfl
  · exact ⟨rfl, rfl⟩
  · (first | infer_instance | exact ⟨fun _ H => H⟩)
theorem Overdue1_ok (L : List SP) (b3 b4 b5 : Nat) (v : LedV) (l : Led) (who y : Int) [c3 : Cl L b3 74 (ledC l v)] [c4 : Cl L b4 3 [.int .i64 who]] [c5 : Cl L b5 3 [.int .i64 y]] [k : RdL L v l] (hk : OkL l) (i : Nat) (hi : i < l.loans.length) : FnC Tryz.prog 100 [.int .i64 i, .pointer (some ⟨b3, 0, none⟩), .pointer (some ⟨b4, 0, none⟩), .pointer (some ⟨b5, 0, none⟩)] L (fun r M => r = .bool (decide ((ln l i).1 = who) && decide (0 ≤ dueM l i ∧ dueM l i ≤ y)) ∧ M = L) := by
  have h2 := ln_get hi
  refine fn_start (sz := 21) Tryz.func100 rfl rfl rfl ?_
  repeat' (first
    | (apply so_vo; (· exact voA); (· rfl))
    | refine so_nil ?_
    | refine q_go ?_
    | refine sw_region ?_
    | (refine goQ ?_; intro _ _)
    | refine go1 ?_
    | (refine goU ?_; intro nu)
    | (refine goB ?_; intro nb)
    | (refine goM ?_; intro nm)
    | (refine go2 ?_ ?_ <;> intro h <;> (try simp only [Bool.not_true, Bool.not_false, decide_eq_true_eq, decide_eq_false_iff_not, Bool.not_eq_true', Bool.not_eq_false', ne_eq, Decidable.not_not, Int.not_lt, Int.not_le, not_false_eq_true] at h))
    | fail)
  by_cases h0 : (ln l i).1 = who
  · refine sa_start [15] mixed (by kernel_rfl) ?_
    apply sa_stat 0 rfl (by kernel_rfl) rfl
    · (exact voA)
    apply sa_stat 1 rfl (by kernel_rfl) rfl
    · (exact voA)
    apply sa_stat 2 rfl (by kernel_rfl) rfl
    · (exact voA)
    apply sa_stat 3 rfl (by kernel_rfl) rfl
    · (exact voA)
    apply sa_stat 4 rfl (by kernel_rfl) rfl
    · (exact voA)
    apply sa_stat 5 rfl (by kernel_rfl) rfl
    · (exact voA)
    apply sa_stat 6 rfl (by kernel_rfl) rfl
    · (exact voA)
    apply sa_stat 7 rfl (by kernel_rfl) rfl
    · (exact voA)
    apply sa_stat 8 rfl (by kernel_rfl) rfl
    · (exact voA)
    first | (apply sa_stat_on 9 rfl rfl rfl rfl (by kernel_rfl) rfl; (· ((exact voA)))) | (refine sa_stat_off 9 rfl rfl (.inl ⟨rfl, rfl⟩) (by kernel_rfl) rfl ?_) | (refine sa_stat_off 9 rfl rfl (.inr rfl) (by kernel_rfl) rfl ?_) | (apply sa_stat_on 9 rfl rfl rfl ?_ (by kernel_rfl) rfl; (· ((exact voA))); (rotate_left 1); (· (exact decA))) | (refine sa_stat_off 9 rfl rfl (.inl ⟨rfl, ?_⟩) (by kernel_rfl) rfl ?_; (· (exact decA)))
    first | (apply sa_stat_on 10 rfl rfl rfl rfl (by kernel_rfl) rfl; (· ((exact voA)))) | (refine sa_stat_off 10 rfl rfl (.inl ⟨rfl, rfl⟩) (by kernel_rfl) rfl ?_) | (refine sa_stat_off 10 rfl rfl (.inr rfl) (by kernel_rfl) rfl ?_) | (apply sa_stat_on 10 rfl rfl rfl ?_ (by kernel_rfl) rfl; (· ((exact voA))); (rotate_left 1); (· (exact decA))) | (refine sa_stat_off 10 rfl rfl (.inl ⟨rfl, ?_⟩) (by kernel_rfl) rfl ?_; (· (exact decA)))
    first | (apply sa_stat_on 12 rfl rfl rfl rfl (by kernel_rfl) rfl; (· ((exact voA)))) | (refine sa_stat_off 12 rfl rfl (.inl ⟨rfl, rfl⟩) (by kernel_rfl) rfl ?_) | (refine sa_stat_off 12 rfl rfl (.inr rfl) (by kernel_rfl) rfl ?_) | (apply sa_stat_on 12 rfl rfl rfl ?_ (by kernel_rfl) rfl; (· ((exact voA))); (rotate_left 1); (· (exact decA))) | (refine sa_stat_off 12 rfl rfl (.inl ⟨rfl, ?_⟩) (by kernel_rfl) rfl ?_; (· (exact decA)))
    refine sa_chainL 11 rfl (by kernel_rfl) ?_
    first | (refine so_on rfl rfl rfl ?_) | (refine so_on rfl rfl ?_ ?_; (· (exact decA)))
    (refine so_call rfl rfl rfl (due_ok _ v l hk i hi) ?_; rintro _ _ ⟨rfl, rfl⟩)
    repeat' (first
      | (apply so_vo; (· exact voA); (· rfl))
      | refine so_nil ?_
      | refine q_go ?_
      | refine sw_region ?_
      | (refine goQ ?_; intro _ _)
      | refine go1 ?_
      | (refine goU ?_; intro nu)
      | (refine goB ?_; intro nb)
      | (refine goM ?_; intro nm)
      | (refine go2 ?_ ?_ <;> intro h <;> (try simp only [Bool.not_true, Bool.not_false, decide_eq_true_eq, decide_eq_false_iff_not, Bool.not_eq_true', Bool.not_eq_false', ne_eq, Decidable.not_not, Int.not_lt, Int.not_le, not_false_eq_true] at h))
      | fail)
    refine ⟨rfl, rfl, HLess.sat inferInstance, ?_⟩
    refine sa_chainL 13 rfl (by kernel_rfl) ?_
    first | (refine so_on rfl rfl rfl ?_) | (refine so_on rfl rfl ?_ ?_; (· (exact decA)))
    (refine so_call rfl rfl rfl (in_ok _ (dueM l i) 0 y) ?_; rintro _ _ ⟨rfl, rfl⟩)
    repeat' (first
      | (apply so_vo; (· exact voA); (· rfl))
      | refine so_nil ?_
      | refine q_go ?_
      | refine sw_region ?_
      | (refine goQ ?_; intro _ _)
      | refine go1 ?_
      | (refine goU ?_; intro nu)
      | (refine goB ?_; intro nb)
      | (refine goM ?_; intro nm)
      | (refine go2 ?_ ?_ <;> intro h <;> (try simp only [Bool.not_true, Bool.not_false, decide_eq_true_eq, decide_eq_false_iff_not, Bool.not_eq_true', Bool.not_eq_false', ne_eq, Decidable.not_not, Int.not_lt, Int.not_le, not_false_eq_true] at h))
      | fail)
    refine ⟨rfl, rfl, HLess.sat inferInstance, ?_⟩
    apply sa_stat 14 rfl (by kernel_rfl) rfl
    · (exact voA)
    refine sa_rest (T' := [_]) rfl (by kernel_rfl) ?_
    repeat' (first
      | (apply so_vo; (· exact voA); (· rfl))
      | refine so_nil ?_
      | refine q_go ?_
      | refine sw_region ?_
      | (refine goQ ?_; intro _ _)
      | refine go1 ?_
      | (refine goU ?_; intro nu)
      | (refine goB ?_; intro nb)
      | (refine goM ?_; intro nm)
      | (refine go2 ?_ ?_ <;> intro h <;> (try simp only [Bool.not_true, Bool.not_false, decide_eq_true_eq, decide_eq_false_iff_not, Bool.not_eq_true', Bool.not_eq_false', ne_eq, Decidable.not_not, Int.not_lt, Int.not_le, not_false_eq_true] at h))
      | fail)
    apply rq1 rfl rfl
    · exact ⟨by rw [decide_eq_true h0]; rfl, rfl⟩
    · (first | infer_instance | exact ⟨fun _ H => H⟩)
  · refine sa_start [15] mixed (by kernel_rfl) ?_
    apply sa_stat 0 rfl (by kernel_rfl) rfl
    · (exact voA)
    apply sa_stat 1 rfl (by kernel_rfl) rfl
    · (exact voA)
    apply sa_stat 2 rfl (by kernel_rfl) rfl
    · (exact voA)
    apply sa_stat 3 rfl (by kernel_rfl) rfl
    · (exact voA)
    apply sa_stat 4 rfl (by kernel_rfl) rfl
    · (exact voA)
    apply sa_stat 5 rfl (by kernel_rfl) rfl
    · (exact voA)
    apply sa_stat 6 rfl (by kernel_rfl) rfl
    · (exact voA)
    apply sa_stat 7 rfl (by kernel_rfl) rfl
    · (exact voA)
    apply sa_stat 8 rfl (by kernel_rfl) rfl
    · (exact voA)
    first | (apply sa_stat_on 9 rfl rfl rfl rfl (by kernel_rfl) rfl; (· ((exact voA)))) | (refine sa_stat_off 9 rfl rfl (.inl ⟨rfl, rfl⟩) (by kernel_rfl) rfl ?_) | (refine sa_stat_off 9 rfl rfl (.inr rfl) (by kernel_rfl) rfl ?_) | (apply sa_stat_on 9 rfl rfl rfl ?_ (by kernel_rfl) rfl; (· ((exact voA))); (rotate_left 1); (· (exact decA))) | (refine sa_stat_off 9 rfl rfl (.inl ⟨rfl, ?_⟩) (by kernel_rfl) rfl ?_; (· (exact decA)))
    first | (apply sa_stat_on 10 rfl rfl rfl rfl (by kernel_rfl) rfl; (· ((exact voA)))) | (refine sa_stat_off 10 rfl rfl (.inl ⟨rfl, rfl⟩) (by kernel_rfl) rfl ?_) | (refine sa_stat_off 10 rfl rfl (.inr rfl) (by kernel_rfl) rfl ?_) | (apply sa_stat_on 10 rfl rfl rfl ?_ (by kernel_rfl) rfl; (· ((exact voA))); (rotate_left 1); (· (exact decA))) | (refine sa_stat_off 10 rfl rfl (.inl ⟨rfl, ?_⟩) (by kernel_rfl) rfl ?_; (· (exact decA)))
    first | (apply sa_stat_on 12 rfl rfl rfl rfl (by kernel_rfl) rfl; (· ((exact voA)))) | (refine sa_stat_off 12 rfl rfl (.inl ⟨rfl, rfl⟩) (by kernel_rfl) rfl ?_) | (refine sa_stat_off 12 rfl rfl (.inr rfl) (by kernel_rfl) rfl ?_) | (apply sa_stat_on 12 rfl rfl rfl ?_ (by kernel_rfl) rfl; (· ((exact voA))); (rotate_left 1); (· (exact decA))) | (refine sa_stat_off 12 rfl rfl (.inl ⟨rfl, ?_⟩) (by kernel_rfl) rfl ?_; (· (exact decA)))
    refine sa_chainL 11 rfl (by kernel_rfl) ?_
    repeat' (first
      | (apply so_vo; (· exact voA); (· rfl))
      | refine so_nil ?_
      | refine q_go ?_
      | refine sw_region ?_
      | (refine goQ ?_; intro _ _)
      | refine go1 ?_
      | (refine goU ?_; intro nu)
      | (refine goB ?_; intro nb)
      | (refine goM ?_; intro nm)
      | (refine go2 ?_ ?_ <;> intro h <;> (try simp only [Bool.not_true, Bool.not_false, decide_eq_true_eq, decide_eq_false_iff_not, Bool.not_eq_true', Bool.not_eq_false', ne_eq, Decidable.not_not, Int.not_lt, Int.not_le, not_false_eq_true] at h))
      | fail)
    refine ⟨rfl, rfl, HLess.sat inferInstance, ?_⟩
    refine sa_chainL 13 rfl (by kernel_rfl) ?_
    repeat' (first
      | (apply so_vo; (· exact voA); (· rfl))
      | refine so_nil ?_
      | refine q_go ?_
      | refine sw_region ?_
      | (refine goQ ?_; intro _ _)
      | refine go1 ?_
      | (refine goU ?_; intro nu)
      | (refine goB ?_; intro nb)
      | (refine goM ?_; intro nm)
      | (refine go2 ?_ ?_ <;> intro h <;> (try simp only [Bool.not_true, Bool.not_false, decide_eq_true_eq, decide_eq_false_iff_not, Bool.not_eq_true', Bool.not_eq_false', ne_eq, Decidable.not_not, Int.not_lt, Int.not_le, not_false_eq_true] at h))
      | fail)
    refine ⟨rfl, rfl, HLess.sat inferInstance, ?_⟩
    apply sa_stat 14 rfl (by kernel_rfl) rfl
    · (exact voA)
    refine sa_rest (T' := [_]) rfl (by kernel_rfl) ?_
    repeat' (first
      | (apply so_vo; (· exact voA); (· rfl))
      | refine so_nil ?_
      | refine q_go ?_
      | refine sw_region ?_
      | (refine goQ ?_; intro _ _)
      | refine go1 ?_
      | (refine goU ?_; intro nu)
      | (refine goB ?_; intro nb)
      | (refine goM ?_; intro nm)
      | (refine go2 ?_ ?_ <;> intro h <;> (try simp only [Bool.not_true, Bool.not_false, decide_eq_true_eq, decide_eq_false_iff_not, Bool.not_eq_true', Bool.not_eq_false', ne_eq, Decidable.not_not, Int.not_lt, Int.not_le, not_false_eq_true] at h))
      | fail)
    apply rq1 rfl rfl
    · exact ⟨by rw [decide_eq_false h0]; rfl, rfl⟩
    · (first | infer_instance | exact ⟨fun _ H => H⟩)
theorem opened_ok (L : List SP) (v : LedV) (l : Led) [k : RdL L v l] (hk : OkL l) : FnC Tryz.prog 98 [.agg (ledC l v).toArray] L (fun r M => ∃ bd, r = .tuple #[.pointer (some ⟨bd, 0, none⟩), .int .i64 0] ∧ M = cl bd 132 (deskC l v zeros) :: L) := by
  refine fn_start (sz := 13) Tryz.func98 rfl rfl rfl ?_
  repeat' (first
    | (apply so_vo; (· exact voA); (· rfl))
    | refine so_nil ?_
    | refine q_go ?_
    | refine sw_region ?_
    | (refine goQ ?_; intro _ _)
    | refine go1 ?_
    | (refine go2 ?_ ?_ <;> intro h <;> (try simp only [Bool.not_true, Bool.not_false, decide_eq_true_eq, decide_eq_false_iff_not, Bool.not_eq_true', Bool.not_eq_false', ne_eq, Decidable.not_not, Int.not_lt, Int.not_le, not_false_eq_true] at h))
    | fail)
  first
    | (refine goU ?_; intro b1)
    | (refine goB ?_; intro b1)
    | (refine goM ?_; intro b1)
  repeat' (first
    | (apply so_vo; (· exact voA); (· rfl))
    | refine so_nil ?_
    | refine q_go ?_
    | refine sw_region ?_
    | (refine goQ ?_; intro _ _)
    | refine go1 ?_
    | (refine go2 ?_ ?_ <;> intro h <;> (try simp only [Bool.not_true, Bool.not_false, decide_eq_true_eq, decide_eq_false_iff_not, Bool.not_eq_true', Bool.not_eq_false', ne_eq, Decidable.not_not, Int.not_lt, Int.not_le, not_false_eq_true] at h))
    | fail)
  refine so_call rfl rfl rfl (Check_ok _ v l hk) ?_
  rintro _ _ ⟨rfl, rfl⟩
  repeat' (first
    | (apply so_vo; (· exact voA); (· rfl))
    | refine so_nil ?_
    | refine q_go ?_
    | refine sw_region ?_
    | (refine goQ ?_; intro _ _)
    | refine go1 ?_
    | (refine goU ?_; intro nu)
    | (refine goB ?_; intro nb)
    | (refine goM ?_; intro nm)
    | (refine go2 ?_ ?_ <;> intro h <;> (try simp only [Bool.not_true, Bool.not_false, decide_eq_true_eq, decide_eq_false_iff_not, Bool.not_eq_true', Bool.not_eq_false', ne_eq, Decidable.not_not, Int.not_lt, Int.not_le, not_false_eq_true] at h))
    | fail)
  apply rq2 rfl rfl rfl
  · exact ⟨nb, rfl, rfl⟩
  · exact ⟨fun w H => Holds.cons_mono (fun _ h => h.tail) H⟩
theorem owing_ok (L : List SP) (v : LedV) (l : Led) (who y : Int) [k : RdL L v l] (hk : OkL l) (hw : 0 ≤ who ∧ who ≤ l.folk - 1) (hy : 0 ≤ y ∧ y ≤ l.years - 1) : FnC Tryz.prog 83 [.agg (ledC l v).toArray, .int .i64 who, .int .i64 y] L (fun r M => ∃ bd, r = .tuple #[.pointer (some ⟨bd, 0, none⟩), .int .i64 0] ∧ M = cl bd 132 (deskC l v (untilM l y)) :: L) := by
  refine fn_start (sz := 32) Tryz.func83 rfl rfl rfl ?_
  repeat' (first
    | (apply so_vo; (· exact voA); (· rfl))
    | refine so_nil ?_
    | refine q_go ?_
    | refine sw_region ?_
    | (refine goQ ?_; intro _ _)
    | refine go1 ?_
    | (refine go2 ?_ ?_ <;> intro h <;> (try simp only [Bool.not_true, Bool.not_false, decide_eq_true_eq, decide_eq_false_iff_not, Bool.not_eq_true', Bool.not_eq_false', ne_eq, Decidable.not_not, Int.not_lt, Int.not_le, not_false_eq_true] at h))
    | fail)
  first
    | (refine goU ?_; intro b3)
    | (refine goB ?_; intro b3)
    | (refine goM ?_; intro b3)
  repeat' (first
    | (apply so_vo; (· exact voA); (· rfl))
    | refine so_nil ?_
    | refine q_go ?_
    | refine sw_region ?_
    | (refine goQ ?_; intro _ _)
    | refine go1 ?_
    | (refine go2 ?_ ?_ <;> intro h <;> (try simp only [Bool.not_true, Bool.not_false, decide_eq_true_eq, decide_eq_false_iff_not, Bool.not_eq_true', Bool.not_eq_false', ne_eq, Decidable.not_not, Int.not_lt, Int.not_le, not_false_eq_true] at h))
    | fail)
  refine so_call rfl rfl rfl (opened_ok _ v l hk) ?_
  rintro _ _ ⟨bd, rfl, rfl⟩
  repeat' (first
    | (apply so_vo; (· exact voA); (· rfl))
    | refine so_nil ?_
    | refine q_go ?_
    | refine sw_region ?_
    | (refine goQ ?_; intro _ _)
    | refine go1 ?_
    | (refine goU ?_; intro nu)
    | (refine goB ?_; intro nb)
    | (refine goM ?_; intro nm)
    | (refine go2 ?_ ?_ <;> intro h <;> (try simp only [Bool.not_true, Bool.not_false, decide_eq_true_eq, decide_eq_false_iff_not, Bool.not_eq_true', Bool.not_eq_false', ne_eq, Decidable.not_not, Int.not_lt, Int.not_le, not_false_eq_true] at h))
    | fail)
  refine so_call rfl rfl rfl (person_ok _ v l hk who) ?_
  rintro _ _ ⟨rfl, rfl⟩
  rw [decide_eq_true hw]
  repeat' (first
    | (apply so_vo; (· exact voA); (· rfl))
    | refine so_nil ?_
    | refine q_go ?_
    | refine sw_region ?_
    | (refine goQ ?_; intro _ _)
    | refine go1 ?_
    | (refine goU ?_; intro nu)
    | (refine goB ?_; intro nb)
    | (refine goM ?_; intro nm)
    | (refine go2 ?_ ?_ <;> intro h <;> (try simp only [Bool.not_true, Bool.not_false, decide_eq_true_eq, decide_eq_false_iff_not, Bool.not_eq_true', Bool.not_eq_false', ne_eq, Decidable.not_not, Int.not_lt, Int.not_le, not_false_eq_true] at h))
    | fail)
  refine so_call rfl rfl rfl (year_ok _ v l hk y) ?_
  rintro _ _ ⟨rfl, rfl⟩
  rw [decide_eq_true hy]
  repeat' (first
    | (apply so_vo; (· exact voA); (· rfl))
    | refine so_nil ?_
    | refine q_go ?_
    | refine sw_region ?_
    | (refine goQ ?_; intro _ _)
    | refine go1 ?_
    | (refine goU ?_; intro nu)
    | (refine goB ?_; intro nb)
    | (refine goM ?_; intro nm)
    | (refine go2 ?_ ?_ <;> intro h <;> (try simp only [Bool.not_true, Bool.not_false, decide_eq_true_eq, decide_eq_false_iff_not, Bool.not_eq_true', Bool.not_eq_false', ne_eq, Decidable.not_not, Int.not_lt, Int.not_le, not_false_eq_true] at h))
    | fail)
  refine so_call rfl rfl rfl (until_ok _ bd v l zeros y hk (OkBk.zero hk)) ?_
  rintro _ _ ⟨rfl, rfl⟩
  rw [show bookK l zeros y l.pays = untilM l y from rfl]
  repeat' (first
    | (apply so_vo; (· exact voA); (· rfl))
    | refine so_nil ?_
    | refine q_go ?_
    | refine sw_region ?_
    | (refine goQ ?_; intro _ _)
    | refine go1 ?_
    | (refine goU ?_; intro nu)
    | (refine goB ?_; intro nb)
    | (refine goM ?_; intro nm)
    | (refine go2 ?_ ?_ <;> intro h <;> (try simp only [Bool.not_true, Bool.not_false, decide_eq_true_eq, decide_eq_false_iff_not, Bool.not_eq_true', Bool.not_eq_false', ne_eq, Decidable.not_not, Int.not_lt, Int.not_le, not_false_eq_true] at h))
    | fail)
  apply rq2 rfl rfl rfl
  · exact ⟨bd, rfl, rfl⟩
  · (first | infer_instance | exact ⟨fun _ H => H⟩)
theorem Owes_ok (L : List SP) (v : LedV) (l : Led) (who y : Int) [k : RdL L v l] (hk : OkL l) (hw : 0 ≤ who ∧ who ≤ l.folk - 1) (hy : 0 ≤ y ∧ y ≤ l.years - 1) : FnC Tryz.prog 43 [.agg (ledC l v).toArray, .int .i64 who, .int .i64 y] L (fun r M => r = .tuple #[.int .i64 (owesM l who y), .int .i64 0] ∧ M = L) := by
  refine fn_start (sz := 25) Tryz.func43 rfl rfl rfl ?_
  repeat' (first
    | (apply so_vo; (· exact voA); (· rfl))
    | refine so_nil ?_
    | refine q_go ?_
    | refine sw_region ?_
    | (refine goQ ?_; intro _ _)
    | refine go1 ?_
    | (refine go2 ?_ ?_ <;> intro h <;> (try simp only [Bool.not_true, Bool.not_false, decide_eq_true_eq, decide_eq_false_iff_not, Bool.not_eq_true', Bool.not_eq_false', ne_eq, Decidable.not_not, Int.not_lt, Int.not_le, not_false_eq_true] at h))
    | fail)
  first
    | (refine goU ?_; intro b3)
    | (refine goB ?_; intro b3)
    | (refine goM ?_; intro b3)
  repeat' (first
    | (apply so_vo; (· exact voA); (· rfl))
    | refine so_nil ?_
    | refine q_go ?_
    | refine sw_region ?_
    | (refine goQ ?_; intro _ _)
    | refine go1 ?_
    | (refine go2 ?_ ?_ <;> intro h <;> (try simp only [Bool.not_true, Bool.not_false, decide_eq_true_eq, decide_eq_false_iff_not, Bool.not_eq_true', Bool.not_eq_false', ne_eq, Decidable.not_not, Int.not_lt, Int.not_le, not_false_eq_true] at h))
    | fail)
  first
    | (refine goU ?_; intro b4)
    | (refine goB ?_; intro b4)
    | (refine goM ?_; intro b4)
  repeat' (first
    | (apply so_vo; (· exact voA); (· rfl))
    | refine so_nil ?_
    | refine q_go ?_
    | refine sw_region ?_
    | (refine goQ ?_; intro _ _)
    | refine go1 ?_
    | (refine go2 ?_ ?_ <;> intro h <;> (try simp only [Bool.not_true, Bool.not_false, decide_eq_true_eq, decide_eq_false_iff_not, Bool.not_eq_true', Bool.not_eq_false', ne_eq, Decidable.not_not, Int.not_lt, Int.not_le, not_false_eq_true] at h))
    | fail)
  refine so_call rfl rfl rfl (owing_ok _ v l who y hk hw hy) ?_
  rintro _ _ ⟨bd, rfl, rfl⟩
  repeat' (first
    | (apply so_vo; (· exact voA); (· rfl))
    | refine so_nil ?_
    | refine q_go ?_
    | refine sw_region ?_
    | (refine goQ ?_; intro _ _)
    | refine go1 ?_
    | (refine goU ?_; intro nu)
    | (refine goB ?_; intro nb)
    | (refine goM ?_; intro nm)
    | (refine go2 ?_ ?_ <;> intro h <;> (try simp only [Bool.not_true, Bool.not_false, decide_eq_true_eq, decide_eq_false_iff_not, Bool.not_eq_true', Bool.not_eq_false', ne_eq, Decidable.not_not, Int.not_lt, Int.not_le, not_false_eq_true] at h))
    | fail)
  refine so_call rfl rfl rfl (left_ok _ bd _ _ _ v l (untilM l y) y (fun i => decide ((ln l i).1 = who)) hk (untilM_ok hk y) (fun L' s i hi => ?_)) ?_
  · haveI := Cl.up (L := L') (inferInstance : Cl _ b3 74 (ledC l v)) s
    haveI := Cl.up (L := L') (inferInstance : Cl _ b4 3 [.int .i64 who]) s
    haveI := RdL.up (L' := L') (inferInstance : RdL _ v l) s
    exact Owes1_ok L' b3 b4 v l who i hi
  rintro _ _ ⟨rfl, rfl⟩
  repeat' (first
    | (apply so_vo; (· exact voA); (· rfl))
    | refine so_nil ?_
    | refine q_go ?_
    | refine sw_region ?_
    | (refine goQ ?_; intro _ _)
    | refine go1 ?_
    | (refine goU ?_; intro nu)
    | (refine goB ?_; intro nb)
    | (refine goM ?_; intro nm)
    | (refine go2 ?_ ?_ <;> intro h <;> (try simp only [Bool.not_true, Bool.not_false, decide_eq_true_eq, decide_eq_false_iff_not, Bool.not_eq_true', Bool.not_eq_false', ne_eq, Decidable.not_not, Int.not_lt, Int.not_le, not_false_eq_true] at h))
    | fail)
  apply rq2 rfl rfl rfl
  · exact ⟨rfl, rfl⟩
  · (first | infer_instance | exact ⟨fun _ H => H⟩)
theorem Overdue_ok (L : List SP) (v : LedV) (l : Led) (who y : Int) [k : RdL L v l] (hk : OkL l) (hw : 0 ≤ who ∧ who ≤ l.folk - 1) (hy : 0 ≤ y ∧ y ≤ l.years - 1) : FnC Tryz.prog 66 [.agg (ledC l v).toArray, .int .i64 who, .int .i64 y] L (fun r M => r = .tuple #[.int .i64 (overdueM l who y), .int .i64 0] ∧ M = L) := by
  refine fn_start (sz := 25) Tryz.func66 rfl rfl rfl ?_
  repeat' (first
    | (apply so_vo; (· exact voA); (· rfl))
    | refine so_nil ?_
    | refine q_go ?_
    | refine sw_region ?_
    | (refine goQ ?_; intro _ _)
    | refine go1 ?_
    | (refine go2 ?_ ?_ <;> intro h <;> (try simp only [Bool.not_true, Bool.not_false, decide_eq_true_eq, decide_eq_false_iff_not, Bool.not_eq_true', Bool.not_eq_false', ne_eq, Decidable.not_not, Int.not_lt, Int.not_le, not_false_eq_true] at h))
    | fail)
  first
    | (refine goU ?_; intro b3)
    | (refine goB ?_; intro b3)
    | (refine goM ?_; intro b3)
  repeat' (first
    | (apply so_vo; (· exact voA); (· rfl))
    | refine so_nil ?_
    | refine q_go ?_
    | refine sw_region ?_
    | (refine goQ ?_; intro _ _)
    | refine go1 ?_
    | (refine go2 ?_ ?_ <;> intro h <;> (try simp only [Bool.not_true, Bool.not_false, decide_eq_true_eq, decide_eq_false_iff_not, Bool.not_eq_true', Bool.not_eq_false', ne_eq, Decidable.not_not, Int.not_lt, Int.not_le, not_false_eq_true] at h))
    | fail)
  first
    | (refine goU ?_; intro b4)
    | (refine goB ?_; intro b4)
    | (refine goM ?_; intro b4)
  repeat' (first
    | (apply so_vo; (· exact voA); (· rfl))
    | refine so_nil ?_
    | refine q_go ?_
    | refine sw_region ?_
    | (refine goQ ?_; intro _ _)
    | refine go1 ?_
    | (refine go2 ?_ ?_ <;> intro h <;> (try simp only [Bool.not_true, Bool.not_false, decide_eq_true_eq, decide_eq_false_iff_not, Bool.not_eq_true', Bool.not_eq_false', ne_eq, Decidable.not_not, Int.not_lt, Int.not_le, not_false_eq_true] at h))
    | fail)
  first
    | (refine goU ?_; intro b5)
    | (refine goB ?_; intro b5)
    | (refine goM ?_; intro b5)
  repeat' (first
    | (apply so_vo; (· exact voA); (· rfl))
    | refine so_nil ?_
    | refine q_go ?_
    | refine sw_region ?_
    | (refine goQ ?_; intro _ _)
    | refine go1 ?_
    | (refine go2 ?_ ?_ <;> intro h <;> (try simp only [Bool.not_true, Bool.not_false, decide_eq_true_eq, decide_eq_false_iff_not, Bool.not_eq_true', Bool.not_eq_false', ne_eq, Decidable.not_not, Int.not_lt, Int.not_le, not_false_eq_true] at h))
    | fail)
  refine so_call rfl rfl rfl (owing_ok _ v l who y hk hw hy) ?_
  rintro _ _ ⟨bd, rfl, rfl⟩
  repeat' (first
    | (apply so_vo; (· exact voA); (· rfl))
    | refine so_nil ?_
    | refine q_go ?_
    | refine sw_region ?_
    | (refine goQ ?_; intro _ _)
    | refine go1 ?_
    | (refine goU ?_; intro nu)
    | (refine goB ?_; intro nb)
    | (refine goM ?_; intro nm)
    | (refine go2 ?_ ?_ <;> intro h <;> (try simp only [Bool.not_true, Bool.not_false, decide_eq_true_eq, decide_eq_false_iff_not, Bool.not_eq_true', Bool.not_eq_false', ne_eq, Decidable.not_not, Int.not_lt, Int.not_le, not_false_eq_true] at h))
    | fail)
  refine so_call rfl rfl rfl (left_ok _ bd _ _ _ v l (untilM l y) y (fun i => decide ((ln l i).1 = who) && decide (0 ≤ dueM l i ∧ dueM l i ≤ y)) hk (untilM_ok hk y) (fun L' s i hi => ?_)) ?_
  · haveI := Cl.up (L := L') (inferInstance : Cl _ b3 74 (ledC l v)) s
    haveI := Cl.up (L := L') (inferInstance : Cl _ b4 3 [.int .i64 who]) s
    haveI := Cl.up (L := L') (inferInstance : Cl _ b5 3 [.int .i64 y]) s
    haveI := RdL.up (L' := L') (inferInstance : RdL _ v l) s
    exact Overdue1_ok L' b3 b4 b5 v l who y hk i hi
  rintro _ _ ⟨rfl, rfl⟩
  repeat' (first
    | (apply so_vo; (· exact voA); (· rfl))
    | refine so_nil ?_
    | refine q_go ?_
    | refine sw_region ?_
    | (refine goQ ?_; intro _ _)
    | refine go1 ?_
    | (refine goU ?_; intro nu)
    | (refine goB ?_; intro nb)
    | (refine goM ?_; intro nm)
    | (refine go2 ?_ ?_ <;> intro h <;> (try simp only [Bool.not_true, Bool.not_false, decide_eq_true_eq, decide_eq_false_iff_not, Bool.not_eq_true', Bool.not_eq_false', ne_eq, Decidable.not_not, Int.not_lt, Int.not_le, not_false_eq_true] at h))
    | fail)
  apply rq2 rfl rfl rfl
  · exact ⟨rfl, rfl⟩
  · (first | infer_instance | exact ⟨fun _ H => H⟩)
end Go.Proofs.YtmhfhfhdblccjaaGreat
/-
  Ledgers in plain terms: what a payment is booked to, when a loan is paid, debts.
-/
namespace Go.Proofs.YtmhfhfhdblccjaaGreat
set_option linter.unusedVariables false
/-- what all payments of a list have booked -/
def bookA (l : Led) (ps : List P3) : List Int := ps.foldl (fun bk p => (bookM l bk p).bk) zeros
def bookedM (l : Led) (k : Nat) : Bk := bookM l (bookA l (l.pays.take k)) (l.pays.getD k (0, 0, 0))
theorem bookA_ok {l : Led} (h : OkL l) : ∀ (ps : List P3) (bk : List Int), OkBk l bk → (∀ p ∈ ps, 0 ≤ p.2.2 ∧ p.2.2 ≤ 500) → OkBk l (ps.foldl (fun bk p => (bookM l bk p).bk) bk)
  | [], bk, hb, _ => hb
  | p :: ps, bk, hb, hp => by rw [List.foldl_cons]; exact bookA_ok h ps _ (bookM_ok h hb (hp p (by simp))).bk (fun q hq => hp q (by simp [hq]))
def paidFrom (l : Led) (i : Nat) (last : List Int) : Nat → Int → Int × Int
  | 0, _ => (0, 6)
  | n + 1, y => if y < l.years then (if (untilM l y).getD i 0 = askedM l i then (y, 0) else if untilM l y = last then (0, 6) else paidFrom l i last n (y + 1)) else (0, 6)
def paidM (l : Led) (i : Nat) : Int × Int := paidFrom l i (untilM l (l.years - 1)) 10 (ln l i).2.1
/-- the row of debts of somebody, ahead of promises -/
def owedRow (l : Led) (a : Nat) : List Int := if 1 ≤ a then (List.replicate l.folk.toNat 0).set 0 (owesM l a (l.years - 1)) else List.replicate l.folk.toNat 0
def owed0 (l : Led) : List (List Int) := (List.range l.folk.toNat).map (owedRow l)
def owedStep (d : List (List Int)) (p : P3) : List (List Int) := setv d p.1 p.2.1 (dv d p.1 p.2.1 + p.2.2)
def owedM (l : Led) : List (List Int) := l.proms.foldl owedStep (owed0 l)
theorem owedRow_len (l : Led) (a : Nat) : (owedRow l a).length = l.folk.toNat := by unfold owedRow; split <;> simp
theorem owed0_len (l : Led) : (owed0 l).length = l.folk.toNat := by simp [owed0]
theorem owed0_at (l : Led) {a : Nat} (ha : a < l.folk.toNat) : atx (owed0 l) a = owedRow l a := by
  refine atx_eq ?_
  unfold owed0
  rw [List.getElem?_map, List.getElem?_range ha]; rfl
theorem owedRow_getD (l : Led) (a b : Nat) : (owedRow l a).getD b 0 = if 1 ≤ a ∧ b = 0 ∧ 0 < l.folk.toNat then owesM l a (l.years - 1) else 0 := by
  have hr : ∀ b, (List.replicate l.folk.toNat (0 : Int)).getD b 0 = 0 := fun b => by simp only [List.getD, List.getElem?_replicate]; split <;> rfl
  unfold owedRow
  split
  · rename_i h
    rw [getD_set, hr]
    simp only [List.length_replicate]
    by_cases hb : b = 0
    · subst hb
      by_cases hf : 0 < l.folk.toNat
      · rw [if_pos ⟨rfl, hf⟩, if_pos ⟨h, rfl, hf⟩]
      · rw [if_neg (fun e => hf e.2), if_neg (fun e => hf e.2.2)]
    · rw [if_neg (fun e => hb e.1.symm), if_neg (fun e => hb e.2.1)]
  · rename_i h
    rw [hr, if_neg (fun e => h e.1)]
end Go.Proofs.YtmhfhfhdblccjaaGreat
