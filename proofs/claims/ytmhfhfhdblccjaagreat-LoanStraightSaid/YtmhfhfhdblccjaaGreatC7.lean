/-
  The table of the most groups of each set of people.
-/
import Derived.Test.YtmhfhfhdblccjaaGreatC6
import Derived.Test.YtmhfhfhdblccjaaGreatC4
namespace Go.Proofs.YtmhfhfhdblccjaaGreat
open Go
set_option linter.unusedVariables false
set_option maxRecDepth 100000

/-- What the table says of the set t. -/
def TRow (f : Nat → Int) (n : Nat) (mo on : Int → Option Int) (t : Nat) : Prop :=
  ∃ m p : Nat, mo t = some (m : Int) ∧ on t = some (p : Int) ∧ 1 ≤ m ∧ m ≤ t ∧ p ≠ 0 ∧ Sub p t ∧ sumS f n p = 0 ∧ mo (less t p) = some ((m : Int) - 1)
def IsMax (f : Nat → Int) (n t : Nat) (mo : Int → Option Int) : Prop := ∀ P, Part f n t P → ∃ m : Int, mo t = some m ∧ (P.length : Int) ≤ m
/-- The table below the set s. -/
structure Tab (f : Nat → Int) (n A s : Nat) (mo on : Int → Option Int) : Prop where
  z : mo ((0 : Nat) : Int) = some 0
  no : ∀ t : Nat, t < s → 0 < t → ¬ (Sub t A ∧ sumS f n t = 0) → mo t = none
  yes : ∀ t : Nat, t < s → 0 < t → Sub t A → sumS f n t = 0 → TRow f n mo on t ∧ IsMax f n t mo
def Hi (s : Nat) (mo : Int → Option Int) : Prop := ∀ t : Nat, s ≤ t → 0 < t → mo t = none
/-- The table while the parts of s that are greater than q have been looked at. -/
structure Inn (f : Nat → Int) (n A s q : Nat) (mo on : Int → Option Int) : Prop where
  tab : Tab f n A s mo on
  hi : Hi (s + 1) mo
  up : ∀ p : Nat, q < p → Sub p s → sumS f n p = 0 → ∀ m, mo (less s p) = some m → m + 1 ≤ (mo s).getD 0
  wit : (q = s ∧ mo s = none) ∨ TRow f n mo on s
theorem Tab.skip {f : Nat → Int} {n A s : Nat} {mo on : Int → Option Int} (h : Tab f n A s mo on) (hh : Hi s mo) (h0 : ¬ (Sub s A ∧ sumS f n s = 0)) (hs : 0 < s) : Tab f n A (s + 1) mo on ∧ Hi (s + 1) mo := by
  refine ⟨⟨h.z, fun t ht h1 h2 => ?_, fun t ht h1 h2 h3 => ?_⟩, fun t ht h1 => hh t (by omega) h1⟩
  · rcases Nat.lt_or_ge t s with g | g
    · exact h.no t g h1 h2
    · exact hh t g h1
  · rcases Nat.lt_or_ge t s with g | g
    · exact h.yes t g h1 h2 h3
    · have : t = s := by omega
      subst this; exact absurd ⟨h2, h3⟩ h0
theorem Tab.into {f : Nat → Int} {n A s : Nat} {mo on : Int → Option Int} (h : Tab f n A s mo on) (hh : Hi s mo) (hs : 0 < s) : Inn f n A s s mo on :=
  ⟨h, fun t ht h1 => hh t (by omega) h1, fun p hp h1 => by have := h1.le; omega, .inl ⟨rfl, hh s (Nat.le_refl _) hs⟩⟩
theorem upd_ne {κ β : Type} [DecidableEq κ] {m : κ → Option β} {k x : κ} {v : β} (h : x ≠ k) : Proofs.YtmhfhfhdblccjaaGreat.upd m k v x = m x := by unfold Proofs.YtmhfhfhdblccjaaGreat.upd; rw [if_neg h]
theorem upd_eq {κ β : Type} [DecidableEq κ] {m : κ → Option β} {k : κ} {v : β} : Proofs.YtmhfhfhdblccjaaGreat.upd m k v k = some v := by unfold Proofs.YtmhfhfhdblccjaaGreat.upd; rw [if_pos rfl]
theorem less_lt {p s : Nat} (h : Sub p s) (h0 : p ≠ 0) : less s p < s := by have := less_add h; omega
theorem TRow.upd {f : Nat → Int} {n : Nat} {mo on : Int → Option Int} {t s : Nat} (h : TRow f n mo on t) (ht : t < s) (x y : Int) : TRow f n (Proofs.YtmhfhfhdblccjaaGreat.upd mo s x) (Proofs.YtmhfhfhdblccjaaGreat.upd on s y) t := by
  obtain ⟨m, p, h1, h2, h3, h4, h5, h6, h7, h8⟩ := h
  have hl := less_lt h6 h5
  exact ⟨m, p, by rw [upd_ne (by omega)]; exact h1, by rw [upd_ne (by omega)]; exact h2, h3, h4, h5, h6, h7, by rw [upd_ne (by omega)]; exact h8⟩
theorem Tab.upd {f : Nat → Int} {n A s : Nat} {mo on : Int → Option Int} (h : Tab f n A s mo on) (hs : 0 < s) (x y : Int) : Tab f n A s (Proofs.YtmhfhfhdblccjaaGreat.upd mo s x) (Proofs.YtmhfhfhdblccjaaGreat.upd on s y) := by
  refine ⟨by rw [upd_ne (by omega)]; exact h.z, fun t ht h1 h2 => by rw [upd_ne (by omega)]; exact h.no t ht h1 h2, fun t ht h1 h2 h3 => ?_⟩
  obtain ⟨g1, g2⟩ := h.yes t ht h1 h2 h3
  exact ⟨g1.upd ht x y, fun P hP => by rw [upd_ne (by omega)]; exact g2 P hP⟩
theorem Tab.bd {f : Nat → Int} {n A s : Nat} {mo on : Int → Option Int} (h : Tab f n A s mo on) {t : Nat} (ht : t < s) {m : Int} (hm : mo t = some m) : 0 ≤ m ∧ m ≤ t := by
  by_cases h0 : t = 0
  · rw [h0] at hm; rw [h.z] at hm; injection hm with hm; omega
  · rcases Classical.em (Sub t A ∧ sumS f n t = 0) with g | g
    · obtain ⟨⟨m', p, g1, g2, g3, g4, _⟩, _⟩ := h.yes _ ht (by omega) g.1 g.2
      rw [hm] at g1; injection g1 with g1; omega
    · rw [h.no _ ht (by omega) g] at hm; cases hm
/-- a part is looked at and taken -/
theorem Inn.take {f : Nat → Int} {n A s q : Nat} {mo on : Int → Option Int} (h : Inn f n A s q mo on) (hs : 0 < s) (hq : q ≠ 0) (hqs : Sub q s) {m : Int} (hm : mo (less s q) = some m) (hz : sumS f n q = 0) (hlt : (mo s).getD 0 < m + 1) :
    Inn f n A s ((q - 1) &&& s) (upd mo s (m + 1)) (upd on s q) := by
  have hl := less_lt hqs hq
  have hm0 := h.tab.bd hl hm
  refine ⟨h.tab.upd hs _ _, fun t ht h1 => by rw [upd_ne (by omega)]; exact h.hi t ht h1, fun p hp h1 h2 m' hm' => ?_, .inr ?_⟩
  · have hp0 : p ≠ 0 := by omega
    have hl2 := less_lt h1 hp0
    rw [upd_ne (by omega)] at hm'
    rw [upd_eq]
    simp only [Option.getD_some]
    rcases Nat.lt_trichotomy p q with g | g | g
    · have := sub_step q s p (sub_and.2 hqs) (sub_and.2 h1) g; omega
    · subst g; rw [hm] at hm'; injection hm' with hm'; omega
    · have := h.up p g h1 h2 m' hm'; omega
  · refine ⟨(m + 1).toNat, q, ?_, upd_eq, by omega, by omega, hq, hqs, hz, ?_⟩
    · rw [upd_eq]; congr 1; omega
    · rw [upd_ne (by omega), hm]; congr 1; omega
/-- a part is looked at and left -/
theorem Inn.leave {f : Nat → Int} {n A s q : Nat} {mo on : Int → Option Int} (h : Inn f n A s q mo on) (hq : q ≠ 0) (hqs : Sub q s) (hsum : sumS f n s = 0) (hn : ∀ m, mo (less s q) = some m → sumS f n q = 0 → m + 1 ≤ (mo s).getD 0) : Inn f n A s ((q - 1) &&& s) mo on := by
  refine ⟨h.tab, h.hi, fun p hp h1 h2 m' hm' => ?_, .inr ?_⟩
  · rcases Nat.lt_trichotomy p q with g | g | g
    · have := sub_step q s p (sub_and.2 hqs) (sub_and.2 h1) g; omega
    · subst g; exact hn m' hm' h2
    · exact h.up p g h1 h2 m' hm'
  · rcases h.wit with ⟨e, e2⟩ | w
    · subst e
      have e3 : less q q = 0 := Nat.eq_of_testBit_eq fun k => by rw [bit_less, Nat.zero_testBit]; cases q.testBit k <;> rfl
      have := hn 0 (by rw [e3]; exact h.tab.z) hsum
      rw [e2] at this; simp at this
    · exact w
theorem Inn.done {f : Nat → Int} {n A s : Nat} {mo on : Int → Option Int} (h : Inn f n A s 0 mo on) (hs : 0 < s) (hA : Sub s A) (hsum : sumS f n s = 0) : Tab f n A (s + 1) mo on ∧ Hi (s + 1) mo := by
  have hrow : TRow f n mo on s := by
    rcases h.wit with ⟨e, _⟩ | w
    · omega
    · exact w
  refine ⟨⟨h.tab.z, fun t ht h1 h2 => ?_, fun t ht h1 h2 h3 => ?_⟩, h.hi⟩
  · rcases Nat.lt_or_ge t s with g | g
    · exact h.tab.no t g h1 h2
    · have : t = s := by omega
      subst this; exact absurd ⟨hA, hsum⟩ h2
  · rcases Nat.lt_or_ge t s with g | g
    · exact h.tab.yes t g h1 h2 h3
    · have : t = s := by omega
      subst this
      refine ⟨hrow, fun P hP => ?_⟩
      obtain ⟨m, p0, r1, _⟩ := hrow
      refine ⟨m, r1, ?_⟩
      cases P with
      | nil => have := hP.of_nil; omega
      | cons p P =>
        obtain ⟨g0, g1, g2, g3⟩ := hP.uncons
        have hl := less_lt g2 g0
        have hmx : ∃ m', mo (less t p) = some m' ∧ (P.length : Int) ≤ m' := by
          by_cases e : less t p = 0
          · rw [e] at g3 ⊢
            rw [g3.zero]
            exact ⟨0, h.tab.z, by simp⟩
          · exact (h.tab.yes _ hl (by omega) (fun k hk => hA k (Sub.less k hk)) g3.sum).2 P g3
        obtain ⟨m', k1, k2⟩ := hmx
        have := h.up p (by omega) g2 g1 m' k1
        rw [r1] at this
        simp only [Option.getD_some] at this
        simp only [List.length_cons]; omega
/-- How the groups are told, one after the other. -/
structure Out (f : Nat → Int) (n A s : Nat) (mo : Int → Option Int) (done : List Nat) : Prop where
  sub : Sub s A
  sum : sumS f n s = 0
  at_ : ∀ R, Part f n s R → Part f n A (done ++ R)
  len : ∃ m M : Int, mo s = some m ∧ mo A = some M ∧ done.length + m = M
theorem Part.app_cons {f : Nat → Int} {n A : Nat} {done R : List Nat} {p : Nat} (h : Part f n A (done ++ p :: R)) : Part f n A ((done ++ [p]) ++ R) := by simpa using h
theorem Out.step {f : Nat → Int} {n A s : Nat} {mo on : Int → Option Int} (ht : Tab f n A (A + 1) mo on) {done : List Nat} (h : Out f n A s mo done) (hs : 0 < s) : ∃ p : Nat, on s = some (p : Int) ∧ p ≠ 0 ∧ Sub p s ∧ sumS f n p = 0 ∧ less s p < s ∧ Out f n A (less s p) mo (done ++ [p]) := by
  have hle := h.sub.le
  obtain ⟨⟨m, p, r1, r2, r3, r4, r5, r6, r7, r8⟩, _⟩ := ht.yes s (by omega) hs h.sub h.sum
  have hl := less_lt r6 r5
  obtain ⟨m', M, e1, e2, e3⟩ := h.len
  rw [r1] at e1; injection e1 with e1
  have hsum := sumS_less f n r6
  rw [h.sum, r7] at hsum
  exact ⟨p, r2, r5, r6, r7, hl, fun k hk => h.sub k (Sub.less k hk), by omega, fun R hR => Part.app_cons (h.at_ _ (hR.cons r5 r7 r6)), _, M, r8, e2, by simp only [List.length_append, List.length_cons, List.length_nil]; omega⟩
theorem Out.start {f : Nat → Int} {n A : Nat} {mo on : Int → Option Int} (ht : Tab f n A (A + 1) mo on) (hs : sumS f n A = 0) : Out f n A A mo [] := by
  refine ⟨fun k hk => hk, hs, fun R hR => by simpa using hR, ?_⟩
  by_cases e : A = 0
  · subst e; exact ⟨0, 0, ht.z, ht.z, by simp⟩
  · obtain ⟨⟨m, p, r1, _⟩, _⟩ := ht.yes A (by omega) (by omega) (fun k hk => hk) hs
    exact ⟨m, m, r1, r1, by simp⟩
/-- Groups that are the most. -/
def Most (f : Nat → Int) (n A : Nat) (P : List Nat) : Prop := Part f n A P ∧ ∀ P', Part f n A P' → P'.length ≤ P.length
theorem Out.end_ {f : Nat → Int} {n A : Nat} {mo on : Int → Option Int} (ht : Tab f n A (A + 1) mo on) {done : List Nat} (h : Out f n A 0 mo done) : Most f n A done := by
  have h1 := h.at_ [] (Part.nil f n)
  rw [List.append_nil] at h1
  refine ⟨h1, fun P' hP' => ?_⟩
  obtain ⟨m, M, e1, e2, e3⟩ := h.len
  have e1' : mo ((0 : Nat) : Int) = some m := e1
  rw [ht.z] at e1'; injection e1' with e1'
  by_cases e : A = 0
  · subst e; rw [hP'.zero]; simp
  · obtain ⟨_, g⟩ := ht.yes A (by omega) (by omega) (fun k hk => hk) h1.sum
    obtain ⟨m', k1, k2⟩ := g P' hP'
    rw [e2] at k1; injection k1 with k1
    omega
theorem Tab.start (f : Nat → Int) (n A : Nat) (mo on : Int → Option Int) (hm : ∀ x, mo x = if x = 0 then some 0 else none) : Tab f n A 1 mo on ∧ Hi 1 mo :=
  ⟨⟨by rw [hm]; rfl, fun t h1 h2 => by omega, fun t h1 h2 => by omega⟩, fun t h1 h2 => by rw [hm, if_neg (by omega)]⟩
/-- the least one of a set -/
theorem lowb_all : ∀ s : Fin 128, s.val ≠ 0 → ∃ k : Fin 7, lowb s.val = 2 ^ k.val ∧ s.val.testBit k.val = true := by decide +kernel
theorem lowb_is {s : Nat} (h : s < 128) (h0 : s ≠ 0) : ∃ k, k < 7 ∧ lowb s = 2 ^ k ∧ s.testBit k = true := by
  obtain ⟨k, h1, h2⟩ := lowb_all ⟨s, h⟩ h0; exact ⟨k.val, k.isLt, h1, h2⟩
theorem two_pow_inj {a b : Nat} (h : 2 ^ a = 2 ^ b) : a = b := by
  have h1 := @Nat.testBit_two_pow_self a
  rw [h, Nat.testBit_two_pow] at h1
  exact (of_decide_eq_true h1).symm
end Go.Proofs.YtmhfhfhdblccjaaGreat
/-
  What the machine's operations do with sets of people.
-/
namespace Go.Proofs.YtmhfhfhdblccjaaGreat
open Go
set_option linter.unusedVariables false
set_option maxRecDepth 100000
theorem low_is {s : Nat} (h : s < 128) : IntKind.i64.wrap ((BitVec.ofInt IntKind.i64.bits (s : Int) &&& BitVec.ofInt IntKind.i64.bits (-(s : Int))).toNat : Int) = ((lowb s : Nat) : Int) := low_all ⟨s, h⟩
theorem less_is {s t : Nat} (h : s < 128) (h2 : t < 128) : IntKind.i64.wrap ((BitVec.ofInt IntKind.i64.bits (s : Int) &&& ~~~ BitVec.ofInt IntKind.i64.bits (t : Int)).toNat : Int) = ((less s t : Nat) : Int) := less_all ⟨s, h⟩ ⟨t, h2⟩
theorem shl_all : ∀ k : Fin 7, IntKind.i64.wrap (1 * 2 ^ (((k.val : Nat) : Int)).toNat) = ((2 ^ k.val : Nat) : Int) := by decide +kernel
theorem shl_is {k : Nat} (h : k < 7) : IntKind.i64.wrap (1 * 2 ^ ((k : Int)).toNat) = ((2 ^ k : Nat) : Int) := shl_all ⟨k, h⟩
theorem or_all : ∀ (a : Fin 128) (k : Fin 7), IntKind.i64.wrap ((BitVec.ofInt IntKind.i64.bits ((a.val : Nat) : Int) ||| BitVec.ofInt IntKind.i64.bits ((2 ^ k.val : Nat) : Int)).toNat : Int) = ((a.val ||| 2 ^ k.val : Nat) : Int) := by decide +kernel
theorem or_is {a k : Nat} (ha : a < 128) (h : k < 7) : IntKind.i64.wrap ((BitVec.ofInt IntKind.i64.bits (a : Int) ||| BitVec.ofInt IntKind.i64.bits ((2 ^ k : Nat) : Int)).toNat : Int) = ((a ||| 2 ^ k : Nat) : Int) := or_all ⟨a, ha⟩ ⟨k, h⟩
theorem prev_all : ∀ q s : Fin 128, IntKind.i64.wrap ((BitVec.ofInt IntKind.i64.bits (((q.val + 1 : Nat) : Int) - 1) &&& BitVec.ofInt IntKind.i64.bits ((s.val : Nat) : Int)).toNat : Int) = ((q.val &&& s.val : Nat) : Int) := by decide +kernel
theorem prev_is {q s : Nat} (hq : q < 128) (h0 : 0 < q) (hs : s < 128) : IntKind.i64.wrap ((BitVec.ofInt IntKind.i64.bits ((q : Int) - 1) &&& BitVec.ofInt IntKind.i64.bits (s : Int)).toNat : Int) = (((q - 1) &&& s : Nat) : Int) := by
  have := prev_all ⟨q - 1, by omega⟩ ⟨s, hs⟩
  simp only at this
  rwa [show q - 1 + 1 = q by omega] at this
/-- the number of somebody's net -/
def netF (d : List (List Int)) (k : Nat) : Int := (netM d).getD k 0
theorem less_zero {s A : Nat} : less s A = 0 ↔ Sub s A := by
  constructor
  · intro h k hk
    have : (less s A).testBit k = false := by rw [h]; simp
    rw [bit_less, hk] at this
    simpa using this
  · intro h
    apply Nat.eq_of_testBit_eq; intro k
    rw [bit_less, Nat.zero_testBit]
    cases hk : s.testBit k with
    | false => rfl
    | true => rw [h k hk]; rfl
theorem allS_pos {f : Nat → Int} {k : Nat} (h : f k ≠ 0) : allS f (k + 1) = allS f k ||| 2 ^ k := by rw [allS]; exact if_pos h
theorem allS_neg {f : Nat → Int} {k : Nat} (h : f k = 0) : allS f (k + 1) = allS f k := by rw [allS]; exact if_neg (fun g => g h)
/-- sums of sets, one more -/
theorem sumS_low (f : Nat → Int) (n : Nat) {s k : Nat} (hn : k < n) (h1 : lowb s = 2 ^ k) (h2 : s.testBit k = true) : sumS f n s = sumS f n (less s (lowb s)) + f k := by
  rw [sumS_less f n (sub_one h2), sumS_one f hn, h1]; omega
theorem sumN_le (c : Int) : ∀ (n : Nat) (f : Nat → Int), (∀ i, i < n → 0 ≤ f i ∧ f i ≤ c) → 0 ≤ sumN n f ∧ sumN n f ≤ n * c
  | 0, _, _ => by simp [sumN]
  | n + 1, f, h => by
    have := sumN_le c n f fun i hi => h i (by omega)
    have := h n (by omega)
    simp only [sumN]
    rw [Int.natCast_add, Int.add_mul]; omega
theorem netOf_bd {d : List (List Int)} (hd : OkD d) (j : Nat) : -7000000 ≤ netOf d j ∧ netOf d j ≤ 7000000 := by
  have h1 := sumN_le 1000000 d.length (fun a => (atx d a).getD j 0) (fun i _ => hd.val)
  have h2 := sumN_le 1000000 d.length (fun b => (atx d j).getD b 0) (fun i _ => hd.val)
  have := hd.len
  unfold netOf
  constructor
  · omega
  · omega
theorem netF_is {d : List (List Int)} (hd : OkD d) {k : Nat} (hk : k < d.length) : netF d k = netOf d k := netM_getD d hd hk
theorem netF_out {d : List (List Int)} (hd : OkD d) {k : Nat} (hk : d.length ≤ k) : netF d k = 0 := by
  unfold netF; simp [List.getD, List.getElem?_eq_none (show (netM d).length ≤ k by rw [netM_len d hd]; exact hk)]
theorem netF_bd {d : List (List Int)} (hd : OkD d) (k : Nat) : -7000000 ≤ netF d k ∧ netF d k ≤ 7000000 := by
  rcases Nat.lt_or_ge k d.length with h | h
  · rw [netF_is hd h]; exact netOf_bd hd k
  · rw [netF_out hd h]; decide
theorem sumN_le1 (c : Int) (hc : 0 ≤ c) (n : Nat) (f : Nat → Int) (h : ∀ i, i < n → 0 ≤ f i ∧ f i ≤ c) {j : Nat} (hj : j < n) (h0 : f j = 0) : 0 ≤ sumN n f ∧ sumN n f ≤ n * c - c := by
  have h1 := sumN_le c n f h
  have h2 := sumN_le c n (fun i => if i = j then c else f i) (fun i hi => by
    by_cases e : i = j
    · simp only [if_pos e]; omega
    · simp only [if_neg e]; exact h i hi)
  have h3 := sumN_one j c f (fun i => if i = j then c else f i) (by simp [h0]) (fun i hi => by simp [hi]) n
  rw [if_pos hj] at h3
  omega
theorem netOf_bd6 {d : List (List Int)} (hd : OkD d) (hz : ∀ a, (atx d a).getD a 0 = 0) {j : Nat} (hj : j < d.length) : -6000000 ≤ netOf d j ∧ netOf d j ≤ 6000000 := by
  have h1 := sumN_le1 1000000 (by decide) d.length (fun a => (atx d a).getD j 0) (fun i _ => hd.val) hj (hz j)
  have h2 := sumN_le1 1000000 (by decide) d.length (fun b => (atx d j).getD b 0) (fun i _ => hd.val) hj (hz j)
  have := hd.len
  unfold netOf
  constructor
  · omega
  · omega
theorem netF_bd6 {d : List (List Int)} (hd : OkD d) (hz : ∀ a, (atx d a).getD a 0 = 0) (k : Nat) : -6000000 ≤ netF d k ∧ netF d k ≤ 6000000 := by
  rcases Nat.lt_or_ge k d.length with h | h
  · rw [netF_is hd h]; exact netOf_bd6 hd hz h
  · rw [netF_out hd h]; decide
theorem sumS_bd (f : Nat → Int) (c : Int) (hc : 0 ≤ c) (hf : ∀ k, -c ≤ f k ∧ f k ≤ c) (n s : Nat) : -(n * c) ≤ sumS f n s ∧ sumS f n s ≤ n * c := by
  have : ∀ m : Nat, -(m * c) ≤ sumS f m s ∧ sumS f m s ≤ m * c := fun m => by
    induction m with
    | zero => simp [sumS, sumN]
    | succ m ih =>
      have h1 := hf m
      unfold sumS at ih ⊢
      simp only [sumN]
      rw [Int.natCast_add, Int.add_mul]
      split <;> omega
  exact this n
theorem sumN_sub : ∀ (n : Nat) (f g : Nat → Int), sumN n (fun i => f i - g i) = sumN n f - sumN n g
  | 0, _, _ => rfl
  | n + 1, f, g => by simp only [sumN]; rw [sumN_sub n f g]; omega
theorem sumN_swap : ∀ (m n : Nat) (f : Nat → Nat → Int), sumN m (fun i => sumN n fun j => f i j) = sumN n fun j => sumN m fun i => f i j
  | 0, n, f => by simp only [sumN]; exact (sumN_z n).symm
  | m + 1, n, f => by simp only [sumN]; rw [sumN_swap m n f]; exact (sumN_add n _ _ _ fun _ _ => rfl).symm
theorem sum_nets (d : List (List Int)) : sumN d.length (netOf d) = 0 := by
  have : sumN d.length (netOf d) = sumN d.length (fun j => sumN d.length (fun a => (atx d a).getD j 0) - sumN d.length (fun b => (atx d j).getD b 0)) := rfl
  rw [this, sumN_sub, sumN_swap d.length d.length (fun j a => (atx d a).getD j 0)]; omega
theorem sumS_all (f : Nat → Int) (n : Nat) : sumS f n (allS f n) = sumN n f := by
  refine sumN_congr _ _ _ fun k hk => ?_
  rw [bit_all]
  by_cases h : f k = 0
  · simp [h]
  · simp [h, hk]
theorem sum_all {d : List (List Int)} (hd : OkD d) : sumS (netF d) d.length (allS (netF d) d.length) = 0 := by
  rw [sumS_all, ← sum_nets d]
  exact sumN_congr _ _ _ fun k hk => netF_is hd hk
/-- the sums of the sets below s -/
def Sums (f : Nat → Int) (n s : Nat) (sm : Int → Option Int) : Prop := ∀ t : Nat, t < s → sm t = some (sumS f n t)
theorem pow_sum : ∀ n : Nat, n ≤ 7 → 2 ^ n ≤ 128 := fun n h => by
  have := Nat.pow_le_pow_right (n := 2) (by decide) h
  simpa using this
end Go.Proofs.YtmhfhfhdblccjaaGreat
/-
  An own logic over the kit's calculus: more of plain operations.
-/
namespace Go.Proofs.YtmhfhfhdblccjaaGreat
open Go Go.RowKit
set_option linter.unusedVariables false
section
variable {P : Program} {ro : Option Nat} {sz : Nat} {fr : Fr} {ds : List Deferred} {L : List SP} {Q : Post} {ops : Array Oper} {l : List Oper} {d : Nat} {ty : TypeId} {pos : String} {aft : Array Edge}
theorem vo_indexAddr_hdi {x y : Operand} {T E : TypeId} {v z : Value} {m : Int} {n : Nat} {agg : Bool} {size bytes : Nat} (hx : Fr.ev fr x = some v) (hy : Fr.ev fr y = some (.int .i64 m)) [hT : TyU P T (.slice E)] [hE : TyI P E agg z size bytes] (hh : Hdr v n) (hm : 0 ≤ m ∧ m < n) : VO P ds ⟨some d, .indexAddr T x y, ty, pos, aft, none⟩ fr L (elt size v m.toNat 0) := by
  obtain ⟨k, rfl⟩ : ∃ k : Nat, m = k := ⟨m.toNat, by omega⟩
  exact vo_indexAddr_hd hx hy hh (by omega)
/-! operations on bits whose result is known -/
theorem vo_and_is {x y : Operand} {T T' : TypeId} {κ : IntKind} {m n r : Int} (hx : Fr.ev fr x = some (.int κ m)) (hy : Fr.ev fr y = some (.int κ n)) (e : κ.wrap (BitVec.ofInt κ.bits m &&& BitVec.ofInt κ.bits n).toNat = r) : VO P ds ⟨some d, .binOp .and T x y T', ty, pos, aft, none⟩ fr L (.int κ r) := e ▸ vo_and hx hy
theorem vo_or_is {x y : Operand} {T T' : TypeId} {κ : IntKind} {m n r : Int} (hx : Fr.ev fr x = some (.int κ m)) (hy : Fr.ev fr y = some (.int κ n)) (e : κ.wrap (BitVec.ofInt κ.bits m ||| BitVec.ofInt κ.bits n).toNat = r) : VO P ds ⟨some d, .binOp .or T x y T', ty, pos, aft, none⟩ fr L (.int κ r) := e ▸ vo_or hx hy
theorem vo_andNot_is {x y : Operand} {T T' : TypeId} {κ : IntKind} {m n r : Int} (hx : Fr.ev fr x = some (.int κ m)) (hy : Fr.ev fr y = some (.int κ n)) (e : κ.wrap (BitVec.ofInt κ.bits m &&& ~~~BitVec.ofInt κ.bits n).toNat = r) : VO P ds ⟨some d, .binOp .andNot T x y T', ty, pos, aft, none⟩ fr L (.int κ r) := e ▸ vo_andNot hx hy
theorem vo_shl_is {x y : Operand} {T T' : TypeId} {κ κ' : IntKind} {m n r : Int} (hx : Fr.ev fr x = some (.int κ m)) (hy : Fr.ev fr y = some (.int κ' n)) (e : κ.wrap (m * 2 ^ n.toNat) = r) (hn : 0 ≤ n ∧ n ≤ κ.bits) : VO P ds ⟨some d, .binOp .shl T x y T', ty, pos, aft, none⟩ fr L (.int κ r) := e ▸ vo_shl hx hy hn
theorem vo_shr_is {x y : Operand} {T T' : TypeId} {κ κ' : IntKind} {m n r : Int} (hx : Fr.ev fr x = some (.int κ m)) (hy : Fr.ev fr y = some (.int κ' n)) (e : m / 2 ^ n.toNat = r) (hn : 0 ≤ n ∧ n ≤ κ.bits) : VO P ds ⟨some d, .binOp .shr T x y T', ty, pos, aft, none⟩ fr L (.int κ r) := e ▸ vo_shr hx hy hn
/-- the byte of a constant text -/
def strAt (s : ByteArray) (i : Nat) : Fin 256 := match s[i]? with
  | some b => ⟨b.toNat, b.toNat_lt⟩
  | none => 0
theorem vo_index_str {x y : Operand} {T : TypeId} {κ : IntKind} {m : Int} {s : ByteArray} (hx : Fr.ev fr x = some (.string s)) (hy : Fr.ev fr y = some (.int κ m)) [hT : TyU P T .string] (hm : 0 ≤ m ∧ m < s.size) : VO P ds ⟨some d, .index T x y, ty, pos, aft, none⟩ fr L (.int .u8 ((strAt s m.toNat).val : Int)) :=
  ⟨(fun c h => by cases h), fun tm w h2 h3 => by
    have hlt : m.toNat < s.size := by omega
    have e : s[m.toNat]? = some s[m.toNat] := getElem?_pos s m.toNat hlt
    have e2 : ((strAt s m.toNat).val : Int) = (s[m.toNat].toNat : Int) := by simp only [strAt, e]
    simp [execOp, h2.ev hx, h2.ev hy, Instr.index, asIntOf, run_underlying hT.out, hm.1, e, e2]⟩
theorem vo_extractL {x : Operand} {vs : List Value} {i : Nat} {v : Value} (hx : Fr.ev fr x = some (.tuple vs.toArray)) (hi : vs[i]? = some v) : VO P ds ⟨some d, .extract x i, ty, pos, aft, none⟩ fr L (v) := vo_extract hx (by simpa using hi)
theorem so_allocA {E : Nat} {agg : Bool} {size bytes : Nat} {cs : List Value} [ht : TyI P E agg (.agg cs.toArray) size bytes] (hd : Nat.blt d sz = true)
    (k : ∀ b, SO l P ro sz ops ((d, .pointer (some ⟨b, 0, none⟩)) :: fr) ds (cl b E cs :: L) Q) : SO (⟨some d, .alloc E, ty, pos, aft, none⟩ :: l) P ro sz ops fr ds L Q := so_alloc (cs := cs) rfl hd k
/-- a loop whose body is left at the first round -/
theorem sw_loop_once {c : Code} (h : ∀ Q', QThen Q' (fun _ _ _ => False) Q → SW c P ro sz fr ds L Q') : SW (.loop c) P ro sz fr ds L Q :=
  sw_loop' (σ := Unit) (fun _ => fr) (fun _ => L) (fun _ => True) (fun _ => 0) () trivial (FSub.refl _) (fun _ h => h) (fun _ _ Q' hq => h Q' ⟨fun fr ds L h => h.elim, hq.same⟩)
end
end Go.Proofs.YtmhfhfhdblccjaaGreat
/-
  Sets of people as lists.
-/
namespace Go.Proofs.YtmhfhfhdblccjaaGreat
open Go Go.RowKit
set_option maxHeartbeats 4000000
set_option linter.unusedVariables false
set_option linter.unusedSimpArgs false
set_option maxRecDepth 100000
/-- those in a set below k -/
def bitsTo (s k : Nat) : List Int := ((List.range k).filter fun i => s.testBit i).map fun i : Nat => (i : Int)
theorem bitsTo_succ (s k : Nat) : bitsTo s (k + 1) = if s.testBit k then bitsTo s k ++ [(k : Int)] else bitsTo s k := by
  unfold bitsTo; rw [List.range_succ, List.filter_append, List.map_append]
  cases h : s.testBit k <;> simp [h]
theorem bitsTo_len (s k : Nat) : (bitsTo s k).length ≤ k := by
  unfold bitsTo; rw [List.length_map]; have := List.length_filter_le (fun i => s.testBit i) (List.range k); simpa using this
theorem bitsTo_more (s j : Nat) : ∀ k, j ≤ k → s / 2 ^ j = 0 → bitsTo s k = bitsTo s j
  | 0, h, _ => by rw [show j = 0 by omega]
  | k + 1, h, h0 => by
    rcases Nat.lt_or_ge j (k + 1) with h1 | h1
    · rw [bitsTo_succ, bitsTo_more s j k (by omega) h0]
      have : s < 2 ^ k := Nat.lt_of_lt_of_le ((Nat.div_eq_zero_iff_lt (Nat.two_pow_pos j)).1 h0) (Nat.pow_le_pow_right (by decide) (by omega))
      rw [Nat.testBit_lt_two_pow this]; rfl
    · rw [show j = k + 1 by omega]
theorem bit_all7 : ∀ (s : Fin 128) (k : Fin 8), IntKind.i64.wrap ((BitVec.ofInt IntKind.i64.bits (((s.val : Nat) : Int) / 2 ^ (((k.val : Nat) : Int)).toNat) &&& BitVec.ofInt IntKind.i64.bits 1).toNat : Int) = if s.val.testBit k.val then 1 else 0 := by decide +kernel
theorem shr_all7 (s k : Nat) : ((s : Int) / 2 ^ ((k : Int)).toNat) = ((s / 2 ^ k : Nat) : Int) := by
  rw [Int.toNat_natCast]; simp
attribute [local irreducible] SW SO FnC retQ SA VO
theorem list_ok (L : List SP) (q : Nat) (hq : q < 128) : FnC Tryz.prog 88 [.int .i64 q] L (fun v M => ∃ u : SlV, v = u.v ∧ M = ownSl 3 encInt u.v (bitsTo q 7) :: L) := by
  refine fn_start (sz := 21) Tryz.func88 rfl rfl rfl ?_
  repeat' (first
    | (apply so_vo; (· exact voA); (· rfl))
    | refine so_nil ?_
    | refine q_go ?_
    | refine sw_region ?_
    | (refine goQ ?_; intro _ _)
    | refine go1 ?_
    | (refine goU ?_; intro nu)
    | (refine goB ?_; intro nb)
    | (refine goM ?_; intro nm)
    | (refine go2 ?_ ?_ <;> intro h <;> (try simp only [Bool.not_true, Bool.not_false, decide_eq_true_eq, decide_eq_false_iff_not, Bool.not_eq_true', Bool.not_eq_false', ne_eq, Decidable.not_not, Int.not_lt, Int.not_le, not_false_eq_true] at h))
    | fail)
  refine sw_mem (L' := ownSl 3 encInt nilS.v [] :: L) (fun w H => own_nil none H) ?_
  refine sw_block' (fun _ _ => ?_)
  refine sw_loop' (σ := SlV × Nat) (fun s => [(0, .int .i64 q), (3, s.1.v), (4, .int .i64 s.2)]) (fun s => ownSl 3 encInt s.1.v (bitsTo q s.2) :: L) (fun s => s.2 ≤ 7) (fun s => 7 - s.2) (nilS, 0) (by simp) (by (exact fsA)) (fun _ h => h) (fun s hs _ _ => ?_)
  obtain ⟨u, k⟩ := s
  simp only at hs ⊢
  have e1 := shr_all7 q k
  have hl := bitsTo_len q k
  have hb := bit_all7 ⟨q, hq⟩ ⟨k, by omega⟩
  simp only at hb
  rw [e1] at hb
  have hs1 := bitsTo_succ q k
  have h7 : k = 7 → ((q / 2 ^ k : Nat) : Int) = 0 := fun e => by
    rw [e, Nat.div_eq_of_lt hq]; rfl
  repeat' (first
    | (apply so_vo; (· exact voA); (· rfl))
    | refine so_nil ?_
    | refine q_go ?_
    | refine sw_region ?_
    | (refine goQ ?_; intro _ _)
    | refine go1 ?_
    | (refine goU ?_; intro nu)
    | (refine goB ?_; intro nb)
    | (refine goM ?_; intro nm)
    | (refine go2 ?_ ?_ <;> intro h <;> (try simp only [Bool.not_true, Bool.not_false, decide_eq_true_eq, decide_eq_false_iff_not, Bool.not_eq_true', Bool.not_eq_false', ne_eq, Decidable.not_not, Int.not_lt, Int.not_le, not_false_eq_true] at h))
    | fail)
  · have ht : q.testBit k = true := by
      cases hk : q.testBit k with
      | true => rfl
      | false => rw [hk] at h; simp at h
    rw [ht] at hs1
    refine ⟨rfl, (nu, k + 1), by simp only; omega, by simp only; omega, ?_, fun w H => by simp only; rw [hs1]; exact H⟩
    (exact fsA)
  · have ht : q.testBit k = false := by
      cases hk : q.testBit k with
      | false => rfl
      | true => rw [hk] at h; simp at h
    rw [ht] at hs1
    refine ⟨rfl, (u, k + 1), by simp only; omega, by simp only; omega, ?_, fun w H => by simp only; rw [hs1]; exact H⟩
    (exact fsA)
  · have e2 := bitsTo_more q k 7 hs (Nat.le_zero.1 (Int.ofNat_le.1 h))
    apply rq1 rfl rfl
    · exact ⟨u, rfl, by rw [e2]⟩
    · (first | infer_instance | exact ⟨fun _ H => H⟩)
end Go.Proofs.YtmhfhfhdblccjaaGreat
/-
  Groups in the order of their first ones: a sort of a few rows.
-/
namespace Go.Proofs.YtmhfhfhdblccjaaGreat
open Go Go.RowKit
set_option maxHeartbeats 4000000
set_option linter.unusedVariables false
set_option linter.unusedSimpArgs false
set_option maxRecDepth 100000
theorem zipWith_zip {β γ δ : Type} (f : β → γ → δ) : ∀ (us : List β) (xss : List γ), List.zipWith f us xss = (us.zip xss).map fun p => f p.1 p.2
  | [], _ => by simp
  | _ :: _, [] => by simp
  | a :: us, b :: xss => by simp [zipWith_zip f us xss]
theorem rows_perm {T : TypeId} {α : Type} {enc : Enc α} {us us' : List SlV} {xss xss' : List (List α)} {L : List SP} (e : us'.length = xss'.length) (p : (us.zip xss).Perm (us'.zip xss')) {h : PH} (H : Holds (rows T enc us xss :: L) h) : Holds (rows T enc us' xss' :: L) h := by
  obtain ⟨_, H⟩ := rows_out H
  refine rows_in e (Holds.perm ?_ _ H)
  rw [zipWith_zip, zipWith_zip]
  exact (p.map _).append_right L
def swp {α : Type} (l : List α) (i j : Nat) (a b : α) : List α := (l.set i b).set j a
theorem swp_perm {α : Type} {l : List α} {i j : Nat} {a b : α} (hi : l[i]? = some a) (hj : l[j]? = some b) : (swp l i j a b).Perm l := by
  obtain ⟨h1, e1⟩ := List.getElem?_eq_some_iff.1 hi
  obtain ⟨h2, e2⟩ := List.getElem?_eq_some_iff.1 hj
  subst e1; subst e2
  exact List.set_set_perm h1 h2
theorem zip_set2 {β γ : Type} : ∀ (us : List β) (xss : List γ) (i : Nat) (u : β) (x : γ), (us.set i u).zip (xss.set i x) = (us.zip xss).set i (u, x)
  | [], _, i, u, x => by simp
  | a :: us, [], i, u, x => by simp
  | a :: us, b :: xss, 0, u, x => by simp
  | a :: us, b :: xss, i + 1, u, x => by simp [zip_set2 us xss i u x]
theorem swp_zip {β γ : Type} {us : List β} {xss : List γ} {i j : Nat} {u u2 : β} {x x2 : γ} (h1 : us[i]? = some u) (h2 : us[j]? = some u2) (g1 : xss[i]? = some x) (g2 : xss[j]? = some x2) : ((swp us i j u u2).zip (swp xss i j x x2)).Perm (us.zip xss) := by
  unfold swp
  rw [zip_set2, zip_set2]
  exact swp_perm (l := us.zip xss) (by rw [List.getElem?_zip_eq_some]; exact ⟨h1, g1⟩) (by rw [List.getElem?_zip_eq_some]; exact ⟨h2, g2⟩)
theorem swp_len {α : Type} (l : List α) (i j : Nat) (a b : α) : (swp l i j a b).length = l.length := by simp [swp]
theorem zip_snd_perm {β γ : Type} {us us' : List β} {xss xss' : List γ} (e : us.length = xss.length) (e' : us'.length = xss'.length) (p : (us'.zip xss').Perm (us.zip xss)) : xss'.Perm xss := by
  have := p.map Prod.snd
  rwa [List.map_snd_zip (by omega), List.map_snd_zip (by omega)] at this
/-- rows of small numbers, none of them empty -/
def Small (xss : List (List Int)) : Prop := ∀ xs ∈ xss, xs ≠ [] ∧ ∀ x ∈ xs, -1000000000 ≤ x ∧ x ≤ 1000000000
attribute [local irreducible] SW SO FnC retQ SA VO
theorem groups1_ok (L : List SP) (a b : SlV) (xs ys : List Int) [r : RdSl L a.v Int encInt xs] [r2 : RdSl L b.v Int encInt ys] (hx : xs ≠ [] ∧ ∀ x ∈ xs, -1000000000 ≤ x ∧ x ≤ 1000000000) (hy : ys ≠ [] ∧ ∀ x ∈ ys, -1000000000 ≤ x ∧ x ≤ 1000000000) : FnC Tryz.prog 90 [a.v, b.v] L (fun v M => ∃ n : Int, v = .int .i64 n ∧ M = L) := by
  obtain ⟨x, hx0⟩ := get_some (xs := xs) (k := 0) (List.length_pos_iff.2 hx.1)
  obtain ⟨y, hy0⟩ := get_some (xs := ys) (k := 0) (List.length_pos_iff.2 hy.1)
  have h1 := List.length_pos_iff.2 hx.1
  have h2 := List.length_pos_iff.2 hy.1
  have h3 := hx.2 x (List.mem_of_getElem? hx0)
  have h4 := hy.2 y (List.mem_of_getElem? hy0)
  refine fn_start (sz := 12) Tryz.func90 rfl rfl rfl ?_
  repeat' (first
    | (apply so_vo; (· exact voA); (· rfl))
    | refine so_nil ?_
    | refine q_go ?_
    | refine sw_region ?_
    | (refine goQ ?_; intro _ _)
    | refine go1 ?_
    | (refine goU ?_; intro nu)
    | (refine goB ?_; intro nb)
    | (refine goM ?_; intro nm)
    | (refine go2 ?_ ?_ <;> intro h <;> (try simp only [Bool.not_true, Bool.not_false, decide_eq_true_eq, decide_eq_false_iff_not, Bool.not_eq_true', Bool.not_eq_false', ne_eq, Decidable.not_not, Int.not_lt, Int.not_le, not_false_eq_true] at h))
    | fail)
  refine sa_start [7] mixed (by kernel_rfl) ?_
  apply sa_stat 0 rfl (by kernel_rfl) rfl
  · (exact voA)
  apply sa_stat 1 rfl (by kernel_rfl) rfl
  · (exact voA)
  apply sa_stat 2 rfl (by kernel_rfl) rfl
  · (exact voA)
  apply sa_stat 3 rfl (by kernel_rfl) rfl
  · (exact voA)
  apply sa_stat 4 rfl (by kernel_rfl) rfl
  · (exact voA)
  apply sa_stat 5 rfl (by kernel_rfl) rfl
  · (exact voA)
  apply sa_stat 6 rfl (by kernel_rfl) rfl
  · (exact voA)
  refine sa_rest (T' := [_]) rfl (by kernel_rfl) ?_
  repeat' (first
    | (apply so_vo; (· exact voA); (· rfl))
    | refine so_nil ?_
    | refine q_go ?_
    | refine sw_region ?_
    | (refine goQ ?_; intro _ _)
    | refine go1 ?_
    | (refine goU ?_; intro nu)
    | (refine goB ?_; intro nb)
    | (refine goM ?_; intro nm)
    | (refine go2 ?_ ?_ <;> intro h <;> (try simp only [Bool.not_true, Bool.not_false, decide_eq_true_eq, decide_eq_false_iff_not, Bool.not_eq_true', Bool.not_eq_false', ne_eq, Decidable.not_not, Int.not_lt, Int.not_le, not_false_eq_true] at h))
    | fail)
  apply rq1 rfl rfl
  · exact ⟨_, rfl, rfl⟩
  · (first | infer_instance | exact ⟨fun _ H => H⟩)
theorem insertion_rows (L : List SP) (u : SlV) (us : List SlV) (gs : List (List Int)) (hsm : Small gs) (hn : gs.length ≤ 1000000) (hl : us.length = gs.length) : FnC Tryz.prog 138 [u.v, .int .i64 0, .int .i64 us.length, .func (.func 90) #[] #[]] (ownSl 28 encSl u.v us :: rows 3 encInt us gs :: L) (fun v M => ∃ (us' : List SlV) (gs' : List (List Int)), gs'.Perm gs ∧ us'.length = gs'.length ∧ M = ownSl 28 encSl u.v us' :: rows 3 encInt us' gs' :: L) := by
  refine fn_start (sz := 53) Tryz.func138 rfl rfl rfl ?_
  repeat' (first
    | (apply so_vo; (· exact voA); (· rfl))
    | refine so_nil ?_
    | refine q_go ?_
    | refine sw_region ?_
    | (refine goQ ?_; intro _ _)
    | refine go1 ?_
    | (refine goU ?_; intro nu)
    | (refine goB ?_; intro nb)
    | (refine goM ?_; intro nm)
    | (refine go2 ?_ ?_ <;> intro h <;> (try simp only [Bool.not_true, Bool.not_false, decide_eq_true_eq, decide_eq_false_iff_not, Bool.not_eq_true', Bool.not_eq_false', ne_eq, Decidable.not_not, Int.not_lt, Int.not_le, not_false_eq_true] at h))
    | fail)
  refine sw_block' (fun _ _ => ?_)
  refine sw_loop' (σ := List SlV × List (List Int) × Nat) (fun s => [(0, u.v), (1, .int .i64 0), (2, .int .i64 us.length), (3, .func (.func 90) #[] #[]), (8, .int .i64 s.2.2)]) (fun s => ownSl 28 encSl u.v s.1 :: rows 3 encInt s.1 s.2.1 :: L) (fun s => s.1.length = us.length ∧ s.2.1.length = us.length ∧ (s.1.zip s.2.1).Perm (us.zip gs)) (fun s => us.length - s.2.2) (us, gs, 1) ⟨rfl, hl.symm, .refl _⟩ (by (exact fsA)) (fun _ h => h) (fun s hs _ _ => ?_)
  obtain ⟨us1, gs1, i⟩ := s
  obtain ⟨k1, k2, k3⟩ := hs
  simp only at k1 k2 k3 ⊢
  by_cases h0 : i < us.length
  rotate_left
  · repeat' (first
      | (apply so_vo; (· exact voA); (· rfl))
      | refine so_nil ?_
      | refine q_go ?_
      | refine sw_region ?_
      | (refine goQ ?_; intro _ _)
      | refine go1 ?_
      | (refine goU ?_; intro nu)
      | (refine goB ?_; intro nb)
      | (refine goM ?_; intro nm)
      | (refine go2 ?_ ?_ <;> intro h <;> (try simp only [Bool.not_true, Bool.not_false, decide_eq_true_eq, decide_eq_false_iff_not, Bool.not_eq_true', Bool.not_eq_false', ne_eq, Decidable.not_not, Int.not_lt, Int.not_le, not_false_eq_true] at h))
      | fail)
    apply rq0 rfl
    · exact ⟨us1, gs1, zip_snd_perm hl (by omega) k3, by omega, rfl⟩
    · infer_instance
  repeat' (first
    | (apply so_vo; (· exact voA); (· rfl))
    | refine so_nil ?_
    | refine q_go ?_
    | refine sw_region ?_
    | (refine goQ ?_; intro _ _)
    | refine go1 ?_
    | (refine goU ?_; intro nu)
    | (refine goB ?_; intro nb)
    | (refine goM ?_; intro nm)
    | (refine go2 ?_ ?_ <;> intro h <;> (try simp only [Bool.not_true, Bool.not_false, decide_eq_true_eq, decide_eq_false_iff_not, Bool.not_eq_true', Bool.not_eq_false', ne_eq, Decidable.not_not, Int.not_lt, Int.not_le, not_false_eq_true] at h))
    | fail)
  refine sw_block' (fun _ _ => ?_)
  refine sw_loop' (σ := List SlV × List (List Int) × Nat) (fun s => [(0, u.v), (1, .int .i64 0), (2, .int .i64 us.length), (3, .func (.func 90) #[] #[]), (8, .int .i64 i), (9, .int .i64 s.2.2)]) (fun s => ownSl 28 encSl u.v s.1 :: rows 3 encInt s.1 s.2.1 :: L) (fun s => s.1.length = us.length ∧ s.2.1.length = us.length ∧ (s.1.zip s.2.1).Perm (us.zip gs) ∧ s.2.2 < us.length) (fun s => s.2.2) (us1, gs1, i) ⟨k1, k2, k3, h0⟩ (by (exact fsA)) (fun _ h => h) (fun s hs _ _ => ?_)
  obtain ⟨us2, gs2, j⟩ := s
  obtain ⟨m1, m2, m3, m4⟩ := hs
  simp only at m1 m2 m3 m4 ⊢
  have hsm2 : Small gs2 := fun xs hx => hsm xs ((zip_snd_perm hl (by omega) m3).mem_iff.1 hx)
  by_cases hj : j = 0
  · subst hj
    repeat' (first
      | (apply so_vo; (· exact voA); (· rfl))
      | refine so_nil ?_
      | refine q_go ?_
      | refine sw_region ?_
      | (refine goQ ?_; intro _ _)
      | refine go1 ?_
      | (refine goU ?_; intro nu)
      | (refine goB ?_; intro nb)
      | (refine goM ?_; intro nm)
      | (refine go2 ?_ ?_ <;> intro h <;> (try simp only [Bool.not_true, Bool.not_false, decide_eq_true_eq, decide_eq_false_iff_not, Bool.not_eq_true', Bool.not_eq_false', ne_eq, Decidable.not_not, Int.not_lt, Int.not_le, not_false_eq_true] at h))
      | fail)
    refine sa_start [] mixed (by kernel_rfl) ?_
    apply sa_stat 0 rfl (by kernel_rfl) rfl
    · (exact voA)
    apply sa_stat 1 rfl (by kernel_rfl) rfl
    · (exact voA)
    apply sa_stat 2 rfl (by kernel_rfl) rfl
    · (exact voA)
    apply sa_stat 3 rfl (by kernel_rfl) rfl
    · (exact voA)
    first | (apply sa_stat_on 4 rfl rfl rfl rfl (by kernel_rfl) rfl; (· ((exact voA)))) | (refine sa_stat_off 4 rfl rfl (.inl ⟨rfl, rfl⟩) (by kernel_rfl) rfl ?_) | (refine sa_stat_off 4 rfl rfl (.inr rfl) (by kernel_rfl) rfl ?_) | (apply sa_stat_on 4 rfl rfl rfl ?_ (by kernel_rfl) rfl; (· ((exact voA))); (rotate_left 1); (· (exact decA))) | (refine sa_stat_off 4 rfl rfl (.inl ⟨rfl, ?_⟩) (by kernel_rfl) rfl ?_; (· (exact decA)))
    first | (apply sa_stat_on 5 rfl rfl rfl rfl (by kernel_rfl) rfl; (· ((exact voA)))) | (refine sa_stat_off 5 rfl rfl (.inl ⟨rfl, rfl⟩) (by kernel_rfl) rfl ?_) | (refine sa_stat_off 5 rfl rfl (.inr rfl) (by kernel_rfl) rfl ?_) | (apply sa_stat_on 5 rfl rfl rfl ?_ (by kernel_rfl) rfl; (· ((exact voA))); (rotate_left 1); (· (exact decA))) | (refine sa_stat_off 5 rfl rfl (.inl ⟨rfl, ?_⟩) (by kernel_rfl) rfl ?_; (· (exact decA)))
    first | (apply sa_stat_on 6 rfl rfl rfl rfl (by kernel_rfl) rfl; (· ((exact voA)))) | (refine sa_stat_off 6 rfl rfl (.inl ⟨rfl, rfl⟩) (by kernel_rfl) rfl ?_) | (refine sa_stat_off 6 rfl rfl (.inr rfl) (by kernel_rfl) rfl ?_) | (apply sa_stat_on 6 rfl rfl rfl ?_ (by kernel_rfl) rfl; (· ((exact voA))); (rotate_left 1); (· (exact decA))) | (refine sa_stat_off 6 rfl rfl (.inl ⟨rfl, ?_⟩) (by kernel_rfl) rfl ?_; (· (exact decA)))
    first | (apply sa_stat_on 7 rfl rfl rfl rfl (by kernel_rfl) rfl; (· ((exact voA)))) | (refine sa_stat_off 7 rfl rfl (.inl ⟨rfl, rfl⟩) (by kernel_rfl) rfl ?_) | (refine sa_stat_off 7 rfl rfl (.inr rfl) (by kernel_rfl) rfl ?_) | (apply sa_stat_on 7 rfl rfl rfl ?_ (by kernel_rfl) rfl; (· ((exact voA))); (rotate_left 1); (· (exact decA))) | (refine sa_stat_off 7 rfl rfl (.inl ⟨rfl, ?_⟩) (by kernel_rfl) rfl ?_; (· (exact decA)))
    first | (apply sa_stat_on 8 rfl rfl rfl rfl (by kernel_rfl) rfl; (· ((exact voA)))) | (refine sa_stat_off 8 rfl rfl (.inl ⟨rfl, rfl⟩) (by kernel_rfl) rfl ?_) | (refine sa_stat_off 8 rfl rfl (.inr rfl) (by kernel_rfl) rfl ?_) | (apply sa_stat_on 8 rfl rfl rfl ?_ (by kernel_rfl) rfl; (· ((exact voA))); (rotate_left 1); (· (exact decA))) | (refine sa_stat_off 8 rfl rfl (.inl ⟨rfl, ?_⟩) (by kernel_rfl) rfl ?_; (· (exact decA)))
    first | (apply sa_stat_on 9 rfl rfl rfl rfl (by kernel_rfl) rfl; (· ((exact voA)))) | (refine sa_stat_off 9 rfl rfl (.inl ⟨rfl, rfl⟩) (by kernel_rfl) rfl ?_) | (refine sa_stat_off 9 rfl rfl (.inr rfl) (by kernel_rfl) rfl ?_) | (apply sa_stat_on 9 rfl rfl rfl ?_ (by kernel_rfl) rfl; (· ((exact voA))); (rotate_left 1); (· (exact decA))) | (refine sa_stat_off 9 rfl rfl (.inl ⟨rfl, ?_⟩) (by kernel_rfl) rfl ?_; (· (exact decA)))
    first | (apply sa_stat_on 10 rfl rfl rfl rfl (by kernel_rfl) rfl; (· ((exact voA)))) | (refine sa_stat_off 10 rfl rfl (.inl ⟨rfl, rfl⟩) (by kernel_rfl) rfl ?_) | (refine sa_stat_off 10 rfl rfl (.inr rfl) (by kernel_rfl) rfl ?_) | (apply sa_stat_on 10 rfl rfl rfl ?_ (by kernel_rfl) rfl; (· ((exact voA))); (rotate_left 1); (· (exact decA))) | (refine sa_stat_off 10 rfl rfl (.inl ⟨rfl, ?_⟩) (by kernel_rfl) rfl ?_; (· (exact decA)))
    first | (apply sa_stat_on 11 rfl rfl rfl rfl (by kernel_rfl) rfl; (· ((exact voA)))) | (refine sa_stat_off 11 rfl rfl (.inl ⟨rfl, rfl⟩) (by kernel_rfl) rfl ?_) | (refine sa_stat_off 11 rfl rfl (.inr rfl) (by kernel_rfl) rfl ?_) | (apply sa_stat_on 11 rfl rfl rfl ?_ (by kernel_rfl) rfl; (· ((exact voA))); (rotate_left 1); (· (exact decA))) | (refine sa_stat_off 11 rfl rfl (.inl ⟨rfl, ?_⟩) (by kernel_rfl) rfl ?_; (· (exact decA)))
    first | (apply sa_stat_on 12 rfl rfl rfl rfl (by kernel_rfl) rfl; (· ((exact voA)))) | (refine sa_stat_off 12 rfl rfl (.inl ⟨rfl, rfl⟩) (by kernel_rfl) rfl ?_) | (refine sa_stat_off 12 rfl rfl (.inr rfl) (by kernel_rfl) rfl ?_) | (apply sa_stat_on 12 rfl rfl rfl ?_ (by kernel_rfl) rfl; (· ((exact voA))); (rotate_left 1); (· (exact decA))) | (refine sa_stat_off 12 rfl rfl (.inl ⟨rfl, ?_⟩) (by kernel_rfl) rfl ?_; (· (exact decA)))
    first | (apply sa_stat_on 13 rfl rfl rfl rfl (by kernel_rfl) rfl; (· ((exact voA)))) | (refine sa_stat_off 13 rfl rfl (.inl ⟨rfl, rfl⟩) (by kernel_rfl) rfl ?_) | (refine sa_stat_off 13 rfl rfl (.inr rfl) (by kernel_rfl) rfl ?_) | (apply sa_stat_on 13 rfl rfl rfl ?_ (by kernel_rfl) rfl; (· ((exact voA))); (rotate_left 1); (· (exact decA))) | (refine sa_stat_off 13 rfl rfl (.inl ⟨rfl, ?_⟩) (by kernel_rfl) rfl ?_; (· (exact decA)))
    refine sa_chainL 14 rfl (by kernel_rfl) ?_
    repeat' (first
      | (apply so_vo; (· exact voA); (· rfl))
      | refine so_nil ?_
      | refine q_go ?_
      | refine sw_region ?_
      | (refine goQ ?_; intro _ _)
      | refine go1 ?_
      | (refine goU ?_; intro nu)
      | (refine goB ?_; intro nb)
      | (refine goM ?_; intro nm)
      | (refine go2 ?_ ?_ <;> intro h <;> (try simp only [Bool.not_true, Bool.not_false, decide_eq_true_eq, decide_eq_false_iff_not, Bool.not_eq_true', Bool.not_eq_false', ne_eq, Decidable.not_not, Int.not_lt, Int.not_le, not_false_eq_true] at h))
      | fail)
    refine ⟨rfl, rfl, HLess.sat inferInstance, ?_⟩
    first | (apply sa_stat_on 15 rfl rfl rfl rfl (by kernel_rfl) rfl; (· ((exact voA)))) | (refine sa_stat_off 15 rfl rfl (.inl ⟨rfl, rfl⟩) (by kernel_rfl) rfl ?_) | (refine sa_stat_off 15 rfl rfl (.inr rfl) (by kernel_rfl) rfl ?_) | (apply sa_stat_on 15 rfl rfl rfl ?_ (by kernel_rfl) rfl; (· ((exact voA))); (rotate_left 1); (· (exact decA))) | (refine sa_stat_off 15 rfl rfl (.inl ⟨rfl, ?_⟩) (by kernel_rfl) rfl ?_; (· (exact decA)))
    apply sa_stat 16 rfl (by kernel_rfl) rfl
    · (exact voA)
    refine sa_rest (T' := []) rfl (by kernel_rfl) ?_
    repeat' (first
      | (apply so_vo; (· exact voA); (· rfl))
      | refine so_nil ?_
      | refine q_go ?_
      | refine sw_region ?_
      | (refine goQ ?_; intro _ _)
      | refine go1 ?_
      | (refine goU ?_; intro nu)
      | (refine goB ?_; intro nb)
      | (refine goM ?_; intro nm)
      | (refine go2 ?_ ?_ <;> intro h <;> (try simp only [Bool.not_true, Bool.not_false, decide_eq_true_eq, decide_eq_false_iff_not, Bool.not_eq_true', Bool.not_eq_false', ne_eq, Decidable.not_not, Int.not_lt, Int.not_le, not_false_eq_true] at h))
      | fail)
    refine ⟨rfl, (us2, gs2, i + 1), ⟨m1, m2, m3⟩, by simp only; omega, ?_, fun _ h => h⟩
    (exact fsA)
  · have g1 := at_get (us := us2) (i := j) (by omega)
    have g2 := at_get (us := us2) (i := j - 1) (by omega)
    have x1 := atx_get (xss := gs2) (i := j) (by omega)
    have x2 := atx_get (xss := gs2) (i := j - 1) (by omega)
    have s1 := hsm2 _ (List.mem_of_getElem? x1)
    have s2 := hsm2 _ (List.mem_of_getElem? x2)
    have e0 : ((j : Int) - 1).toNat = j - 1 := by omega
    have g2' := g2
    rw [← e0] at g2
    repeat' (first
      | (apply so_vo; (· exact voA); (· rfl))
      | refine so_nil ?_
      | refine q_go ?_
      | refine sw_region ?_
      | (refine goQ ?_; intro _ _)
      | refine go1 ?_
      | (refine goU ?_; intro nu)
      | (refine goB ?_; intro nb)
      | (refine goM ?_; intro nm)
      | (refine go2 ?_ ?_ <;> intro h <;> (try simp only [Bool.not_true, Bool.not_false, decide_eq_true_eq, decide_eq_false_iff_not, Bool.not_eq_true', Bool.not_eq_false', ne_eq, Decidable.not_not, Int.not_lt, Int.not_le, not_false_eq_true] at h))
      | fail)
    refine sa_start [] mixed (by kernel_rfl) ?_
    apply sa_stat 0 rfl (by kernel_rfl) rfl
    · (exact voA)
    apply sa_stat 1 rfl (by kernel_rfl) rfl
    · (exact voA)
    apply sa_stat 2 rfl (by kernel_rfl) rfl
    · (exact voA)
    apply sa_stat 3 rfl (by kernel_rfl) rfl
    · (exact voA)
    first | (apply sa_stat_on 4 rfl rfl rfl rfl (by kernel_rfl) rfl; (· ((exact voA)))) | (refine sa_stat_off 4 rfl rfl (.inl ⟨rfl, rfl⟩) (by kernel_rfl) rfl ?_) | (refine sa_stat_off 4 rfl rfl (.inr rfl) (by kernel_rfl) rfl ?_) | (apply sa_stat_on 4 rfl rfl rfl ?_ (by kernel_rfl) rfl; (· ((exact voA))); (rotate_left 1); (· (exact decA))) | (refine sa_stat_off 4 rfl rfl (.inl ⟨rfl, ?_⟩) (by kernel_rfl) rfl ?_; (· (exact decA)))
    first | (apply sa_stat_on 5 rfl rfl rfl rfl (by kernel_rfl) rfl; (· ((exact voA)))) | (refine sa_stat_off 5 rfl rfl (.inl ⟨rfl, rfl⟩) (by kernel_rfl) rfl ?_) | (refine sa_stat_off 5 rfl rfl (.inr rfl) (by kernel_rfl) rfl ?_) | (apply sa_stat_on 5 rfl rfl rfl ?_ (by kernel_rfl) rfl; (· ((exact voA))); (rotate_left 1); (· (exact decA))) | (refine sa_stat_off 5 rfl rfl (.inl ⟨rfl, ?_⟩) (by kernel_rfl) rfl ?_; (· (exact decA)))
    first | (apply sa_stat_on 6 rfl rfl rfl rfl (by kernel_rfl) rfl; (· ((exact voA)))) | (refine sa_stat_off 6 rfl rfl (.inl ⟨rfl, rfl⟩) (by kernel_rfl) rfl ?_) | (refine sa_stat_off 6 rfl rfl (.inr rfl) (by kernel_rfl) rfl ?_) | (apply sa_stat_on 6 rfl rfl rfl ?_ (by kernel_rfl) rfl; (· ((exact voA))); (rotate_left 1); (· (exact decA))) | (refine sa_stat_off 6 rfl rfl (.inl ⟨rfl, ?_⟩) (by kernel_rfl) rfl ?_; (· (exact decA)))
    first | (apply sa_stat_on 7 rfl rfl rfl rfl (by kernel_rfl) rfl; (· ((exact voA)))) | (refine sa_stat_off 7 rfl rfl (.inl ⟨rfl, rfl⟩) (by kernel_rfl) rfl ?_) | (refine sa_stat_off 7 rfl rfl (.inr rfl) (by kernel_rfl) rfl ?_) | (apply sa_stat_on 7 rfl rfl rfl ?_ (by kernel_rfl) rfl; (· ((exact voA))); (rotate_left 1); (· (exact decA))) | (refine sa_stat_off 7 rfl rfl (.inl ⟨rfl, ?_⟩) (by kernel_rfl) rfl ?_; (· (exact decA)))
    first | (apply sa_stat_on 8 rfl rfl rfl rfl (by kernel_rfl) rfl; (· ((exact voA)))) | (refine sa_stat_off 8 rfl rfl (.inl ⟨rfl, rfl⟩) (by kernel_rfl) rfl ?_) | (refine sa_stat_off 8 rfl rfl (.inr rfl) (by kernel_rfl) rfl ?_) | (apply sa_stat_on 8 rfl rfl rfl ?_ (by kernel_rfl) rfl; (· ((exact voA))); (rotate_left 1); (· (exact decA))) | (refine sa_stat_off 8 rfl rfl (.inl ⟨rfl, ?_⟩) (by kernel_rfl) rfl ?_; (· (exact decA)))
    first | (apply sa_stat_on 9 rfl rfl rfl rfl (by kernel_rfl) rfl; (· ((exact voA)))) | (refine sa_stat_off 9 rfl rfl (.inl ⟨rfl, rfl⟩) (by kernel_rfl) rfl ?_) | (refine sa_stat_off 9 rfl rfl (.inr rfl) (by kernel_rfl) rfl ?_) | (apply sa_stat_on 9 rfl rfl rfl ?_ (by kernel_rfl) rfl; (· ((exact voA))); (rotate_left 1); (· (exact decA))) | (refine sa_stat_off 9 rfl rfl (.inl ⟨rfl, ?_⟩) (by kernel_rfl) rfl ?_; (· (exact decA)))
    first | (apply sa_stat_on 10 rfl rfl rfl rfl (by kernel_rfl) rfl; (· ((exact voA)))) | (refine sa_stat_off 10 rfl rfl (.inl ⟨rfl, rfl⟩) (by kernel_rfl) rfl ?_) | (refine sa_stat_off 10 rfl rfl (.inr rfl) (by kernel_rfl) rfl ?_) | (apply sa_stat_on 10 rfl rfl rfl ?_ (by kernel_rfl) rfl; (· ((exact voA))); (rotate_left 1); (· (exact decA))) | (refine sa_stat_off 10 rfl rfl (.inl ⟨rfl, ?_⟩) (by kernel_rfl) rfl ?_; (· (exact decA)))
    first | (apply sa_stat_on 11 rfl rfl rfl rfl (by kernel_rfl) rfl; (· ((exact voA)))) | (refine sa_stat_off 11 rfl rfl (.inl ⟨rfl, rfl⟩) (by kernel_rfl) rfl ?_) | (refine sa_stat_off 11 rfl rfl (.inr rfl) (by kernel_rfl) rfl ?_) | (apply sa_stat_on 11 rfl rfl rfl ?_ (by kernel_rfl) rfl; (· ((exact voA))); (rotate_left 1); (· (exact decA))) | (refine sa_stat_off 11 rfl rfl (.inl ⟨rfl, ?_⟩) (by kernel_rfl) rfl ?_; (· (exact decA)))
    first | (apply sa_stat_on 12 rfl rfl rfl rfl (by kernel_rfl) rfl; (· ((exact voA)))) | (refine sa_stat_off 12 rfl rfl (.inl ⟨rfl, rfl⟩) (by kernel_rfl) rfl ?_) | (refine sa_stat_off 12 rfl rfl (.inr rfl) (by kernel_rfl) rfl ?_) | (apply sa_stat_on 12 rfl rfl rfl ?_ (by kernel_rfl) rfl; (· ((exact voA))); (rotate_left 1); (· (exact decA))) | (refine sa_stat_off 12 rfl rfl (.inl ⟨rfl, ?_⟩) (by kernel_rfl) rfl ?_; (· (exact decA)))
    first | (apply sa_stat_on 13 rfl rfl rfl rfl (by kernel_rfl) rfl; (· ((exact voA)))) | (refine sa_stat_off 13 rfl rfl (.inl ⟨rfl, rfl⟩) (by kernel_rfl) rfl ?_) | (refine sa_stat_off 13 rfl rfl (.inr rfl) (by kernel_rfl) rfl ?_) | (apply sa_stat_on 13 rfl rfl rfl ?_ (by kernel_rfl) rfl; (· ((exact voA))); (rotate_left 1); (· (exact decA))) | (refine sa_stat_off 13 rfl rfl (.inl ⟨rfl, ?_⟩) (by kernel_rfl) rfl ?_; (· (exact decA)))
    refine sa_chainL 14 rfl (by kernel_rfl) ?_
    first | (refine so_on rfl rfl rfl ?_) | (refine so_on rfl rfl ?_ ?_; (· (exact decA)))
    (refine so_call rfl rfl rfl (groups1_ok _ (at' us2 j) (at' us2 ((j : Int) - 1).toNat) (atx gs2 j) (atx gs2 ((j : Int) - 1).toNat) s1 (by rw [e0]; exact s2)) ?_; rintro _ _ ⟨c, rfl, rfl⟩)
    repeat' (first
      | (apply so_vo; (· exact voA); (· rfl))
      | refine so_nil ?_
      | refine q_go ?_
      | refine sw_region ?_
      | (refine goQ ?_; intro _ _)
      | refine go1 ?_
      | (refine goU ?_; intro nu)
      | (refine goB ?_; intro nb)
      | (refine goM ?_; intro nm)
      | (refine go2 ?_ ?_ <;> intro h <;> (try simp only [Bool.not_true, Bool.not_false, decide_eq_true_eq, decide_eq_false_iff_not, Bool.not_eq_true', Bool.not_eq_false', ne_eq, Decidable.not_not, Int.not_lt, Int.not_le, not_false_eq_true] at h))
      | fail)
    refine ⟨rfl, rfl, HLess.sat inferInstance, ?_⟩
    first | (apply sa_stat_on 15 rfl rfl rfl rfl (by kernel_rfl) rfl; (· ((exact voA)))) | (refine sa_stat_off 15 rfl rfl (.inl ⟨rfl, rfl⟩) (by kernel_rfl) rfl ?_) | (refine sa_stat_off 15 rfl rfl (.inr rfl) (by kernel_rfl) rfl ?_) | (apply sa_stat_on 15 rfl rfl rfl ?_ (by kernel_rfl) rfl; (· ((exact voA))); (rotate_left 1); (· (exact decA))) | (refine sa_stat_off 15 rfl rfl (.inl ⟨rfl, ?_⟩) (by kernel_rfl) rfl ?_; (· (exact decA)))
    apply sa_stat 16 rfl (by kernel_rfl) rfl
    · (exact voA)
    refine sa_rest (T' := []) rfl (by kernel_rfl) ?_
    repeat' (first
      | (apply so_vo; (· exact voA); (· rfl))
      | refine so_nil ?_
      | refine q_go ?_
      | refine sw_region ?_
      | (refine goQ ?_; intro _ _)
      | refine go1 ?_
      | (refine goU ?_; intro nu)
      | (refine goB ?_; intro nb)
      | (refine goM ?_; intro nm)
      | (refine go2 ?_ ?_ <;> intro h <;> (try simp only [Bool.not_true, Bool.not_false, decide_eq_true_eq, decide_eq_false_iff_not, Bool.not_eq_true', Bool.not_eq_false', ne_eq, Decidable.not_not, Int.not_lt, Int.not_le, not_false_eq_true] at h))
      | fail)
    · refine sw_pure (φ := Hdr u.v us2.length) (fun w H => RdSl.hdr (L := ownSl 28 encSl u.v us2 :: rows 3 encInt us2 gs2 :: L) (enc := encSl) (xs := us2) inferInstance w H (fun e => by subst e; simp at m1; omega)) fun hh => ?_
      have q2 := swp_zip g1 g2' x1 x2
      have q1 := q2.trans m3
      refine sa_start0 mixed (by kernel_rfl) ?_
      apply sa_pure 0 rfl (by kernel_rfl) rfl
      · (first | (refine vo_indexAddr_hd rfl rfl (by assumption) ?_; omega) | (refine vo_indexAddr_hdi rfl rfl (by assumption) ?_; omega) | ((exact voA)))
      apply sa_pure 1 rfl (by kernel_rfl) rfl
      · (first | (refine vo_indexAddr_hd rfl rfl (by assumption) ?_; omega) | (refine vo_indexAddr_hdi rfl rfl (by assumption) ?_; omega) | ((exact voA)))
      apply sa_pure 2 rfl (by kernel_rfl) rfl
      · (first | (refine vo_indexAddr_hd rfl rfl (by assumption) ?_; omega) | (refine vo_indexAddr_hdi rfl rfl (by assumption) ?_; omega) | ((exact voA)))
      apply sa_pure 3 rfl (by kernel_rfl) rfl
      · (first | (refine vo_indexAddr_hd rfl rfl (by assumption) ?_; omega) | (refine vo_indexAddr_hdi rfl rfl (by assumption) ?_; omega) | ((exact voA)))
      apply sa_pure 4 rfl (by kernel_rfl) rfl
      · (first | (refine vo_indexAddr_hd rfl rfl (by assumption) ?_; omega) | (refine vo_indexAddr_hdi rfl rfl (by assumption) ?_; omega) | ((exact voA)))
      apply sa_pure 5 rfl (by kernel_rfl) rfl
      · (first | (refine vo_indexAddr_hd rfl rfl (by assumption) ?_; omega) | (refine vo_indexAddr_hdi rfl rfl (by assumption) ?_; omega) | ((exact voA)))
      apply sa_pure 6 rfl (by kernel_rfl) rfl
      · (first | (refine vo_indexAddr_hd rfl rfl (by assumption) ?_; omega) | (refine vo_indexAddr_hdi rfl rfl (by assumption) ?_; omega) | ((exact voA)))
      apply sa_pure 7 rfl (by kernel_rfl) rfl
      · (first | (refine vo_indexAddr_hd rfl rfl (by assumption) ?_; omega) | (refine vo_indexAddr_hdi rfl rfl (by assumption) ?_; omega) | ((exact voA)))
      apply sa_pure 8 rfl (by kernel_rfl) rfl
      · (first | (refine vo_indexAddr_hd rfl rfl (by assumption) ?_; omega) | (refine vo_indexAddr_hdi rfl rfl (by assumption) ?_; omega) | ((exact voA)))
      apply sa_pure 10 rfl (by kernel_rfl) rfl
      · (first | (refine vo_indexAddr_hd rfl rfl (by assumption) ?_; omega) | (refine vo_indexAddr_hdi rfl rfl (by assumption) ?_; omega) | ((exact voA)))
      apply sa_pure 11 rfl (by kernel_rfl) rfl
      · (first | (refine vo_indexAddr_hd rfl rfl (by assumption) ?_; omega) | (refine vo_indexAddr_hdi rfl rfl (by assumption) ?_; omega) | ((exact voA)))
      apply sa_pure 12 rfl (by kernel_rfl) rfl
      · (first | (refine vo_indexAddr_hd rfl rfl (by assumption) ?_; omega) | (refine vo_indexAddr_hdi rfl rfl (by assumption) ?_; omega) | ((exact voA)))
      refine sa_fork0 9 13 rfl rfl (by kernel_rfl) ?_ ?_
      · repeat' (first
          | (apply so_vo; (· exact voA); (· rfl))
          | refine so_nil ?_
          | refine q_go ?_
          | refine sw_region ?_
          | (refine goQ ?_; intro _ _)
          | refine go1 ?_
          | (refine goU ?_; intro nu)
          | (refine goB ?_; intro nb)
          | (refine goM ?_; intro nm)
          | (refine go2 ?_ ?_ <;> intro h <;> (try simp only [Bool.not_true, Bool.not_false, decide_eq_true_eq, decide_eq_false_iff_not, Bool.not_eq_true', Bool.not_eq_false', ne_eq, Decidable.not_not, Int.not_lt, Int.not_le, not_false_eq_true] at h))
          | fail)
        refine ⟨rfl, rfl, ?_⟩
        refine sa_chain0 13 rfl (by kernel_rfl) ?_
        repeat' (first
          | (apply so_vo; (· exact voA); (· rfl))
          | refine so_nil ?_
          | refine q_go ?_
          | refine sw_region ?_
          | (refine goQ ?_; intro _ _)
          | refine go1 ?_
          | (refine goU ?_; intro nu)
          | (refine goB ?_; intro nb)
          | (refine goM ?_; intro nm)
          | (refine go2 ?_ ?_ <;> intro h <;> (try simp only [Bool.not_true, Bool.not_false, decide_eq_true_eq, decide_eq_false_iff_not, Bool.not_eq_true', Bool.not_eq_false', ne_eq, Decidable.not_not, Int.not_lt, Int.not_le, not_false_eq_true] at h))
          | fail)
        refine ⟨rfl, rfl, ?_⟩
        apply sa_pure 14 rfl (by kernel_rfl) rfl
        · (first | (refine vo_indexAddr_hd rfl rfl (by assumption) ?_; omega) | (refine vo_indexAddr_hdi rfl rfl (by assumption) ?_; omega) | ((exact voA)))
        refine sa_chain0 15 rfl (by kernel_rfl) ?_
        repeat' (first
          | (apply so_vo; (· exact voA); (· rfl))
          | refine so_nil ?_
          | refine q_go ?_
          | refine sw_region ?_
          | (refine goQ ?_; intro _ _)
          | refine go1 ?_
          | (refine goU ?_; intro nu)
          | (refine goB ?_; intro nb)
          | (refine goM ?_; intro nm)
          | (refine go2 ?_ ?_ <;> intro h <;> (try simp only [Bool.not_true, Bool.not_false, decide_eq_true_eq, decide_eq_false_iff_not, Bool.not_eq_true', Bool.not_eq_false', ne_eq, Decidable.not_not, Int.not_lt, Int.not_le, not_false_eq_true] at h))
          | fail)
        refine ⟨rfl, rfl, ?_⟩
        apply sa_pure 16 rfl (by kernel_rfl) rfl
        · (first | (refine vo_indexAddr_hd rfl rfl (by assumption) ?_; omega) | (refine vo_indexAddr_hdi rfl rfl (by assumption) ?_; omega) | ((exact voA)))
        refine sa_chain0 17 rfl (by kernel_rfl) ?_
        repeat' (first
          | (apply so_vo; (· exact voA); (· rfl))
          | refine so_nil ?_
          | refine q_go ?_
          | refine sw_region ?_
          | (refine goQ ?_; intro _ _)
          | refine go1 ?_
          | (refine goU ?_; intro nu)
          | (refine goB ?_; intro nb)
          | (refine goM ?_; intro nm)
          | (refine go2 ?_ ?_ <;> intro h <;> (try simp only [Bool.not_true, Bool.not_false, decide_eq_true_eq, decide_eq_false_iff_not, Bool.not_eq_true', Bool.not_eq_false', ne_eq, Decidable.not_not, Int.not_lt, Int.not_le, not_false_eq_true] at h))
          | fail)
        refine ⟨rfl, rfl, ?_⟩
        refine sa_rest (T := []) rfl (by kernel_rfl) ?_
        repeat' (first
          | (apply so_vo; (· exact voA); (· rfl))
          | refine so_nil ?_
          | refine q_go ?_
          | refine sw_region ?_
          | (refine goQ ?_; intro _ _)
          | refine go1 ?_
          | (refine goU ?_; intro nu)
          | (refine goB ?_; intro nb)
          | (refine goM ?_; intro nm)
          | (refine go2 ?_ ?_ <;> intro h <;> (try simp only [Bool.not_true, Bool.not_false, decide_eq_true_eq, decide_eq_false_iff_not, Bool.not_eq_true', Bool.not_eq_false', ne_eq, Decidable.not_not, Int.not_lt, Int.not_le, not_false_eq_true] at h))
          | fail)
        (refine ⟨rfl, (swp us2 j (j - 1) (at' us2 j) (at' us2 (j - 1)), swp gs2 j (j - 1) (atx gs2 j) (atx gs2 (j - 1)), j - 1), ⟨by simp only [swp_len]; exact m1, by simp only [swp_len]; exact m2, q1, by simp only; omega⟩, by simp only; omega, ?_, fun w H => ?_⟩; (· (exact fsA)); (· rw [e0] at H; exact Holds.cons_mono (fun h H => rows_perm (by simp only [swp_len]; omega) q2.symm H) H))
      · repeat' (first
          | (apply so_vo; (· exact voA); (· rfl))
          | refine so_nil ?_
          | refine q_go ?_
          | refine sw_region ?_
          | (refine goQ ?_; intro _ _)
          | refine go1 ?_
          | (refine goU ?_; intro nu)
          | (refine goB ?_; intro nb)
          | (refine goM ?_; intro nm)
          | (refine go2 ?_ ?_ <;> intro h <;> (try simp only [Bool.not_true, Bool.not_false, decide_eq_true_eq, decide_eq_false_iff_not, Bool.not_eq_true', Bool.not_eq_false', ne_eq, Decidable.not_not, Int.not_lt, Int.not_le, not_false_eq_true] at h))
          | fail)
        refine ⟨rfl, rfl, ?_⟩
        refine sa_chain0 9 rfl (by kernel_rfl) ?_
        repeat' (first
          | (apply so_vo; (· exact voA); (· rfl))
          | refine so_nil ?_
          | refine q_go ?_
          | refine sw_region ?_
          | (refine goQ ?_; intro _ _)
          | refine go1 ?_
          | (refine goU ?_; intro nu)
          | (refine goB ?_; intro nb)
          | (refine goM ?_; intro nm)
          | (refine go2 ?_ ?_ <;> intro h <;> (try simp only [Bool.not_true, Bool.not_false, decide_eq_true_eq, decide_eq_false_iff_not, Bool.not_eq_true', Bool.not_eq_false', ne_eq, Decidable.not_not, Int.not_lt, Int.not_le, not_false_eq_true] at h))
          | fail)
        refine ⟨rfl, rfl, ?_⟩
        apply sa_pure 14 rfl (by kernel_rfl) rfl
        · (first | (refine vo_indexAddr_hd rfl rfl (by assumption) ?_; omega) | (refine vo_indexAddr_hdi rfl rfl (by assumption) ?_; omega) | ((exact voA)))
        refine sa_chain0 15 rfl (by kernel_rfl) ?_
        repeat' (first
          | (apply so_vo; (· exact voA); (· rfl))
          | refine so_nil ?_
          | refine q_go ?_
          | refine sw_region ?_
          | (refine goQ ?_; intro _ _)
          | refine go1 ?_
          | (refine goU ?_; intro nu)
          | (refine goB ?_; intro nb)
          | (refine goM ?_; intro nm)
          | (refine go2 ?_ ?_ <;> intro h <;> (try simp only [Bool.not_true, Bool.not_false, decide_eq_true_eq, decide_eq_false_iff_not, Bool.not_eq_true', Bool.not_eq_false', ne_eq, Decidable.not_not, Int.not_lt, Int.not_le, not_false_eq_true] at h))
          | fail)
        refine ⟨rfl, rfl, ?_⟩
        apply sa_pure 16 rfl (by kernel_rfl) rfl
        · (first | (refine vo_indexAddr_hd rfl rfl (by assumption) ?_; omega) | (refine vo_indexAddr_hdi rfl rfl (by assumption) ?_; omega) | ((exact voA)))
        refine sa_chain0 17 rfl (by kernel_rfl) ?_
        repeat' (first
          | (apply so_vo; (· exact voA); (· rfl))
          | refine so_nil ?_
          | refine q_go ?_
          | refine sw_region ?_
          | (refine goQ ?_; intro _ _)
          | refine go1 ?_
          | (refine goU ?_; intro nu)
          | (refine goB ?_; intro nb)
          | (refine goM ?_; intro nm)
          | (refine go2 ?_ ?_ <;> intro h <;> (try simp only [Bool.not_true, Bool.not_false, decide_eq_true_eq, decide_eq_false_iff_not, Bool.not_eq_true', Bool.not_eq_false', ne_eq, Decidable.not_not, Int.not_lt, Int.not_le, not_false_eq_true] at h))
          | fail)
        refine ⟨rfl, rfl, ?_⟩
        refine sa_rest (T := []) rfl (by kernel_rfl) ?_
        repeat' (first
          | (apply so_vo; (· exact voA); (· rfl))
          | refine so_nil ?_
          | refine q_go ?_
          | refine sw_region ?_
          | (refine goQ ?_; intro _ _)
          | refine go1 ?_
          | (refine goU ?_; intro nu)
          | (refine goB ?_; intro nb)
          | (refine goM ?_; intro nm)
          | (refine go2 ?_ ?_ <;> intro h <;> (try simp only [Bool.not_true, Bool.not_false, decide_eq_true_eq, decide_eq_false_iff_not, Bool.not_eq_true', Bool.not_eq_false', ne_eq, Decidable.not_not, Int.not_lt, Int.not_le, not_false_eq_true] at h))
          | fail)
        (refine ⟨rfl, (swp us2 j (j - 1) (at' us2 j) (at' us2 (j - 1)), swp gs2 j (j - 1) (atx gs2 j) (atx gs2 (j - 1)), j - 1), ⟨by simp only [swp_len]; exact m1, by simp only [swp_len]; exact m2, q1, by simp only; omega⟩, by simp only; omega, ?_, fun w H => ?_⟩; (· (exact fsA)); (· rw [e0] at H; exact Holds.cons_mono (fun h H => rows_perm (by simp only [swp_len]; omega) q2.symm H) H))
    · refine ⟨rfl, (us2, gs2, i + 1), ⟨m1, m2, m3⟩, (by simp only; omega), ?_, ?_⟩
      · (exact fsA)
      · (first | exact fun _ h => h | exact HLess.sat inferInstance)
theorem pdq_rows (L : List SP) (u : SlV) (us : List SlV) (gs : List (List Int)) (x : Value) (hsm : Small gs) (hn : gs.length ≤ 12) (hl : us.length = gs.length) : FnC Tryz.prog 127 [u.v, .int .i64 0, .int .i64 us.length, x, .func (.func 90) #[] #[]] (ownSl 28 encSl u.v us :: rows 3 encInt us gs :: L) (fun v M => ∃ (us' : List SlV) (gs' : List (List Int)), gs'.Perm gs ∧ us'.length = gs'.length ∧ M = ownSl 28 encSl u.v us' :: rows 3 encInt us' gs' :: L) := by
  refine fn_start (sz := 148) Tryz.func127 rfl rfl rfl ?_
  repeat' (first
    | (apply so_vo; (· exact voA); (· rfl))
    | refine so_nil ?_
    | refine q_go ?_
    | refine sw_region ?_
    | (refine goQ ?_; intro _ _)
    | refine go1 ?_
    | (refine goU ?_; intro nu)
    | (refine goB ?_; intro nb)
    | (refine goM ?_; intro nm)
    | (refine go2 ?_ ?_ <;> intro h <;> (try simp only [Bool.not_true, Bool.not_false, decide_eq_true_eq, decide_eq_false_iff_not, Bool.not_eq_true', Bool.not_eq_false', ne_eq, Decidable.not_not, Int.not_lt, Int.not_le, not_false_eq_true] at h))
    | fail)
  refine sw_block' (fun _ _ => ?_)
  refine sw_loop_once (fun _ _ => ?_)
  repeat' (first
    | (apply so_vo; (· exact voA); (· rfl))
    | refine so_nil ?_
    | refine q_go ?_
    | refine sw_region ?_
    | (refine goQ ?_; intro _ _)
    | refine go1 ?_
    | (refine goU ?_; intro nu)
    | (refine goB ?_; intro nb)
    | (refine goM ?_; intro nm)
    | (refine go2 ?_ ?_ <;> intro h <;> (try simp only [Bool.not_true, Bool.not_false, decide_eq_true_eq, decide_eq_false_iff_not, Bool.not_eq_true', Bool.not_eq_false', ne_eq, Decidable.not_not, Int.not_lt, Int.not_le, not_false_eq_true] at h))
    | fail)
  refine so_call rfl rfl rfl (insertion_rows L u us gs hsm (by omega) hl) ?_
  rintro _ _ ⟨us', gs', h1, h2, rfl⟩
  repeat' (first
    | (apply so_vo; (· exact voA); (· rfl))
    | refine so_nil ?_
    | refine q_go ?_
    | refine sw_region ?_
    | (refine goQ ?_; intro _ _)
    | refine go1 ?_
    | (refine goU ?_; intro nu)
    | (refine goB ?_; intro nb)
    | (refine goM ?_; intro nm)
    | (refine go2 ?_ ?_ <;> intro h <;> (try simp only [Bool.not_true, Bool.not_false, decide_eq_true_eq, decide_eq_false_iff_not, Bool.not_eq_true', Bool.not_eq_false', ne_eq, Decidable.not_not, Int.not_lt, Int.not_le, not_false_eq_true] at h))
    | fail)
  apply rq0 rfl
  · exact ⟨us', gs', h1, h2, rfl⟩
  · infer_instance
theorem u8_wrap (n : Int) : 0 ≤ IntKind.u8.wrap n ∧ IntKind.u8.wrap n < 256 := by
  simp only [IntKind.wrap, IntKind.bits, IntKind.signed]; simp; omega
theorem bitsLen64_ok (L : List SP) (n : Int) (hn : 0 ≤ n ∧ n < 256) : FnC Tryz.prog 147 [.int .u64 n] L (fun v M => ∃ k : Int, v = .int .i64 k ∧ M = L) := by
  have h8 := u8_wrap n
  refine fn_start (sz := 25) Tryz.func147 rfl rfl rfl ?_
  repeat' (first
    | (apply so_vo; (· exact voA); (· rfl))
    | refine so_nil ?_
    | refine q_go ?_
    | refine sw_region ?_
    | (refine goQ ?_; intro _ _)
    | refine go1 ?_
    | (refine goU ?_; intro nu)
    | (refine goB ?_; intro nb)
    | (refine goM ?_; intro nm)
    | (refine go2 ?_ ?_ <;> intro h <;> (try simp only [Bool.not_true, Bool.not_false, decide_eq_true_eq, decide_eq_false_iff_not, Bool.not_eq_true', Bool.not_eq_false', ne_eq, Decidable.not_not, Int.not_lt, Int.not_le, not_false_eq_true] at h))
    | fail)
  apply rq1 rfl rfl
  · exact ⟨_, rfl, rfl⟩
  · (first | infer_instance | exact ⟨fun _ H => H⟩)
theorem u64_wrap {n : Int} (hn : 0 ≤ n ∧ n < 256) : IntKind.u64.wrap n = n := by
  simp only [IntKind.wrap, IntKind.bits, IntKind.signed]; simp; omega
theorem bitsLen_ok (L : List SP) (n : Int) (κ : IntKind) (hn : 0 ≤ n ∧ n < 256) : FnC Tryz.prog 128 [.int .u64 n] L (fun v M => ∃ k : Int, v = .int .i64 k ∧ M = L) := by
  refine fn_start (sz := 8) Tryz.func128 rfl rfl rfl ?_
  repeat' (first
    | (apply so_vo; (· exact voA); (· rfl))
    | refine so_nil ?_
    | refine q_go ?_
    | refine sw_region ?_
    | (refine goQ ?_; intro _ _)
    | refine go1 ?_
    | (refine goU ?_; intro nu)
    | (refine goB ?_; intro nb)
    | (refine goM ?_; intro nm)
    | (refine go2 ?_ ?_ <;> intro h <;> (try simp only [Bool.not_true, Bool.not_false, decide_eq_true_eq, decide_eq_false_iff_not, Bool.not_eq_true', Bool.not_eq_false', ne_eq, Decidable.not_not, Int.not_lt, Int.not_le, not_false_eq_true] at h))
    | fail)
  refine so_call rfl rfl rfl (bitsLen64_ok _ n hn) ?_
  rintro _ _ ⟨k, rfl, rfl⟩
  repeat' (first
    | (apply so_vo; (· exact voA); (· rfl))
    | refine so_nil ?_
    | refine q_go ?_
    | refine sw_region ?_
    | (refine goQ ?_; intro _ _)
    | refine go1 ?_
    | (refine goU ?_; intro nu)
    | (refine goB ?_; intro nb)
    | (refine goM ?_; intro nm)
    | (refine go2 ?_ ?_ <;> intro h <;> (try simp only [Bool.not_true, Bool.not_false, decide_eq_true_eq, decide_eq_false_iff_not, Bool.not_eq_true', Bool.not_eq_false', ne_eq, Decidable.not_not, Int.not_lt, Int.not_le, not_false_eq_true] at h))
    | fail)
  apply rq1 rfl rfl
  · exact ⟨_, rfl, rfl⟩
  · (first | infer_instance | exact ⟨fun _ H => H⟩)
theorem SortFunc_rows (L : List SP) (u : SlV) (us : List SlV) (gs : List (List Int)) (hsm : Small gs) (hn : gs.length ≤ 12) (hl : us.length = gs.length) : FnC Tryz.prog 89 [u.v, .func (.func 90) #[] #[]] (ownSl 28 encSl u.v us :: rows 3 encInt us gs :: L) (fun v M => ∃ (us' : List SlV) (gs' : List (List Int)), gs'.Perm gs ∧ us'.length = gs'.length ∧ M = ownSl 28 encSl u.v us' :: rows 3 encInt us' gs' :: L) := by
  have e := u64_wrap (n := us.length) (by omega)
  refine fn_start (sz := 14) Tryz.func89 rfl rfl rfl ?_
  repeat' (first
    | (apply so_vo; (· exact voA); (· rfl))
    | refine so_nil ?_
    | refine q_go ?_
    | refine sw_region ?_
    | (refine goQ ?_; intro _ _)
    | refine go1 ?_
    | (refine goU ?_; intro nu)
    | (refine goB ?_; intro nb)
    | (refine goM ?_; intro nm)
    | (refine go2 ?_ ?_ <;> intro h <;> (try simp only [Bool.not_true, Bool.not_false, decide_eq_true_eq, decide_eq_false_iff_not, Bool.not_eq_true', Bool.not_eq_false', ne_eq, Decidable.not_not, Int.not_lt, Int.not_le, not_false_eq_true] at h))
    | fail)
  rw [e]
  refine so_call rfl rfl rfl (bitsLen_ok _ us.length .u64 (by omega)) ?_
  rintro _ _ ⟨k, rfl, rfl⟩
  repeat' (first
    | (apply so_vo; (· exact voA); (· rfl))
    | refine so_nil ?_
    | refine q_go ?_
    | refine sw_region ?_
    | (refine goQ ?_; intro _ _)
    | refine go1 ?_
    | (refine goU ?_; intro nu)
    | (refine goB ?_; intro nb)
    | (refine goM ?_; intro nm)
    | (refine go2 ?_ ?_ <;> intro h <;> (try simp only [Bool.not_true, Bool.not_false, decide_eq_true_eq, decide_eq_false_iff_not, Bool.not_eq_true', Bool.not_eq_false', ne_eq, Decidable.not_not, Int.not_lt, Int.not_le, not_false_eq_true] at h))
    | fail)
  refine so_call rfl rfl rfl (pdq_rows L u us gs _ hsm hn hl) ?_
  rintro _ _ ⟨us', gs', h1, h2, rfl⟩
  repeat' (first
    | (apply so_vo; (· exact voA); (· rfl))
    | refine so_nil ?_
    | refine q_go ?_
    | refine sw_region ?_
    | (refine goQ ?_; intro _ _)
    | refine go1 ?_
    | (refine goU ?_; intro nu)
    | (refine goB ?_; intro nb)
    | (refine goM ?_; intro nm)
    | (refine go2 ?_ ?_ <;> intro h <;> (try simp only [Bool.not_true, Bool.not_false, decide_eq_true_eq, decide_eq_false_iff_not, Bool.not_eq_true', Bool.not_eq_false', ne_eq, Decidable.not_not, Int.not_lt, Int.not_le, not_false_eq_true] at h))
    | fail)
  apply rq0 rfl
  · exact ⟨us', gs', h1, h2, rfl⟩
  · infer_instance
end Go.Proofs.YtmhfhfhdblccjaaGreat
/-
  As many groups as can be that are whole.
-/
namespace Go.Proofs.YtmhfhfhdblccjaaGreat
open Go Go.RowKit
set_option linter.unusedVariables false
set_option linter.unusedSimpArgs false
set_option maxRecDepth 100000
set_option maxHeartbeats 4000000
/-- the groups that a way to part people tells -/
def tell (P : List Nat) : List (List Int) := P.map fun p => bitsTo p 7
/-- what groups() tells -/
def groupsR (d : List (List Int)) (gs : List (List Int)) : Prop := ∃ P, Most (netF d) d.length (allS (netF d) d.length) P ∧ gs.Perm (tell P)
abbrev imap (r : Nat) (m : Int → Option Int) : SP := mapI keyInt keyInt r m
theorem bitsTo_mem {s k : Nat} {x : Int} (h : x ∈ bitsTo s k) : 0 ≤ x ∧ x < k ∧ s.testBit x.toNat = true := by
  unfold bitsTo at h
  simp only [List.mem_map, List.mem_filter, List.mem_range] at h
  obtain ⟨a, ⟨h1, h2⟩, rfl⟩ := h
  exact ⟨by omega, by omega, by simpa using h2⟩
theorem mem_bitsTo {s k j : Nat} (hj : j < k) (h : s.testBit j = true) : (j : Int) ∈ bitsTo s k := by
  unfold bitsTo
  simp only [List.mem_map, List.mem_filter, List.mem_range]
  exact ⟨j, ⟨hj, h⟩, rfl⟩
theorem Part.lt {f : Nat → Int} {n S : Nat} {P : List Nat} (h : Part f n S P) {p : Nat} (hp : p ∈ P) (hS : S < 128) : p < 128 := Nat.lt_of_le_of_lt (h.sub hp).le hS
theorem tell_small {f : Nat → Int} {n S : Nat} {P : List Nat} (h : Part f n S P) (hS : S < 128) : Small (tell P) := fun xs hx => by
  obtain ⟨p, hp, rfl⟩ := List.mem_map.1 hx
  obtain ⟨k, hk⟩ := ne_zero_bit (h.nz p hp)
  have hk7 := bit_lt (n := 7) (h.lt hp hS) hk
  exact ⟨fun e => absurd (e ▸ mem_bitsTo hk7 hk) List.not_mem_nil, fun x hx => by have := bitsTo_mem hx; omega⟩
attribute [local irreducible] SW SO FnC retQ SA VO
theorem groups_ok (L : List SP) (u : SlV) (us : List SlV) (d : List (List Int)) [r : RdSl L u.v SlV encSl us] [rm : RdM L us Int encInt d] (hd : OkD d) (hz : sumS (netF d) d.length (allS (netF d) d.length) = 0) : FnC Tryz.prog 47 [u.v] L (fun v M => ∃ (u' : SlV) (us' : List SlV) (gs : List (List Int)), v = u'.v ∧ us'.length = gs.length ∧ groupsR d gs ∧ M = ownSl 28 encSl u'.v us' :: rows 3 encInt us' gs :: L) := by
  refine FnC.pure rm.len fun hl => ?_
  have hd7 := hd.len
  have hnl := netM_len d hd
  obtain ⟨n, hn⟩ : ∃ n, n = d.length := ⟨_, rfl⟩
  have hp := pow_sum n (by omega)
  obtain ⟨A, hA⟩ : ∃ A, A = allS (netF d) n := ⟨_, rfl⟩
  have hAlt : A < 2 ^ n := hA ▸ allS_lt _ _
  refine fn_start (sz := 144) Tryz.func47 rfl rfl rfl ?_
  repeat' (first
    | (apply so_vo; (· exact voA); (· rfl))
    | refine so_nil ?_
    | refine q_go ?_
    | refine sw_region ?_
    | (refine goQ ?_; intro _ _)
    | refine go1 ?_
    | (refine goU ?_; intro nu)
    | (refine goB ?_; intro nb)
    | (refine goM ?_; intro nm)
    | (refine go2 ?_ ?_ <;> intro h <;> (try simp only [Bool.not_true, Bool.not_false, decide_eq_true_eq, decide_eq_false_iff_not, Bool.not_eq_true', Bool.not_eq_false', ne_eq, Decidable.not_not, Int.not_lt, Int.not_le, not_false_eq_true] at h))
    | fail)
  refine so_call rfl rfl rfl (net_ok _ u us d hd) ?_
  rintro _ _ ⟨un, rfl, rfl⟩
  repeat' (first
    | (apply so_vo; (· exact voA); (· rfl))
    | refine so_nil ?_
    | refine q_go ?_
    | refine sw_region ?_
    | (refine goQ ?_; intro _ _)
    | refine go1 ?_
    | (refine goU ?_; intro nu)
    | (refine goB ?_; intro nb)
    | (refine goM ?_; intro nm)
    | (refine go2 ?_ ?_ <;> intro h <;> (try simp only [Bool.not_true, Bool.not_false, decide_eq_true_eq, decide_eq_false_iff_not, Bool.not_eq_true', Bool.not_eq_false', ne_eq, Decidable.not_not, Int.not_lt, Int.not_le, not_false_eq_true] at h))
    | fail)
  refine sw_range (τ := Unit) (fun k _ => [(3, un.v), (22, un.v), (4, .int .i64 (allS (netF d) k))]) (fun k _ => ownSl 3 encInt un.v (netM d) :: L) (fun k _ => True) () trivial (by rfl) (by rfl) (by omega) (by (exact fsA)) (fun _ h => h) (fun _ _ => by rfl) (by rfl) (fun k t hlt hI _ _ => ?_) (fun t hI => ?_)
  · obtain ⟨x, hx⟩ := get_some hlt
    have e1 : netF d k = x := getD_of hx
    have h1 := pow_sum k (by omega)
    have h2 := allS_lt (netF d) k
    have h3 := shl_is (k := k) (by omega)
    have h4 := or_is (a := allS (netF d) k) (k := k) (by omega) (by omega)
    repeat' (first
      | (apply so_vo; (· exact voA); (· rfl))
      | refine so_nil ?_
      | refine q_go ?_
      | refine sw_region ?_
      | (refine goQ ?_; intro _ _)
      | refine go1 ?_
      | (refine goU ?_; intro nu)
      | (refine goB ?_; intro nb)
      | (refine goM ?_; intro nm)
      | (refine go2 ?_ ?_ <;> intro h <;> (try simp only [Bool.not_true, Bool.not_false, decide_eq_true_eq, decide_eq_false_iff_not, Bool.not_eq_true', Bool.not_eq_false', ne_eq, Decidable.not_not, Int.not_lt, Int.not_le, not_false_eq_true] at h))
      | fail)
    · have e2 : allS (netF d) (k + 1) = allS (netF d) k ||| 2 ^ k := allS_pos (by rw [e1]; exact h)
      rw [← e2]
      refine ⟨rfl, (), trivial, ?_, ?_⟩
      · (exact fsA)
      · (first | exact fun _ h => h | exact HLess.sat inferInstance)
    · have e2 : allS (netF d) (k + 1) = allS (netF d) k := allS_neg (by rw [e1]; simpa using h)
      rw [← e2]
      refine ⟨rfl, (), trivial, ?_, ?_⟩
      · (exact fsA)
      · (first | exact fun _ h => h | exact HLess.sat inferInstance)
  repeat' (first
    | (apply so_vo; (· exact voA); (· rfl))
    | refine so_nil ?_
    | refine q_go ?_
    | refine sw_region ?_
    | (refine goQ ?_; intro _ _)
    | refine go1 ?_
    | (refine go2 ?_ ?_ <;> intro h <;> (try simp only [Bool.not_true, Bool.not_false, decide_eq_true_eq, decide_eq_false_iff_not, Bool.not_eq_true', Bool.not_eq_false', ne_eq, Decidable.not_not, Int.not_lt, Int.not_le, not_false_eq_true] at h))
    | fail)
  first
    | (refine goU ?_; intro rs)
    | (refine goB ?_; intro rs)
    | (refine goM ?_; intro rs)
  repeat' (first
    | (apply so_vo; (· exact voA); (· rfl))
    | refine so_nil ?_
    | refine q_go ?_
    | refine sw_region ?_
    | (refine goQ ?_; intro _ _)
    | refine go1 ?_
    | (refine go2 ?_ ?_ <;> intro h <;> (try simp only [Bool.not_true, Bool.not_false, decide_eq_true_eq, decide_eq_false_iff_not, Bool.not_eq_true', Bool.not_eq_false', ne_eq, Decidable.not_not, Int.not_lt, Int.not_le, not_false_eq_true] at h))
    | fail)
  have e0 : (netM d).length = n := by omega
  rw [e0, ← hA]
  have hfb := netF_bd hd
  have hsb := sumS_bd (netF d) 7000000 (by decide) hfb n
  refine sw_block' (fun _ _ => ?_)
  refine sw_loop' (σ := Nat × (Int → Option Int)) (fun s => [(3, un.v), (4, .int .i64 A), (7, .map (some rs)), (8, .int .i64 s.1)]) (fun s => imap rs s.2 :: ownSl 3 encInt un.v (netM d) :: L) (fun s => 1 ≤ s.1 ∧ s.1 ≤ A + 1 ∧ Sums (netF d) n s.1 s.2) (fun s => A + 1 - s.1) (1, upd (fun _ => none) 0 0) ⟨by decide, by simp only; omega, fun t ht => by rw [show t = 0 by omega]; rw [sumS_zero]; rfl⟩ (by (exact fsA)) (fun _ h => h) (fun s hs _ _ => ?_)
  obtain ⟨s, sm⟩ := s
  obtain ⟨k1, k2, k3⟩ := hs
  simp only at k1 k2 k3 ⊢
  by_cases h0 : s ≤ A
  · obtain ⟨k0, c1, c2, c3⟩ := lowb_is (s := s) (by omega) (by omega)
    have c4 := bit_lt (show s < 2 ^ n by omega) c3
    have c5 := low_is (s := s) (by omega)
    have c6 : lowb s < 128 := by rw [c2]; have := Nat.pow_le_pow_right (n := 2) (by decide) (show k0 ≤ 6 by omega); omega
    have c7 := less_is (s := s) (t := lowb s) (by omega) c6
    have c8 : less s (lowb s) < s := by rw [c2]; exact less_lt (sub_one c3) (by have := Nat.two_pow_pos k0; omega)
    have c9 := k3 _ c8
    have c10 := sumS_low (netF d) n c4 c2 c3
    have c11 := hsb (less s (lowb s))
    repeat' (first
      | (apply so_vo; (· exact voA); (· rfl))
      | refine so_nil ?_
      | refine q_go ?_
      | refine sw_region ?_
      | (refine goQ ?_; intro _ _)
      | refine go1 ?_
      | (refine goU ?_; intro nu)
      | (refine goB ?_; intro nb)
      | (refine goM ?_; intro nm)
      | (refine go2 ?_ ?_ <;> intro h <;> (try simp only [Bool.not_true, Bool.not_false, decide_eq_true_eq, decide_eq_false_iff_not, Bool.not_eq_true', Bool.not_eq_false', ne_eq, Decidable.not_not, Int.not_lt, Int.not_le, not_false_eq_true] at h))
      | fail)
    refine sw_range (τ := Int → Option Int) (fun k _ => [(3, un.v), (4, .int .i64 A), (7, .map (some rs)), (8, .int .i64 s), (9, .int .i64 (lowb s)), (54, un.v)]) (fun k t => imap rs t :: ownSl 3 encInt un.v (netM d) :: L) (fun k t => Sums (netF d) n s t ∧ t s = some (sumS (netF d) n (less s (lowb s)) + if k0 < k then netF d k0 else 0)) _ ⟨fun x hx => by rw [upd_ne (by omega)]; exact k3 x hx, by rw [upd_eq, c9]; simp⟩ (by rfl) (by rfl) (by omega) (by (exact fsA)) (fun _ h => h) (fun _ _ => by rfl) (by rfl) (fun k t hlt hI _ _ => ?_) (fun t hI => ?_)
    · obtain ⟨x, hx⟩ := get_some hlt
      have e1 : netF d k = x := getD_of hx
      have h3 := shl_is (k := k) (by omega)
      have b1 := hfb k
      have b2 := hfb k0
      rw [e1] at b1
      obtain ⟨i1, i2⟩ := hI
      have i3 : ((t (s : Int)).getD 0) = sumS (netF d) n (less s (lowb s)) + if k0 < k then netF d k0 else 0 := by rw [i2]; rfl
      have i4 : -1000000000 ≤ ((t (s : Int)).getD 0) ∧ ((t (s : Int)).getD 0) ≤ 1000000000 := by rw [i3]; split <;> omega
      repeat' (first
        | (apply so_vo; (· exact voA); (· rfl))
        | refine so_nil ?_
        | refine q_go ?_
        | refine sw_region ?_
        | (refine goQ ?_; intro _ _)
        | refine go1 ?_
        | (refine goU ?_; intro nu)
        | (refine goB ?_; intro nb)
        | (refine goM ?_; intro nm)
        | (refine go2 ?_ ?_ <;> intro h <;> (try simp only [Bool.not_true, Bool.not_false, decide_eq_true_eq, decide_eq_false_iff_not, Bool.not_eq_true', Bool.not_eq_false', ne_eq, Decidable.not_not, Int.not_lt, Int.not_le, not_false_eq_true] at h))
        | fail)
      · have e2 : k = k0 := by
          rw [c2] at h
          exact (two_pow_inj (Int.ofNat.inj h)).symm
        subst e2
        refine ⟨rfl, _, ⟨fun y hy => by rw [upd_ne (by omega)]; exact i1 y hy, ?_⟩, ?_, fun w H => H⟩
        · rw [upd_eq, i3, e1, if_neg (by omega), if_pos (by omega)]; simp
        · (exact fsA)
      · have e2 : k ≠ k0 := fun e => by subst e; rw [c2] at h; exact h rfl
        refine ⟨rfl, t, ⟨i1, ?_⟩, ?_, fun w H => H⟩
        · rw [i2]
          by_cases g : k0 < k
          · rw [if_pos g, if_pos (by omega)]
          · rw [if_neg g, if_neg (by omega)]
        · (exact fsA)
    · obtain ⟨i1, i2⟩ := hI
      rw [if_pos (by omega), ← c10] at i2
      repeat' (first
        | (apply so_vo; (· exact voA); (· rfl))
        | refine so_nil ?_
        | refine q_go ?_
        | refine sw_region ?_
        | (refine goQ ?_; intro _ _)
        | refine go1 ?_
        | (refine goU ?_; intro nu)
        | (refine goB ?_; intro nb)
        | (refine goM ?_; intro nm)
        | (refine go2 ?_ ?_ <;> intro h <;> (try simp only [Bool.not_true, Bool.not_false, decide_eq_true_eq, decide_eq_false_iff_not, Bool.not_eq_true', Bool.not_eq_false', ne_eq, Decidable.not_not, Int.not_lt, Int.not_le, not_false_eq_true] at h))
        | fail)
      refine ⟨rfl, (s + 1, t), ⟨by simp only; omega, by simp only; omega, fun x hx => ?_⟩, by simp only; omega, ?_, fun w H => H⟩
      · simp only at hx ⊢
        rcases Nat.lt_or_ge x s with g | g
        · exact i1 x g
        · rw [show x = s by omega]; exact i2
      · (exact fsA)
  have hsm : ∀ t : Nat, t ≤ A → sm t = some (sumS (netF d) n t) := fun t ht => k3 t (by omega)
  repeat' (first
    | (apply so_vo; (· exact voA); (· rfl))
    | refine so_nil ?_
    | refine q_go ?_
    | refine sw_region ?_
    | (refine goQ ?_; intro _ _)
    | refine go1 ?_
    | (refine go2 ?_ ?_ <;> intro h <;> (try simp only [Bool.not_true, Bool.not_false, decide_eq_true_eq, decide_eq_false_iff_not, Bool.not_eq_true', Bool.not_eq_false', ne_eq, Decidable.not_not, Int.not_lt, Int.not_le, not_false_eq_true] at h))
    | fail)
  first
    | (refine goU ?_; intro rm)
    | (refine goB ?_; intro rm)
    | (refine goM ?_; intro rm)
  repeat' (first
    | (apply so_vo; (· exact voA); (· rfl))
    | refine so_nil ?_
    | refine q_go ?_
    | refine sw_region ?_
    | (refine goQ ?_; intro _ _)
    | refine go1 ?_
    | (refine go2 ?_ ?_ <;> intro h <;> (try simp only [Bool.not_true, Bool.not_false, decide_eq_true_eq, decide_eq_false_iff_not, Bool.not_eq_true', Bool.not_eq_false', ne_eq, Decidable.not_not, Int.not_lt, Int.not_le, not_false_eq_true] at h))
    | fail)
  first
    | (refine goU ?_; intro ro)
    | (refine goB ?_; intro ro)
    | (refine goM ?_; intro ro)
  repeat' (first
    | (apply so_vo; (· exact voA); (· rfl))
    | refine so_nil ?_
    | refine q_go ?_
    | refine sw_region ?_
    | (refine goQ ?_; intro _ _)
    | refine go1 ?_
    | (refine go2 ?_ ?_ <;> intro h <;> (try simp only [Bool.not_true, Bool.not_false, decide_eq_true_eq, decide_eq_false_iff_not, Bool.not_eq_true', Bool.not_eq_false', ne_eq, Decidable.not_not, Int.not_lt, Int.not_le, not_false_eq_true] at h))
    | fail)
  refine sw_block' (fun _ _ => ?_)
  refine sw_loop' (σ := Nat × (Int → Option Int) × (Int → Option Int)) (fun s => [(4, .int .i64 A), (7, .map (some rs)), (12, .map (some rm)), (13, .map (some ro)), (14, .int .i64 s.1)]) (fun s => imap ro s.2.2 :: imap rm s.2.1 :: imap rs sm :: ownSl 3 encInt un.v (netM d) :: L) (fun s => 1 ≤ s.1 ∧ s.1 ≤ A + 1 ∧ Tab (netF d) n A s.1 s.2.1 s.2.2 ∧ Hi s.1 s.2.1) (fun s => A + 1 - s.1) (1, upd (fun _ => none) 0 0, fun _ => none) ⟨by decide, by simp only; omega, Tab.start _ _ _ _ _ (fun x => rfl)⟩ (by (exact fsA)) (fun _ h => h) (fun s hs _ _ => ?_)
  obtain ⟨s, mo, on⟩ := s
  obtain ⟨k1, k2, k3, k4⟩ := hs
  simp only at k1 k2 k3 k4 ⊢
  by_cases h0 : s ≤ A
  · have c1 := less_is (s := s) (t := A) (by omega) (by omega)
    have c2 := hsm s h0
    have c3 : (sm (s : Int)).getD 0 = sumS (netF d) n s := by rw [c2]; rfl
    rcases Classical.em (Sub s A) with hA1 | hA1
    · have c4 := less_zero.2 hA1
      by_cases hA2 : sumS (netF d) n s = 0
      · repeat' (first
          | (apply so_vo; (· exact voA); (· rfl))
          | refine so_nil ?_
          | refine q_go ?_
          | refine sw_region ?_
          | (refine goQ ?_; intro _ _)
          | refine go1 ?_
          | (refine goU ?_; intro nu)
          | (refine goB ?_; intro nb)
          | (refine goM ?_; intro nm)
          | (refine go2 ?_ ?_ <;> intro h <;> (try simp only [Bool.not_true, Bool.not_false, decide_eq_true_eq, decide_eq_false_iff_not, Bool.not_eq_true', Bool.not_eq_false', ne_eq, Decidable.not_not, Int.not_lt, Int.not_le, not_false_eq_true] at h))
          | fail)
        refine sw_block' (fun _ _ => ?_)
        refine sw_loop' (σ := Nat × (Int → Option Int) × (Int → Option Int)) (fun q => [(4, .int .i64 A), (7, .map (some rs)), (12, .map (some rm)), (13, .map (some ro)), (14, .int .i64 s), (15, .int .i64 q.1)]) (fun q => imap ro q.2.2 :: imap rm q.2.1 :: imap rs sm :: ownSl 3 encInt un.v (netM d) :: L) (fun q => Inn (netF d) n A s q.1 q.2.1 q.2.2 ∧ Sub q.1 s) (fun q => q.1) (s, mo, on) ⟨k3.into k4 (by omega), fun k hk => hk⟩ (by (exact fsA)) (fun _ h => h) (fun sq hsq _ _ => ?_)
        obtain ⟨q, mo, on⟩ := sq
        obtain ⟨i1, i2⟩ := hsq
        simp only at i1 i2 ⊢
        by_cases hq : q = 0
        · subst hq
          obtain ⟨t1, t2⟩ := i1.done (by omega) hA1 hA2
          repeat' (first
            | (apply so_vo; (· exact voA); (· rfl))
            | refine so_nil ?_
            | refine q_go ?_
            | refine sw_region ?_
            | (refine goQ ?_; intro _ _)
            | refine go1 ?_
            | (refine goU ?_; intro nu)
            | (refine goB ?_; intro nb)
            | (refine goM ?_; intro nm)
            | (refine go2 ?_ ?_ <;> intro h <;> (try simp only [Bool.not_true, Bool.not_false, decide_eq_true_eq, decide_eq_false_iff_not, Bool.not_eq_true', Bool.not_eq_false', ne_eq, Decidable.not_not, Int.not_lt, Int.not_le, not_false_eq_true] at h))
            | fail)
          refine ⟨rfl, (s + 1, mo, on), ⟨by simp only; omega, by simp only; omega, t1, t2⟩, by simp only; omega, ?_, fun w H => H⟩
          (exact fsA)
        · have hqs := i2.le
          have d1 := less_is (s := s) (t := q) (by omega) (by omega)
          have d2 := prev_is (q := q) (s := s) (by omega) (by omega) (by omega)
          have d3 : (sm (q : Int)).getD 0 = sumS (netF d) n q := by rw [hsm q (by omega)]; rfl
          have d4 : Sub ((q - 1) &&& s) s := fun k hk => by rw [Nat.testBit_and] at hk; simp at hk; exact hk.2
          have d5 : (q - 1) &&& s < q := Nat.lt_of_le_of_lt Nat.and_le_left (by omega)
          cases hm : mo (less s q : Nat) with
          | none =>
            have e1 : (mo (less s q : Nat)).isSome = false := by rw [hm]; rfl
            have hI := i1.leave hq i2 hA2 (fun m hm' => by rw [hm] at hm'; cases hm')
            repeat' (first
              | (apply so_vo; (· exact voA); (· rfl))
              | refine so_nil ?_
              | refine q_go ?_
              | refine sw_region ?_
              | (refine goQ ?_; intro _ _)
              | refine go1 ?_
              | (refine goU ?_; intro nu)
              | (refine goB ?_; intro nb)
              | (refine goM ?_; intro nm)
              | (refine go2 ?_ ?_ <;> intro h <;> (try simp only [Bool.not_true, Bool.not_false, decide_eq_true_eq, decide_eq_false_iff_not, Bool.not_eq_true', Bool.not_eq_false', ne_eq, Decidable.not_not, Int.not_lt, Int.not_le, not_false_eq_true] at h))
              | fail)
            refine ⟨rfl, ((q - 1) &&& s, mo, on), ⟨hI, d4⟩, d5, ?_, fun w H => H⟩
            (exact fsA)
          | some m =>
            have e1 : (mo (less s q : Nat)).isSome = true := by rw [hm]; rfl
            have e2 : (mo (less s q : Nat)).getD 0 = m := by rw [hm]; rfl
            have e3 := i1.tab.bd (less_lt i2 hq) hm
            have e4 : less s q < s := less_lt i2 hq
            by_cases g1 : sumS (netF d) n q = 0
            · by_cases g2 : (mo (s : Int)).getD 0 < m + 1
              · have hI := i1.take (by omega) hq i2 hm g1 g2
                repeat' (first
                  | (apply so_vo; (· exact voA); (· rfl))
                  | refine so_nil ?_
                  | refine q_go ?_
                  | refine sw_region ?_
                  | (refine goQ ?_; intro _ _)
                  | refine go1 ?_
                  | (refine goU ?_; intro nu)
                  | (refine goB ?_; intro nb)
                  | (refine goM ?_; intro nm)
                  | (refine go2 ?_ ?_ <;> intro h <;> (try simp only [Bool.not_true, Bool.not_false, decide_eq_true_eq, decide_eq_false_iff_not, Bool.not_eq_true', Bool.not_eq_false', ne_eq, Decidable.not_not, Int.not_lt, Int.not_le, not_false_eq_true] at h))
                  | fail)
                refine ⟨rfl, ((q - 1) &&& s, _, _), ⟨hI, d4⟩, d5, ?_, fun w H => by simp only; rw [← e2]; exact H⟩
                (exact fsA)
              · have hI := i1.leave hq i2 hA2 (fun m' hm' _ => by rw [hm] at hm'; injection hm' with hm'; omega)
                repeat' (first
                  | (apply so_vo; (· exact voA); (· rfl))
                  | refine so_nil ?_
                  | refine q_go ?_
                  | refine sw_region ?_
                  | (refine goQ ?_; intro _ _)
                  | refine go1 ?_
                  | (refine goU ?_; intro nu)
                  | (refine goB ?_; intro nb)
                  | (refine goM ?_; intro nm)
                  | (refine go2 ?_ ?_ <;> intro h <;> (try simp only [Bool.not_true, Bool.not_false, decide_eq_true_eq, decide_eq_false_iff_not, Bool.not_eq_true', Bool.not_eq_false', ne_eq, Decidable.not_not, Int.not_lt, Int.not_le, not_false_eq_true] at h))
                  | fail)
                refine ⟨rfl, ((q - 1) &&& s, mo, on), ⟨hI, d4⟩, d5, ?_, fun w H => H⟩
                (exact fsA)
            · have hI := i1.leave hq i2 hA2 (fun m' _ h => absurd h g1)
              repeat' (first
                | (apply so_vo; (· exact voA); (· rfl))
                | refine so_nil ?_
                | refine q_go ?_
                | refine sw_region ?_
                | (refine goQ ?_; intro _ _)
                | refine go1 ?_
                | (refine goU ?_; intro nu)
                | (refine goB ?_; intro nb)
                | (refine goM ?_; intro nm)
                | (refine go2 ?_ ?_ <;> intro h <;> (try simp only [Bool.not_true, Bool.not_false, decide_eq_true_eq, decide_eq_false_iff_not, Bool.not_eq_true', Bool.not_eq_false', ne_eq, Decidable.not_not, Int.not_lt, Int.not_le, not_false_eq_true] at h))
                | fail)
              refine ⟨rfl, ((q - 1) &&& s, mo, on), ⟨hI, d4⟩, d5, ?_, fun w H => H⟩
              (exact fsA)
      · have t1 := k3.skip k4 (fun h => hA2 h.2) (by omega)
        repeat' (first
          | (apply so_vo; (· exact voA); (· rfl))
          | refine so_nil ?_
          | refine q_go ?_
          | refine sw_region ?_
          | (refine goQ ?_; intro _ _)
          | refine go1 ?_
          | (refine goU ?_; intro nu)
          | (refine goB ?_; intro nb)
          | (refine goM ?_; intro nm)
          | (refine go2 ?_ ?_ <;> intro h <;> (try simp only [Bool.not_true, Bool.not_false, decide_eq_true_eq, decide_eq_false_iff_not, Bool.not_eq_true', Bool.not_eq_false', ne_eq, Decidable.not_not, Int.not_lt, Int.not_le, not_false_eq_true] at h))
          | fail)
        refine ⟨rfl, (s + 1, mo, on), ⟨by simp only; omega, by simp only; omega, t1.1, t1.2⟩, by simp only; omega, ?_, fun w H => H⟩
        (exact fsA)
    · have c4 : less s A ≠ 0 := fun e => hA1 (less_zero.1 e)
      have t1 := k3.skip k4 (fun h => hA1 h.1) (by omega)
      repeat' (first
        | (apply so_vo; (· exact voA); (· rfl))
        | refine so_nil ?_
        | refine q_go ?_
        | refine sw_region ?_
        | (refine goQ ?_; intro _ _)
        | refine go1 ?_
        | (refine goU ?_; intro nu)
        | (refine goB ?_; intro nb)
        | (refine goM ?_; intro nm)
        | (refine go2 ?_ ?_ <;> intro h <;> (try simp only [Bool.not_true, Bool.not_false, decide_eq_true_eq, decide_eq_false_iff_not, Bool.not_eq_true', Bool.not_eq_false', ne_eq, Decidable.not_not, Int.not_lt, Int.not_le, not_false_eq_true] at h))
        | fail)
      refine ⟨rfl, (s + 1, mo, on), ⟨by simp only; omega, by simp only; omega, t1.1, t1.2⟩, by simp only; omega, ?_, fun w H => H⟩
      (exact fsA)
  have k5 : Tab (netF d) n A (A + 1) mo on := by rw [show A + 1 = s by omega]; exact k3
  repeat' (first
    | (apply so_vo; (· exact voA); (· rfl))
    | refine so_nil ?_
    | refine q_go ?_
    | refine sw_region ?_
    | (refine goQ ?_; intro _ _)
    | refine go1 ?_
    | (refine goU ?_; intro nu)
    | (refine goB ?_; intro nb)
    | (refine goM ?_; intro nm)
    | (refine go2 ?_ ?_ <;> intro h <;> (try simp only [Bool.not_true, Bool.not_false, decide_eq_true_eq, decide_eq_false_iff_not, Bool.not_eq_true', Bool.not_eq_false', ne_eq, Decidable.not_not, Int.not_lt, Int.not_le, not_false_eq_true] at h))
    | fail)
  refine sw_mem (L' := ownSl 28 encSl nilS.v [] :: rows 3 encInt [] (tell []) :: imap ro on :: imap rm mo :: imap rs sm :: ownSl 3 encInt un.v (netM d) :: L) (fun w H => own_nil none (rows_nil H)) ?_
  refine sw_block' (fun _ _ => ?_)
  refine sw_loop' (σ := SlV × List SlV × List Nat × Nat) (fun s => [(13, .map (some ro)), (18, s.1.v), (19, .int .i64 s.2.2.2)]) (fun s => ownSl 28 encSl s.1.v s.2.1 :: rows 3 encInt s.2.1 (tell s.2.2.1) :: imap ro on :: imap rm mo :: imap rs sm :: ownSl 3 encInt un.v (netM d) :: L) (fun s => s.2.1.length = s.2.2.1.length ∧ Out (netF d) n A s.2.2.2 mo s.2.2.1) (fun s => s.2.2.2) (nilS, [], [], A) ⟨rfl, Out.start k5 (by rw [hA, hn]; exact hz)⟩ (by (exact fsA)) (fun _ h => h) (fun s hs _ _ => ?_)
  obtain ⟨uo, uso, done, q⟩ := s
  obtain ⟨j1, j2⟩ := hs
  simp only at j1 j2 ⊢
  by_cases hq : q = 0
  · subst hq
    have hmost := j2.end_ k5
    have hsm := tell_small hmost.1 (by omega)
    have hlen := hmost.1.two (by omega) (fun k hk => by rw [hA, bit_all] at hk; simp at hk; exact hk.2)
    rw [hA, many_all] at hlen
    have hlen2 := openN_le (netF d) n
    have htl : (tell done).length = done.length := by simp [tell]
    repeat' (first
      | (apply so_vo; (· exact voA); (· rfl))
      | refine so_nil ?_
      | refine q_go ?_
      | refine sw_region ?_
      | (refine goQ ?_; intro _ _)
      | refine go1 ?_
      | (refine goU ?_; intro nu)
      | (refine goB ?_; intro nb)
      | (refine goM ?_; intro nm)
      | (refine go2 ?_ ?_ <;> intro h <;> (try simp only [Bool.not_true, Bool.not_false, decide_eq_true_eq, decide_eq_false_iff_not, Bool.not_eq_true', Bool.not_eq_false', ne_eq, Decidable.not_not, Int.not_lt, Int.not_le, not_false_eq_true] at h))
      | fail)
    refine so_call rfl rfl rfl (SortFunc_rows _ uo uso (tell done) hsm (by omega) (by omega)) ?_
    rintro _ _ ⟨us', gs', h1, h2, rfl⟩
    repeat' (first
      | (apply so_vo; (· exact voA); (· rfl))
      | refine so_nil ?_
      | refine q_go ?_
      | refine sw_region ?_
      | (refine goQ ?_; intro _ _)
      | refine go1 ?_
      | (refine goU ?_; intro nu)
      | (refine goB ?_; intro nb)
      | (refine goM ?_; intro nm)
      | (refine go2 ?_ ?_ <;> intro h <;> (try simp only [Bool.not_true, Bool.not_false, decide_eq_true_eq, decide_eq_false_iff_not, Bool.not_eq_true', Bool.not_eq_false', ne_eq, Decidable.not_not, Int.not_lt, Int.not_le, not_false_eq_true] at h))
      | fail)
    apply rq1 rfl rfl
    · exact ⟨uo, us', gs', rfl, h2, ⟨done, by rw [← hn, ← hA]; exact hmost, h1⟩, rfl⟩
    · (first | infer_instance | exact ⟨fun _ H => H⟩)
  · obtain ⟨p, p1, p2, p3, p4, p5, p6⟩ := j2.step k5 (by omega)
    have p7 : (on (q : Int)).getD 0 = p := by rw [p1]; rfl
    have p8 := j2.sub.le
    have p9 := p3.le
    have c1 := less_is (s := q) (t := p) (by omega) (by omega)
    rw [← p7] at c1
    have hb7 := bitsTo_len p 7
    have hle := j2.sub.le
    have hdl : done.length ≤ 128 := by
      obtain ⟨m, M, m1, m2, m3⟩ := j2.len
      have m4 := k5.bd (t := A) (by omega) m2
      have m5 := k5.bd (t := q) (by omega) m1
      omega
    repeat' (first
      | (apply so_vo; (· exact voA); (· rfl))
      | refine so_nil ?_
      | refine q_go ?_
      | refine sw_region ?_
      | (refine goQ ?_; intro _ _)
      | refine go1 ?_
      | (refine goU ?_; intro nu)
      | (refine goB ?_; intro nb)
      | (refine goM ?_; intro nm)
      | (refine go2 ?_ ?_ <;> intro h <;> (try simp only [Bool.not_true, Bool.not_false, decide_eq_true_eq, decide_eq_false_iff_not, Bool.not_eq_true', Bool.not_eq_false', ne_eq, Decidable.not_not, Int.not_lt, Int.not_le, not_false_eq_true] at h))
      | fail)
    rw [p7]
    refine so_call rfl rfl rfl (list_ok _ p (by omega)) ?_
    rintro _ _ ⟨ul, rfl, rfl⟩
    repeat' (first
      | (apply so_vo; (· exact voA); (· rfl))
      | refine so_nil ?_
      | refine q_go ?_
      | refine sw_region ?_
      | (refine goQ ?_; intro _ _)
      | refine go1 ?_
      | (refine go2 ?_ ?_ <;> intro h <;> (try simp only [Bool.not_true, Bool.not_false, decide_eq_true_eq, decide_eq_false_iff_not, Bool.not_eq_true', Bool.not_eq_false', ne_eq, Decidable.not_not, Int.not_lt, Int.not_le, not_false_eq_true] at h))
      | fail)
    first
      | (refine goU ?_; intro x1)
      | (refine goB ?_; intro x1)
      | (refine goM ?_; intro x1)
    repeat' (first
      | (apply so_vo; (· exact voA); (· rfl))
      | refine so_nil ?_
      | refine q_go ?_
      | refine sw_region ?_
      | (refine goQ ?_; intro _ _)
      | refine go1 ?_
      | (refine go2 ?_ ?_ <;> intro h <;> (try simp only [Bool.not_true, Bool.not_false, decide_eq_true_eq, decide_eq_false_iff_not, Bool.not_eq_true', Bool.not_eq_false', ne_eq, Decidable.not_not, Int.not_lt, Int.not_le, not_false_eq_true] at h))
      | fail)
    first
      | (refine goU ?_; intro x2)
      | (refine goB ?_; intro x2)
      | (refine goM ?_; intro x2)
    repeat' (first
      | (apply so_vo; (· exact voA); (· rfl))
      | refine so_nil ?_
      | refine q_go ?_
      | refine sw_region ?_
      | (refine goQ ?_; intro _ _)
      | refine go1 ?_
      | (refine go2 ?_ ?_ <;> intro h <;> (try simp only [Bool.not_true, Bool.not_false, decide_eq_true_eq, decide_eq_false_iff_not, Bool.not_eq_true', Bool.not_eq_false', ne_eq, Decidable.not_not, Int.not_lt, Int.not_le, not_false_eq_true] at h))
      | fail)
    refine ⟨rfl, (x2, uso ++ [ul], done ++ [p], less q p), ⟨by simp only [List.length_append, List.length_cons, List.length_nil]; omega, p6⟩, p5, ?_, fun w H => ?_⟩
    · (exact fsA)
    · simp only [tell, List.map_append, List.map_cons, List.map_nil]
      exact Holds.cons_mono (fun _ h => rows_push h) (Holds.swap H)
theorem Groups_ok (L : List SP) (u : SlV) (us : List SlV) (d : List (List Int)) [r : RdSl L u.v SlV encSl us] [rm : RdM L us Int encInt d] : FnC Tryz.prog 13 [u.v] L (fun v M => ∃ gs : List (List Int), matR L (checkD d) gs v M ∧ (checkD d ≠ 0 → gs = []) ∧ (checkD d = 0 → groupsR d gs)) := by
  refine fn_start (sz := 12) Tryz.func13 rfl rfl rfl ?_
  repeat' (first
    | (apply so_vo; (· exact voA); (· rfl))
    | refine so_nil ?_
    | refine q_go ?_
    | refine sw_region ?_
    | (refine goQ ?_; intro _ _)
    | refine go1 ?_
    | (refine goU ?_; intro nu)
    | (refine goB ?_; intro nb)
    | (refine goM ?_; intro nm)
    | (refine go2 ?_ ?_ <;> intro h <;> (try simp only [Bool.not_true, Bool.not_false, decide_eq_true_eq, decide_eq_false_iff_not, Bool.not_eq_true', Bool.not_eq_false', ne_eq, Decidable.not_not, Int.not_lt, Int.not_le, not_false_eq_true] at h))
    | fail)
  refine so_call rfl rfl rfl (CheckDebts_ok _ u us d) ?_
  rintro _ _ ⟨rfl, rfl⟩
  repeat' (first
    | (apply so_vo; (· exact voA); (· rfl))
    | refine so_nil ?_
    | refine q_go ?_
    | refine sw_region ?_
    | (refine goQ ?_; intro _ _)
    | refine go1 ?_
    | (refine goU ?_; intro nu)
    | (refine goB ?_; intro nb)
    | (refine goM ?_; intro nm)
    | (refine go2 ?_ ?_ <;> intro h <;> (try simp only [Bool.not_true, Bool.not_false, decide_eq_true_eq, decide_eq_false_iff_not, Bool.not_eq_true', Bool.not_eq_false', ne_eq, Decidable.not_not, Int.not_lt, Int.not_le, not_false_eq_true] at h))
    | fail)
  · apply rq2 rfl rfl rfl
    · exact ⟨[], ⟨nilS, [], rfl, rfl, rfl⟩, fun _ => rfl, fun h0 => absurd h0 h⟩
    · exact ⟨fun w H => (Less.nilRows _).out w H⟩
  · have hd := checkD_ok h
    refine so_call rfl rfl rfl (groups_ok _ u us d hd.1 (sum_all hd.1)) ?_
    rintro _ _ ⟨u', us', gs, rfl, h1, h2, rfl⟩
    repeat' (first
      | (apply so_vo; (· exact voA); (· rfl))
      | refine so_nil ?_
      | refine q_go ?_
      | refine sw_region ?_
      | (refine goQ ?_; intro _ _)
      | refine go1 ?_
      | (refine goU ?_; intro nu)
      | (refine goB ?_; intro nb)
      | (refine goM ?_; intro nm)
      | (refine go2 ?_ ?_ <;> intro h <;> (try simp only [Bool.not_true, Bool.not_false, decide_eq_true_eq, decide_eq_false_iff_not, Bool.not_eq_true', Bool.not_eq_false', ne_eq, Decidable.not_not, Int.not_lt, Int.not_le, not_false_eq_true] at h))
      | fail)
    apply rq2 rfl rfl rfl
    · exact ⟨gs, ⟨u', us', by rw [h], h1, rfl⟩, fun h0 => absurd h h0, fun _ => h2⟩
    · (first | infer_instance | exact ⟨fun _ H => H⟩)
end Go.Proofs.YtmhfhfhdblccjaaGreat
