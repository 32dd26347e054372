/-
  Debts in plain terms: what cancelling a circle changes.
-/
import Derived.Test.YtmhfhfhdblccjaaGreatC5
namespace Go.Proofs.YtmhfhfhdblccjaaGreat
set_option linter.unusedVariables false

theorem dv_setv {d : List (List Int)} {n : Nat} {lo hi : Int} (h : Sq n lo hi d) {a b x p q : Int} (ha : 0 ≤ a ∧ a < n) (hb : 0 ≤ b ∧ b < n) (hp : 0 ≤ p) (hq : 0 ≤ q) : dv (setv d a b x) p q = if a = p ∧ b = q then x else dv d p q := by
  unfold dv setv
  rw [atx_set]
  have hl := h.len
  by_cases h1 : a = p
  · subst h1
    rw [if_pos ⟨rfl, by omega⟩, getD_set]
    have hs := h.sq a.toNat (by omega)
    by_cases h2 : b = q
    · subst h2; rw [if_pos ⟨rfl, by omega⟩, if_pos ⟨rfl, rfl⟩]
    · rw [if_neg (by omega), if_neg (by omega)]
  · rw [if_neg (by omega), if_neg (by omega)]
/-- a link of a circle -/
def link (c : List Int) (k : Nat) (a b : Int) : Prop := ∃ i, i < k ∧ c.getD i 0 = a ∧ nxt c i = b
theorem nodup_getD {c : List Int} (h : c.Nodup) {i j : Nat} (hi : i < c.length) (hj : j < c.length) (e : c.getD i 0 = c.getD j 0) : i = j := by
  rw [getD_of (List.getElem?_eq_getElem hi), getD_of (List.getElem?_eq_getElem hj)] at e
  have hp := List.pairwise_iff_getElem.1 h
  rcases Nat.lt_trichotomy i j with h1 | h1 | h1
  · exact absurd e (hp i j hi hj h1)
  · exact h1
  · exact absurd e.symm (hp j i hj hi h1)
theorem cancelK_dv {d : List (List Int)} (hd : OkD d) {c : List Int} (hc : IsC d c) : ∀ (k : Nat), k ≤ c.length → ∀ (p q : Int), 0 ≤ p → 0 ≤ q →
    (link c k p q → dv (cancelK d c k) p q = dv d p q - byM d c c.length) ∧ (¬ link c k p q → dv (cancelK d c k) p q = dv d p q)
  | 0, _, p, q, hp, hq => ⟨fun ⟨i, h, _⟩ => by omega, fun _ => rfl⟩
  | k + 1, hk, p, q, hp, hq => by
    have ih := cancelK_dv hd hc k (by omega)
    have hr := hc.rng _ (List.mem_of_getElem? (getD_get (xs := c) (k := k) (by omega)))
    have hn : 0 ≤ nxt c k ∧ nxt c k < d.length := hc.rng _ (List.mem_of_getElem? (getD_get (Nat.mod_lt _ (by omega))))
    have hs := cancelK_sq hd c k
    rw [cancelK_succ, dv_setv hs hr hn hp hq]
    have hnl : ¬ link c k (c.getD k 0) (nxt c k) := fun ⟨i, h1, h2, h3⟩ => by
      have := nodup_getD hc.nd (by omega) (by omega) h2
      omega
    constructor
    · rintro ⟨i, h1, h2, h3⟩
      by_cases e : c.getD k 0 = p ∧ nxt c k = q
      · rw [if_pos e, (ih _ _ hr.1 hn.1).2 hnl, e.1, e.2]
      · rw [if_neg e]
        have : i < k := by
          rcases Nat.lt_or_ge i k with h | h
          · exact h
          · have : i = k := by omega
            subst this; exact absurd ⟨h2, h3⟩ e
        exact (ih p q hp hq).1 ⟨i, this, h2, h3⟩
    · intro hno
      rw [if_neg (fun e => hno ⟨k, by omega, e.1, e.2⟩)]
      exact (ih p q hp hq).2 (fun ⟨i, h1, h2, h3⟩ => hno ⟨i, by omega, h2, h3⟩)
/-- by is at most each debt of the circle, and more than nothing -/
theorem byM_le (d : List (List Int)) (c : List Int) : ∀ (k i : Nat), i < k → byM d c k ≤ dv d (c.getD i 0) (nxt c i)
  | k + 1, i, h => by
    rw [byM_succ]
    rcases Nat.lt_or_ge i k with h1 | h1
    · have := byM_le d c k i h1; omega
    · rw [show i = k by omega]; omega
theorem byM_pos {d : List (List Int)} (hd : OkD d) {c : List Int} (hc : IsC d c) : ∀ k, k ≤ c.length → 0 < byM d c k
  | 0, _ => by simp [byM]
  | k + 1, h => by
    have := byM_pos hd hc k (by omega)
    have h2 := hc.lnk k (by omega)
    have h3 := hd.val (a := (c.getD k 0).toNat) (b := (nxt c k).toNat)
    rw [byM_succ]; unfold dv at *; omega
theorem link_dec (c : List Int) (k : Nat) (p q : Int) : link c k p q ∨ ¬ link c k p q := Classical.em _
/-- debts of which a circle is cancelled are right, and none is greater -/
theorem cancelM_le {d : List (List Int)} (hd : OkD d) {c : List Int} (hc : IsC d c) (p q : Int) (hp : 0 ≤ p) (hq : 0 ≤ q) : 0 ≤ dv (cancelM d c) p q ∧ dv (cancelM d c) p q ≤ dv d p q := by
  have h := cancelK_dv hd hc c.length (Nat.le_refl _) p q hp hq
  have hpos := byM_pos hd hc c.length (Nat.le_refl _)
  have hv := hd.val (a := p.toNat) (b := q.toNat)
  unfold cancelM
  rcases link_dec c c.length p q with hl | hl
  · rw [h.1 hl]
    obtain ⟨i, h1, h2, h3⟩ := hl
    have := byM_le d c c.length i h1
    rw [h2, h3] at this; omega
  · rw [h.2 hl]; unfold dv; omega
theorem OkD.of_sq {n : Nat} {lo hi : Int} {d : List (List Int)} (h : Sq n lo hi d) (hn : n ≤ 7) (hv : ∀ a b : Nat, 0 ≤ (atx d a).getD b 0 ∧ (atx d a).getD b 0 ≤ 1000000) : OkD d := by
  refine ⟨by rw [h.len]; exact hn, fun row hr => ?_, fun row hr x hx => ?_⟩
  · obtain ⟨i, hi, e⟩ := List.getElem_of_mem hr
    have := h.sq i (by rw [← h.len]; exact hi)
    rw [atx_eq (List.getElem?_eq_getElem hi), e] at this
    rw [this, h.len]
  · obtain ⟨i, hi, e⟩ := List.getElem_of_mem hr
    obtain ⟨j, hj, e2⟩ := List.getElem_of_mem hx
    have := hv i j
    rw [atx_eq (List.getElem?_eq_getElem hi), e, getD_of (List.getElem?_eq_getElem hj), e2] at this
    exact this
theorem cancelM_ok {d : List (List Int)} (hd : OkD d) {c : List Int} (hc : IsC d c) : OkD (cancelM d c) := by
  refine OkD.of_sq (cancelK_sq hd c c.length) hd.len fun a b => ?_
  have := cancelM_le hd hc a b (by omega) (by omega)
  have hv := hd.val (a := a) (b := b)
  unfold dv at this
  simp only [Int.toNat_natCast] at this
  unfold cancelM at this ⊢
  omega
end Go.Proofs.YtmhfhfhdblccjaaGreat
/-
  Debts in plain terms: nets as sums; a circle that is cancelled changes no net, and makes the whole less.
-/
namespace Go.Proofs.YtmhfhfhdblccjaaGreat
set_option linter.unusedVariables false

def sumN : Nat → (Nat → Int) → Int
  | 0, _ => 0
  | n + 1, f => sumN n f + f n
theorem sumN_congr : ∀ (n : Nat) (f g : Nat → Int), (∀ i, i < n → f i = g i) → sumN n f = sumN n g
  | 0, _, _, _ => rfl
  | n + 1, f, g, h => by simp only [sumN]; rw [sumN_congr n f g fun i hi => h i (by omega), h n (by omega)]
theorem sumN_one (t : Nat) (δ : Int) (f g : Nat → Int) (h1 : g t = f t + δ) (h2 : ∀ i, i ≠ t → g i = f i) : ∀ n, sumN n g = sumN n f + if t < n then δ else 0
  | 0 => by simp [sumN]
  | n + 1 => by
    simp only [sumN]
    rw [sumN_one t δ f g h1 h2 n]
    by_cases e : n = t
    · subst e; rw [h1, if_neg (by omega), if_pos (by omega)]; omega
    · rw [h2 n e]
      by_cases e2 : t < n
      · rw [if_pos e2, if_pos (by omega)]; omega
      · rw [if_neg e2, if_neg (by omega)]; omega
theorem sumN_nonneg : ∀ (n : Nat) (f : Nat → Int), (∀ i, i < n → 0 ≤ f i) → 0 ≤ sumN n f
  | 0, _, _ => Int.le_refl _
  | n + 1, f, h => by simp only [sumN]; have := sumN_nonneg n f fun i hi => h i (by omega); have := h n (by omega); omega
/-- the net of person j -/
def netOf (d : List (List Int)) (j : Nat) : Int := sumN d.length (fun a => (atx d a).getD j 0) - sumN d.length (fun b => (atx d j).getD b 0)
theorem netRow_getD (out : List Int) (a : Nat) (row : List Int) (j : Nat) (hl : row.length ≤ out.length) (ha : a < out.length) : ∀ k, k ≤ row.length → ((row.take k).zipIdx.foldl (netStep a) out).length = out.length ∧
    ((row.take k).zipIdx.foldl (netStep a) out).getD j 0 = out.getD j 0 + (if j < k then row.getD j 0 else 0) - (if j = a then sumN k (fun b => row.getD b 0) else 0)
  | 0, _ => by simp [sumN]
  | k + 1, hk => by
    obtain ⟨h1, h2⟩ := netRow_getD out a row j hl ha k (by omega)
    have hx := getD_get (xs := row) (k := k) (by omega)
    rw [fold_snoc hx]
    refine ⟨by rw [netStep_len, h1], ?_⟩
    rw [netStep_getD _ _ _ _ (by simp only; omega) (by omega), h2]
    simp only [sumN]
    by_cases e1 : j = k
    · rw [if_neg (show ¬ j < k by omega), if_pos e1, if_pos (show j < k + 1 by omega), e1]
      split <;> omega
    · rw [if_neg e1]
      by_cases e3 : j < k
      · rw [if_pos e3, if_pos (show j < k + 1 by omega)]; split <;> omega
      · rw [if_neg e3, if_neg (show ¬ j < k + 1 by omega)]; split <;> omega
theorem netM_fold (d : List (List Int)) (hd : OkD d) (j : Nat) : ∀ a, a ≤ d.length → ((d.take a).zipIdx.foldl netRow (List.replicate d.length 0)).length = d.length ∧
    ((d.take a).zipIdx.foldl netRow (List.replicate d.length 0)).getD j 0 = sumN a (fun i => if j < d.length then (atx d i).getD j 0 else 0) - (if j < a then sumN d.length (fun b => (atx d j).getD b 0) else 0)
  | 0, _ => by simp [sumN, List.getD, List.getElem?_replicate]; split <;> rfl
  | a + 1, ha => by
    obtain ⟨h1, h2⟩ := netM_fold d hd j a (by omega)
    have hr := hd.row (a := a) (by omega)
    rw [fold_snoc (atx_get (xss := d) (i := a) (by omega))]
    obtain ⟨g1, g2⟩ := netRow_getD ((d.take a).zipIdx.foldl netRow (List.replicate d.length 0)) a (atx d a) j (by omega) (by omega) (atx d a).length (Nat.le_refl _)
    rw [List.take_length] at g1 g2
    have e : netRow ((d.take a).zipIdx.foldl netRow (List.replicate d.length 0)) (atx d a, a) = (atx d a).zipIdx.foldl (netStep a) ((d.take a).zipIdx.foldl netRow (List.replicate d.length 0)) := rfl
    rw [e]
    refine ⟨by rw [g1, h1], ?_⟩
    rw [g2, h2, hr]
    simp only [sumN]
    by_cases e1 : j = a
    · subst e1
      rw [if_pos rfl, if_neg (show ¬ j < j by omega), if_pos (show j < j + 1 by omega)]; omega
    · rw [if_neg e1]
      by_cases e2 : j < a
      · rw [if_pos e2, if_pos (show j < a + 1 by omega)]; omega
      · rw [if_neg e2, if_neg (show ¬ j < a + 1 by omega)]; omega
theorem netM_len (d : List (List Int)) (hd : OkD d) : (netM d).length = d.length := by
  have := (netM_fold d hd 0 d.length (Nat.le_refl _)).1
  rwa [List.take_length] at this
theorem netM_getD (d : List (List Int)) (hd : OkD d) {j : Nat} (hj : j < d.length) : (netM d).getD j 0 = netOf d j := by
  have := (netM_fold d hd j d.length (Nat.le_refl _)).2
  rw [List.take_length, if_pos hj] at this
  unfold netM netOf
  rw [this]
  congr 1
  exact sumN_congr _ _ _ fun i hi => by rw [if_pos hj]
end Go.Proofs.YtmhfhfhdblccjaaGreat
/-
  Debts in plain terms: a circle that is cancelled changes no net, and makes the whole less.
-/
namespace Go.Proofs.YtmhfhfhdblccjaaGreat
set_option linter.unusedVariables false

/-- the whole of all debts -/
def whole (d : List (List Int)) : Int := sumN d.length fun a => sumN d.length fun b => (atx d a).getD b 0
theorem setv_len (d : List (List Int)) (a b x : Int) : (setv d a b x).length = d.length := by simp [setv]
theorem setv_at {d : List (List Int)} {n : Nat} {lo hi : Int} (h : Sq n lo hi d) {a b x : Int} (ha : 0 ≤ a ∧ a < n) (hb : 0 ≤ b ∧ b < n) (i j : Nat) : (atx (setv d a b x) i).getD j 0 = if a = i ∧ b = j then x else (atx d i).getD j 0 := by
  have := dv_setv h ha hb (x := x) (p := i) (q := j) (by omega) (by omega)
  simpa [dv] using this
theorem setv_net {d : List (List Int)} {n : Nat} {lo hi : Int} (h : Sq n lo hi d) {a b x : Int} (ha : 0 ≤ a ∧ a < n) (hb : 0 ≤ b ∧ b < n) (j : Nat) (hj : j < n) : netOf (setv d a b x) j = netOf d j + (if (j : Int) = b then x - dv d a b else 0) - (if (j : Int) = a then x - dv d a b else 0) := by
  have hl := h.len
  have ea : ((a.toNat : Nat) : Int) = a := by omega
  have eb : ((b.toNat : Nat) : Int) = b := by omega
  have ev : (atx d a.toNat).getD b.toNat 0 = dv d a b := rfl
  unfold netOf
  rw [setv_len, hl]
  have c1 : sumN n (fun i => (atx (setv d a b x) i).getD j 0) = sumN n (fun i => (atx d i).getD j 0) + if (j : Int) = b then x - dv d a b else 0 := by
    by_cases e : (j : Int) = b
    · rw [if_pos e]
      have ej : j = b.toNat := by omega
      have := sumN_one a.toNat (x - dv d a b) (fun i => (atx d i).getD j 0) (fun i => (atx (setv d a b x) i).getD j 0) (by rw [setv_at h ha hb, if_pos ⟨ea.symm, e.symm⟩, ej, ev]; omega) (fun i hi => by rw [setv_at h ha hb, if_neg (fun g => hi (by omega))]) n
      rw [this, if_pos (by omega)]
    · rw [if_neg e, Int.add_zero]
      exact sumN_congr _ _ _ fun i hi => by rw [setv_at h ha hb, if_neg (fun g => e g.2.symm)]
  have c2 : sumN n (fun t => (atx (setv d a b x) j).getD t 0) = sumN n (fun t => (atx d j).getD t 0) + if (j : Int) = a then x - dv d a b else 0 := by
    by_cases e : (j : Int) = a
    · rw [if_pos e]
      have ej : j = a.toNat := by omega
      have := sumN_one b.toNat (x - dv d a b) (fun t => (atx d j).getD t 0) (fun t => (atx (setv d a b x) j).getD t 0) (by rw [setv_at h ha hb, if_pos ⟨e.symm, eb.symm⟩, ej, ev]; omega) (fun i hi => by rw [setv_at h ha hb, if_neg (fun g => hi (by omega))]) n
      rw [this, if_pos (by omega)]
    · rw [if_neg e, Int.add_zero]
      exact sumN_congr _ _ _ fun i hi => by rw [setv_at h ha hb, if_neg (fun g => e g.1.symm)]
  rw [c1, c2]; omega
theorem setv_whole {d : List (List Int)} {n : Nat} {lo hi : Int} (h : Sq n lo hi d) {a b x : Int} (ha : 0 ≤ a ∧ a < n) (hb : 0 ≤ b ∧ b < n) : whole (setv d a b x) = whole d + (x - dv d a b) := by
  have hl := h.len
  have ea : ((a.toNat : Nat) : Int) = a := by omega
  have eb : ((b.toNat : Nat) : Int) = b := by omega
  have ev : (atx d a.toNat).getD b.toNat 0 = dv d a b := rfl
  unfold whole
  rw [setv_len, hl]
  have := sumN_one a.toNat (x - dv d a b) (fun i => sumN n fun j => (atx d i).getD j 0) (fun i => sumN n fun j => (atx (setv d a b x) i).getD j 0) (by
    have := sumN_one b.toNat (x - dv d a b) (fun t => (atx d a.toNat).getD t 0) (fun t => (atx (setv d a b x) a.toNat).getD t 0) (by rw [setv_at h ha hb, if_pos ⟨ea.symm, eb.symm⟩, ev]; omega) (fun i hi => by rw [setv_at h ha hb, if_neg (fun g => hi (by omega))]) n
    rw [this, if_pos (by omega)]) (fun i hi => by
    exact sumN_congr _ _ _ fun j hj => by rw [setv_at h ha hb, if_neg (fun g => hi (by omega))]) n
  rw [this, if_pos (by omega)]
/-- one if the numbers are the same -/
def one (a b : Int) : Int := if a = b then 1 else 0
theorem cancelK_net {d : List (List Int)} (hd : OkD d) {c : List Int} (hc : IsC d c) (j : Nat) (hj : j < d.length) : ∀ k, k ≤ c.length → netOf (cancelK d c k) j = netOf d j + byM d c c.length * (one j (c.getD 0 0) - one j (c.getD (k % c.length) 0))
  | 0, _ => by simp [cancelK]
  | k + 1, hk => by
    have ih := cancelK_net hd hc j hj k (by omega)
    have hr := hc.rng _ (List.mem_of_getElem? (getD_get (xs := c) (k := k) (by omega)))
    have hn : 0 ≤ nxt c k ∧ nxt c k < d.length := hc.rng _ (List.mem_of_getElem? (getD_get (Nat.mod_lt _ (by omega))))
    rw [cancelK_succ, setv_net (cancelK_sq hd c k) hr hn j hj, ih]
    rw [Nat.mod_eq_of_lt (show k < c.length by omega)]
    show _ = netOf d j + byM d c c.length * (one j (c.getD 0 0) - one j (nxt c k))
    have e1 : dv (cancelK d c k) (c.getD k 0) (nxt c k) - byM d c c.length - dv (cancelK d c k) (c.getD k 0) (nxt c k) = - byM d c c.length := by omega
    rw [e1]
    have e2 : ∀ x : Int, (if (j : Int) = x then - byM d c c.length else 0) = - (byM d c c.length * one j x) := fun x => by unfold one; split <;> simp
    rw [e2, e2, Int.mul_sub, Int.mul_sub]; omega
theorem cancelM_net {d : List (List Int)} (hd : OkD d) {c : List Int} (hc : IsC d c) (j : Nat) (hj : j < d.length) : netOf (cancelM d c) j = netOf d j := by
  have := cancelK_net hd hc j hj c.length (Nat.le_refl _)
  rw [Nat.mod_self, Int.sub_self, Int.mul_zero, Int.add_zero] at this
  exact this
theorem cancelK_whole {d : List (List Int)} (hd : OkD d) {c : List Int} (hc : IsC d c) : ∀ k : Nat, k ≤ c.length → whole (cancelK d c k) = whole d - byM d c c.length * k
  | 0, _ => by simp [cancelK]
  | k + 1, hk => by
    have ih := cancelK_whole hd hc k (by omega)
    have hr := hc.rng _ (List.mem_of_getElem? (getD_get (xs := c) (k := k) (by omega)))
    have hn : 0 ≤ nxt c k ∧ nxt c k < d.length := hc.rng _ (List.mem_of_getElem? (getD_get (Nat.mod_lt _ (by omega))))
    rw [cancelK_succ, setv_whole (cancelK_sq hd c k) hr hn, ih]
    have : byM d c c.length * ((k + 1 : Nat) : Int) = byM d c c.length * k + byM d c c.length := by rw [Int.natCast_succ, Int.mul_add, Int.mul_one]
    omega
theorem cancelM_less {d : List (List Int)} (hd : OkD d) {c : List Int} (hc : IsC d c) : whole (cancelM d c) < whole d := by
  have h1 := cancelK_whole hd hc c.length (Nat.le_refl _)
  have h2 := byM_pos hd hc c.length (Nat.le_refl _)
  have h3 := List.length_pos_iff.2 hc.ne
  have h4 : 0 < byM d c c.length * (c.length : Int) := Int.mul_pos h2 (by omega)
  unfold cancelM; omega
theorem whole_nonneg {d : List (List Int)} (hd : OkD d) : 0 ≤ whole d := sumN_nonneg _ _ fun a _ => sumN_nonneg _ _ fun b _ => hd.val.1
end Go.Proofs.YtmhfhfhdblccjaaGreat
/-
  Circles that are asked for, and cancelled.
-/
namespace Go.Proofs.YtmhfhfhdblccjaaGreat
open Go Go.RowKit
set_option maxHeartbeats 4000000
set_option linter.unusedVariables false
set_option linter.unusedSimpArgs false
set_option maxRecDepth 20000
def inD (d : List (List Int)) (c : List Int) : Bool := c.all fun k => decide (0 ≤ k ∧ k ≤ (d.length : Int) - 1)
def twiceD (c : List Int) : Bool := (List.range c.length).any fun i => decide (c.getD i 0 ∈ c.take i)
def goneD (d : List (List Int)) (c : List Int) : Bool := (List.range c.length).any fun i => decide (dv d (c.getD i 0) (nxt c i) = 0)
/-- The error of a circle that is to be cancelled. -/
def cancelE (d : List (List Int)) (c : List Int) : Int :=
  if checkD d ≠ 0 then checkD d else if c.length < 2 then 2 else if inD d c = false then 1 else if twiceD c then 5 else if goneD d c then 8 else 0
theorem any_of {n i : Nat} {p : Nat → Bool} (hi : i < n) (h : p i = true) : (List.range n).any p = true := by rw [List.any_eq_true]; exact ⟨i, List.mem_range.2 hi, h⟩
theorem any_not {n : Nat} {p : Nat → Bool} (h : ∀ i, i < n → p i = false) : (List.range n).any p = false := by rw [List.any_eq_false]; intro i hi; simp [h i (List.mem_range.1 hi)]
theorem Less.nilRows (L : List SP) : Less L (ownSl 28 encSl nilS.v [] :: rows 3 encInt [] [] :: L) := ⟨fun w H => own_nil none (rows_nil H)⟩
/-- debts of the call's own, and an error -/
def matR (L : List SP) (e : Int) (x : List (List Int)) (v : Value) (M : List SP) : Prop := ∃ (u' : SlV) (us' : List SlV), v = .tuple #[u'.v, .int .i64 e] ∧ us'.length = x.length ∧ M = ownSl 28 encSl u'.v us' :: rows 3 encInt us' x :: L
theorem matR_fail {L : List SP} {e e' : Int} {x : List (List Int)} (h : e' = e) (h2 : e ≠ 0) : matR L e' (if e' = 0 then x else []) (.tuple #[.slice none 0 0, .int .i64 e]) (ownSl 28 encSl nilS.v [] :: rows 3 encInt [] [] :: L) :=
  ⟨nilS, [], by rw [h]; rfl, by rw [h, if_neg h2]; rfl, by rw [h, if_neg h2]⟩
attribute [local irreducible] SW SO FnC retQ SA VO

theorem Cancel1_ok (L : List SP) (u : SlV) (b : Nat) (k : Int) (us : List SlV) [c : Cl L b 24 [u.v]] [r : RdSl L u.v SlV encSl us] : FnC Tryz.prog 75 [.int .i64 k, .pointer (some ⟨b, 0, none⟩)] L (fun v M => v = .bool (decide (0 ≤ k ∧ k ≤ (us.length : Int) - 1)) ∧ M = L) := by
  refine FnC.pure r.len fun hlen => ?_
  refine fn_start (sz := 9) Tryz.func75 rfl rfl rfl ?_
  repeat' (first
    | (apply so_vo; (· exact voA); (· rfl))
    | refine so_nil ?_
    | refine q_go ?_
    | refine sw_region ?_
    | (refine goQ ?_; intro _ _)
    | refine go1 ?_
    | (refine goU ?_; intro nu)
    | (refine goB ?_; intro nb)
    | (refine goM ?_; intro nm)
    | (refine go2 ?_ ?_ <;> intro h <;> (try simp only [Bool.not_true, Bool.not_false, decide_eq_true_eq, decide_eq_false_iff_not, Bool.not_eq_true', Bool.not_eq_false', ne_eq, Decidable.not_not, Int.not_lt, Int.not_le, not_false_eq_true] at h))
    | fail)
  refine so_call rfl rfl rfl (in_ok _ k 0 _) ?_
  rintro _ _ ⟨rfl, rfl⟩
  repeat' (first
    | (apply so_vo; (· exact voA); (· rfl))
    | refine so_nil ?_
    | refine q_go ?_
    | refine sw_region ?_
    | (refine goQ ?_; intro _ _)
    | refine go1 ?_
    | (refine goU ?_; intro nu)
    | (refine goB ?_; intro nb)
    | (refine goM ?_; intro nm)
    | (refine go2 ?_ ?_ <;> intro h <;> (try simp only [Bool.not_true, Bool.not_false, decide_eq_true_eq, decide_eq_false_iff_not, Bool.not_eq_true', Bool.not_eq_false', ne_eq, Decidable.not_not, Int.not_lt, Int.not_le, not_false_eq_true] at h))
    | fail)
  apply rq1 rfl rfl
  · exact ⟨rfl, rfl⟩
  · (first | infer_instance | exact ⟨fun _ H => H⟩)
theorem Cancel_ok (L : List SP) (u uc : SlV) (us : List SlV) (d : List (List Int)) (c : List Int) [r : RdSl L u.v SlV encSl us] [rm : RdM L us Int encInt d] [rc : RdSl L uc.v Int encInt c] (hcl : c.length ≤ 100000000) : FnC Tryz.prog 35 [u.v, uc.v] L (matR L (cancelE d c) (if cancelE d c = 0 then cancelM d c else [])) := by
  refine FnC.pure rm.len fun hl => ?_
  refine fn_start (sz := 62) Tryz.func35 rfl rfl rfl ?_
  repeat' (first
    | (apply so_vo; (· exact voA); (· rfl))
    | refine so_nil ?_
    | refine q_go ?_
    | refine sw_region ?_
    | (refine goQ ?_; intro _ _)
    | refine go1 ?_
    | (refine goU ?_; intro nu)
    | (refine goB ?_; intro nb)
    | (refine goM ?_; intro nm)
    | (refine go2 ?_ ?_ <;> intro h <;> (try simp only [Bool.not_true, Bool.not_false, decide_eq_true_eq, decide_eq_false_iff_not, Bool.not_eq_true', Bool.not_eq_false', ne_eq, Decidable.not_not, Int.not_lt, Int.not_le, not_false_eq_true] at h))
    | fail)
  refine so_call rfl rfl rfl (CheckDebts_ok _ u us d) ?_
  rintro _ _ ⟨rfl, rfl⟩
  have hA : ((List.range c.length).all fun i => decide (0 ≤ c.getD i 0 ∧ c.getD i 0 ≤ (us.length : Int) - 1)) = inD d c := by
    rw [hl]; exact all_range c _ _ fun i x h => by rw [getD_of h]
  by_cases h0 : checkD d = 0
  rotate_left
  · repeat' (first
      | (apply so_vo; (· exact voA); (· rfl))
      | refine so_nil ?_
      | refine q_go ?_
      | refine sw_region ?_
      | (refine goQ ?_; intro _ _)
      | refine go1 ?_
      | (refine goU ?_; intro nu)
      | (refine goB ?_; intro nb)
      | (refine goM ?_; intro nm)
      | (refine go2 ?_ ?_ <;> intro h <;> (try simp only [Bool.not_true, Bool.not_false, decide_eq_true_eq, decide_eq_false_iff_not, Bool.not_eq_true', Bool.not_eq_false', ne_eq, Decidable.not_not, Int.not_lt, Int.not_le, not_false_eq_true] at h))
      | fail)
    apply rq2 rfl rfl rfl
    · exact matR_fail (by rw [cancelE, if_pos h0]) h0
    · exact ⟨fun w H => (Less.nilRows _).out w H.tail⟩
  · have hd := checkD_ok h0
    by_cases h1 : c.length < 2
    · repeat' (first
        | (apply so_vo; (· exact voA); (· rfl))
        | refine so_nil ?_
        | refine q_go ?_
        | refine sw_region ?_
        | (refine goQ ?_; intro _ _)
        | refine go1 ?_
        | (refine goU ?_; intro nu)
        | (refine goB ?_; intro nb)
        | (refine goM ?_; intro nm)
        | (refine go2 ?_ ?_ <;> intro h <;> (try simp only [Bool.not_true, Bool.not_false, decide_eq_true_eq, decide_eq_false_iff_not, Bool.not_eq_true', Bool.not_eq_false', ne_eq, Decidable.not_not, Int.not_lt, Int.not_le, not_false_eq_true] at h))
        | fail)
      apply rq2 rfl rfl rfl
      · exact matR_fail (by rw [cancelE, if_neg (by omega), if_pos (by omega)]) (by decide)
      · exact ⟨fun w H => (Less.nilRows _).out w H.tail⟩
    · repeat' (first
        | (apply so_vo; (· exact voA); (· rfl))
        | refine so_nil ?_
        | refine q_go ?_
        | refine sw_region ?_
        | (refine goQ ?_; intro _ _)
        | refine go1 ?_
        | (refine goU ?_; intro nu)
        | (refine goB ?_; intro nb)
        | (refine goM ?_; intro nm)
        | (refine go2 ?_ ?_ <;> intro h <;> (try simp only [Bool.not_true, Bool.not_false, decide_eq_true_eq, decide_eq_false_iff_not, Bool.not_eq_true', Bool.not_eq_false', ne_eq, Decidable.not_not, Int.not_lt, Int.not_le, not_false_eq_true] at h))
        | fail)
      refine so_call rfl rfl rfl (every_int _ uc _ c (fun i => decide (0 ≤ c.getD i 0 ∧ c.getD i 0 ≤ (us.length : Int) - 1)) ⟨_, _, _, rfl, inferInstance, fun L' s i y hy => ?_⟩) ?_
      · haveI := Cl.up (L := L') (b := nb) (inferInstance : Cl (cl nb _ [u.v] :: L) nb _ _) s
        haveI := RdSl.up r ((Suf.mk' [_] L).trans s)
        simp only [getD_of hy]
        exact Cancel1_ok L' u nb y us
      rintro _ _ ⟨rfl, rfl⟩
      rw [hA]
      repeat' (first
        | (apply so_vo; (· exact voA); (· rfl))
        | refine so_nil ?_
        | refine q_go ?_
        | refine sw_region ?_
        | (refine goQ ?_; intro _ _)
        | refine go1 ?_
        | (refine goU ?_; intro nu)
        | (refine goB ?_; intro nb)
        | (refine goM ?_; intro nm)
        | (refine go2 ?_ ?_ <;> intro h <;> (try simp only [Bool.not_true, Bool.not_false, decide_eq_true_eq, decide_eq_false_iff_not, Bool.not_eq_true', Bool.not_eq_false', ne_eq, Decidable.not_not, Int.not_lt, Int.not_le, not_false_eq_true] at h))
        | fail)
      · apply rq2 rfl rfl rfl
        · exact matR_fail (by rw [cancelE, if_neg (by omega), if_neg (by omega), if_pos h]) (by decide)
        · exact ⟨fun w H => (Less.nilRows _).out w H.tail⟩
      have h2 := h
      have hc : OkC d.length c := ⟨hcl, fun x hx => by
        have := List.all_eq_true.1 h2 x hx
        simp only [decide_eq_true_eq] at this; omega⟩
      refine sw_range (τ := Unit) (fun k _ => [(1, uc.v), (2, .pointer (some ⟨nb, 0, none⟩)), (23, uc.v)]) (fun _ _ => cl nb 24 [u.v] :: L) (fun k _ => ∀ i, i < k → decide (c.getD i 0 ∈ c.take i) = false) () (fun i h => by omega) (by rfl) (by rfl) (by omega) (by (exact fsA)) (fun _ h => h) (fun _ _ => by rfl) (by rfl) (fun k t hlt hI _ _ => ?_) (fun t hI => ?_)
      · have hx := getD_get hlt
        haveI : RdSl (cl nb 24 [u.v] :: L) (subu 1 uc 0 k).v Int encInt (c.take k) := by
          have := RdSl.sub (L := cl nb 24 [u.v] :: L) (v := uc.v) (enc := encInt) (xs := c) inferInstance (lo := 0) (hi := k) (by omega) (by omega)
          rw [List.drop_zero] at this
          exact this
        repeat' (first
          | (apply so_vo; (· exact voA); (· rfl))
          | refine so_nil ?_
          | refine q_go ?_
          | refine sw_region ?_
          | (refine goQ ?_; intro _ _)
          | refine go1 ?_
          | (refine goU ?_; intro nu)
          | (refine goB ?_; intro nb)
          | (refine goM ?_; intro nm)
          | (refine go2 ?_ ?_ <;> intro h <;> (try simp only [Bool.not_true, Bool.not_false, decide_eq_true_eq, decide_eq_false_iff_not, Bool.not_eq_true', Bool.not_eq_false', ne_eq, Decidable.not_not, Int.not_lt, Int.not_le, not_false_eq_true] at h))
          | fail)
        refine so_call rfl rfl rfl (Contains_int _ (subu 1 uc 0 k) (c.getD k 0) (c.take k)) ?_
        rintro _ _ ⟨rfl, rfl⟩
        repeat' (first
          | (apply so_vo; (· exact voA); (· rfl))
          | refine so_nil ?_
          | refine q_go ?_
          | refine sw_region ?_
          | (refine goQ ?_; intro _ _)
          | refine go1 ?_
          | (refine goU ?_; intro nu)
          | (refine goB ?_; intro nb)
          | (refine goM ?_; intro nm)
          | (refine go2 ?_ ?_ <;> intro h <;> (try simp only [Bool.not_true, Bool.not_false, decide_eq_true_eq, decide_eq_false_iff_not, Bool.not_eq_true', Bool.not_eq_false', ne_eq, Decidable.not_not, Int.not_lt, Int.not_le, not_false_eq_true] at h))
          | fail)
        · have ht : twiceD c = true := any_of hlt (decide_eq_true h)
          apply rq2 rfl rfl rfl
          · exact matR_fail (by rw [cancelE, if_neg (by omega), if_neg (by omega), if_neg (by rw [h2]; decide), if_pos ht]) (by decide)
          · exact ⟨fun w H => (Less.nilRows _).out w H.tail⟩
        · refine ⟨rfl, (), upto_succ hI (decide_eq_false h), ?_, ?_⟩
          · (exact fsA)
          · (first | exact fun _ h => h | exact HLess.sat inferInstance)
      have h3 : twiceD c = false := any_not hI
      repeat' (first
        | (apply so_vo; (· exact voA); (· rfl))
        | refine so_nil ?_
        | refine q_go ?_
        | refine sw_region ?_
        | (refine goQ ?_; intro _ _)
        | refine go1 ?_
        | (refine goU ?_; intro nu)
        | (refine goB ?_; intro nb)
        | (refine goM ?_; intro nm)
        | (refine go2 ?_ ?_ <;> intro h <;> (try simp only [Bool.not_true, Bool.not_false, decide_eq_true_eq, decide_eq_false_iff_not, Bool.not_eq_true', Bool.not_eq_false', ne_eq, Decidable.not_not, Int.not_lt, Int.not_le, not_false_eq_true] at h))
        | fail)
      refine sw_range (τ := Unit) (fun k _ => [(1, uc.v), (2, .pointer (some ⟨nb, 0, none⟩)), (36, uc.v)]) (fun _ _ => cl nb 24 [u.v] :: L) (fun k _ => ∀ i, i < k → decide (dv d (c.getD i 0) (nxt c i) = 0) = false) () (fun i h => by omega) (by rfl) (by rfl) (by omega) (by (exact fsA)) (fun _ h => h) (fun _ _ => by rfl) (by rfl) (fun k t hlt hI _ _ => ?_) (fun t hI => ?_)
      · have g1 := hc.at hlt
        have g2 := hc.nxt (by omega) k
        have hx := getD_get hlt
        have e1 := emod_nat k c.length
        have g3 := Int.emod_nonneg ((k : Int) + 1) (b := (c.length : Int)) (by omega)
        have g4 := Int.emod_lt_of_pos ((k : Int) + 1) (b := (c.length : Int)) (by omega)
        have hy : c[(((k : Int) + 1) % (c.length : Int)).toNat]? = some (nxt c k) := by rw [e1]; exact getD_get (Nat.mod_lt _ (by omega))
        have g5 := hd.1.row (a := (c.getD k 0).toNat) (by omega)
        have hz := getD_get (xs := atx d (c.getD k 0).toNat) (k := (nxt c k).toNat) (by omega)
        repeat' (first
          | (apply so_vo; (· exact voA); (· rfl))
          | refine so_nil ?_
          | refine q_go ?_
          | refine sw_region ?_
          | (refine goQ ?_; intro _ _)
          | refine go1 ?_
          | (refine goU ?_; intro nu)
          | (refine goB ?_; intro nb)
          | (refine goM ?_; intro nm)
          | (refine go2 ?_ ?_ <;> intro h <;> (try simp only [Bool.not_true, Bool.not_false, decide_eq_true_eq, decide_eq_false_iff_not, Bool.not_eq_true', Bool.not_eq_false', ne_eq, Decidable.not_not, Int.not_lt, Int.not_le, not_false_eq_true] at h))
          | fail)
        refine sa_start [] mixed (by kernel_rfl) ?_
        apply sa_stat 0 rfl (by kernel_rfl) rfl
        · (exact voA)
        apply sa_stat 1 rfl (by kernel_rfl) rfl
        · (exact voA)
        apply sa_stat 2 rfl (by kernel_rfl) rfl
        · (exact voA)
        apply sa_stat 3 rfl (by kernel_rfl) rfl
        · (exact voA)
        apply sa_stat 4 rfl (by kernel_rfl) rfl
        · (exact voA)
        apply sa_stat 5 rfl (by kernel_rfl) rfl
        · (exact voA)
        apply sa_stat 6 rfl (by kernel_rfl) rfl
        · (exact voA)
        apply sa_stat 7 rfl (by kernel_rfl) rfl
        · (exact voA)
        apply sa_stat 8 rfl (by kernel_rfl) rfl
        · (exact voA)
        apply sa_stat 9 rfl (by kernel_rfl) rfl
        · (exact voA)
        apply sa_stat 10 rfl (by kernel_rfl) rfl
        · (exact voA)
        apply sa_stat 11 rfl (by kernel_rfl) rfl
        · (exact voA)
        apply sa_stat 12 rfl (by kernel_rfl) rfl
        · (exact voA)
        apply sa_stat 13 rfl (by kernel_rfl) rfl
        · (exact voA)
        apply sa_stat 14 rfl (by kernel_rfl) rfl
        · (exact voA)
        refine sa_rest (T' := []) rfl (by kernel_rfl) ?_
        repeat' (first
          | (apply so_vo; (· exact voA); (· rfl))
          | refine so_nil ?_
          | refine q_go ?_
          | refine sw_region ?_
          | (refine goQ ?_; intro _ _)
          | refine go1 ?_
          | (refine goU ?_; intro nu)
          | (refine goB ?_; intro nb)
          | (refine goM ?_; intro nm)
          | (refine go2 ?_ ?_ <;> intro h <;> (try simp only [Bool.not_true, Bool.not_false, decide_eq_true_eq, decide_eq_false_iff_not, Bool.not_eq_true', Bool.not_eq_false', ne_eq, Decidable.not_not, Int.not_lt, Int.not_le, not_false_eq_true] at h))
          | fail)
        · have ht : goneD d c = true := any_of hlt (decide_eq_true h)
          apply rq2 rfl rfl rfl
          · exact matR_fail (by rw [cancelE, if_neg (by omega), if_neg (by omega), if_neg (by rw [h2]; decide), if_neg (by rw [h3]; decide), if_pos ht]) (by decide)
          · exact ⟨fun w H => (Less.nilRows _).out w H.tail⟩
        · refine ⟨rfl, (), upto_succ hI (decide_eq_false h), ?_, ?_⟩
          · (exact fsA)
          · (first | exact fun _ h => h | exact HLess.sat inferInstance)
      · have h4 : goneD d c = false := any_not hI
        have h5 : cancelE d c = 0 := by rw [cancelE, if_neg (by omega), if_neg (by omega), if_neg (by rw [h2]; decide), if_neg (by rw [h3]; decide), if_neg (by rw [h4]; decide)]
        repeat' (first
          | (apply so_vo; (· exact voA); (· rfl))
          | refine so_nil ?_
          | refine q_go ?_
          | refine sw_region ?_
          | (refine goQ ?_; intro _ _)
          | refine go1 ?_
          | (refine goU ?_; intro nu)
          | (refine goB ?_; intro nb)
          | (refine goM ?_; intro nm)
          | (refine go2 ?_ ?_ <;> intro h <;> (try simp only [Bool.not_true, Bool.not_false, decide_eq_true_eq, decide_eq_false_iff_not, Bool.not_eq_true', Bool.not_eq_false', ne_eq, Decidable.not_not, Int.not_lt, Int.not_le, not_false_eq_true] at h))
          | fail)
        refine so_call rfl rfl rfl (cancel_ok _ u uc us d c hd.1 hc) ?_
        rintro _ _ ⟨u', us', rfl, hu', rfl⟩
        repeat' (first
          | (apply so_vo; (· exact voA); (· rfl))
          | refine so_nil ?_
          | refine q_go ?_
          | refine sw_region ?_
          | (refine goQ ?_; intro _ _)
          | refine go1 ?_
          | (refine goU ?_; intro nu)
          | (refine goB ?_; intro nb)
          | (refine goM ?_; intro nm)
          | (refine go2 ?_ ?_ <;> intro h <;> (try simp only [Bool.not_true, Bool.not_false, decide_eq_true_eq, decide_eq_false_iff_not, Bool.not_eq_true', Bool.not_eq_false', ne_eq, Decidable.not_not, Int.not_lt, Int.not_le, not_false_eq_true] at h))
          | fail)
        have e1 : (cancelM d c).length = d.length := (cancelK_sq hd.1 c c.length).len
        apply rq2 rfl rfl rfl
        · exact ⟨u', us', by rw [h5], by rw [if_pos h5, e1]; exact hu', by rw [if_pos h5]⟩
        · (first | infer_instance | exact ⟨fun _ H => H⟩)
end Go.Proofs.YtmhfhfhdblccjaaGreat
/-
  The search for a circle.
-/
namespace Go.Proofs.YtmhfhfhdblccjaaGreat
open Go Go.RowKit
set_option maxHeartbeats 4000000
set_option linter.unusedVariables false
set_option linter.unusedSimpArgs false
set_option maxRecDepth 20000
/-- The variable at block b holds a row of its own. -/
def outI (b : Nat) (c : List Int) : SP := fun h => ∃ u : SlV, Holds [cl b 28 [u.v], ownSl 3 encInt u.v c] h
theorem outI_open {L : List SP} {b : Nat} {c : List Int} {w : World} (H : Sat (outI b c :: L) w) : ∃ u : SlV, Sat (cl b 28 [u.v] :: ownSl 3 encInt u.v c :: L) w := by
  obtain ⟨h1, h2, ⟨u, e⟩, x⟩ := H
  exact ⟨u, Holds.ungroup (M := [cl b 28 [u.v], ownSl 3 encInt u.v c]) ⟨h1, h2, e, x⟩⟩
theorem outI_close {L : List SP} {b : Nat} {c : List Int} {u : SlV} {w : World} (H : Sat (cl b 28 [u.v] :: ownSl 3 encInt u.v c :: L) w) : Sat (outI b c :: L) w := by
  obtain ⟨h1, h2, e, x⟩ := Holds.group (M := [cl b 28 [u.v], ownSl 3 encInt u.v c]) H
  exact ⟨h1, h2, ⟨u, e⟩, x⟩
/-- what the search has shown -/
def found (d : List (List Int)) (k : Nat) (a : Int) (s : Bool × List Int) : Prop := (s.1 = false ∧ s.2 = [] ∧ ¬ Walk d k a) ∨ (s.1 = true ∧ IsC d s.2)
theorem idxOf_spec (l : List Int) (x : Int) : (idxOf l x = -1 ∧ x ∉ l) ∨ (0 ≤ idxOf l x ∧ idxOf l x < l.length ∧ l.getD (idxOf l x).toNat 0 = x) := by
  by_cases h : 0 ≤ idxOf l x
  · right
    refine ⟨h, ?_⟩
    unfold idxOf idx at h ⊢
    cases h3 : (List.range l.length).find? (fun i => decide (x = l.getD i 0)) with
    | none => rw [h3] at h; simp at h
    | some i =>
      have h4 := List.find?_some h3
      have h5 := List.mem_range.1 (List.mem_of_find?_eq_some h3)
      simp only [decide_eq_true_eq] at h4
      exact ⟨by simpa using h5, by simpa using h4.symm⟩
  · left
    have h1 := idxOf_any l x
    rw [decide_eq_false h] at h1
    refine ⟨?_, fun hm => by simp [hm] at h1⟩
    unfold idxOf idx at h ⊢
    cases h3 : (List.range l.length).find? (fun i => decide (x = l.getD i 0)) with
    | none => rfl
    | some i => rw [h3] at h; simp at h
theorem perm1 (A O : SP) (L : List SP) : (A :: O :: L).Perm (O :: A :: L) := .swap _ _ _
theorem perm2 (A B O : SP) (L : List SP) : (A :: B :: O :: L).Perm (O :: A :: B :: L) := List.perm_middle (l₁ := [A, B])
attribute [local irreducible] SW SO FnC retQ SA VO
theorem more_ok (bd bo bm : Nat) (u : SlV) (us : List SlV) (d : List (List Int)) (hd : OkD d) : ∀ (j : Nat) (L0 : List SP) (ul : SlV) (l : List Int) [c1 : Cl L0 bd 24 [u.v]] [c2 : Cl L0 bm 51 [.func (.func 106) #[] #[.pointer (some ⟨bd, 0, none⟩), .pointer (some ⟨bo, 0, none⟩), .pointer (some ⟨bm, 0, none⟩)]]] [r : RdSl L0 u.v SlV encSl us] [rm : RdM L0 us Int encInt d] [rl : RdSl L0 ul.v Int encInt l],
    Path d l → l ≠ [] → d.length = l.length + j → FnC Tryz.prog 106 [ul.v, .pointer (some ⟨bd, 0, none⟩), .pointer (some ⟨bo, 0, none⟩), .pointer (some ⟨bm, 0, none⟩)] (outI bo [] :: L0) (fun v M => ∃ s : Bool × List Int, v = .bool s.1 ∧ M = outI bo s.2 :: L0 ∧ found d (j + 1) (l.getD (l.length - 1) 0) s) := by
  intro j
  induction j using Nat.strongRecOn with
  | _ j ih =>
  intro L0 ul l c1 c2 r rm rl hp hne hj
  refine FnC.pure (fun w H => rm.len w H.tail) fun hl => ?_
  have hpos := List.length_pos_iff.2 hne
  have hd7 := hd.len
  refine fn_start (sz := 45) Tryz.func106 rfl rfl rfl ?_
  obtain ⟨a, ha⟩ : ∃ a, a = l.getD (l.length - 1) 0 := ⟨_, rfl⟩
  have hx := getD_get (xs := l) (k := l.length - 1) (by omega)
  have har := hp.rng _ (List.mem_of_getElem? hx)
  have e0 : ((l.length : Int) - 1).toNat = l.length - 1 := by omega
  rw [← ha] at hx har
  rw [← e0] at hx
  simp only [← ha]
  have hrow := hd.row (a := a.toNat) (by omega)
  repeat' (first
    | (apply so_vo; (· exact voA); (· rfl))
    | refine so_nil ?_
    | refine q_go ?_
    | refine sw_region ?_
    | (refine goQ ?_; intro _ _)
    | refine go1 ?_
    | (refine goU ?_; intro nu)
    | (refine goB ?_; intro nb)
    | (refine goM ?_; intro nm)
    | (refine go2 ?_ ?_ <;> intro h <;> (try simp only [Bool.not_true, Bool.not_false, decide_eq_true_eq, decide_eq_false_iff_not, Bool.not_eq_true', Bool.not_eq_false', ne_eq, Decidable.not_not, Int.not_lt, Int.not_le, not_false_eq_true] at h))
    | fail)
  refine sw_range (τ := Unit) (fun k _ => [(0, ul.v), (1, .pointer (some ⟨bd, 0, none⟩)), (2, .pointer (some ⟨bo, 0, none⟩)), (3, .pointer (some ⟨bm, 0, none⟩)), (6, .int .i64 a), (19, (at' us a.toNat).v)]) (fun _ _ => outI bo [] :: L0) (fun k _ => ∀ i : Nat, i < k → dv d a i ≠ 0 → ¬ Walk d j i) () (fun i h => by omega) (by rfl) (by rfl) (by omega) (by (exact fsA)) (fun _ h => h) (fun _ _ => by rfl) (by rfl) (fun k t hlt hI _ _ => ?_) (fun t hI => ?_)
  · obtain ⟨x, hxk⟩ := get_some hlt
    have ex : dv d a k = x := by unfold dv; rw [Int.toNat_natCast]; exact getD_of hxk
    by_cases hx0 : x = 0
    · repeat' (first
        | (apply so_vo; (· exact voA); (· rfl))
        | refine so_nil ?_
        | refine q_go ?_
        | refine sw_region ?_
        | (refine goQ ?_; intro _ _)
        | refine go1 ?_
        | (refine goU ?_; intro nu)
        | (refine goB ?_; intro nb)
        | (refine goM ?_; intro nm)
        | (refine go2 ?_ ?_ <;> intro h <;> (try simp only [Bool.not_true, Bool.not_false, decide_eq_true_eq, decide_eq_false_iff_not, Bool.not_eq_true', Bool.not_eq_false', ne_eq, Decidable.not_not, Int.not_lt, Int.not_le, not_false_eq_true] at h))
        | fail)
      refine ⟨rfl, (), fun i hi => (by rcases Nat.lt_or_ge i k with h1 | h1; (· exact hI i h1); (· rw [show i = k by omega, ex]; exact fun h => absurd hx0 h)), ?_, ?_⟩
      · (exact fsA)
      · (first | exact fun _ h => h | exact HLess.sat inferInstance)
    · rcases idxOf_spec l k with ⟨hi1, hi2⟩ | ⟨hi1, hi2, hi3⟩
      · repeat' (first
          | (apply so_vo; (· exact voA); (· rfl))
          | refine so_nil ?_
          | refine q_go ?_
          | refine sw_region ?_
          | (refine goQ ?_; intro _ _)
          | refine go1 ?_
          | (refine goU ?_; intro nu)
          | (refine goB ?_; intro nb)
          | (refine goM ?_; intro nm)
          | (refine go2 ?_ ?_ <;> intro h <;> (try simp only [Bool.not_true, Bool.not_false, decide_eq_true_eq, decide_eq_false_iff_not, Bool.not_eq_true', Bool.not_eq_false', ne_eq, Decidable.not_not, Int.not_lt, Int.not_le, not_false_eq_true] at h))
          | fail)
        refine so_call rfl rfl rfl (Index_int _ ul k l) ?_
        rintro _ _ ⟨rfl, rfl⟩
        repeat' (first
          | (apply so_vo; (· exact voA); (· rfl))
          | refine so_nil ?_
          | refine q_go ?_
          | refine sw_region ?_
          | (refine goQ ?_; intro _ _)
          | refine go1 ?_
          | (refine goU ?_; intro nu)
          | (refine goB ?_; intro nb)
          | (refine goM ?_; intro nm)
          | (refine go2 ?_ ?_ <;> intro h <;> (try simp only [Bool.not_true, Bool.not_false, decide_eq_true_eq, decide_eq_false_iff_not, Bool.not_eq_true', Bool.not_eq_false', ne_eq, Decidable.not_not, Int.not_lt, Int.not_le, not_false_eq_true] at h))
          | fail)
        have hp' : Path d (l ++ [(k : Int)]) := hp.snoc ⟨by omega, by omega⟩ hi2 (fun _ => by rw [← ha, ex]; exact hx0)
        have hlen := hp'.len
        simp at hlen
        have el : (l ++ [(k : Int)]).getD ((l ++ [(k : Int)]).length - 1) 0 = k := by rw [getD_app_right (by simp)]; simp
        refine sw_mid (σ := Bool × List Int) (fun s => [(43, .bool s.1), (0, ul.v), (1, .pointer (some ⟨bd, 0, none⟩)), (2, .pointer (some ⟨bo, 0, none⟩)), (3, .pointer (some ⟨bm, 0, none⟩)), (6, .int .i64 a), (19, (at' us a.toNat).v), (20, .int .i64 (atx d a.toNat).length), (21, .int .i64 k)]) (fun s => outI bo s.2 :: L0) (fun s => found d j k s) (fun _ _ _ _ h1 h2 h => sw_frame h1 (sw_mem h2 h)) (fun Q' hq => ?_) (fun s hs => ?_)
        rotate_left
        · repeat' (first
            | (apply so_vo; (· exact voA); (· rfl))
            | refine so_nil ?_
            | refine q_go ?_
            | refine sw_region ?_
            | (refine goQ ?_; intro _ _)
            | refine go1 ?_
            | (refine goU ?_; intro nu)
            | (refine goB ?_; intro nb)
            | (refine goM ?_; intro nm)
            | (refine go2 ?_ ?_ <;> intro h <;> (try simp only [Bool.not_true, Bool.not_false, decide_eq_true_eq, decide_eq_false_iff_not, Bool.not_eq_true', Bool.not_eq_false', ne_eq, Decidable.not_not, Int.not_lt, Int.not_le, not_false_eq_true] at h))
            | fail)
          · rcases hs with ⟨h1, _⟩ | ⟨h1, h2⟩
            · rw [h] at h1; cases h1
            · apply rq1 rfl rfl
              · exact ⟨s, by rw [h], rfl, .inr ⟨h1, h2⟩⟩
              · (first | infer_instance | exact ⟨fun _ H => H⟩)
          · rcases hs with ⟨h1, h2, h3⟩ | ⟨h1, h2⟩
            · rw [h2]
              refine ⟨rfl, (), fun i hi => (by rcases Nat.lt_or_ge i k with h1 | h1; (· exact hI i h1); (· rw [show i = k by omega]; exact fun _ => h3)), ?_, ?_⟩
              · (exact fsA)
              · (first | exact fun _ h => h | exact HLess.sat inferInstance)
            · rw [h] at h1; cases h1
        refine sa_startC [] (L1 := L0) (fun w H => H.tail) mixed (by kernel_rfl) ?_
        apply sa_stat 0 rfl (by kernel_rfl) rfl
        · exact vo_load rfl rfl
        apply sa_stat 1 rfl (by kernel_rfl) rfl
        · exact vo_move rfl
        apply sa_stat 3 rfl (by kernel_rfl) rfl
        · exact vo_move rfl
        refine sa_forkL 2 4 rfl rfl (by kernel_rfl) ?_ ?_
        · refine so_call rfl rfl rfl (Clone_int _ ul l (by omega)) ?_
          rintro _ _ ⟨u3, rfl, rfl⟩
          repeat' (first
            | (apply so_vo; (· exact voA); (· rfl))
            | refine so_nil ?_
            | refine q_go ?_
            | refine sw_region ?_
            | (refine goQ ?_; intro _ _)
            | refine go1 ?_
            | (refine goU ?_; intro nu)
            | (refine goB ?_; intro nb)
            | (refine goM ?_; intro nm)
            | (refine go2 ?_ ?_ <;> intro h <;> (try simp only [Bool.not_true, Bool.not_false, decide_eq_true_eq, decide_eq_false_iff_not, Bool.not_eq_true', Bool.not_eq_false', ne_eq, Decidable.not_not, Int.not_lt, Int.not_le, not_false_eq_true] at h))
            | fail)
          refine ⟨rfl, rfl, HLess.sat inferInstance, ?_⟩
          refine sa_chainL 4 rfl (by kernel_rfl) ?_
          repeat' (first
            | (apply so_vo; (· exact voA); (· rfl))
            | refine so_nil ?_
            | refine q_go ?_
            | refine sw_region ?_
            | (refine goQ ?_; intro _ _)
            | refine go1 ?_
            | (refine goU ?_; intro nu)
            | (refine goB ?_; intro nb)
            | (refine goM ?_; intro nm)
            | (refine go2 ?_ ?_ <;> intro h <;> (try simp only [Bool.not_true, Bool.not_false, decide_eq_true_eq, decide_eq_false_iff_not, Bool.not_eq_true', Bool.not_eq_false', ne_eq, Decidable.not_not, Int.not_lt, Int.not_le, not_false_eq_true] at h))
            | fail)
          refine ⟨rfl, rfl, HLess.sat inferInstance, ?_⟩
          refine sa_chainL 5 rfl (by kernel_rfl) ?_
          repeat' (first
            | (apply so_vo; (· exact voA); (· rfl))
            | refine so_nil ?_
            | refine q_go ?_
            | refine sw_region ?_
            | (refine goQ ?_; intro _ _)
            | refine go1 ?_
            | (refine goU ?_; intro nu)
            | (refine goB ?_; intro nb)
            | (refine goM ?_; intro nm)
            | (refine go2 ?_ ?_ <;> intro h <;> (try simp only [Bool.not_true, Bool.not_false, decide_eq_true_eq, decide_eq_false_iff_not, Bool.not_eq_true', Bool.not_eq_false', ne_eq, Decidable.not_not, Int.not_lt, Int.not_le, not_false_eq_true] at h))
            | fail)
          refine ⟨rfl, rfl, HLess.sat inferInstance, ?_⟩
          refine sa_chainL 6 rfl (by kernel_rfl) ?_
          refine so_call rfl rfl rfl (FnC.perm (perm1 _ _ _) (ih (j - 1) (by omega) (_ :: L0) nu (l ++ [(k : Int)]) hp' (by simp) (by simp; omega))) ?_
          rintro _ _ ⟨s, rfl, rfl, hs⟩
          repeat' (first
            | (apply so_vo; (· exact voA); (· rfl))
            | refine so_nil ?_
            | refine q_go ?_
            | refine sw_region ?_
            | (refine goQ ?_; intro _ _)
            | refine go1 ?_
            | (refine goU ?_; intro nu)
            | (refine goB ?_; intro nb)
            | (refine goM ?_; intro nm)
            | (refine go2 ?_ ?_ <;> intro h <;> (try simp only [Bool.not_true, Bool.not_false, decide_eq_true_eq, decide_eq_false_iff_not, Bool.not_eq_true', Bool.not_eq_false', ne_eq, Decidable.not_not, Int.not_lt, Int.not_le, not_false_eq_true] at h))
            | fail)
          refine ⟨rfl, rfl, HLess.sat inferInstance, ?_⟩
          refine sa_rest (T' := []) rfl (by kernel_rfl) ?_
          repeat' (first
            | (apply so_vo; (· exact voA); (· rfl))
            | refine so_nil ?_
            | refine q_go ?_
            | refine sw_region ?_
            | (refine goQ ?_; intro _ _)
            | refine go1 ?_
            | (refine goU ?_; intro nu)
            | (refine goB ?_; intro nb)
            | (refine goM ?_; intro nm)
            | (refine go2 ?_ ?_ <;> intro h <;> (try simp only [Bool.not_true, Bool.not_false, decide_eq_true_eq, decide_eq_false_iff_not, Bool.not_eq_true', Bool.not_eq_false', ne_eq, Decidable.not_not, Int.not_lt, Int.not_le, not_false_eq_true] at h))
            | fail)
          rw [show j - 1 + 1 = j by omega, el] at hs
          refine ⟨rfl, s, hs, ?_, HLess.sat inferInstance⟩
          (exact fsA)
        · repeat' (first
            | (apply so_vo; (· exact voA); (· rfl))
            | refine so_nil ?_
            | refine q_go ?_
            | refine sw_region ?_
            | (refine goQ ?_; intro _ _)
            | refine go1 ?_
            | (refine goU ?_; intro nu)
            | (refine goB ?_; intro nb)
            | (refine goM ?_; intro nm)
            | (refine go2 ?_ ?_ <;> intro h <;> (try simp only [Bool.not_true, Bool.not_false, decide_eq_true_eq, decide_eq_false_iff_not, Bool.not_eq_true', Bool.not_eq_false', ne_eq, Decidable.not_not, Int.not_lt, Int.not_le, not_false_eq_true] at h))
            | fail)
          refine ⟨rfl, rfl, HLess.sat inferInstance, ?_⟩
          refine sa_chainL 2 rfl (by kernel_rfl) ?_
          refine so_call rfl rfl rfl (Clone_int _ ul l (by omega)) ?_
          rintro _ _ ⟨u3, rfl, rfl⟩
          repeat' (first
            | (apply so_vo; (· exact voA); (· rfl))
            | refine so_nil ?_
            | refine q_go ?_
            | refine sw_region ?_
            | (refine goQ ?_; intro _ _)
            | refine go1 ?_
            | (refine goU ?_; intro nu)
            | (refine goB ?_; intro nb)
            | (refine goM ?_; intro nm)
            | (refine go2 ?_ ?_ <;> intro h <;> (try simp only [Bool.not_true, Bool.not_false, decide_eq_true_eq, decide_eq_false_iff_not, Bool.not_eq_true', Bool.not_eq_false', ne_eq, Decidable.not_not, Int.not_lt, Int.not_le, not_false_eq_true] at h))
            | fail)
          refine ⟨rfl, rfl, HLess.sat inferInstance, ?_⟩
          refine sa_chainL 5 rfl (by kernel_rfl) ?_
          repeat' (first
            | (apply so_vo; (· exact voA); (· rfl))
            | refine so_nil ?_
            | refine q_go ?_
            | refine sw_region ?_
            | (refine goQ ?_; intro _ _)
            | refine go1 ?_
            | (refine goU ?_; intro nu)
            | (refine goB ?_; intro nb)
            | (refine goM ?_; intro nm)
            | (refine go2 ?_ ?_ <;> intro h <;> (try simp only [Bool.not_true, Bool.not_false, decide_eq_true_eq, decide_eq_false_iff_not, Bool.not_eq_true', Bool.not_eq_false', ne_eq, Decidable.not_not, Int.not_lt, Int.not_le, not_false_eq_true] at h))
            | fail)
          refine ⟨rfl, rfl, HLess.sat inferInstance, ?_⟩
          refine sa_chainL 6 rfl (by kernel_rfl) ?_
          refine so_call rfl rfl rfl (FnC.perm (perm2 _ _ _ _) (ih (j - 1) (by omega) (_ :: _ :: L0) nu (l ++ [(k : Int)]) hp' (by simp) (by simp; omega))) ?_
          rintro _ _ ⟨s, rfl, rfl, hs⟩
          repeat' (first
            | (apply so_vo; (· exact voA); (· rfl))
            | refine so_nil ?_
            | refine q_go ?_
            | refine sw_region ?_
            | (refine goQ ?_; intro _ _)
            | refine go1 ?_
            | (refine goU ?_; intro nu)
            | (refine goB ?_; intro nb)
            | (refine goM ?_; intro nm)
            | (refine go2 ?_ ?_ <;> intro h <;> (try simp only [Bool.not_true, Bool.not_false, decide_eq_true_eq, decide_eq_false_iff_not, Bool.not_eq_true', Bool.not_eq_false', ne_eq, Decidable.not_not, Int.not_lt, Int.not_le, not_false_eq_true] at h))
            | fail)
          refine ⟨rfl, rfl, HLess.sat inferInstance, ?_⟩
          refine sa_rest (T' := []) rfl (by kernel_rfl) ?_
          repeat' (first
            | (apply so_vo; (· exact voA); (· rfl))
            | refine so_nil ?_
            | refine q_go ?_
            | refine sw_region ?_
            | (refine goQ ?_; intro _ _)
            | refine go1 ?_
            | (refine goU ?_; intro nu)
            | (refine goB ?_; intro nb)
            | (refine goM ?_; intro nm)
            | (refine go2 ?_ ?_ <;> intro h <;> (try simp only [Bool.not_true, Bool.not_false, decide_eq_true_eq, decide_eq_false_iff_not, Bool.not_eq_true', Bool.not_eq_false', ne_eq, Decidable.not_not, Int.not_lt, Int.not_le, not_false_eq_true] at h))
            | fail)
          rw [show j - 1 + 1 = j by omega, el] at hs
          refine ⟨rfl, s, hs, ?_, HLess.sat inferInstance⟩
          (exact fsA)
      · refine sw_ex (fun w H => outI_open H) fun u0 => ?_
        repeat' (first
          | (apply so_vo; (· exact voA); (· rfl))
          | refine so_nil ?_
          | refine q_go ?_
          | refine sw_region ?_
          | (refine goQ ?_; intro _ _)
          | refine go1 ?_
          | (refine goU ?_; intro nu)
          | (refine goB ?_; intro nb)
          | (refine goM ?_; intro nm)
          | (refine go2 ?_ ?_ <;> intro h <;> (try simp only [Bool.not_true, Bool.not_false, decide_eq_true_eq, decide_eq_false_iff_not, Bool.not_eq_true', Bool.not_eq_false', ne_eq, Decidable.not_not, Int.not_lt, Int.not_le, not_false_eq_true] at h))
          | fail)
        refine so_call rfl rfl rfl (Index_int _ ul k l) ?_
        rintro _ _ ⟨rfl, rfl⟩
        repeat' (first
          | (apply so_vo; (· exact voA); (· rfl))
          | refine so_nil ?_
          | refine q_go ?_
          | refine sw_region ?_
          | (refine goQ ?_; intro _ _)
          | refine go1 ?_
          | (refine goU ?_; intro nu)
          | (refine goB ?_; intro nb)
          | (refine goM ?_; intro nm)
          | (refine go2 ?_ ?_ <;> intro h <;> (try simp only [Bool.not_true, Bool.not_false, decide_eq_true_eq, decide_eq_false_iff_not, Bool.not_eq_true', Bool.not_eq_false', ne_eq, Decidable.not_not, Int.not_lt, Int.not_le, not_false_eq_true] at h))
          | fail)
        haveI : RdSl (cl bo 28 [u0.v] :: ownSl 3 encInt u0.v [] :: L0) (subu 1 ul (idxOf l k).toNat l.length).v Int encInt (l.drop (idxOf l k).toNat) := by
          have := RdSl.sub (L := cl bo 28 [u0.v] :: ownSl 3 encInt u0.v [] :: L0) (v := ul.v) (enc := encInt) (xs := l) inferInstance (lo := (idxOf l k).toNat) (hi := l.length) (by omega) (by omega)
          rw [List.take_length] at this
          exact this
        refine so_call rfl rfl rfl (Clone_int _ (subu 1 ul (idxOf l k).toNat l.length) (l.drop (idxOf l k).toNat) (by simp; omega)) ?_
        rintro _ _ ⟨u3, rfl, rfl⟩
        repeat' (first
          | (apply so_vo; (· exact voA); (· rfl))
          | refine so_nil ?_
          | refine q_go ?_
          | refine sw_region ?_
          | (refine goQ ?_; intro _ _)
          | refine go1 ?_
          | (refine goU ?_; intro nu)
          | (refine goB ?_; intro nb)
          | (refine goM ?_; intro nm)
          | (refine go2 ?_ ?_ <;> intro h <;> (try simp only [Bool.not_true, Bool.not_false, decide_eq_true_eq, decide_eq_false_iff_not, Bool.not_eq_true', Bool.not_eq_false', ne_eq, Decidable.not_not, Int.not_lt, Int.not_le, not_false_eq_true] at h))
          | fail)
        apply rq1 rfl rfl
        · exact ⟨(true, l.drop (idxOf l k).toNat), rfl, rfl, .inr ⟨rfl, hp.drop (by omega) (by rw [← ha, hi3, ex]; exact hx0)⟩⟩
        · exact ⟨fun w H => outI_close (Holds.cons_mono (fun h H => Holds.cons_mono (fun h H => H.tail) H) (Holds.swap H))⟩
  · repeat' (first
      | (apply so_vo; (· exact voA); (· rfl))
      | refine so_nil ?_
      | refine q_go ?_
      | refine sw_region ?_
      | (refine goQ ?_; intro _ _)
      | refine go1 ?_
      | (refine goU ?_; intro nu)
      | (refine goB ?_; intro nb)
      | (refine goM ?_; intro nm)
      | (refine go2 ?_ ?_ <;> intro h <;> (try simp only [Bool.not_true, Bool.not_false, decide_eq_true_eq, decide_eq_false_iff_not, Bool.not_eq_true', Bool.not_eq_false', ne_eq, Decidable.not_not, Int.not_lt, Int.not_le, not_false_eq_true] at h))
      | fail)
    have hno : ¬ Walk d (j + 1) a := by
      intro hw
      obtain ⟨b, g1, g2, g3, g4⟩ := hw
      have e : ((b.toNat : Nat) : Int) = b := by omega
      exact hI b.toNat (by omega) (by rw [e]; exact g3) (by rw [e]; exact g4)
    apply rq1 rfl rfl
    · exact ⟨(false, []), rfl, rfl, .inl ⟨rfl, rfl, hno⟩⟩
    · (first | infer_instance | exact ⟨fun _ H => H⟩)
end Go.Proofs.YtmhfhfhdblccjaaGreat
/-
  Circles and straight debts.
-/
namespace Go.Proofs.YtmhfhfhdblccjaaGreat
open Go Go.RowKit
set_option maxHeartbeats 4000000
set_option linter.unusedVariables false
set_option linter.unusedSimpArgs false
set_option maxRecDepth 20000
/-- what circle() tells -/
def circR (d : List (List Int)) (c : List Int) : Prop := (c = [] ∧ Acyc d) ∨ IsC d c
attribute [local irreducible] SW SO FnC retQ SA VO
theorem circle_ok (L : List SP) (u : SlV) (us : List SlV) (d : List (List Int)) [r : RdSl L u.v SlV encSl us] [rm : RdM L us Int encInt d] (hd : OkD d) : FnC Tryz.prog 74 [u.v] L (fun v M => ∃ (u' : SlV) (c : List Int), v = u'.v ∧ circR d c ∧ M = ownSl 3 encInt u'.v c :: L) := by
  refine FnC.pure rm.len fun hl => ?_
  have hd7 := hd.len
  refine fn_start (sz := 18) Tryz.func74 rfl rfl rfl ?_
  repeat' (first
    | (apply so_vo; (· exact voA); (· rfl))
    | refine so_nil ?_
    | refine q_go ?_
    | refine sw_region ?_
    | (refine goQ ?_; intro _ _)
    | refine go1 ?_
    | (refine go2 ?_ ?_ <;> intro h <;> (try simp only [Bool.not_true, Bool.not_false, decide_eq_true_eq, decide_eq_false_iff_not, Bool.not_eq_true', Bool.not_eq_false', ne_eq, Decidable.not_not, Int.not_lt, Int.not_le, not_false_eq_true] at h))
    | fail)
  first
    | (refine goU ?_; intro bd)
    | (refine goB ?_; intro bd)
    | (refine goM ?_; intro bd)
  repeat' (first
    | (apply so_vo; (· exact voA); (· rfl))
    | refine so_nil ?_
    | refine q_go ?_
    | refine sw_region ?_
    | (refine goQ ?_; intro _ _)
    | refine go1 ?_
    | (refine go2 ?_ ?_ <;> intro h <;> (try simp only [Bool.not_true, Bool.not_false, decide_eq_true_eq, decide_eq_false_iff_not, Bool.not_eq_true', Bool.not_eq_false', ne_eq, Decidable.not_not, Int.not_lt, Int.not_le, not_false_eq_true] at h))
    | fail)
  first
    | (refine goU ?_; intro bo)
    | (refine goB ?_; intro bo)
    | (refine goM ?_; intro bo)
  repeat' (first
    | (apply so_vo; (· exact voA); (· rfl))
    | refine so_nil ?_
    | refine q_go ?_
    | refine sw_region ?_
    | (refine goQ ?_; intro _ _)
    | refine go1 ?_
    | (refine go2 ?_ ?_ <;> intro h <;> (try simp only [Bool.not_true, Bool.not_false, decide_eq_true_eq, decide_eq_false_iff_not, Bool.not_eq_true', Bool.not_eq_false', ne_eq, Decidable.not_not, Int.not_lt, Int.not_le, not_false_eq_true] at h))
    | fail)
  first
    | (refine goU ?_; intro bm)
    | (refine goB ?_; intro bm)
    | (refine goM ?_; intro bm)
  repeat' (first
    | (apply so_vo; (· exact voA); (· rfl))
    | refine so_nil ?_
    | refine q_go ?_
    | refine sw_region ?_
    | (refine goQ ?_; intro _ _)
    | refine go1 ?_
    | (refine go2 ?_ ?_ <;> intro h <;> (try simp only [Bool.not_true, Bool.not_false, decide_eq_true_eq, decide_eq_false_iff_not, Bool.not_eq_true', Bool.not_eq_false', ne_eq, Decidable.not_not, Int.not_lt, Int.not_le, not_false_eq_true] at h))
    | fail)
  obtain ⟨fv, hfv⟩ : ∃ fv : Value, fv = .func (.func 106) #[] #[.pointer (some ⟨bd, 0, none⟩), .pointer (some ⟨bo, 0, none⟩), .pointer (some ⟨bm, 0, none⟩)] := ⟨_, rfl⟩
  refine sw_mem (L' := outI bo [] :: cl bm 51 [.func (.func 106) #[] #[.pointer (some ⟨bd, 0, none⟩), .pointer (some ⟨bo, 0, none⟩), .pointer (some ⟨bm, 0, none⟩)]] :: cl bd 24 [u.v] :: L) (fun w H => outI_close (u := nilS) (Holds.cons_mono (fun _ h => own_nil none h) (Holds.swap H))) ?_
  refine sw_block' (fun _ _ => ?_)
  refine sw_loop' (σ := Nat) (fun k => [(3, .pointer (some ⟨bo, 0, none⟩)), (4, .pointer (some ⟨bm, 0, none⟩)), (8, .int .i64 us.length), (9, .int .i64 k)]) (fun _ => outI bo [] :: cl bm 51 [.func (.func 106) #[] #[.pointer (some ⟨bd, 0, none⟩), .pointer (some ⟨bo, 0, none⟩), .pointer (some ⟨bm, 0, none⟩)]] :: cl bd 24 [u.v] :: L) (fun k => k ≤ us.length ∧ ∀ i : Nat, i < k → ¬ Walk d d.length i) (fun k => us.length - k) 0 ⟨by omega, fun i h => by omega⟩ (by (exact fsA)) (fun _ h => h) (fun s hs _ _ => ?_)
  obtain ⟨h1, h2⟩ := hs
  by_cases h0 : s < us.length
  · repeat' (first
      | (apply so_vo; (· exact voA); (· rfl))
      | refine so_nil ?_
      | refine q_go ?_
      | refine sw_region ?_
      | (refine goQ ?_; intro _ _)
      | refine go1 ?_
      | (refine go2 ?_ ?_ <;> intro h <;> (try simp only [Bool.not_true, Bool.not_false, decide_eq_true_eq, decide_eq_false_iff_not, Bool.not_eq_true', Bool.not_eq_false', ne_eq, Decidable.not_not, Int.not_lt, Int.not_le, not_false_eq_true] at h))
      | fail)
    first
      | (refine goU ?_; intro ul)
      | (refine goB ?_; intro ul)
      | (refine goM ?_; intro ul)
    repeat' (first
      | (apply so_vo; (· exact voA); (· rfl))
      | refine so_nil ?_
      | refine q_go ?_
      | refine sw_region ?_
      | (refine goQ ?_; intro _ _)
      | refine go1 ?_
      | (refine go2 ?_ ?_ <;> intro h <;> (try simp only [Bool.not_true, Bool.not_false, decide_eq_true_eq, decide_eq_false_iff_not, Bool.not_eq_true', Bool.not_eq_false', ne_eq, Decidable.not_not, Int.not_lt, Int.not_le, not_false_eq_true] at h))
      | fail)
    have hp : Path d [(s : Int)] := ⟨fun x hx => by simp at hx; omega, by simp, fun i hi => by simp at hi⟩
    refine so_call rfl rfl rfl (FnC.perm (perm1 _ _ _) (more_ok bd bo bm u us d hd (d.length - 1) (_ :: _ :: _ :: L) ul [(s : Int)] hp (by simp) (by simp; omega))) ?_
    rintro _ _ ⟨q, rfl, rfl, hq⟩
    rw [show d.length - 1 + 1 = d.length by omega] at hq
    repeat' (first
      | (apply so_vo; (· exact voA); (· rfl))
      | refine so_nil ?_
      | refine q_go ?_
      | refine sw_region ?_
      | (refine goQ ?_; intro _ _)
      | refine go1 ?_
      | (refine goU ?_; intro nu)
      | (refine goB ?_; intro nb)
      | (refine goM ?_; intro nm)
      | (refine go2 ?_ ?_ <;> intro h <;> (try simp only [Bool.not_true, Bool.not_false, decide_eq_true_eq, decide_eq_false_iff_not, Bool.not_eq_true', Bool.not_eq_false', ne_eq, Decidable.not_not, Int.not_lt, Int.not_le, not_false_eq_true] at h))
      | fail)
    · rcases hq with ⟨g1, _⟩ | ⟨g1, g2⟩
      · rw [h] at g1; cases g1
      · refine so_ex (fun w H => outI_open H) fun u' => ?_
        repeat' (first
          | (apply so_vo; (· exact voA); (· rfl))
          | refine so_nil ?_
          | refine q_go ?_
          | refine sw_region ?_
          | (refine goQ ?_; intro _ _)
          | refine go1 ?_
          | (refine goU ?_; intro nu)
          | (refine goB ?_; intro nb)
          | (refine goM ?_; intro nm)
          | (refine go2 ?_ ?_ <;> intro h <;> (try simp only [Bool.not_true, Bool.not_false, decide_eq_true_eq, decide_eq_false_iff_not, Bool.not_eq_true', Bool.not_eq_false', ne_eq, Decidable.not_not, Int.not_lt, Int.not_le, not_false_eq_true] at h))
          | fail)
        apply rq1 rfl rfl
        · exact ⟨u', q.2, rfl, .inr g2, rfl⟩
        · (first | infer_instance | exact ⟨fun _ H => H⟩)
    · rcases hq with ⟨g1, g2, g3⟩ | ⟨g1, g2⟩
      · rw [g2]
        refine ⟨rfl, s + 1, ⟨by omega, fun i hi => ?_⟩, by omega, ?_, HLess.sat inferInstance⟩
        · rcases Nat.lt_or_ge i s with h5 | h5
          · exact h2 i h5
          · rw [show i = s by omega]; exact g3
        · (exact fsA)
      · rw [h] at g1; cases g1
  · repeat' (first
      | (apply so_vo; (· exact voA); (· rfl))
      | refine so_nil ?_
      | refine q_go ?_
      | refine sw_region ?_
      | (refine goQ ?_; intro _ _)
      | refine go1 ?_
      | (refine goU ?_; intro nu)
      | (refine goB ?_; intro nb)
      | (refine goM ?_; intro nm)
      | (refine go2 ?_ ?_ <;> intro h <;> (try simp only [Bool.not_true, Bool.not_false, decide_eq_true_eq, decide_eq_false_iff_not, Bool.not_eq_true', Bool.not_eq_false', ne_eq, Decidable.not_not, Int.not_lt, Int.not_le, not_false_eq_true] at h))
      | fail)
    refine so_ex (fun w H => outI_open H) fun u' => ?_
    repeat' (first
      | (apply so_vo; (· exact voA); (· rfl))
      | refine so_nil ?_
      | refine q_go ?_
      | refine sw_region ?_
      | (refine goQ ?_; intro _ _)
      | refine go1 ?_
      | (refine goU ?_; intro nu)
      | (refine goB ?_; intro nb)
      | (refine goM ?_; intro nm)
      | (refine go2 ?_ ?_ <;> intro h <;> (try simp only [Bool.not_true, Bool.not_false, decide_eq_true_eq, decide_eq_false_iff_not, Bool.not_eq_true', Bool.not_eq_false', ne_eq, Decidable.not_not, Int.not_lt, Int.not_le, not_false_eq_true] at h))
      | fail)
    have ha : Acyc d := fun a g1 g2 hw => by
      have e : ((a.toNat : Nat) : Int) = a := by omega
      exact h2 a.toNat (by omega) (by rw [e]; exact hw)
    apply rq1 rfl rfl
    · exact ⟨u', [], rfl, .inl ⟨rfl, ha⟩, rfl⟩
    · (first | infer_instance | exact ⟨fun _ H => H⟩)
theorem Circle_ok (L : List SP) (u : SlV) (us : List SlV) (d : List (List Int)) [r : RdSl L u.v SlV encSl us] [rm : RdM L us Int encInt d] : FnC Tryz.prog 34 [u.v] L (fun v M => ∃ (u' : SlV) (c : List Int) (e : Int), v = .tuple #[u'.v, .int .i64 e] ∧ M = ownSl 3 encInt u'.v c :: L ∧ ((checkD d ≠ 0 ∧ e = checkD d ∧ c = []) ∨ (checkD d = 0 ∧ e = 6 ∧ c = [] ∧ Acyc d) ∨ (checkD d = 0 ∧ e = 0 ∧ IsC d c))) := by
  refine fn_start (sz := 17) Tryz.func34 rfl rfl rfl ?_
  repeat' (first
    | (apply so_vo; (· exact voA); (· rfl))
    | refine so_nil ?_
    | refine q_go ?_
    | refine sw_region ?_
    | (refine goQ ?_; intro _ _)
    | refine go1 ?_
    | (refine goU ?_; intro nu)
    | (refine goB ?_; intro nb)
    | (refine goM ?_; intro nm)
    | (refine go2 ?_ ?_ <;> intro h <;> (try simp only [Bool.not_true, Bool.not_false, decide_eq_true_eq, decide_eq_false_iff_not, Bool.not_eq_true', Bool.not_eq_false', ne_eq, Decidable.not_not, Int.not_lt, Int.not_le, not_false_eq_true] at h))
    | fail)
  refine so_call rfl rfl rfl (CheckDebts_ok _ u us d) ?_
  rintro _ _ ⟨rfl, rfl⟩
  repeat' (first
    | (apply so_vo; (· exact voA); (· rfl))
    | refine so_nil ?_
    | refine q_go ?_
    | refine sw_region ?_
    | (refine goQ ?_; intro _ _)
    | refine go1 ?_
    | (refine goU ?_; intro nu)
    | (refine goB ?_; intro nb)
    | (refine goM ?_; intro nm)
    | (refine go2 ?_ ?_ <;> intro h <;> (try simp only [Bool.not_true, Bool.not_false, decide_eq_true_eq, decide_eq_false_iff_not, Bool.not_eq_true', Bool.not_eq_false', ne_eq, Decidable.not_not, Int.not_lt, Int.not_le, not_false_eq_true] at h))
    | fail)
  · apply rq2 rfl rfl rfl
    · exact ⟨nilS, [], _, rfl, rfl, .inl ⟨h, rfl, rfl⟩⟩
    · exact HLess.nilOwn _ _ _
  · have h0 := h
    refine so_call rfl rfl rfl (circle_ok _ u us d (checkD_ok h0).1) ?_
    rintro _ _ ⟨u', c, rfl, hc, rfl⟩
    repeat' (first
      | (apply so_vo; (· exact voA); (· rfl))
      | refine so_nil ?_
      | refine q_go ?_
      | refine sw_region ?_
      | (refine goQ ?_; intro _ _)
      | refine go1 ?_
      | (refine goU ?_; intro nu)
      | (refine goB ?_; intro nb)
      | (refine goM ?_; intro nm)
      | (refine go2 ?_ ?_ <;> intro h <;> (try simp only [Bool.not_true, Bool.not_false, decide_eq_true_eq, decide_eq_false_iff_not, Bool.not_eq_true', Bool.not_eq_false', ne_eq, Decidable.not_not, Int.not_lt, Int.not_le, not_false_eq_true] at h))
      | fail)
    · have e : c = [] := List.eq_nil_of_length_eq_zero (by omega)
      rcases hc with ⟨_, hc⟩ | hc
      · apply rq2 rfl rfl rfl
        · exact ⟨nilS, [], _, rfl, rfl, .inr (.inl ⟨h0, rfl, rfl, hc⟩)⟩
        · exact ⟨fun w H => own_nil none H.tail⟩
      · exact absurd e hc.ne
    · have e : c ≠ [] := fun e => by subst e; simp at h
      rcases hc with ⟨hc, _⟩ | hc
      · exact absurd hc e
      · apply rq2 rfl rfl rfl
        · exact ⟨u', c, _, rfl, rfl, .inr (.inr ⟨h0, rfl, hc⟩)⟩
        · (first | infer_instance | exact ⟨fun _ H => H⟩)
end Go.Proofs.YtmhfhfhdblccjaaGreat
/-
  Straight debts.
-/
namespace Go.Proofs.YtmhfhfhdblccjaaGreat
open Go Go.RowKit
set_option maxHeartbeats 4000000
set_option linter.unusedVariables false
set_option linter.unusedSimpArgs false
set_option maxRecDepth 20000
/-- debts from which circles are cancelled -/
inductive Red (d : List (List Int)) : List (List Int) → Prop
  | refl : Red d d
  | step {s : List (List Int)} {c : List Int} (h : Red d s) (hc : IsC s c) : Red d (cancelM s c)
theorem Red.ok {d s : List (List Int)} (hd : OkD d) (h : Red d s) : OkD s ∧ s.length = d.length ∧ (∀ p q : Int, 0 ≤ p → 0 ≤ q → dv s p q ≤ dv d p q) ∧ ∀ j, j < d.length → netOf s j = netOf d j := by
  induction h with
  | refl => exact ⟨hd, rfl, fun _ _ _ _ => Int.le_refl _, fun _ _ => rfl⟩
  | @step s c h hc ih =>
    obtain ⟨i1, i2, i3, i4⟩ := ih
    have hl : (cancelM s c).length = s.length := (cancelK_sq i1 c c.length).len
    refine ⟨cancelM_ok i1 hc, by rw [hl, i2], fun p q hp hq => ?_, fun j hj => ?_⟩
    · have := cancelM_le i1 hc p q hp hq
      have := i3 p q hp hq; omega
    · rw [cancelM_net i1 hc j (by omega)]; exact i4 j hj
theorem IsC.okC {d : List (List Int)} (hd : OkD d) {c : List Int} (h : IsC d c) : OkC d.length c := ⟨by have := nodup_len _ _ h.nd h.rng; have := hd.len; omega, h.rng⟩
attribute [local irreducible] SW SO FnC retQ SA VO
theorem Straight_ok (L : List SP) (u : SlV) (us : List SlV) (d : List (List Int)) [r : RdSl L u.v SlV encSl us] [rm : RdM L us Int encInt d] : FnC Tryz.prog 36 [u.v] L (fun v M => ∃ s : List (List Int), matR L (checkD d) s v M ∧ (checkD d ≠ 0 → s = []) ∧ (checkD d = 0 → Red d s ∧ Acyc s)) := by
  refine fn_start (sz := 23) Tryz.func36 rfl rfl rfl ?_
  repeat' (first
    | (apply so_vo; (· exact voA); (· rfl))
    | refine so_nil ?_
    | refine q_go ?_
    | refine sw_region ?_
    | (refine goQ ?_; intro _ _)
    | refine go1 ?_
    | (refine goU ?_; intro nu)
    | (refine goB ?_; intro nb)
    | (refine goM ?_; intro nm)
    | (refine go2 ?_ ?_ <;> intro h <;> (try simp only [Bool.not_true, Bool.not_false, decide_eq_true_eq, decide_eq_false_iff_not, Bool.not_eq_true', Bool.not_eq_false', ne_eq, Decidable.not_not, Int.not_lt, Int.not_le, not_false_eq_true] at h))
    | fail)
  refine so_call rfl rfl rfl (CheckDebts_ok _ u us d) ?_
  rintro _ _ ⟨rfl, rfl⟩
  repeat' (first
    | (apply so_vo; (· exact voA); (· rfl))
    | refine so_nil ?_
    | refine q_go ?_
    | refine sw_region ?_
    | (refine goQ ?_; intro _ _)
    | refine go1 ?_
    | (refine goU ?_; intro nu)
    | (refine goB ?_; intro nb)
    | (refine goM ?_; intro nm)
    | (refine go2 ?_ ?_ <;> intro h <;> (try simp only [Bool.not_true, Bool.not_false, decide_eq_true_eq, decide_eq_false_iff_not, Bool.not_eq_true', Bool.not_eq_false', ne_eq, Decidable.not_not, Int.not_lt, Int.not_le, not_false_eq_true] at h))
    | fail)
  · apply rq2 rfl rfl rfl
    · exact ⟨[], ⟨nilS, [], rfl, rfl, rfl⟩, fun _ => rfl, fun h0 => absurd h0 h⟩
    · exact ⟨fun w H => (Less.nilRows _).out w H⟩
  · have hk := h
    have hd := (checkD_ok h).1
    have hd7 := hd.len
    refine so_call rfl rfl rfl (clone_ok _ u us d (by omega) (fun xs hx => by have := hd.sq xs hx; omega)) ?_
    rintro _ _ ⟨un, usn, rfl, hun, rfl⟩
    repeat' (first
      | (apply so_vo; (· exact voA); (· rfl))
      | refine so_nil ?_
      | refine q_go ?_
      | refine sw_region ?_
      | (refine goQ ?_; intro _ _)
      | refine go1 ?_
      | (refine goU ?_; intro nu)
      | (refine goB ?_; intro nb)
      | (refine goM ?_; intro nm)
      | (refine go2 ?_ ?_ <;> intro h <;> (try simp only [Bool.not_true, Bool.not_false, decide_eq_true_eq, decide_eq_false_iff_not, Bool.not_eq_true', Bool.not_eq_false', ne_eq, Decidable.not_not, Int.not_lt, Int.not_le, not_false_eq_true] at h))
      | fail)
    refine sw_block' (fun _ _ => ?_)
    refine sw_loop' (σ := SlV × List SlV × List (List Int)) (fun s => [(5, s.1.v)]) (fun s => ownSl 28 encSl s.1.v s.2.1 :: rows 3 encInt s.2.1 s.2.2 :: _) (fun s => s.2.1.length = s.2.2.length ∧ Red d s.2.2) (fun s => (whole s.2.2).toNat) (un, usn, d) ⟨hun, .refl⟩ (by (exact fsA)) (fun _ h => h) (fun s hs _ _ => ?_)
    obtain ⟨u1, us1, s1⟩ := s
    obtain ⟨h1, h2⟩ := hs
    simp only at h1 h2 ⊢
    have hs1 := (h2.ok hd).1
    repeat' (first
      | (apply so_vo; (· exact voA); (· rfl))
      | refine so_nil ?_
      | refine q_go ?_
      | refine sw_region ?_
      | (refine goQ ?_; intro _ _)
      | refine go1 ?_
      | (refine goU ?_; intro nu)
      | (refine goB ?_; intro nb)
      | (refine goM ?_; intro nm)
      | (refine go2 ?_ ?_ <;> intro h <;> (try simp only [Bool.not_true, Bool.not_false, decide_eq_true_eq, decide_eq_false_iff_not, Bool.not_eq_true', Bool.not_eq_false', ne_eq, Decidable.not_not, Int.not_lt, Int.not_le, not_false_eq_true] at h))
      | fail)
    refine so_call rfl rfl rfl (circle_ok _ u1 us1 s1 hs1) ?_
    rintro _ _ ⟨uc, c, rfl, hc, rfl⟩
    repeat' (first
      | (apply so_vo; (· exact voA); (· rfl))
      | refine so_nil ?_
      | refine q_go ?_
      | refine sw_region ?_
      | (refine goQ ?_; intro _ _)
      | refine go1 ?_
      | (refine goU ?_; intro nu)
      | (refine goB ?_; intro nb)
      | (refine goM ?_; intro nm)
      | (refine go2 ?_ ?_ <;> intro h <;> (try simp only [Bool.not_true, Bool.not_false, decide_eq_true_eq, decide_eq_false_iff_not, Bool.not_eq_true', Bool.not_eq_false', ne_eq, Decidable.not_not, Int.not_lt, Int.not_le, not_false_eq_true] at h))
      | fail)
    · have e : c = [] := List.eq_nil_of_length_eq_zero (by omega)
      rcases hc with ⟨_, hc⟩ | hc
      · apply rq2 rfl rfl rfl
        · exact ⟨s1, ⟨u1, us1, by rw [hk], h1, rfl⟩, fun h0 => absurd hk h0, fun _ => ⟨h2, hc⟩⟩
        · exact ⟨fun w H => H.tail⟩
      · exact absurd e hc.ne
    · rcases hc with ⟨hc, _⟩ | hc
      · subst hc; simp at h
      · refine so_call rfl rfl rfl (cancel_ok _ u1 uc us1 s1 c hs1 (hc.okC hs1)) ?_
        rintro _ _ ⟨u2, us2, rfl, hu2, rfl⟩
        repeat' (first
          | (apply so_vo; (· exact voA); (· rfl))
          | refine so_nil ?_
          | refine q_go ?_
          | refine sw_region ?_
          | (refine goQ ?_; intro _ _)
          | refine go1 ?_
          | (refine goU ?_; intro nu)
          | (refine goB ?_; intro nb)
          | (refine goM ?_; intro nm)
          | (refine go2 ?_ ?_ <;> intro h <;> (try simp only [Bool.not_true, Bool.not_false, decide_eq_true_eq, decide_eq_false_iff_not, Bool.not_eq_true', Bool.not_eq_false', ne_eq, Decidable.not_not, Int.not_lt, Int.not_le, not_false_eq_true] at h))
          | fail)
        have hl : (cancelM s1 c).length = s1.length := (cancelK_sq hs1 c c.length).len
        have hless := cancelM_less hs1 hc
        have hnn := whole_nonneg (cancelM_ok hs1 hc)
        refine ⟨rfl, (u2, us2, cancelM s1 c), ⟨by simp only; omega, .step h2 hc⟩, by simp only; omega, ?_, HLess.sat inferInstance⟩
        (exact fsA)
end Go.Proofs.YtmhfhfhdblccjaaGreat
/-
  Sets of people as numbers: the sets within a set, one after the other.
-/
namespace Go.Proofs.YtmhfhfhdblccjaaGreat
set_option linter.unusedVariables false

theorem and_two (a b : Nat) : a &&& b = 2 * (a / 2 &&& b / 2) + (a % 2 &&& b % 2) := by
  have h := Nat.div_add_mod (a &&& b) 2
  have h1 : (a &&& b) / 2 = a / 2 &&& b / 2 := Nat.and_div_two
  have h2 : (a &&& b) % 2 = a % 2 &&& b % 2 := by
    have := Nat.and_mod_two_pow (a := a) (b := b) (n := 1)
    simpa using this
  omega
theorem bit_and (x y : Nat) (hx : x < 2) (hy : y < 2) : x &&& y = if x = 1 ∧ y = 1 then 1 else 0 := by
  have h1 : x = 0 ∨ x = 1 := by omega
  have h2 : y = 0 ∨ y = 1 := by omega
  rcases h1 with rfl | rfl <;> rcases h2 with rfl | rfl <;> rfl
theorem sub_two {p s : Nat} (h : p &&& s = p) : p / 2 &&& s / 2 = p / 2 ∧ (p % 2 = 1 → s % 2 = 1) := by
  have h1 := and_two p s
  rw [h, bit_and _ _ (Nat.mod_lt _ (by decide)) (Nat.mod_lt _ (by decide))] at h1
  have h2 := Nat.div_add_mod p 2
  by_cases g : p % 2 = 1 ∧ s % 2 = 1
  · rw [if_pos g] at h1; exact ⟨by omega, fun _ => g.2⟩
  · rw [if_neg g] at h1
    have h3 : p % 2 = 0 := by omega
    exact ⟨by omega, fun e => by omega⟩
/-- the next smaller set within a set -/
theorem sub_step : ∀ (part set p : Nat), part &&& set = part → p &&& set = p → p < part → p ≤ (part - 1) &&& set := by
  intro part
  induction part using Nat.strongRecOn with
  | _ part ih =>
    intro set p h1 h2 h3
    obtain ⟨a1, a2⟩ := sub_two h1
    obtain ⟨b1, b2⟩ := sub_two h2
    rw [and_two (part - 1) set, bit_and _ _ (Nat.mod_lt _ (by decide)) (Nat.mod_lt _ (by decide))]
    by_cases e : part % 2 = 1
    · have e1 : (part - 1) / 2 = part / 2 := by omega
      rw [e1, a1]
      omega
    · have e1 : (part - 1) / 2 = part / 2 - 1 := by omega
      have e2 : (part - 1) % 2 = 1 := by omega
      rw [e1]
      have := ih (part / 2) (by omega) (set / 2) (p / 2) a1 b1 (by omega)
      by_cases g2 : (part - 1) % 2 = 1 ∧ set % 2 = 1
      · rw [if_pos g2]; omega
      · rw [if_neg g2]
        have : p % 2 = 0 := by
          rcases Nat.mod_two_eq_zero_or_one p with g | g
          · exact g
          · exact absurd ⟨e2, b2 g⟩ g2
        omega
end Go.Proofs.YtmhfhfhdblccjaaGreat
/-
  Sets of people as numbers below 128: what the machine's operations do with them.
-/
namespace Go.Proofs.YtmhfhfhdblccjaaGreat
open Go
set_option linter.unusedVariables false
set_option maxRecDepth 100000
/-- the least one of a set, and a set without another one -/
def lowb (s : Nat) : Nat := s &&& (128 - s)
def less (s t : Nat) : Nat := s ^^^ (s &&& t)
theorem low_all : ∀ s : Fin 128, IntKind.i64.wrap ((BitVec.ofInt IntKind.i64.bits ((s.val : Nat) : Int) &&& BitVec.ofInt IntKind.i64.bits (-((s.val : Nat) : Int))).toNat : Int) = ((lowb s.val : Nat) : Int) := by decide +kernel
theorem less_all : ∀ s t : Fin 128, IntKind.i64.wrap ((BitVec.ofInt IntKind.i64.bits ((s.val : Nat) : Int) &&& ~~~ BitVec.ofInt IntKind.i64.bits ((t.val : Nat) : Int)).toNat : Int) = ((less s.val t.val : Nat) : Int) := by decide +kernel
end Go.Proofs.YtmhfhfhdblccjaaGreat
/-
  Sets of people as numbers; ways to part a set into sets whose sums are 0.
-/
namespace Go.Proofs.YtmhfhfhdblccjaaGreat
set_option linter.unusedVariables false

theorem bit_less (s t k : Nat) : (less s t).testBit k = (s.testBit k && !t.testBit k) := by
  unfold less; rw [Nat.testBit_xor, Nat.testBit_and]; cases s.testBit k <;> cases t.testBit k <;> rfl
/-- p lies within s -/
def Sub (p s : Nat) : Prop := ∀ k, p.testBit k = true → s.testBit k = true
theorem sub_and {p s : Nat} : p &&& s = p ↔ Sub p s := by
  constructor
  · intro h k hk
    rw [← h, Nat.testBit_and] at hk
    simp at hk; exact hk.2
  · intro h
    apply Nat.eq_of_testBit_eq; intro k
    rw [Nat.testBit_and]
    cases hp : p.testBit k with
    | false => simp
    | true => rw [h k hp]; rfl
theorem Sub.le {p s : Nat} (h : Sub p s) : p ≤ s := by rw [← sub_and] at h; rw [← h]; exact Nat.and_le_right
theorem less_add {p s : Nat} (h : Sub p s) : less s p + p = s := by
  have h1 : less s p &&& p = 0 := Nat.eq_of_testBit_eq fun k => by
    rw [Nat.testBit_and, bit_less, Nat.zero_testBit]; cases p.testBit k <;> simp
  have h2 : less s p ||| p = s := Nat.eq_of_testBit_eq fun k => by
    rw [Nat.testBit_or, bit_less]
    cases hp : p.testBit k with
    | false => simp
    | true => rw [h k hp]; rfl
  have key : ∀ a b : Nat, a &&& b = 0 → a + b = a ||| b := by
    intro a
    induction a using Nat.strongRecOn with
    | _ a ih =>
      intro b hab
      have e1 := and_two a b
      rw [hab] at e1
      have hb := bit_and (a % 2) (b % 2) (Nat.mod_lt _ (by decide)) (Nat.mod_lt _ (by decide))
      have h0 : a / 2 &&& b / 2 = 0 := by omega
      have h3 : a % 2 &&& b % 2 = 0 := by omega
      have hor : (a ||| b) = 2 * (a / 2 ||| b / 2) + (a % 2 ||| b % 2) := by
        have g := Nat.div_add_mod (a ||| b) 2
        have g1 : (a ||| b) / 2 = a / 2 ||| b / 2 := Nat.or_div_two
        have g2 : (a ||| b) % 2 = a % 2 ||| b % 2 := by
          have := Nat.or_mod_two_pow (a := a) (b := b) (n := 1)
          simpa using this
        omega
      have hbit : a % 2 ||| b % 2 = a % 2 + b % 2 := by
        have x1 : a % 2 = 0 ∨ a % 2 = 1 := by omega
        have x2 : b % 2 = 0 ∨ b % 2 = 1 := by omega
        rcases x1 with x1 | x1 <;> rcases x2 with x2 | x2 <;> rw [x1, x2] at h3 ⊢ <;> first | rfl | (simp at h3)
      rcases Nat.eq_zero_or_pos a with ha | ha
      · subst ha; simp
      · have := ih (a / 2) (by omega) (b / 2) h0
        rw [hor, hbit, ← this]; omega
  rw [key _ _ h1, h2]
theorem Sub.less {p s : Nat} : Sub (less s p) s := fun k h => by rw [bit_less] at h; simp at h; exact h.1
theorem ne_zero_bit {p : Nat} (h : p ≠ 0) : ∃ k, p.testBit k = true := Nat.exists_testBit_of_ne_zero h
theorem bit_lt {s n k : Nat} (h : s < 2 ^ n) (hk : s.testBit k = true) : k < n := by
  rcases Nat.lt_or_ge k n with h1 | h1
  · exact h1
  · have : s < 2 ^ k := Nat.lt_of_lt_of_le h (Nat.pow_le_pow_right (by decide) h1)
    rw [Nat.testBit_lt_two_pow this] at hk; cases hk
/-- the sum of the numbers of those in a set -/
def sumS (f : Nat → Int) (n s : Nat) : Int := sumN n fun k => if s.testBit k then f k else 0
theorem sumN_add : ∀ (n : Nat) (f g h : Nat → Int), (∀ i, i < n → h i = f i + g i) → sumN n h = sumN n f + sumN n g
  | 0, _, _, _, _ => rfl
  | n + 1, f, g, h, e => by simp only [sumN]; rw [sumN_add n f g h fun i hi => e i (by omega), e n (by omega)]; omega
theorem sumS_less (f : Nat → Int) (n : Nat) {p s : Nat} (h : Sub p s) : sumS f n s = sumS f n p + sumS f n (less s p) := by
  refine sumN_add _ _ _ _ fun k _ => ?_
  rw [bit_less]
  cases hp : p.testBit k with
  | false => simp
  | true => rw [h k hp]; simp
theorem sumN_z : ∀ n, sumN n (fun _ => 0) = 0
  | 0 => rfl
  | n + 1 => by simp only [sumN, sumN_z n]; rfl
theorem sumS_zero (f : Nat → Int) (n : Nat) : sumS f n 0 = 0 := by
  rw [← sumN_z n]; exact sumN_congr _ _ _ fun k _ => by simp
theorem sumS_congr (f g : Nat → Int) (n s : Nat) (h : ∀ k, k < n → s.testBit k = true → f k = g k) : sumS f n s = sumS g n s :=
  sumN_congr _ _ _ fun k hk => by
    cases hp : s.testBit k with
    | false => rfl
    | true => simp [h k hk hp]
/-- in how many sets somebody is -/
def cnt (P : List Nat) (k : Nat) : Nat := P.countP fun p => p.testBit k
/-- The sets P part the set S, and each adds up to 0. -/
structure Part (f : Nat → Int) (n S : Nat) (P : List Nat) : Prop where
  nz : ∀ p ∈ P, p ≠ 0
  zs : ∀ p ∈ P, sumS f n p = 0
  ct : ∀ k, cnt P k = if S.testBit k then 1 else 0
theorem cnt_cons (p : Nat) (P : List Nat) (k : Nat) : cnt (p :: P) k = cnt P k + if p.testBit k then 1 else 0 := by
  simp only [cnt, List.countP_cons]
theorem cnt_mem {P : List Nat} {p k : Nat} (h : p ∈ P) (hk : p.testBit k = true) : 1 ≤ cnt P k := List.countP_pos_iff.2 ⟨p, h, hk⟩
theorem Part.sub {f : Nat → Int} {n S : Nat} {P : List Nat} (h : Part f n S P) {p : Nat} (hp : p ∈ P) : Sub p S := fun k hk => by
  have h1 := cnt_mem hp hk
  have h2 := h.ct k
  split at h2
  · assumption
  · omega
theorem Part.cons {f : Nat → Int} {n S p : Nat} {P : List Nat} (h0 : p ≠ 0) (h1 : sumS f n p = 0) (h2 : Sub p S) (h : Part f n (less S p) P) : Part f n S (p :: P) := by
  refine ⟨fun q hq => ?_, fun q hq => ?_, fun k => ?_⟩
  · rcases List.mem_cons.1 hq with rfl | hq
    · exact h0
    · exact h.nz q hq
  · rcases List.mem_cons.1 hq with rfl | hq
    · exact h1
    · exact h.zs q hq
  · rw [cnt_cons, h.ct k, bit_less]
    cases hp : p.testBit k with
    | false => simp
    | true => rw [h2 k hp]; rfl
theorem Part.uncons {f : Nat → Int} {n S p : Nat} {P : List Nat} (h : Part f n S (p :: P)) : p ≠ 0 ∧ sumS f n p = 0 ∧ Sub p S ∧ Part f n (less S p) P := by
  have hs := h.sub (p := p) (by simp)
  refine ⟨h.nz p (by simp), h.zs p (by simp), hs, fun q hq => h.nz q (by simp [hq]), fun q hq => h.zs q (by simp [hq]), fun k => ?_⟩
  have h1 := h.ct k
  rw [cnt_cons] at h1
  rw [bit_less]
  cases hp : p.testBit k with
  | false => rw [hp] at h1; simp at h1 ⊢; exact h1
  | true => rw [hp, hs k hp] at h1; simp at h1 ⊢; omega
theorem Part.nil (f : Nat → Int) (n : Nat) : Part f n 0 [] := ⟨by simp, by simp, fun k => by simp [cnt]⟩
theorem Part.zero {f : Nat → Int} {n : Nat} {P : List Nat} (h : Part f n 0 P) : P = [] := by
  cases P with
  | nil => rfl
  | cons p P =>
    obtain ⟨h0, _, h2, _⟩ := h.uncons
    obtain ⟨k, hk⟩ := ne_zero_bit h0
    have := h2 k hk
    simp at this
theorem Part.of_nil {f : Nat → Int} {n S : Nat} (h : Part f n S []) : S = 0 := by
  apply Nat.eq_of_testBit_eq; intro k
  have := h.ct k
  rw [Nat.zero_testBit]
  cases hS : S.testBit k with
  | false => rfl
  | true => rw [hS] at this; simp [cnt] at this
theorem Part.perm {f : Nat → Int} {n S : Nat} {P P' : List Nat} (p : P.Perm P') (h : Part f n S P) : Part f n S P' :=
  ⟨fun q hq => h.nz q (p.mem_iff.2 hq), fun q hq => h.zs q (p.mem_iff.2 hq), fun k => by rw [← h.ct k]; unfold cnt; exact p.symm.countP_eq _⟩
theorem Part.sum {f : Nat → Int} {n : Nat} : ∀ {P : List Nat} {S : Nat}, Part f n S P → sumS f n S = 0
  | [], S, h => by rw [h.of_nil]; exact sumS_zero f n
  | p :: P, S, h => by
    obtain ⟨_, h1, h2, h3⟩ := h.uncons
    rw [sumS_less f n h2, h1, h3.sum]; rfl
/-- how many are in a set -/
def many (n s : Nat) : Int := sumS (fun _ => 1) n s
theorem sumS_nonneg (f : Nat → Int) (n s : Nat) (h : ∀ k, 0 ≤ f k) : 0 ≤ sumS f n s := sumN_nonneg _ _ fun i _ => by split; exact h i; exact Int.le_refl _
/-- One of a set is taken out. -/
theorem sub_one {s k : Nat} (h : s.testBit k = true) : Sub (2 ^ k) s := fun j hj => by
  rw [Nat.testBit_two_pow] at hj
  have : k = j := of_decide_eq_true hj
  subst this; exact h
theorem sumS_one (f : Nat → Int) {n k : Nat} (hk : k < n) : sumS f n (2 ^ k) = f k := by
  have := sumN_one k (f k) (fun _ => 0) (fun j => if (2 ^ k).testBit j then f j else 0) (by rw [Nat.testBit_two_pow]; simp) (fun i hi => by rw [Nat.testBit_two_pow]; simp [Ne.symm hi]) n
  unfold sumS; rw [this, sumN_z, if_pos hk]; omega
theorem many_ge_one {n s : Nat} (h : s < 2 ^ n) (h0 : s ≠ 0) : 1 ≤ many n s := by
  obtain ⟨k, hk⟩ := ne_zero_bit h0
  have hn := bit_lt h hk
  have := sumS_less (fun _ => 1) n (sub_one hk)
  rw [sumS_one _ hn] at this
  have := sumS_nonneg (fun _ => 1) n (less s (2 ^ k)) (fun _ => by decide)
  unfold many; omega
/-- A set that adds up to 0 without zeros has two. -/
theorem many_ge_two {f : Nat → Int} {n s : Nat} (h : s < 2 ^ n) (h0 : s ≠ 0) (hz : sumS f n s = 0) (hf : ∀ k, s.testBit k = true → f k ≠ 0) : 2 ≤ many n s := by
  obtain ⟨k, hk⟩ := ne_zero_bit h0
  have hn := bit_lt h hk
  have h1 := sumS_less (fun _ => 1) n (sub_one hk)
  rw [sumS_one _ hn] at h1
  have h2 := sumS_less f n (sub_one hk)
  rw [sumS_one _ hn, hz] at h2
  have h3 : less s (2 ^ k) ≠ 0 := fun e => by rw [e, sumS_zero] at h2; exact hf k hk (by omega)
  have h4 := many_ge_one (n := n) (s := less s (2 ^ k)) (Nat.lt_of_le_of_lt Sub.less.le h) h3
  unfold many at h4 ⊢; omega
theorem Part.two {f : Nat → Int} {n : Nat} : ∀ {P : List Nat} {S : Nat}, Part f n S P → S < 2 ^ n → (∀ k, S.testBit k = true → f k ≠ 0) → 2 * (P.length : Int) ≤ many n S
  | [], S, h, _, _ => by rw [h.of_nil]; simp only [List.length_nil, many, sumS_zero]; decide
  | p :: P, S, h, hS, hf => by
    obtain ⟨h0, h1, h2, h3⟩ := h.uncons
    have g1 := many_ge_two (Nat.lt_of_le_of_lt h2.le hS) h0 h1 (fun k hk => hf k (h2 k hk))
    have g2 := h3.two (Nat.lt_of_le_of_lt Sub.less.le hS) (fun k hk => hf k (Sub.less k hk))
    have g3 := sumS_less (fun _ => 1) n h2
    unfold many at *
    simp only [List.length_cons]; omega
end Go.Proofs.YtmhfhfhdblccjaaGreat
/-
  Payments that settle: as many at least as there are people whose net is not 0, less the groups.
-/
namespace Go.Proofs.YtmhfhfhdblccjaaGreat
set_option linter.unusedVariables false

/-- what payments do to the net of k -/
def eff : List (Int × Int × Int) → Int → Int
  | [], _ => 0
  | (a, b, m) :: x, k => (if a = k then m else 0) - (if b = k then m else 0) + eff x k
theorem eff_app (x y : List (Int × Int × Int)) (k : Int) : eff (x ++ y) k = eff x k + eff y k := by
  induction x with
  | nil => simp [eff]
  | cons p x ih => obtain ⟨a, b, m⟩ := p; simp only [List.cons_append, eff, ih]; omega
theorem sumS_pt (c : Int) {n a : Nat} (ha : a < n) (p : Nat) : sumS (fun k => if k = a then c else 0) n p = if p.testBit a then c else 0 := by
  have := sumN_one a (if p.testBit a then c else 0) (fun _ => 0) (fun j => if p.testBit j then (if j = a then c else 0) else 0) (by simp) (fun i hi => by simp [hi]) n
  unfold sumS; rw [this, sumN_z, if_pos ha]; omega
theorem sumS_add (f g h : Nat → Int) (n s : Nat) (e : ∀ k, k < n → h k = f k + g k) : sumS h n s = sumS f n s + sumS g n s :=
  sumN_add _ _ _ _ fun k hk => by split; exact e k hk; rfl
theorem part_ones (f : Nat → Int) (n : Nat) (hf : ∀ k, k < n → f k = 0) : ∀ m, m ≤ n → ∃ P, Part f n (2 ^ m - 1) P ∧ P.length = m
  | 0, _ => ⟨[], by simpa using Part.nil f n, rfl⟩
  | m + 1, hm => by
    obtain ⟨P, h1, h2⟩ := part_ones f n hf m (by omega)
    have hs : Sub (2 ^ m) (2 ^ (m + 1) - 1) := sub_one (by rw [Nat.testBit_two_pow_sub_one]; simp)
    have hl : less (2 ^ (m + 1) - 1) (2 ^ m) = 2 ^ m - 1 := Nat.eq_of_testBit_eq fun k => by
      rw [bit_less, Nat.testBit_two_pow_sub_one, Nat.testBit_two_pow_sub_one, Nat.testBit_two_pow]
      by_cases h : k < m
      · simp [h, show k < m + 1 by omega, show ¬ m = k by omega]
      · by_cases h2 : m = k
        · simp [h2]
        · simp [h, h2, show ¬ k < m + 1 by omega]
    exact ⟨2 ^ m :: P, Part.cons (by have := Nat.two_pow_pos m; omega) (by rw [sumS_one f (by omega)]; exact hf m (by omega)) hs (by rw [hl]; exact h1), by simp [h2]⟩
theorem cnt_perm {P P' : List Nat} (p : P.Perm P') (k : Nat) : cnt P k = cnt P' k := p.countP_eq _
theorem Part.find {f : Nat → Int} {n S k : Nat} {P : List Nat} (h : Part f n S P) (hk : S.testBit k = true) : ∃ p R, P.Perm (p :: R) ∧ p.testBit k = true := by
  have h1 := h.ct k
  rw [hk] at h1
  have h2 : 0 < P.countP (fun p => p.testBit k) := by unfold cnt at h1; simp at h1; omega
  obtain ⟨p, hp, hb⟩ := List.countP_pos_iff.1 h2
  exact ⟨p, P.erase p, List.perm_cons_erase hp, hb⟩
theorem settle_whole (n : Nat) : ∀ (x : List (Int × Int × Int)) (f : Nat → Int), (∀ p ∈ x, 0 ≤ p.1 ∧ p.1 < n ∧ 0 ≤ p.2.1 ∧ p.2.1 < n) → (∀ k : Nat, k < n → f k + eff x k = 0) → ∃ P, Part f n (2 ^ n - 1) P ∧ n ≤ P.length + x.length
  | [], f, _, hf => by
    obtain ⟨P, h1, h2⟩ := part_ones f n (fun k hk => by have := hf k hk; simpa [eff] using this) n (Nat.le_refl _)
    exact ⟨P, h1, by simp [h2]⟩
  | (a, b, m) :: x, f, hx, hf => by
    have hab := hx (a, b, m) (by simp)
    simp only at hab
    obtain ⟨a', ea⟩ : ∃ a' : Nat, (a' : Int) = a := ⟨a.toNat, by omega⟩
    obtain ⟨b', eb⟩ : ∃ b' : Nat, (b' : Int) = b := ⟨b.toNat, by omega⟩
    have ha : a' < n := by omega
    have hb : b' < n := by omega
    obtain ⟨P, h1, h2⟩ := settle_whole n x (fun k => f k + ((if a = k then m else 0) - (if b = k then m else 0))) (fun p hp => hx p (by simp [hp])) (fun k hk => by
      have := hf k hk
      simp only [eff] at this
      omega)
    have key : ∀ p : Nat, sumS f n p = sumS (fun k => f k + ((if a = k then m else 0) - (if b = k then m else 0))) n p - (if p.testBit a' then m else 0) + (if p.testBit b' then m else 0) := fun p => by
      have e1 := sumS_add f (fun k => (if k = a' then m else 0) + (if k = b' then -m else 0)) (fun k => f k + ((if a = k then m else 0) - (if b = k then m else 0))) n p (fun k hk => by
        have g1 : (a = (k : Int)) ↔ k = a' := by omega
        have g2 : (b = (k : Int)) ↔ k = b' := by omega
        simp only [g1, g2]; split <;> split <;> omega)
      have e2 := sumS_add (fun k => if k = a' then m else 0) (fun k => if k = b' then -m else 0) (fun k => (if k = a' then m else 0) + (if k = b' then -m else 0)) n p (fun k hk => rfl)
      rw [sumS_pt m ha, sumS_pt (-m) hb] at e2
      rw [e1, e2]
      split <;> split <;> omega
    have hSa : (2 ^ n - 1).testBit a' = true := by rw [Nat.testBit_two_pow_sub_one]; simp [ha]
    have hSb : (2 ^ n - 1).testBit b' = true := by rw [Nat.testBit_two_pow_sub_one]; simp [hb]
    obtain ⟨p, R, hp, hpa⟩ := h1.find hSa
    have h3 := h1.perm hp
    have hlen := hp.length_eq
    have ca := h3.ct a'
    rw [cnt_cons, hpa, hSa] at ca
    simp at ca
    have hRa : ∀ q ∈ R, q.testBit a' = false := fun q hq => by
      cases hq2 : q.testBit a' with
      | false => rfl
      | true => have := cnt_mem hq hq2; omega
    by_cases hpb : p.testBit b' = true
    · have cb := h3.ct b'
      rw [cnt_cons, hpb, hSb] at cb
      simp at cb
      have hRb : ∀ q ∈ R, q.testBit b' = false := fun q hq => by
        cases hq2 : q.testBit b' with
        | false => rfl
        | true => have := cnt_mem hq hq2; omega
      refine ⟨p :: R, ⟨h3.nz, fun q hq => ?_, h3.ct⟩, by simp only [List.length_cons] at hlen ⊢; omega⟩
      have hz := h3.zs q hq
      rw [key, hz]
      rcases List.mem_cons.1 hq with rfl | hq
      · rw [hpa, hpb]; simp; omega
      · rw [hRa q hq, hRb q hq]; simp
    · have hpb' : p.testBit b' = false := by simpa using hpb
      have cb := h3.ct b'
      rw [cnt_cons, hpb', hSb] at cb
      simp at cb
      have : 0 < R.countP (fun p => p.testBit b') := by unfold cnt at cb; omega
      obtain ⟨q, hq, hqb⟩ := List.countP_pos_iff.1 this
      have hp2 := List.perm_cons_erase hq
      have h4 := h3.perm (hp2.cons p)
      have hlen2 := hp2.length_eq
      have hqa := hRa q hq
      have hdis : ∀ k, p.testBit k = true → q.testBit k = false := fun k hk => by
        have := h4.ct k
        rw [cnt_cons, cnt_cons, hk] at this
        cases hq2 : q.testBit k with
        | false => rfl
        | true => rw [hq2] at this; simp at this; split at this <;> omega
      have hEb : ∀ r ∈ R.erase q, r.testBit b' = false := fun r hr => by
        cases hr2 : r.testBit b' with
        | false => rfl
        | true =>
          have c1 := h4.ct b'
          rw [cnt_cons, cnt_cons, hqb, hSb] at c1
          have := cnt_mem hr hr2
          simp at c1; omega
      have hsub : Sub p (p ||| q) := fun k hk => by rw [Nat.testBit_or, hk]; rfl
      have hless : less (p ||| q) p = q := Nat.eq_of_testBit_eq fun k => by
        rw [bit_less, Nat.testBit_or]
        cases hk : p.testBit k with
        | false => simp
        | true => rw [hdis k hk]; rfl
      refine ⟨(p ||| q) :: R.erase q, ⟨fun r hr => ?_, fun r hr => ?_, fun k => ?_⟩, by simp only [List.length_cons] at hlen hlen2 ⊢; omega⟩
      · rcases List.mem_cons.1 hr with rfl | hr
        · intro e
          have : (p ||| q).testBit a' = true := hsub a' hpa
          rw [e] at this; simp at this
        · exact h4.nz r (by simp [hr])
      · rcases List.mem_cons.1 hr with rfl | hr
        · rw [sumS_less f n hsub, hless, key p, key q, h4.zs p (by simp), h4.zs q (by simp), hpa, hpb', hqa, hqb]; simp; omega
        · rw [key, h4.zs r (by simp [hr]), hRa r (List.mem_of_mem_erase hr), hEb r hr]; simp
      · have := h4.ct k
        rw [cnt_cons, cnt_cons] at this
        rw [cnt_cons, Nat.testBit_or, ← this]
        cases hk : p.testBit k with
        | false => simp
        | true => rw [hdis k hk]; simp
/-- One whose number is 0 is left out. -/
theorem Part.drop {f : Nat → Int} {n S k : Nat} {P : List Nat} (h : Part f n S P) (hk : S.testBit k = true) (hn : k < n) (hf : f k = 0) : ∃ P', Part f n (less S (2 ^ k)) P' ∧ P.length ≤ P'.length + 1 := by
  obtain ⟨p, R, hp, hpk⟩ := h.find hk
  have h3 := h.perm hp
  have hlen := hp.length_eq
  obtain ⟨g0, g1, g2, g3⟩ := h3.uncons
  have hs := sub_one hpk
  by_cases e : less p (2 ^ k) = 0
  · have ep : p = 2 ^ k := by have := less_add hs; omega
    refine ⟨R, by rw [← ep]; exact g3, by simp only [List.length_cons] at hlen; omega⟩
  · have e2 : less (less S (2 ^ k)) (less p (2 ^ k)) = less S p := Nat.eq_of_testBit_eq fun j => by
      simp only [bit_less]
      by_cases hj : k = j
      · subst hj; simp [hpk, Nat.testBit_two_pow_self]
      · have : (2 ^ k).testBit j = false := by rw [Nat.testBit_two_pow]; simp [hj]
        simp [this]
    have g4 := sumS_less f n hs
    rw [sumS_one f hn, hf, g1] at g4
    refine ⟨less p (2 ^ k) :: R, Part.cons e (by omega) (fun j hj => ?_) (by rw [e2]; exact g3), by simp only [List.length_cons] at hlen ⊢; omega⟩
    rw [bit_less] at hj ⊢
    simp only [Bool.and_eq_true, Bool.not_eq_true'] at hj ⊢
    exact ⟨g2 j hj.1, hj.2⟩
/-- those whose number is not 0, and how many they are -/
def allS (f : Nat → Int) : Nat → Nat
  | 0 => 0
  | n + 1 => if f n ≠ 0 then allS f n ||| 2 ^ n else allS f n
def openN (f : Nat → Int) : Nat → Nat
  | 0 => 0
  | n + 1 => openN f n + if f n ≠ 0 then 1 else 0
theorem bit_all (f : Nat → Int) (k : Nat) : ∀ n, (allS f n).testBit k = (decide (k < n) && decide (f k ≠ 0))
  | 0 => by simp [allS]
  | n + 1 => by
    unfold allS
    by_cases h : f n = 0
    · rw [if_neg (by simpa using h), bit_all f k n]
      by_cases hk : k = n
      · subst hk; simp [h]
      · have : decide (k < n + 1) = decide (k < n) := by rw [decide_eq_decide]; omega
        rw [this]
    · rw [if_pos h, Nat.testBit_or, bit_all f k n, Nat.testBit_two_pow]
      by_cases hk : k = n
      · subst hk; simp [h]
      · have h1 : decide (k < n + 1) = decide (k < n) := by rw [decide_eq_decide]; omega
        rw [h1]; simp [Ne.symm hk]
theorem allS_lt (f : Nat → Int) (n : Nat) : allS f n < 2 ^ n := Nat.lt_pow_two_of_testBit _ fun k hk => by rw [bit_all]; simp; omega
theorem openN_le (f : Nat → Int) : ∀ n, openN f n ≤ n
  | 0 => Nat.le_refl _
  | n + 1 => by have := openN_le f n; unfold openN; split <;> omega
theorem many_all (f : Nat → Int) (n : Nat) : many n (allS f n) = openN f n := by
  have h1 : ∀ m, sumN m (fun k => if f k ≠ 0 then 1 else 0) = openN f m := fun m => by
    induction m with
    | zero => rfl
    | succ m ih => simp only [sumN, ih, openN]; split <;> simp
  unfold many sumS
  rw [← h1 n]
  exact sumN_congr _ _ _ fun k hk => by rw [bit_all]; simp [hk]
theorem part_open (f : Nat → Int) (n : Nat) {P0 : List Nat} (h : Part f n (2 ^ n - 1) P0) : ∀ m, m ≤ n → ∃ S P, (∀ k, S.testBit k = (decide (k < n) && (decide (m ≤ k) || decide (f k ≠ 0)))) ∧ Part f n S P ∧ P0.length + openN f m ≤ P.length + m
  | 0, _ => ⟨2 ^ n - 1, P0, fun k => by rw [Nat.testBit_two_pow_sub_one]; simp, h, by simp [openN]⟩
  | m + 1, hm => by
    obtain ⟨S, P, h1, h2, h3⟩ := part_open f n h m (by omega)
    by_cases e : f m = 0
    · obtain ⟨P', g1, g2⟩ := h2.drop (k := m) (by rw [h1]; simp; omega) (by omega) e
      refine ⟨less S (2 ^ m), P', fun k => ?_, g1, by unfold openN; rw [if_neg (by simpa using e)]; omega⟩
      rw [bit_less, h1, Nat.testBit_two_pow]
      by_cases hk : m = k
      · subst hk; simp [e]
      · have : decide (m + 1 ≤ k) = decide (m ≤ k) := by rw [decide_eq_decide]; omega
        rw [this]; simp [hk]
    · refine ⟨S, P, fun k => ?_, h2, by unfold openN; rw [if_pos e]; omega⟩
      rw [h1]
      by_cases hk : m = k
      · subst hk; simp [e]
      · have : decide (m + 1 ≤ k) = decide (m ≤ k) := by rw [decide_eq_decide]; omega
        rw [this]
/-- Payments that settle show a way to put people into groups. -/
theorem settle_part (n : Nat) (x : List (Int × Int × Int)) (f : Nat → Int) (hx : ∀ p ∈ x, 0 ≤ p.1 ∧ p.1 < n ∧ 0 ≤ p.2.1 ∧ p.2.1 < n) (hf : ∀ k : Nat, k < n → f k + eff x k = 0) : ∃ P, Part f n (allS f n) P ∧ openN f n ≤ P.length + x.length := by
  obtain ⟨P0, h1, h2⟩ := settle_whole n x f hx hf
  obtain ⟨S, P, g1, g2, g3⟩ := part_open f n h1 n (Nat.le_refl _)
  have e : S = allS f n := Nat.eq_of_testBit_eq fun k => by
    rw [g1, bit_all]
    by_cases hk : k < n
    · simp [hk, show ¬ n ≤ k by omega]
    · simp [hk]
  rw [e] at g2
  exact ⟨P, g2, by omega⟩
end Go.Proofs.YtmhfhfhdblccjaaGreat
