/-
  Settlements in plain terms: each group is settled by payments of its first ones.
-/
import Derived.Test.YtmhfhfhdblccjaaGreatC7
namespace Go.Proofs.YtmhfhfhdblccjaaGreat
set_option linter.unusedVariables false

def gv (o : List Int) (k : Int) : Int := o.getD k.toNat 0
/-- what one payment does to the nets -/
def payStep (o : List Int) (p : Int × Int × Int) : List Int := netStep p.2.1.toNat o (p.2.2, p.1.toNat)
theorem payStep_len (o : List Int) (p : Int × Int × Int) : (payStep o p).length = o.length := netStep_len _ _ _
theorem payStep_gv {o : List Int} {p : Int × Int × Int} {k : Int} (h1 : 0 ≤ p.1 ∧ p.1 < o.length) (h2 : 0 ≤ p.2.1 ∧ p.2.1 < o.length) (hk : 0 ≤ k) : gv (payStep o p) k = gv o k + (if p.1 = k then p.2.2 else 0) - (if p.2.1 = k then p.2.2 else 0) := by
  unfold payStep gv
  rw [netStep_getD _ _ _ _ (by simp only; omega) (by omega)]
  have e1 : (k.toNat = p.1.toNat) ↔ p.1 = k := by omega
  have e2 : (k.toNat = p.2.1.toNat) ↔ p.2.1 = k := by omega
  simp only [e1, e2]
def much (o : List Int) (a b : Int) : Int := min (max (gv o a) (-gv o a)) (max (gv o b) (-gv o b))
def prom (o : List Int) (a b : Int) : Int × Int × Int := if 0 < gv o a then (b, a, much o a b) else (a, b, much o a b)
def idle (o : List Int) (a b : Int) : Prop := much o a b = 0 ∨ decide (0 < gv o a) = decide (0 < gv o b)
instance (o : List Int) (a b : Int) : Decidable (idle o a b) := inferInstanceAs (Decidable (_ ∨ _))
abbrev PS := List Int × List (Int × Int × Int)
def stepAB (a : Int) (s : PS) (b : Int) : PS := if idle s.1 a b then s else (payStep s.1 (prom s.1 a b), s.2 ++ [prom s.1 a b])
def rowS (l : List Int) (s : PS) (i : Nat) : PS := (l.drop (i + 1)).foldl (stepAB (l.getD i 0)) s
def groupS (s : PS) (l : List Int) : PS := (List.range l.length).foldl (rowS l) s
def settleM (gs : List (List Int)) (s : PS) : PS := gs.foldl groupS s
/-- What is always so: numbers within bounds, payments that are right, and what they did to the nets g. -/
structure OkS (n : Nat) (g : Int → Int) (s : PS) : Prop where
  len : s.1.length = n
  bd : ∀ k, -6000000 ≤ gv s.1 k ∧ gv s.1 k ≤ 6000000
  is : ∀ k : Int, 0 ≤ k → k < n → gv s.1 k = g k + eff s.2 k
  ok : ∀ p ∈ s.2, 0 ≤ p.1 ∧ p.1 < n ∧ 0 ≤ p.2.1 ∧ p.2.1 < n ∧ p.1 ≠ p.2.1 ∧ 1 ≤ p.2.2 ∧ p.2.2 ≤ 6000000
theorem not_idle {o : List Int} {a b : Int} (h : ¬ idle o a b) : gv o a ≠ 0 ∧ gv o b ≠ 0 ∧ (0 < gv o a → gv o b < 0) ∧ (gv o a < 0 → 0 < gv o b) ∧ 1 ≤ much o a b := by
  unfold idle much at h
  unfold much
  have h1 : ¬ min (max (gv o a) (-gv o a)) (max (gv o b) (-gv o b)) = 0 := fun e => h (.inl e)
  have h2 : ¬ ((0 < gv o a) ↔ (0 < gv o b)) := fun e => h (.inr (by simp only [e]))
  refine ⟨by omega, by omega, fun g => ?_, fun g => ?_, by omega⟩
  · have : ¬ 0 < gv o b := fun e => h2 ⟨fun _ => e, fun _ => g⟩
    omega
  · have : 0 < gv o b := by
      rcases Classical.em (0 < gv o b) with e | e
      · exact e
      · exact absurd ⟨fun x => absurd x (by omega), fun x => absurd x e⟩ h2
    omega
theorem prom_rng {o : List Int} {a b : Int} (n : Nat) (ha : 0 ≤ a ∧ a < n) (hb : 0 ≤ b ∧ b < n) : 0 ≤ (prom o a b).1 ∧ (prom o a b).1 < n ∧ 0 ≤ (prom o a b).2.1 ∧ (prom o a b).2.1 < n := by
  unfold prom; split <;> simp only <;> omega
/-- what a payment of a or to a does -/
theorem step_gv {o : List Int} {a b : Int} (ha : 0 ≤ a ∧ a < o.length) (hb : 0 ≤ b ∧ b < o.length) (hab : a ≠ b) (h : ¬ idle o a b) {k : Int} (hk : 0 ≤ k) :
    gv (payStep o (prom o a b)) k = if k = a then (if 0 < gv o a then gv o a - much o a b else gv o a + much o a b) else if k = b then (if 0 < gv o a then gv o b + much o a b else gv o b - much o a b) else gv o k := by
  have hr := prom_rng (o := o) o.length ha hb
  rw [payStep_gv ⟨hr.1, hr.2.1⟩ hr.2.2 hk]
  unfold prom
  by_cases g : 0 < gv o a
  · simp only [if_pos g]
    by_cases e1 : k = a
    · subst e1; rw [if_neg (Ne.symm hab), if_pos rfl, if_pos rfl]; omega
    · rw [if_neg e1]
      by_cases e2 : k = b
      · subst e2; rw [if_pos rfl, if_neg hab, if_pos rfl]; omega
      · rw [if_neg e2, if_neg (Ne.symm e2), if_neg (Ne.symm e1)]; omega
  · simp only [if_neg g]
    by_cases e1 : k = a
    · subst e1; rw [if_pos rfl, if_neg (Ne.symm hab), if_pos rfl]; omega
    · rw [if_neg e1]
      by_cases e2 : k = b
      · subst e2; rw [if_neg hab, if_pos rfl, if_pos rfl]; omega
      · rw [if_neg e2, if_neg (Ne.symm e1), if_neg (Ne.symm e2)]; omega
theorem eff_one (a b m k : Int) : eff [(a, b, m)] k = (if a = k then m else 0) - (if b = k then m else 0) := by simp [eff]
theorem OkS.step {n : Nat} {g : Int → Int} {s : PS} (h : OkS n g s) {a b : Int} (ha : 0 ≤ a ∧ a < n) (hb : 0 ≤ b ∧ b < n) (hab : a ≠ b) : OkS n g (stepAB a s b) := by
  unfold stepAB
  split
  · exact h
  · rename_i hi
    have ha' : 0 ≤ a ∧ a < s.1.length := by rw [h.len]; exact ha
    have hb' : 0 ≤ b ∧ b < s.1.length := by rw [h.len]; exact hb
    have hr := prom_rng (o := s.1) s.1.length ha' hb'
    obtain ⟨n1, n2, n3, n4, n5⟩ := not_idle hi
    have hm : much s.1 a b ≤ 6000000 := by have := h.bd a; have := h.bd b; unfold much; omega
    have hm2 : much s.1 a b ≤ max (gv s.1 a) (-gv s.1 a) ∧ much s.1 a b ≤ max (gv s.1 b) (-gv s.1 b) := by unfold much; omega
    refine ⟨by simp only [payStep_len]; exact h.len, fun k => ?_, fun k h0 hk => ?_, fun p hp => ?_⟩
    · simp only
      have e : gv (payStep s.1 (prom s.1 a b)) k = gv (payStep s.1 (prom s.1 a b)) (k.toNat : Int) := by unfold gv; rw [Int.toNat_natCast]
      rw [e, step_gv ha' hb' hab hi (by omega)]
      have b1 := h.bd a
      have b2 := h.bd b
      have b3 := h.bd (k.toNat : Int)
      split
      · split <;> omega
      · split
        · split <;> omega
        · exact b3
    · simp only
      rw [payStep_gv ⟨hr.1, hr.2.1⟩ hr.2.2 h0, h.is k h0 hk, eff_app]
      have : eff [prom s.1 a b] k = (if (prom s.1 a b).1 = k then (prom s.1 a b).2.2 else 0) - (if (prom s.1 a b).2.1 = k then (prom s.1 a b).2.2 else 0) := eff_one _ _ _ _
      rw [this]; omega
    · rcases List.mem_append.1 hp with hp | hp
      · exact h.ok p hp
      · simp only [List.mem_singleton] at hp
        subst hp
        rw [h.len] at hr
        refine ⟨hr.1, hr.2.1, hr.2.2.1, hr.2.2.2, ?_, ?_, ?_⟩
        · unfold prom; split <;> simp only <;> omega
        · unfold prom; split <;> simp only <;> omega
        · unfold prom; split <;> simp only <;> omega
theorem stepAB_len (a : Int) (s : PS) (b : Int) : (stepAB a s b).2.length ≤ s.2.length + 1 := by
  unfold stepAB; split <;> simp
/-- People of a group: in range, and each one once. -/
structure OkG (n : Nat) (l : List Int) : Prop where
  rng : ∀ x ∈ l, 0 ≤ x ∧ x < n
  nd : l.Nodup
theorem OkG.at {n : Nat} {l : List Int} (h : OkG n l) {i : Nat} (hi : i < l.length) : 0 ≤ l.getD i 0 ∧ l.getD i 0 < n := h.rng _ (List.mem_of_getElem? (getD_get hi))
theorem OkG.ne {n : Nat} {l : List Int} (h : OkG n l) {i j : Nat} (hi : i < l.length) (hj : j < l.length) (hij : i ≠ j) : l.getD i 0 ≠ l.getD j 0 := fun e => hij (nodup_getD h.nd hi hj e)
theorem OkG.len {n : Nat} {l : List Int} (h : OkG n l) : l.length ≤ n := nodup_len _ _ h.nd h.rng
theorem getD_drop' (l : List Int) (i j : Nat) : (l.drop i).getD j 0 = l.getD (i + j) 0 := by simp [List.getD, List.getElem?_drop]
theorem fold_step {n : Nat} {g : Int → Int} {l : List Int} (hl : OkG n l) {i : Nat} (hi : i < l.length) : ∀ (j : Nat), j ≤ l.length - (i + 1) → ∀ s : PS, OkS n g s → OkS n g (((l.drop (i + 1)).take j).foldl (stepAB (l.getD i 0)) s) ∧ (((l.drop (i + 1)).take j).foldl (stepAB (l.getD i 0)) s).2.length ≤ s.2.length + j
  | 0, _, s, h => by simpa using h
  | j + 1, hj, s, h => by
    obtain ⟨h1, h2⟩ := fold_step hl hi j (by omega) s h
    have hx := getD_get (xs := l.drop (i + 1)) (k := j) (by simp; omega)
    rw [take_snoc hx, List.foldl_append]
    simp only [List.foldl_cons, List.foldl_nil]
    rw [getD_drop'] at hx ⊢
    refine ⟨h1.step (hl.at hi) (hl.at (by omega)) (hl.ne hi (by omega) (by omega)), ?_⟩
    have := stepAB_len (l.getD i 0) (((l.drop (i + 1)).take j).foldl (stepAB (l.getD i 0)) s) (l.getD (i + 1 + j) 0)
    omega
theorem rowS_ok {n : Nat} {g : Int → Int} {l : List Int} (hl : OkG n l) {i : Nat} (hi : i < l.length) {s : PS} (h : OkS n g s) : OkS n g (rowS l s i) ∧ (rowS l s i).2.length ≤ s.2.length + l.length := by
  have := fold_step (g := g) hl hi (l.length - (i + 1)) (Nat.le_refl _) s h
  rw [List.take_of_length_le (by simp)] at this
  exact ⟨this.1, by have := this.2; unfold rowS; omega⟩
theorem rows_ok {n : Nat} {g : Int → Int} {l : List Int} (hl : OkG n l) {s : PS} (h : OkS n g s) : ∀ i, i ≤ l.length → OkS n g ((List.range i).foldl (rowS l) s) ∧ ((List.range i).foldl (rowS l) s).2.length ≤ s.2.length + i * l.length
  | 0, _ => by simpa using h
  | i + 1, hi => by
    obtain ⟨h1, h2⟩ := rows_ok hl h i (by omega)
    rw [List.range_succ, List.foldl_append]
    obtain ⟨h3, h4⟩ := rowS_ok hl (i := i) (by omega) h1
    refine ⟨h3, ?_⟩
    simp only [List.foldl_cons, List.foldl_nil, Nat.succ_mul] at h4 ⊢
    omega
end Go.Proofs.YtmhfhfhdblccjaaGreat
/-
  Settlements in plain terms: each group is settled by fewer payments than it has people.
-/
namespace Go.Proofs.YtmhfhfhdblccjaaGreat
set_option linter.unusedVariables false

def lsum (f : Int → Int) (l : List Int) : Int := (l.map f).sum
theorem lsum_cons (f : Int → Int) (x : Int) (l : List Int) : lsum f (x :: l) = f x + lsum f l := by simp [lsum]
theorem lsum_congr {f g : Int → Int} : ∀ {l : List Int}, (∀ x ∈ l, f x = g x) → lsum f l = lsum g l
  | [], _ => rfl
  | x :: l, h => by rw [lsum_cons, lsum_cons, h x (by simp), lsum_congr fun y hy => h y (by simp [hy])]
theorem lsum_one {f g : Int → Int} {a : Int} : ∀ {l : List Int}, l.Nodup → a ∈ l → (∀ x ∈ l, x ≠ a → g x = f x) → lsum g l = lsum f l + (g a - f a)
  | [], _, h, _ => by cases h
  | x :: l, hn, ha, h => by
    rw [List.nodup_cons] at hn
    rw [lsum_cons, lsum_cons]
    by_cases e : x = a
    · subst e
      rw [lsum_congr fun y hy => h y (by simp [hy]) (fun e => hn.1 (e ▸ hy))]; omega
    · have ha' : a ∈ l := by rcases List.mem_cons.1 ha with h1 | h1; (· exact absurd h1.symm e); (· exact h1)
      rw [lsum_one hn.2 ha' fun y hy hne => h y (by simp [hy]) hne, h x (by simp) e]; omega
theorem lsum_two {f g : Int → Int} {a b : Int} {l : List Int} (hn : l.Nodup) (ha : a ∈ l) (hb : b ∈ l) (hab : a ≠ b) (h : ∀ x ∈ l, x ≠ a → x ≠ b → g x = f x) : lsum g l = lsum f l + (g a - f a) + (g b - f b) := by
  have h1 := lsum_one (f := f) (g := fun x => if x = a then g a else f x) hn ha (fun x _ hx => if_neg hx)
  have h2 := lsum_one (f := fun x => if x = a then g a else f x) (g := g) hn hb (fun x hx hxb => by
    by_cases e : x = a
    · subst e; simp
    · simp only [if_neg e]; exact h x hx e hxb)
  rw [h2, h1]
  simp only [if_pos, if_neg (Ne.symm hab)]
theorem lsum_nonneg {f : Int → Int} : ∀ {l : List Int}, (∀ x ∈ l, 0 ≤ f x) → 0 ≤ lsum f l
  | [], _ => Int.le_refl _
  | x :: l, h => by rw [lsum_cons]; have := h x (by simp); have := lsum_nonneg fun y hy => h y (List.mem_cons_of_mem x hy); omega
theorem lsum_nonpos {f : Int → Int} : ∀ {l : List Int}, (∀ x ∈ l, f x ≤ 0) → lsum f l ≤ 0
  | [], _ => Int.le_refl _
  | x :: l, h => by rw [lsum_cons]; have := h x (by simp); have := lsum_nonpos fun y hy => h y (List.mem_cons_of_mem x hy); omega
/-- how many numbers are not 0 -/
def nzs (f : Int → Int) (l : List Int) : Int := lsum (fun k => if f k ≠ 0 then 1 else 0) l
theorem nzs_nonneg (f : Int → Int) (l : List Int) : 0 ≤ nzs f l := lsum_nonneg fun x _ => by split <;> decide
theorem nzs_le (f : Int → Int) : ∀ l : List Int, nzs f l ≤ l.length
  | [] => Int.le_refl _
  | x :: l => by have := nzs_le f l; unfold nzs at *; rw [lsum_cons]; simp only [List.length_cons]; split <;> omega
/-- What is counted: payments, and those who are left. -/
def Cnt (c0 : Nat) (l : List Int) (s : PS) : Prop := (s.2.length : Int) + nzs (gv s.1) l ≤ c0 + l.length ∧ (nzs (gv s.1) l = 0 → (s.2.length : Int) + 1 ≤ c0 + l.length)
theorem Cnt.step {n : Nat} {g : Int → Int} {l : List Int} {s : PS} (hl : OkG n l) (hs : OkS n g s) {c0 : Nat} (h : Cnt c0 l s) {a b : Int} (ha : a ∈ l) (hb : b ∈ l) (hab : a ≠ b) : Cnt c0 l (stepAB a s b) := by
  by_cases hi : idle s.1 a b
  · unfold stepAB; rw [if_pos hi]; exact h
  · have e : stepAB a s b = (payStep s.1 (prom s.1 a b), s.2 ++ [prom s.1 a b]) := by unfold stepAB; rw [if_neg hi]
    have ra := hl.rng a ha
    have rb := hl.rng b hb
    obtain ⟨n1, n2, n3, n4, n5⟩ := not_idle hi
    have hgv : ∀ k : Int, 0 ≤ k → _ := fun k hk => step_gv (o := s.1) (by rw [hs.len]; exact ra) (by rw [hs.len]; exact rb) hab hi hk
    have hA := hgv a ra.1
    have hB := hgv b rb.1
    rw [if_pos rfl] at hA
    rw [if_neg (Ne.symm hab), if_pos rfl] at hB
    have h2 := lsum_two (f := fun k => if gv s.1 k ≠ 0 then 1 else 0) (g := fun k => if gv (payStep s.1 (prom s.1 a b)) k ≠ 0 then 1 else 0) hl.nd ha hb hab (fun x hx h1 h2 => by
      have := hgv x (hl.rng x hx).1
      rw [if_neg h1, if_neg h2] at this
      simp only [this])
    have h3 := lsum_two (f := fun k => if k = a ∨ k = b then 0 else if gv s.1 k ≠ 0 then 1 else 0) (g := fun k => if gv s.1 k ≠ 0 then 1 else 0) hl.nd ha hb hab (fun x hx h1 h2 => by simp [h1, h2])
    have h4 : 0 ≤ lsum (fun k => if k = a ∨ k = b then 0 else if gv s.1 k ≠ 0 then 1 else 0) l := lsum_nonneg fun x _ => by split; (· decide); (· split <;> decide)
    have hm : much s.1 a b = max (gv s.1 a) (-gv s.1 a) ∨ much s.1 a b = max (gv s.1 b) (-gv s.1 b) := by unfold much; omega
    have hz : gv (payStep s.1 (prom s.1 a b)) a = 0 ∨ gv (payStep s.1 (prom s.1 a b)) b = 0 := by
      rw [hA, hB]
      by_cases g : 0 < gv s.1 a
      · have := n3 g; rw [if_pos g, if_pos g]; omega
      · have := n4 (by omega); rw [if_neg g, if_neg g]; omega
    obtain ⟨c1, c2⟩ := h
    rw [e]
    unfold Cnt nzs at *
    simp only [List.length_append, List.length_cons, List.length_nil] at *
    rw [if_pos n1, if_pos n2] at h2 h3
    simp only [true_or, or_true, if_true] at h3
    have h5 : lsum (fun k => if gv (payStep s.1 (prom s.1 a b)) k ≠ 0 then 1 else 0) l ≤ lsum (fun k => if gv s.1 k ≠ 0 then 1 else 0) l - 1 := by
      rw [h2]
      rcases hz with hz | hz
      · rw [if_neg (show ¬ gv (payStep s.1 (prom s.1 a b)) a ≠ 0 from fun x => x hz)]; split <;> omega
      · rw [if_neg (show ¬ gv (payStep s.1 (prom s.1 a b)) b ≠ 0 from fun x => x hz)]; split <;> omega
    constructor
    · omega
    · intro h6; omega
theorem mem_getD {l : List Int} {i : Nat} (h : i < l.length) : l.getD i 0 ∈ l := List.mem_of_getElem? (getD_get h)
/-- While one of a group pays, or is paid. -/
structure Row1 (n : Nat) (g : Int → Int) (c0 : Nat) (l : List Int) (i : Nat) (s0 : PS) (j : Nat) (s : PS) : Prop where
  ok : OkS n g s
  cnt : Cnt c0 l s
  out : ∀ k : Int, 0 ≤ k → k ∉ l.drop i → gv s.1 k = gv s0.1 k
  sum : lsum (gv s.1) (l.drop i) = 0
  sgn : ∀ q, q < j → (0 < gv s.1 (l.getD i 0) → 0 ≤ gv s.1 (l.getD (i + 1 + q) 0)) ∧ (gv s.1 (l.getD i 0) < 0 → gv s.1 (l.getD (i + 1 + q) 0) ≤ 0)
theorem Row1.step {n : Nat} {g : Int → Int} {c0 : Nat} {l : List Int} {i : Nat} {s0 : PS} {j : Nat} {s : PS} (hl : OkG n l) (hj : i + 1 + j < l.length) (h : Row1 n g c0 l i s0 j s) : Row1 n g c0 l i s0 (j + 1) (stepAB (l.getD i 0) s (l.getD (i + 1 + j) 0)) := by
  obtain ⟨a, ea⟩ : ∃ a, a = l.getD i 0 := ⟨_, rfl⟩
  obtain ⟨b, eb⟩ : ∃ b, b = l.getD (i + 1 + j) 0 := ⟨_, rfl⟩
  have ha : a ∈ l := ea ▸ mem_getD (by omega)
  have hb : b ∈ l := eb ▸ mem_getD hj
  have hab : a ≠ b := by rw [ea, eb]; exact hl.ne (by omega) hj (by omega)
  have ra := hl.rng a ha
  have rb := hl.rng b hb
  have ha2 : a ∈ l.drop i := by
    rw [ea, show l.getD i 0 = (l.drop i).getD 0 0 by rw [getD_drop']; rfl]; exact mem_getD (by simp; omega)
  have hb2 : b ∈ l.drop i := by
    rw [eb, show l.getD (i + 1 + j) 0 = (l.drop i).getD (1 + j) 0 by rw [getD_drop', Nat.add_assoc]]; exact mem_getD (by simp; omega)
  have hnd : (l.drop i).Nodup := hl.nd.sublist (List.drop_sublist _ _)
  have hok := h.ok.step (a := a) (b := b) ra rb hab
  have hcnt := h.cnt.step hl h.ok ha hb hab
  rw [← ea, ← eb]
  by_cases hi : idle s.1 a b
  · have e : stepAB a s b = s := by unfold stepAB; rw [if_pos hi]
    rw [e]
    refine ⟨h.ok, h.cnt, h.out, h.sum, fun q hq => ?_⟩
    rcases Nat.lt_or_ge q j with h1 | h1
    · exact h.sgn q h1
    · rw [show q = j by omega, ← ea, ← eb]
      unfold idle much at hi
      rcases hi with hi | hi
      · omega
      · rw [decide_eq_decide] at hi; omega
  · obtain ⟨n1, n2, n3, n4, n5⟩ := not_idle hi
    have hgv : ∀ k : Int, 0 ≤ k → _ := fun k hk => step_gv (o := s.1) (by rw [h.ok.len]; exact ra) (by rw [h.ok.len]; exact rb) hab hi hk
    have e : stepAB a s b = (payStep s.1 (prom s.1 a b), s.2 ++ [prom s.1 a b]) := by unfold stepAB; rw [if_neg hi]
    have hA := hgv a ra.1
    have hB := hgv b rb.1
    rw [if_pos rfl] at hA
    rw [if_neg (Ne.symm hab), if_pos rfl] at hB
    have hm : much s.1 a b = min (max (gv s.1 a) (-gv s.1 a)) (max (gv s.1 b) (-gv s.1 b)) := rfl
    rw [e] at hok hcnt ⊢
    refine ⟨hok, hcnt, fun k h0 hk => ?_, ?_, fun q hq => ?_⟩
    · have := hgv k h0
      rw [if_neg (show ¬ k = a from fun x => hk (x ▸ ha2)), if_neg (show ¬ k = b from fun x => hk (x ▸ hb2))] at this
      rw [← h.out k h0 hk]; exact this
    · have h2 := lsum_two (f := gv s.1) (g := gv (payStep s.1 (prom s.1 a b))) hnd ha2 hb2 hab (fun x hx h1 h2 => by
        have := hgv x (hl.rng x (List.mem_of_mem_drop hx)).1
        rw [if_neg h1, if_neg h2] at this; exact this)
      simp only
      rw [h2, h.sum, hA, hB]
      split <;> omega
    · simp only
      rw [← ea, hA]
      rcases Nat.lt_or_ge q j with h1 | h1
      · have hc : l.getD (i + 1 + q) 0 ≠ b := by rw [eb]; exact hl.ne (by omega) hj (by omega)
        have hc2 : l.getD (i + 1 + q) 0 ≠ a := by rw [ea]; exact hl.ne (by omega) (by omega) (by omega)
        have := hgv (l.getD (i + 1 + q) 0) (hl.at (by omega)).1
        rw [if_neg hc2, if_neg hc] at this
        rw [this]
        have := h.sgn q h1
        rw [← ea] at this
        by_cases g : 0 < gv s.1 a
        · rw [if_pos g]; have := n3 g; omega
        · rw [if_neg g]; have := n4 (by omega); omega
      · rw [show q = j by omega, ← eb, hB]
        by_cases g : 0 < gv s.1 a
        · rw [if_pos g, if_pos g]; have := n3 g; omega
        · rw [if_neg g, if_neg g]; have := n4 (by omega); omega
theorem Row1.run {n : Nat} {g : Int → Int} {c0 : Nat} {l : List Int} {i : Nat} {s0 : PS} (hl : OkG n l) (hi : i < l.length) (h : Row1 n g c0 l i s0 0 s0) : ∀ j, j ≤ l.length - (i + 1) → Row1 n g c0 l i s0 j (((l.drop (i + 1)).take j).foldl (stepAB (l.getD i 0)) s0)
  | 0, _ => by simpa using h
  | j + 1, hj => by
    have ih := Row1.run hl hi h j (by omega)
    have hx := getD_get (xs := l.drop (i + 1)) (k := j) (by simp; omega)
    rw [take_snoc hx, List.foldl_append]
    simp only [List.foldl_cons, List.foldl_nil]
    rw [getD_drop']
    exact ih.step hl (by omega)
/-- While a group is settled. -/
structure Grp (n : Nat) (g : Int → Int) (c0 : Nat) (l : List Int) (s0 : PS) (i : Nat) (s : PS) : Prop where
  ok : OkS n g s
  cnt : Cnt c0 l s
  out : ∀ k : Int, 0 ≤ k → k ∉ l → gv s.1 k = gv s0.1 k
  sum : lsum (gv s.1) (l.drop i) = 0
  nul : ∀ q, q < i → q < l.length → gv s.1 (l.getD q 0) = 0
theorem Grp.step {n : Nat} {g : Int → Int} {c0 : Nat} {l : List Int} {i : Nat} {s0 s : PS} (hl : OkG n l) (hi : i < l.length) (h : Grp n g c0 l s0 i s) : Grp n g c0 l s0 (i + 1) (rowS l s i) := by
  have hr := Row1.run (g := g) (c0 := c0) (s0 := s) hl hi ⟨h.ok, h.cnt, fun _ _ _ => rfl, h.sum, fun q hq => by omega⟩ (l.length - (i + 1)) (Nat.le_refl _)
  rw [List.take_of_length_le (by simp)] at hr
  have e : rowS l s i = (l.drop (i + 1)).foldl (stepAB (l.getD i 0)) s := rfl
  rw [← e] at hr
  have hd : l.drop i = l.getD i 0 :: l.drop (i + 1) := by
    rw [List.drop_eq_getElem_cons hi]; congr 1; simp [List.getD, List.getElem?_eq_getElem hi]
  have hs := hr.sum
  rw [hd, lsum_cons] at hs
  have hmem : ∀ x ∈ l.drop (i + 1), ∃ q, q < l.length - (i + 1) ∧ x = l.getD (i + 1 + q) 0 := fun x hx => by
    obtain ⟨q, hq, e⟩ := List.getElem_of_mem hx
    have hq' : q < l.length - (i + 1) := by simpa using hq
    exact ⟨q, hq', by rw [← e, ← getD_drop', List.getD_eq_getElem?_getD, List.getElem?_eq_getElem hq]; rfl⟩
  have h0 : gv (rowS l s i).1 (l.getD i 0) = 0 := by
    rcases Int.lt_trichotomy (gv (rowS l s i).1 (l.getD i 0)) 0 with g1 | g1 | g1
    · have := lsum_nonpos (f := gv (rowS l s i).1) (l := l.drop (i + 1)) (fun x hx => by obtain ⟨q, hq, rfl⟩ := hmem x hx; exact (hr.sgn q hq).2 g1)
      omega
    · exact g1
    · have := lsum_nonneg (f := gv (rowS l s i).1) (l := l.drop (i + 1)) (fun x hx => by obtain ⟨q, hq, rfl⟩ := hmem x hx; exact (hr.sgn q hq).1 g1)
      omega
  refine ⟨hr.ok, hr.cnt, fun k h1 h2 => ?_, by omega, fun q hq hql => ?_⟩
  · rw [hr.out k h1 (fun x => h2 (List.mem_of_mem_drop x))]; exact h.out k h1 h2
  · rcases Nat.lt_or_ge q i with g1 | g1
    · rw [hr.out _ (hl.at hql).1 (fun x => ?_)]
      · exact h.nul q g1 hql
      · obtain ⟨j, hj, e⟩ := List.getElem_of_mem x
        have e2 : l.getD q 0 = l.getD (i + j) 0 := by rw [← e, ← getD_drop', List.getD_eq_getElem?_getD (l := l.drop i), List.getElem?_eq_getElem hj]; rfl
        have hj' : j < l.length - i := by simpa using hj
        have := nodup_getD hl.nd hql (by omega) e2
        omega
    · rw [show q = i by omega]; exact h0
theorem Grp.run {n : Nat} {g : Int → Int} {c0 : Nat} {l : List Int} {s0 : PS} (hl : OkG n l) (h : Grp n g c0 l s0 0 s0) : ∀ i, i ≤ l.length → Grp n g c0 l s0 i ((List.range i).foldl (rowS l) s0)
  | 0, _ => by simpa using h
  | i + 1, hi => by
    have ih := Grp.run hl h i (by omega)
    rw [List.range_succ, List.foldl_append]
    exact ih.step hl (by omega)
/-- a group is settled by fewer payments than it has people -/
theorem group_law {n : Nat} {g : Int → Int} {l : List Int} {s : PS} (hl : OkG n l) (hne : l ≠ []) (h : OkS n g s) (hs : lsum (gv s.1) l = 0) : OkS n g (groupS s l) ∧ (∀ k : Int, 0 ≤ k → k ∉ l → gv (groupS s l).1 k = gv s.1 k) ∧ (∀ k ∈ l, gv (groupS s l).1 k = 0) ∧ (groupS s l).2.length + 1 ≤ s.2.length + l.length := by
  have hpos := List.length_pos_iff.2 hne
  have hn := nzs_le (gv s.1) l
  have h0 : Cnt s.2.length l s := ⟨by omega, fun _ => by omega⟩
  have hr := Grp.run (g := g) (c0 := s.2.length) hl ⟨h, h0, fun _ _ _ => rfl, by simpa using hs, fun q hq => by omega⟩ l.length (Nat.le_refl _)
  have e : groupS s l = (List.range l.length).foldl (rowS l) s := rfl
  rw [← e] at hr
  have hz : ∀ k ∈ l, gv (groupS s l).1 k = 0 := fun k hk => by
    obtain ⟨q, hq, e⟩ := List.getElem_of_mem hk
    have := hr.nul q hq hq
    rwa [show l.getD q 0 = k by rw [← e]; simp [List.getD, List.getElem?_eq_getElem hq]] at this
  have hnz : nzs (gv (groupS s l).1) l = 0 := by
    have : nzs (gv (groupS s l).1) l = lsum (fun _ => 0) l := lsum_congr fun x hx => by simp [hz x hx]
    rw [this]
    have : ∀ m : List Int, lsum (fun _ => 0) m = 0 := fun m => by
      induction m with
      | nil => rfl
      | cons x m ih => rw [lsum_cons, ih]; rfl
    exact this l
  exact ⟨hr.ok, hr.out, hz, by have := hr.cnt.2 hnz; omega⟩
end Go.Proofs.YtmhfhfhdblccjaaGreat
/-
  Settlements: what Settle does.
-/
namespace Go.Proofs.YtmhfhfhdblccjaaGreat
open Go Go.RowKit
set_option linter.unusedVariables false
set_option linter.unusedSimpArgs false
set_option maxRecDepth 100000
set_option maxHeartbeats 4000000
theorem bitsTo_nodup (s : Nat) : ∀ k, (bitsTo s k).Nodup
  | 0 => by simp [bitsTo]
  | k + 1 => by
    rw [bitsTo_succ]
    split
    · rw [List.nodup_append]
      refine ⟨bitsTo_nodup s k, by simp, fun a ha b hb => ?_⟩
      have := bitsTo_mem ha
      simp at hb
      omega
    · exact bitsTo_nodup s k
theorem Part.okG {f : Nat → Int} {n S : Nat} {P : List Nat} (h : Part f n S P) (hS : S < 2 ^ n) (hn : n ≤ 7) {l : List Int} (hl : l ∈ tell P) : OkG n l := by
  obtain ⟨p, hp, rfl⟩ := List.mem_map.1 hl
  refine ⟨fun x hx => ?_, bitsTo_nodup _ _⟩
  obtain ⟨h1, h2, h3⟩ := bitsTo_mem hx
  have := bit_lt (Nat.lt_of_le_of_lt (h.sub hp).le hS) h3
  omega
theorem groupsR.okG {d : List (List Int)} {gs : List (List Int)} (hd : OkD d) (h : groupsR d gs) : (∀ l ∈ gs, OkG d.length l) ∧ gs.length ≤ 7 := by
  obtain ⟨P, h1, h2⟩ := h
  have hn := hd.len
  have hS := allS_lt (netF d) d.length
  have h3 := h1.1.two hS (fun k hk => by rw [bit_all] at hk; simp at hk; exact hk.2)
  rw [many_all] at h3
  have h4 := openN_le (netF d) d.length
  have h5 := h2.length_eq
  have h6 : (tell P).length = P.length := by simp [tell]
  exact ⟨fun l hl => h1.1.okG hS hn (h2.mem_iff.1 hl), by omega⟩
def netG (d : List (List Int)) (k : Int) : Int := netF d k.toNat
theorem OkS.start {d : List (List Int)} (hd : OkD d) (hz : ∀ a, (atx d a).getD a 0 = 0) : OkS d.length (netG d) (netM d, []) :=
  ⟨netM_len d hd, fun k => netF_bd6 hd hz k.toNat, fun k h0 hk => by simp [netG, netF, gv, eff], fun p hp => by cases hp⟩
attribute [local irreducible] SW SO FnC retQ SA VO
theorem Settle_ok0 (L : List SP) (u : SlV) (us : List SlV) (d : List (List Int)) [r : RdSl L u.v SlV encSl us] [rm : RdM L us Int encInt d] : FnC Tryz.prog 10 [u.v] L (fun v M => ∃ (u' : SlV) (x : List (Int × Int × Int)), v = .tuple #[u'.v, .int .i64 (checkD d)] ∧ (checkD d ≠ 0 → x = []) ∧ (checkD d = 0 → ∃ gs, groupsR d gs ∧ x = (settleM gs (netM d, [])).2) ∧ M = ownSl 44 enc3 u'.v x :: L) := by
  refine fn_start (sz := 119) Tryz.func10 rfl rfl rfl ?_
  repeat' (first
    | (apply so_vo; (· exact voA); (· rfl))
    | refine so_nil ?_
    | refine q_go ?_
    | refine sw_region ?_
    | (refine goQ ?_; intro _ _)
    | refine go1 ?_
    | (refine goU ?_; intro nu)
    | (refine goB ?_; intro nb)
    | (refine goM ?_; intro nm)
    | (refine go2 ?_ ?_ <;> intro h <;> (try simp only [Bool.not_true, Bool.not_false, decide_eq_true_eq, decide_eq_false_iff_not, Bool.not_eq_true', Bool.not_eq_false', ne_eq, Decidable.not_not, Int.not_lt, Int.not_le, not_false_eq_true] at h))
    | fail)
  refine so_call rfl rfl rfl (CheckDebts_ok _ u us d) ?_
  rintro _ M ⟨rfl, hM⟩
  obtain rfl := hM.symm
  by_cases h0 : checkD d = 0
  rotate_left
  · repeat' (first
      | (apply so_vo; (· exact voA); (· rfl))
      | refine so_nil ?_
      | refine q_go ?_
      | refine sw_region ?_
      | (refine goQ ?_; intro _ _)
      | refine go1 ?_
      | (refine goU ?_; intro nu)
      | (refine goB ?_; intro nb)
      | (refine goM ?_; intro nm)
      | (refine go2 ?_ ?_ <;> intro h <;> (try simp only [Bool.not_true, Bool.not_false, decide_eq_true_eq, decide_eq_false_iff_not, Bool.not_eq_true', Bool.not_eq_false', ne_eq, Decidable.not_not, Int.not_lt, Int.not_le, not_false_eq_true] at h))
      | fail)
    apply rq2 rfl rfl rfl
    · exact ⟨nilS, [], rfl, fun _ => rfl, fun h => absurd h h0, rfl⟩
    · exact HLess.nilOwn _ _ _
  have hd := (checkD_ok h0).1
  have hd7 := hd.len
  repeat' (first
    | (apply so_vo; (· exact voA); (· rfl))
    | refine so_nil ?_
    | refine q_go ?_
    | refine sw_region ?_
    | (refine goQ ?_; intro _ _)
    | refine go1 ?_
    | (refine goU ?_; intro nu)
    | (refine goB ?_; intro nb)
    | (refine goM ?_; intro nm)
    | (refine go2 ?_ ?_ <;> intro h <;> (try simp only [Bool.not_true, Bool.not_false, decide_eq_true_eq, decide_eq_false_iff_not, Bool.not_eq_true', Bool.not_eq_false', ne_eq, Decidable.not_not, Int.not_lt, Int.not_le, not_false_eq_true] at h))
    | fail)
  refine so_call rfl rfl rfl (net_ok _ u us d hd) ?_
  rintro _ _ ⟨un, rfl, rfl⟩
  repeat' (first
    | (apply so_vo; (· exact voA); (· rfl))
    | refine so_nil ?_
    | refine q_go ?_
    | refine sw_region ?_
    | (refine goQ ?_; intro _ _)
    | refine go1 ?_
    | (refine goU ?_; intro nu)
    | (refine goB ?_; intro nb)
    | (refine goM ?_; intro nm)
    | (refine go2 ?_ ?_ <;> intro h <;> (try simp only [Bool.not_true, Bool.not_false, decide_eq_true_eq, decide_eq_false_iff_not, Bool.not_eq_true', Bool.not_eq_false', ne_eq, Decidable.not_not, Int.not_lt, Int.not_le, not_false_eq_true] at h))
    | fail)
  refine so_call rfl rfl rfl (groups_ok _ u us d hd (sum_all hd)) ?_
  rintro _ _ ⟨ug, usg, gs, rfl, hgl, hgs, rfl⟩
  obtain ⟨hG, hgl7⟩ := hgs.okG hd
  have hs0 := OkS.start hd (checkD_ok h0).2.2
  repeat' (first
    | (apply so_vo; (· exact voA); (· rfl))
    | refine so_nil ?_
    | refine q_go ?_
    | refine sw_region ?_
    | (refine goQ ?_; intro _ _)
    | refine go1 ?_
    | (refine goU ?_; intro nu)
    | (refine goB ?_; intro nb)
    | (refine goM ?_; intro nm)
    | (refine go2 ?_ ?_ <;> intro h <;> (try simp only [Bool.not_true, Bool.not_false, decide_eq_true_eq, decide_eq_false_iff_not, Bool.not_eq_true', Bool.not_eq_false', ne_eq, Decidable.not_not, Int.not_lt, Int.not_le, not_false_eq_true] at h))
    | fail)
  refine sw_mem (L' := ownSl 44 enc3 nilS.v [] :: ownSl 28 encSl ug.v usg :: rows 3 encInt usg gs :: ownSl 3 encInt un.v (netM d) :: L) (fun w H => own_nil none H) ?_
  refine sw_range (τ := SlV) (fun k t => [(5, un.v), (6, t.v), (23, ug.v)]) (fun k t => ownSl 44 enc3 t.v ((gs.take k).foldl groupS (netM d, [])).2 :: ownSl 28 encSl ug.v usg :: rows 3 encInt usg gs :: ownSl 3 encInt un.v ((gs.take k).foldl groupS (netM d, [])).1 :: L) (fun k _ => OkS d.length (netG d) ((gs.take k).foldl groupS (netM d, [])) ∧ ((gs.take k).foldl groupS (netM d, [])).2.length ≤ 49 * k) nilS ⟨hs0, by simp⟩ (by rfl) (by rfl) (by omega) (by (exact fsA)) (fun _ h => h) (fun _ _ => by rfl) (by rfl) (fun ka ta hlta hIa _ _ => ?_) (fun ta hIa => ?_)
  · have hlx := atx_get (xss := gs) (i := ka) (by omega)
    have hlG := hG (atx gs ka) (List.mem_of_getElem? hlx)
    have hll := hlG.len
    obtain ⟨s, hs⟩ : ∃ s, s = (gs.take ka).foldl groupS (netM d, []) := ⟨_, rfl⟩
    obtain ⟨i1, i2⟩ := hIa
    rw [← hs] at i1 i2
    simp only [← hs]
    have hgrp : (gs.take (ka + 1)).foldl groupS (netM d, []) = groupS s (atx gs ka) := by rw [take_snoc hlx, List.foldl_append, ← hs]; rfl
    repeat' (first
      | (apply so_vo; (· exact voA); (· rfl))
      | refine so_nil ?_
      | refine q_go ?_
      | refine sw_region ?_
      | (refine goQ ?_; intro _ _)
      | refine go1 ?_
      | (refine goU ?_; intro nu)
      | (refine goB ?_; intro nb)
      | (refine goM ?_; intro nm)
      | (refine go2 ?_ ?_ <;> intro h <;> (try simp only [Bool.not_true, Bool.not_false, decide_eq_true_eq, decide_eq_false_iff_not, Bool.not_eq_true', Bool.not_eq_false', ne_eq, Decidable.not_not, Int.not_lt, Int.not_le, not_false_eq_true] at h))
      | fail)
    refine sw_range (τ := SlV) (fun k t => [(5, un.v), (6, t.v), (8, (at' usg ka).v), (23, ug.v), (29, (at' usg ka).v), (24, .int .i64 usg.length), (25, .int .i64 ka)]) (fun k t => ownSl 44 enc3 t.v ((List.range k).foldl (rowS (atx gs ka)) s).2 :: ownSl 28 encSl ug.v usg :: rows 3 encInt usg gs :: ownSl 3 encInt un.v ((List.range k).foldl (rowS (atx gs ka)) s).1 :: L) (fun k _ => True) ta trivial (by rfl) (by rfl) (by omega) (by (exact fsA)) (fun _ h => h) (fun _ _ => by rfl) (by rfl) (fun kb tb hltb hIb _ _ => ?_) (fun tb hIb => ?_)
    · obtain ⟨j1, j2⟩ := rows_ok hlG i1 kb (by omega)
      obtain ⟨sb, hsb⟩ : ∃ sb, sb = (List.range kb).foldl (rowS (atx gs ka)) s := ⟨_, rfl⟩
      have hrow : (List.range (kb + 1)).foldl (rowS (atx gs ka)) s = rowS (atx gs ka) sb kb := by rw [List.range_succ, List.foldl_append, ← hsb]; rfl
      rw [← hsb] at j1 j2
      simp only [← hsb]
      have hj2 : sb.2.length ≤ 1000 := by
        have : kb * (atx gs ka).length ≤ 7 * 7 := Nat.mul_le_mul (by omega) (by omega)
        omega
      have hx := getD_get hltb
      have ha := hlG.at hltb
      obtain ⟨a, hae⟩ : ∃ a, a = (atx gs ka).getD kb 0 := ⟨_, rfl⟩
      rw [← hae] at hx ha
      have hsub : ∀ (t : SlV) (q : PS), RdSl (ownSl 44 enc3 t.v q.2 :: ownSl 28 encSl ug.v usg :: rows 3 encInt usg gs :: ownSl 3 encInt un.v q.1 :: L) (subsl 1 (at' usg ka).v ((kb : Int) + 1).toNat (atx gs ka).length) Int encInt ((atx gs ka).drop (kb + 1)) := fun t q => by
        have := RdSl.sub (L := ownSl 44 enc3 t.v q.2 :: ownSl 28 encSl ug.v usg :: rows 3 encInt usg gs :: ownSl 3 encInt un.v q.1 :: L) (v := (at' usg ka).v) (enc := encInt) (xs := atx gs ka) inferInstance (lo := kb + 1) (hi := (atx gs ka).length) (by omega) (by omega)
        rw [List.take_length] at this
        exact this
      haveI := hsub tb sb
      have hdl : ((atx gs ka).drop (kb + 1)).length ≤ 7 := by simp; omega
      repeat' (first
        | (apply so_vo; (· exact voA); (· rfl))
        | refine so_nil ?_
        | refine q_go ?_
        | refine sw_region ?_
        | (refine goQ ?_; intro _ _)
        | refine go1 ?_
        | (refine goU ?_; intro nu)
        | (refine goB ?_; intro nb)
        | (refine goM ?_; intro nm)
        | (refine go2 ?_ ?_ <;> intro h <;> (try simp only [Bool.not_true, Bool.not_false, decide_eq_true_eq, decide_eq_false_iff_not, Bool.not_eq_true', Bool.not_eq_false', ne_eq, Decidable.not_not, Int.not_lt, Int.not_le, not_false_eq_true] at h))
        | fail)
      refine sw_range (τ := SlV) (fun k t => [(5, un.v), (6, t.v), (8, (at' usg ka).v), (9, .int .i64 kb), (10, .int .i64 a), (23, ug.v), (29, (at' usg ka).v), (24, .int .i64 usg.length), (25, .int .i64 ka), (30, .int .i64 (atx gs ka).length), (31, .int .i64 kb), (39, (subsl 1 (at' usg ka).v ((kb : Int) + 1).toNat (atx gs ka).length))]) (fun k t => ownSl 44 enc3 t.v ((((atx gs ka).drop (kb + 1)).take k).foldl (stepAB a) sb).2 :: ownSl 28 encSl ug.v usg :: rows 3 encInt usg gs :: ownSl 3 encInt un.v ((((atx gs ka).drop (kb + 1)).take k).foldl (stepAB a) sb).1 :: L) (fun k _ => True) tb trivial (by rfl) (by rfl) (by omega) (by (exact fsA)) (fun _ h => h) (fun _ _ => by rfl) (by rfl) (fun kc tc hltc hIc _ _ => ?_) (fun tc hIc => ?_)
      · obtain ⟨m1, m2⟩ := fold_step hlG hltb kc (by simp at hltc; omega) sb j1
        rw [← hae] at m1 m2
        obtain ⟨sc, hsc⟩ : ∃ sc, sc = (((atx gs ka).drop (kb + 1)).take kc).foldl (stepAB a) sb := ⟨_, rfl⟩
        rw [← hsc] at m1 m2
        simp only [← hsc]
        have hlt2 : kb + 1 + kc < (atx gs ka).length := by simp at hltc; omega
        have hy := getD_get hltc
        obtain ⟨b, hbe⟩ : ∃ b, b = ((atx gs ka).drop (kb + 1)).getD kc 0 := ⟨_, rfl⟩
        rw [← hbe] at hy
        have hbe2 : b = (atx gs ka).getD (kb + 1 + kc) 0 := by rw [hbe, getD_drop']
        have hb := hlG.at hlt2
        have hab := hlG.ne hltb hlt2 (by omega)
        rw [← hbe2] at hb hab
        rw [← hae] at hab
        have hnext : ((((atx gs ka).drop (kb + 1)).take (kc + 1)).foldl (stepAB a) sb) = stepAB a sc b := by rw [take_snoc hy, List.foldl_append, ← hsc]; rfl
        have hlen := m1.len
        have hA : sc.1[a.toNat]? = some (gv sc.1 a) := getD_get (by omega)
        have hB : sc.1[b.toNat]? = some (gv sc.1 b) := getD_get (by omega)
        have bA := m1.bd a
        have bB := m1.bd b
        haveI := hsub tc sc
        have em : List.foldl min (max (gv sc.1 a) (-gv sc.1 a)) [max (gv sc.1 b) (-gv sc.1 b)] = much sc.1 a b := rfl
        have bm : 0 ≤ much sc.1 a b ∧ much sc.1 a b ≤ 6000000 := by unfold much; omega
        by_cases hi : idle sc.1 a b
        · have hst : stepAB a sc b = sc := by unfold stepAB; rw [if_pos hi]
          by_cases hm : much sc.1 a b = 0
          · repeat' (first
              | (apply so_vo; (· exact voA); (· rfl))
              | refine so_nil ?_
              | refine q_go ?_
              | refine sw_region ?_
              | (refine goQ ?_; intro _ _)
              | refine go1 ?_
              | (refine goU ?_; intro nu)
              | (refine goB ?_; intro nb)
              | (refine goM ?_; intro nm)
              | (refine go2 ?_ ?_ <;> intro h <;> (try simp only [Bool.not_true, Bool.not_false, decide_eq_true_eq, decide_eq_false_iff_not, Bool.not_eq_true', Bool.not_eq_false', ne_eq, Decidable.not_not, Int.not_lt, Int.not_le, not_false_eq_true] at h))
              | fail)
            refine sa_start [22] mixed (by kernel_rfl) ?_
            apply sa_stat 0 rfl (by kernel_rfl) rfl
            · (exact voA)
            apply sa_stat 1 rfl (by kernel_rfl) rfl
            · (exact voA)
            apply sa_stat 2 rfl (by kernel_rfl) rfl
            · (exact voA)
            apply sa_stat 3 rfl (by kernel_rfl) rfl
            · (exact voA)
            apply sa_stat 4 rfl (by kernel_rfl) rfl
            · (exact voA)
            apply sa_stat 5 rfl (by kernel_rfl) rfl
            · (exact voA)
            apply sa_stat 6 rfl (by kernel_rfl) rfl
            · (exact voA)
            apply sa_stat 7 rfl (by kernel_rfl) rfl
            · (exact voA)
            apply sa_stat 8 rfl (by kernel_rfl) rfl
            · (exact voA)
            apply sa_stat 9 rfl (by kernel_rfl) rfl
            · (exact voA)
            apply sa_stat 10 rfl (by kernel_rfl) rfl
            · (exact voA)
            apply sa_stat 11 rfl (by kernel_rfl) rfl
            · (exact voA)
            apply sa_stat 12 rfl (by kernel_rfl) rfl
            · (exact voA)
            apply sa_stat 13 rfl (by kernel_rfl) rfl
            · (exact voA)
            apply sa_stat 14 rfl (by kernel_rfl) rfl
            · (exact voA)
            apply sa_stat 15 rfl (by kernel_rfl) rfl
            · (exact voA)
            apply sa_stat 16 rfl (by kernel_rfl) rfl
            · (exact voA)
            apply sa_stat 17 rfl (by kernel_rfl) rfl
            · (exact voA)
            apply sa_stat 18 rfl (by kernel_rfl) rfl
            · (exact voA)
            apply sa_stat 19 rfl (by kernel_rfl) rfl
            · (exact voA)
            refine sa_chainL 20 rfl (by kernel_rfl) ?_
            repeat' (first
              | (apply so_vo; (· exact voA); (· rfl))
              | refine so_nil ?_
              | refine q_go ?_
              | refine sw_region ?_
              | (refine goQ ?_; intro _ _)
              | refine go1 ?_
              | (refine goU ?_; intro nu)
              | (refine goB ?_; intro nb)
              | (refine goM ?_; intro nm)
              | (refine go2 ?_ ?_ <;> intro h <;> (try simp only [Bool.not_true, Bool.not_false, decide_eq_true_eq, decide_eq_false_iff_not, Bool.not_eq_true', Bool.not_eq_false', ne_eq, Decidable.not_not, Int.not_lt, Int.not_le, not_false_eq_true] at h))
              | fail)
            refine ⟨rfl, rfl, HLess.sat inferInstance, ?_⟩
            refine sa_chainL 21 rfl (by kernel_rfl) ?_
            (refine so_call rfl rfl rfl (least_ok _ _ nu _) ?_; rintro _ _ ⟨rfl, rfl⟩; rw [em])
            repeat' (first
              | (apply so_vo; (· exact voA); (· rfl))
              | refine so_nil ?_
              | refine q_go ?_
              | refine sw_region ?_
              | (refine goQ ?_; intro _ _)
              | refine go1 ?_
              | (refine goU ?_; intro nu)
              | (refine goB ?_; intro nb)
              | (refine goM ?_; intro nm)
              | (refine go2 ?_ ?_ <;> intro h <;> (try simp only [Bool.not_true, Bool.not_false, decide_eq_true_eq, decide_eq_false_iff_not, Bool.not_eq_true', Bool.not_eq_false', ne_eq, Decidable.not_not, Int.not_lt, Int.not_le, not_false_eq_true] at h))
              | fail)
            refine ⟨rfl, rfl, HLess.sat inferInstance, ?_⟩
            refine sa_rest (T' := [_]) rfl (by kernel_rfl) ?_
            repeat' (first
              | (apply so_vo; (· exact voA); (· rfl))
              | refine so_nil ?_
              | refine q_go ?_
              | refine sw_region ?_
              | (refine goQ ?_; intro _ _)
              | refine go1 ?_
              | (refine goU ?_; intro nu)
              | (refine goB ?_; intro nb)
              | (refine goM ?_; intro nm)
              | (refine go2 ?_ ?_ <;> intro h <;> (try simp only [Bool.not_true, Bool.not_false, decide_eq_true_eq, decide_eq_false_iff_not, Bool.not_eq_true', Bool.not_eq_false', ne_eq, Decidable.not_not, Int.not_lt, Int.not_le, not_false_eq_true] at h))
              | fail)
            · refine sa_start [] mixed (by kernel_rfl) ?_
              apply sa_stat 0 rfl (by kernel_rfl) rfl
              · (exact voA)
              apply sa_stat 1 rfl (by kernel_rfl) rfl
              · (exact voA)
              apply sa_stat 2 rfl (by kernel_rfl) rfl
              · (exact voA)
              first | (apply sa_stat_on 3 rfl rfl rfl rfl (by kernel_rfl) rfl; (· ((exact voA)))) | (refine sa_stat_off 3 rfl rfl (.inl ⟨rfl, rfl⟩) (by kernel_rfl) rfl ?_) | (refine sa_stat_off 3 rfl rfl (.inr rfl) (by kernel_rfl) rfl ?_) | (apply sa_stat_on 3 rfl rfl rfl ?_ (by kernel_rfl) rfl; (· ((exact voA))); (rotate_left 1); (· (exact decA))) | (refine sa_stat_off 3 rfl rfl (.inl ⟨rfl, ?_⟩) (by kernel_rfl) rfl ?_; (· (exact decA)))
              first | (apply sa_stat_on 4 rfl rfl rfl rfl (by kernel_rfl) rfl; (· ((exact voA)))) | (refine sa_stat_off 4 rfl rfl (.inl ⟨rfl, rfl⟩) (by kernel_rfl) rfl ?_) | (refine sa_stat_off 4 rfl rfl (.inr rfl) (by kernel_rfl) rfl ?_) | (apply sa_stat_on 4 rfl rfl rfl ?_ (by kernel_rfl) rfl; (· ((exact voA))); (rotate_left 1); (· (exact decA))) | (refine sa_stat_off 4 rfl rfl (.inl ⟨rfl, ?_⟩) (by kernel_rfl) rfl ?_; (· (exact decA)))
              first | (apply sa_stat_on 5 rfl rfl rfl rfl (by kernel_rfl) rfl; (· ((exact voA)))) | (refine sa_stat_off 5 rfl rfl (.inl ⟨rfl, rfl⟩) (by kernel_rfl) rfl ?_) | (refine sa_stat_off 5 rfl rfl (.inr rfl) (by kernel_rfl) rfl ?_) | (apply sa_stat_on 5 rfl rfl rfl ?_ (by kernel_rfl) rfl; (· ((exact voA))); (rotate_left 1); (· (exact decA))) | (refine sa_stat_off 5 rfl rfl (.inl ⟨rfl, ?_⟩) (by kernel_rfl) rfl ?_; (· (exact decA)))
              first | (apply sa_stat_on 6 rfl rfl rfl rfl (by kernel_rfl) rfl; (· ((exact voA)))) | (refine sa_stat_off 6 rfl rfl (.inl ⟨rfl, rfl⟩) (by kernel_rfl) rfl ?_) | (refine sa_stat_off 6 rfl rfl (.inr rfl) (by kernel_rfl) rfl ?_) | (apply sa_stat_on 6 rfl rfl rfl ?_ (by kernel_rfl) rfl; (· ((exact voA))); (rotate_left 1); (· (exact decA))) | (refine sa_stat_off 6 rfl rfl (.inl ⟨rfl, ?_⟩) (by kernel_rfl) rfl ?_; (· (exact decA)))
              first | (apply sa_stat_on 7 rfl rfl rfl rfl (by kernel_rfl) rfl; (· ((exact voA)))) | (refine sa_stat_off 7 rfl rfl (.inl ⟨rfl, rfl⟩) (by kernel_rfl) rfl ?_) | (refine sa_stat_off 7 rfl rfl (.inr rfl) (by kernel_rfl) rfl ?_) | (apply sa_stat_on 7 rfl rfl rfl ?_ (by kernel_rfl) rfl; (· ((exact voA))); (rotate_left 1); (· (exact decA))) | (refine sa_stat_off 7 rfl rfl (.inl ⟨rfl, ?_⟩) (by kernel_rfl) rfl ?_; (· (exact decA)))
              first | (apply sa_stat_on 8 rfl rfl rfl rfl (by kernel_rfl) rfl; (· ((exact voA)))) | (refine sa_stat_off 8 rfl rfl (.inl ⟨rfl, rfl⟩) (by kernel_rfl) rfl ?_) | (refine sa_stat_off 8 rfl rfl (.inr rfl) (by kernel_rfl) rfl ?_) | (apply sa_stat_on 8 rfl rfl rfl ?_ (by kernel_rfl) rfl; (· ((exact voA))); (rotate_left 1); (· (exact decA))) | (refine sa_stat_off 8 rfl rfl (.inl ⟨rfl, ?_⟩) (by kernel_rfl) rfl ?_; (· (exact decA)))
              first | (apply sa_stat_on 9 rfl rfl rfl rfl (by kernel_rfl) rfl; (· ((exact voA)))) | (refine sa_stat_off 9 rfl rfl (.inl ⟨rfl, rfl⟩) (by kernel_rfl) rfl ?_) | (refine sa_stat_off 9 rfl rfl (.inr rfl) (by kernel_rfl) rfl ?_) | (apply sa_stat_on 9 rfl rfl rfl ?_ (by kernel_rfl) rfl; (· ((exact voA))); (rotate_left 1); (· (exact decA))) | (refine sa_stat_off 9 rfl rfl (.inl ⟨rfl, ?_⟩) (by kernel_rfl) rfl ?_; (· (exact decA)))
              first | (apply sa_stat_on 10 rfl rfl rfl rfl (by kernel_rfl) rfl; (· ((exact voA)))) | (refine sa_stat_off 10 rfl rfl (.inl ⟨rfl, rfl⟩) (by kernel_rfl) rfl ?_) | (refine sa_stat_off 10 rfl rfl (.inr rfl) (by kernel_rfl) rfl ?_) | (apply sa_stat_on 10 rfl rfl rfl ?_ (by kernel_rfl) rfl; (· ((exact voA))); (rotate_left 1); (· (exact decA))) | (refine sa_stat_off 10 rfl rfl (.inl ⟨rfl, ?_⟩) (by kernel_rfl) rfl ?_; (· (exact decA)))
              first | (apply sa_stat_on 11 rfl rfl rfl rfl (by kernel_rfl) rfl; (· ((exact voA)))) | (refine sa_stat_off 11 rfl rfl (.inl ⟨rfl, rfl⟩) (by kernel_rfl) rfl ?_) | (refine sa_stat_off 11 rfl rfl (.inr rfl) (by kernel_rfl) rfl ?_) | (apply sa_stat_on 11 rfl rfl rfl ?_ (by kernel_rfl) rfl; (· ((exact voA))); (rotate_left 1); (· (exact decA))) | (refine sa_stat_off 11 rfl rfl (.inl ⟨rfl, ?_⟩) (by kernel_rfl) rfl ?_; (· (exact decA)))
              first | (apply sa_stat_on 12 rfl rfl rfl rfl (by kernel_rfl) rfl; (· ((exact voA)))) | (refine sa_stat_off 12 rfl rfl (.inl ⟨rfl, rfl⟩) (by kernel_rfl) rfl ?_) | (refine sa_stat_off 12 rfl rfl (.inr rfl) (by kernel_rfl) rfl ?_) | (apply sa_stat_on 12 rfl rfl rfl ?_ (by kernel_rfl) rfl; (· ((exact voA))); (rotate_left 1); (· (exact decA))) | (refine sa_stat_off 12 rfl rfl (.inl ⟨rfl, ?_⟩) (by kernel_rfl) rfl ?_; (· (exact decA)))
              first | (apply sa_stat_on 13 rfl rfl rfl rfl (by kernel_rfl) rfl; (· ((exact voA)))) | (refine sa_stat_off 13 rfl rfl (.inl ⟨rfl, rfl⟩) (by kernel_rfl) rfl ?_) | (refine sa_stat_off 13 rfl rfl (.inr rfl) (by kernel_rfl) rfl ?_) | (apply sa_stat_on 13 rfl rfl rfl ?_ (by kernel_rfl) rfl; (· ((exact voA))); (rotate_left 1); (· (exact decA))) | (refine sa_stat_off 13 rfl rfl (.inl ⟨rfl, ?_⟩) (by kernel_rfl) rfl ?_; (· (exact decA)))
              apply sa_stat 14 rfl (by kernel_rfl) rfl
              · (exact voA)
              refine sa_rest (T' := []) rfl (by kernel_rfl) ?_
              repeat' (first
                | (apply so_vo; (· exact voA); (· rfl))
                | refine so_nil ?_
                | refine q_go ?_
                | refine sw_region ?_
                | (refine goQ ?_; intro _ _)
                | refine go1 ?_
                | (refine goU ?_; intro nu)
                | (refine goB ?_; intro nb)
                | (refine goM ?_; intro nm)
                | (refine go2 ?_ ?_ <;> intro h <;> (try simp only [Bool.not_true, Bool.not_false, decide_eq_true_eq, decide_eq_false_iff_not, Bool.not_eq_true', Bool.not_eq_false', ne_eq, Decidable.not_not, Int.not_lt, Int.not_le, not_false_eq_true] at h))
                | fail)
              rw [hnext, hst]
              refine ⟨rfl, tc, trivial, ?_, ?_⟩
              · (exact fsA)
              · (first | exact fun _ h => h | exact HLess.sat inferInstance)
            · refine sa_start [] mixed (by kernel_rfl) ?_
              apply sa_stat 0 rfl (by kernel_rfl) rfl
              · (exact voA)
              apply sa_stat 1 rfl (by kernel_rfl) rfl
              · (exact voA)
              apply sa_stat 2 rfl (by kernel_rfl) rfl
              · (exact voA)
              first | (apply sa_stat_on 3 rfl rfl rfl rfl (by kernel_rfl) rfl; (· ((exact voA)))) | (refine sa_stat_off 3 rfl rfl (.inl ⟨rfl, rfl⟩) (by kernel_rfl) rfl ?_) | (refine sa_stat_off 3 rfl rfl (.inr rfl) (by kernel_rfl) rfl ?_) | (apply sa_stat_on 3 rfl rfl rfl ?_ (by kernel_rfl) rfl; (· ((exact voA))); (rotate_left 1); (· (exact decA))) | (refine sa_stat_off 3 rfl rfl (.inl ⟨rfl, ?_⟩) (by kernel_rfl) rfl ?_; (· (exact decA)))
              first | (apply sa_stat_on 4 rfl rfl rfl rfl (by kernel_rfl) rfl; (· ((exact voA)))) | (refine sa_stat_off 4 rfl rfl (.inl ⟨rfl, rfl⟩) (by kernel_rfl) rfl ?_) | (refine sa_stat_off 4 rfl rfl (.inr rfl) (by kernel_rfl) rfl ?_) | (apply sa_stat_on 4 rfl rfl rfl ?_ (by kernel_rfl) rfl; (· ((exact voA))); (rotate_left 1); (· (exact decA))) | (refine sa_stat_off 4 rfl rfl (.inl ⟨rfl, ?_⟩) (by kernel_rfl) rfl ?_; (· (exact decA)))
              first | (apply sa_stat_on 5 rfl rfl rfl rfl (by kernel_rfl) rfl; (· ((exact voA)))) | (refine sa_stat_off 5 rfl rfl (.inl ⟨rfl, rfl⟩) (by kernel_rfl) rfl ?_) | (refine sa_stat_off 5 rfl rfl (.inr rfl) (by kernel_rfl) rfl ?_) | (apply sa_stat_on 5 rfl rfl rfl ?_ (by kernel_rfl) rfl; (· ((exact voA))); (rotate_left 1); (· (exact decA))) | (refine sa_stat_off 5 rfl rfl (.inl ⟨rfl, ?_⟩) (by kernel_rfl) rfl ?_; (· (exact decA)))
              first | (apply sa_stat_on 6 rfl rfl rfl rfl (by kernel_rfl) rfl; (· ((exact voA)))) | (refine sa_stat_off 6 rfl rfl (.inl ⟨rfl, rfl⟩) (by kernel_rfl) rfl ?_) | (refine sa_stat_off 6 rfl rfl (.inr rfl) (by kernel_rfl) rfl ?_) | (apply sa_stat_on 6 rfl rfl rfl ?_ (by kernel_rfl) rfl; (· ((exact voA))); (rotate_left 1); (· (exact decA))) | (refine sa_stat_off 6 rfl rfl (.inl ⟨rfl, ?_⟩) (by kernel_rfl) rfl ?_; (· (exact decA)))
              first | (apply sa_stat_on 7 rfl rfl rfl rfl (by kernel_rfl) rfl; (· ((exact voA)))) | (refine sa_stat_off 7 rfl rfl (.inl ⟨rfl, rfl⟩) (by kernel_rfl) rfl ?_) | (refine sa_stat_off 7 rfl rfl (.inr rfl) (by kernel_rfl) rfl ?_) | (apply sa_stat_on 7 rfl rfl rfl ?_ (by kernel_rfl) rfl; (· ((exact voA))); (rotate_left 1); (· (exact decA))) | (refine sa_stat_off 7 rfl rfl (.inl ⟨rfl, ?_⟩) (by kernel_rfl) rfl ?_; (· (exact decA)))
              first | (apply sa_stat_on 8 rfl rfl rfl rfl (by kernel_rfl) rfl; (· ((exact voA)))) | (refine sa_stat_off 8 rfl rfl (.inl ⟨rfl, rfl⟩) (by kernel_rfl) rfl ?_) | (refine sa_stat_off 8 rfl rfl (.inr rfl) (by kernel_rfl) rfl ?_) | (apply sa_stat_on 8 rfl rfl rfl ?_ (by kernel_rfl) rfl; (· ((exact voA))); (rotate_left 1); (· (exact decA))) | (refine sa_stat_off 8 rfl rfl (.inl ⟨rfl, ?_⟩) (by kernel_rfl) rfl ?_; (· (exact decA)))
              first | (apply sa_stat_on 9 rfl rfl rfl rfl (by kernel_rfl) rfl; (· ((exact voA)))) | (refine sa_stat_off 9 rfl rfl (.inl ⟨rfl, rfl⟩) (by kernel_rfl) rfl ?_) | (refine sa_stat_off 9 rfl rfl (.inr rfl) (by kernel_rfl) rfl ?_) | (apply sa_stat_on 9 rfl rfl rfl ?_ (by kernel_rfl) rfl; (· ((exact voA))); (rotate_left 1); (· (exact decA))) | (refine sa_stat_off 9 rfl rfl (.inl ⟨rfl, ?_⟩) (by kernel_rfl) rfl ?_; (· (exact decA)))
              first | (apply sa_stat_on 10 rfl rfl rfl rfl (by kernel_rfl) rfl; (· ((exact voA)))) | (refine sa_stat_off 10 rfl rfl (.inl ⟨rfl, rfl⟩) (by kernel_rfl) rfl ?_) | (refine sa_stat_off 10 rfl rfl (.inr rfl) (by kernel_rfl) rfl ?_) | (apply sa_stat_on 10 rfl rfl rfl ?_ (by kernel_rfl) rfl; (· ((exact voA))); (rotate_left 1); (· (exact decA))) | (refine sa_stat_off 10 rfl rfl (.inl ⟨rfl, ?_⟩) (by kernel_rfl) rfl ?_; (· (exact decA)))
              first | (apply sa_stat_on 11 rfl rfl rfl rfl (by kernel_rfl) rfl; (· ((exact voA)))) | (refine sa_stat_off 11 rfl rfl (.inl ⟨rfl, rfl⟩) (by kernel_rfl) rfl ?_) | (refine sa_stat_off 11 rfl rfl (.inr rfl) (by kernel_rfl) rfl ?_) | (apply sa_stat_on 11 rfl rfl rfl ?_ (by kernel_rfl) rfl; (· ((exact voA))); (rotate_left 1); (· (exact decA))) | (refine sa_stat_off 11 rfl rfl (.inl ⟨rfl, ?_⟩) (by kernel_rfl) rfl ?_; (· (exact decA)))
              first | (apply sa_stat_on 12 rfl rfl rfl rfl (by kernel_rfl) rfl; (· ((exact voA)))) | (refine sa_stat_off 12 rfl rfl (.inl ⟨rfl, rfl⟩) (by kernel_rfl) rfl ?_) | (refine sa_stat_off 12 rfl rfl (.inr rfl) (by kernel_rfl) rfl ?_) | (apply sa_stat_on 12 rfl rfl rfl ?_ (by kernel_rfl) rfl; (· ((exact voA))); (rotate_left 1); (· (exact decA))) | (refine sa_stat_off 12 rfl rfl (.inl ⟨rfl, ?_⟩) (by kernel_rfl) rfl ?_; (· (exact decA)))
              first | (apply sa_stat_on 13 rfl rfl rfl rfl (by kernel_rfl) rfl; (· ((exact voA)))) | (refine sa_stat_off 13 rfl rfl (.inl ⟨rfl, rfl⟩) (by kernel_rfl) rfl ?_) | (refine sa_stat_off 13 rfl rfl (.inr rfl) (by kernel_rfl) rfl ?_) | (apply sa_stat_on 13 rfl rfl rfl ?_ (by kernel_rfl) rfl; (· ((exact voA))); (rotate_left 1); (· (exact decA))) | (refine sa_stat_off 13 rfl rfl (.inl ⟨rfl, ?_⟩) (by kernel_rfl) rfl ?_; (· (exact decA)))
              apply sa_stat 14 rfl (by kernel_rfl) rfl
              · (exact voA)
              refine sa_rest (T' := []) rfl (by kernel_rfl) ?_
              repeat' (first
                | (apply so_vo; (· exact voA); (· rfl))
                | refine so_nil ?_
                | refine q_go ?_
                | refine sw_region ?_
                | (refine goQ ?_; intro _ _)
                | refine go1 ?_
                | (refine goU ?_; intro nu)
                | (refine goB ?_; intro nb)
                | (refine goM ?_; intro nm)
                | (refine go2 ?_ ?_ <;> intro h <;> (try simp only [Bool.not_true, Bool.not_false, decide_eq_true_eq, decide_eq_false_iff_not, Bool.not_eq_true', Bool.not_eq_false', ne_eq, Decidable.not_not, Int.not_lt, Int.not_le, not_false_eq_true] at h))
                | fail)
              rw [hnext, hst]
              refine ⟨rfl, tc, trivial, ?_, ?_⟩
              · (exact fsA)
              · (first | exact fun _ h => h | exact HLess.sat inferInstance)
          · have hsg : (decide (0 < gv sc.1 a) == decide (0 < gv sc.1 b)) = true := by
              rcases hi with hi | hi
              · exact absurd hi hm
              · rw [hi]; simp
            repeat' (first
              | (apply so_vo; (· exact voA); (· rfl))
              | refine so_nil ?_
              | refine q_go ?_
              | refine sw_region ?_
              | (refine goQ ?_; intro _ _)
              | refine go1 ?_
              | (refine goU ?_; intro nu)
              | (refine goB ?_; intro nb)
              | (refine goM ?_; intro nm)
              | (refine go2 ?_ ?_ <;> intro h <;> (try simp only [Bool.not_true, Bool.not_false, decide_eq_true_eq, decide_eq_false_iff_not, Bool.not_eq_true', Bool.not_eq_false', ne_eq, Decidable.not_not, Int.not_lt, Int.not_le, not_false_eq_true] at h))
              | fail)
            refine sa_start [22] mixed (by kernel_rfl) ?_
            apply sa_stat 0 rfl (by kernel_rfl) rfl
            · (exact voA)
            apply sa_stat 1 rfl (by kernel_rfl) rfl
            · (exact voA)
            apply sa_stat 2 rfl (by kernel_rfl) rfl
            · (exact voA)
            apply sa_stat 3 rfl (by kernel_rfl) rfl
            · (exact voA)
            apply sa_stat 4 rfl (by kernel_rfl) rfl
            · (exact voA)
            apply sa_stat 5 rfl (by kernel_rfl) rfl
            · (exact voA)
            apply sa_stat 6 rfl (by kernel_rfl) rfl
            · (exact voA)
            apply sa_stat 7 rfl (by kernel_rfl) rfl
            · (exact voA)
            apply sa_stat 8 rfl (by kernel_rfl) rfl
            · (exact voA)
            apply sa_stat 9 rfl (by kernel_rfl) rfl
            · (exact voA)
            apply sa_stat 10 rfl (by kernel_rfl) rfl
            · (exact voA)
            apply sa_stat 11 rfl (by kernel_rfl) rfl
            · (exact voA)
            apply sa_stat 12 rfl (by kernel_rfl) rfl
            · (exact voA)
            apply sa_stat 13 rfl (by kernel_rfl) rfl
            · (exact voA)
            apply sa_stat 14 rfl (by kernel_rfl) rfl
            · (exact voA)
            apply sa_stat 15 rfl (by kernel_rfl) rfl
            · (exact voA)
            apply sa_stat 16 rfl (by kernel_rfl) rfl
            · (exact voA)
            apply sa_stat 17 rfl (by kernel_rfl) rfl
            · (exact voA)
            apply sa_stat 18 rfl (by kernel_rfl) rfl
            · (exact voA)
            apply sa_stat 19 rfl (by kernel_rfl) rfl
            · (exact voA)
            refine sa_chainL 20 rfl (by kernel_rfl) ?_
            repeat' (first
              | (apply so_vo; (· exact voA); (· rfl))
              | refine so_nil ?_
              | refine q_go ?_
              | refine sw_region ?_
              | (refine goQ ?_; intro _ _)
              | refine go1 ?_
              | (refine goU ?_; intro nu)
              | (refine goB ?_; intro nb)
              | (refine goM ?_; intro nm)
              | (refine go2 ?_ ?_ <;> intro h <;> (try simp only [Bool.not_true, Bool.not_false, decide_eq_true_eq, decide_eq_false_iff_not, Bool.not_eq_true', Bool.not_eq_false', ne_eq, Decidable.not_not, Int.not_lt, Int.not_le, not_false_eq_true] at h))
              | fail)
            refine ⟨rfl, rfl, HLess.sat inferInstance, ?_⟩
            refine sa_chainL 21 rfl (by kernel_rfl) ?_
            (refine so_call rfl rfl rfl (least_ok _ _ nu _) ?_; rintro _ _ ⟨rfl, rfl⟩; rw [em])
            repeat' (first
              | (apply so_vo; (· exact voA); (· rfl))
              | refine so_nil ?_
              | refine q_go ?_
              | refine sw_region ?_
              | (refine goQ ?_; intro _ _)
              | refine go1 ?_
              | (refine goU ?_; intro nu)
              | (refine goB ?_; intro nb)
              | (refine goM ?_; intro nm)
              | (refine go2 ?_ ?_ <;> intro h <;> (try simp only [Bool.not_true, Bool.not_false, decide_eq_true_eq, decide_eq_false_iff_not, Bool.not_eq_true', Bool.not_eq_false', ne_eq, Decidable.not_not, Int.not_lt, Int.not_le, not_false_eq_true] at h))
              | fail)
            refine ⟨rfl, rfl, HLess.sat inferInstance, ?_⟩
            refine sa_rest (T' := [_]) rfl (by kernel_rfl) ?_
            repeat' (first
              | (apply so_vo; (· exact voA); (· rfl))
              | refine so_nil ?_
              | refine q_go ?_
              | refine sw_region ?_
              | (refine goQ ?_; intro _ _)
              | refine go1 ?_
              | (refine goU ?_; intro nu)
              | (refine goB ?_; intro nb)
              | (refine goM ?_; intro nm)
              | (refine go2 ?_ ?_ <;> intro h <;> (try simp only [Bool.not_true, Bool.not_false, decide_eq_true_eq, decide_eq_false_iff_not, Bool.not_eq_true', Bool.not_eq_false', ne_eq, Decidable.not_not, Int.not_lt, Int.not_le, not_false_eq_true] at h))
              | fail)
            · refine sa_start [] mixed (by kernel_rfl) ?_
              apply sa_stat 0 rfl (by kernel_rfl) rfl
              · (exact voA)
              apply sa_stat 1 rfl (by kernel_rfl) rfl
              · (exact voA)
              apply sa_stat 2 rfl (by kernel_rfl) rfl
              · (exact voA)
              first | (apply sa_stat_on 3 rfl rfl rfl rfl (by kernel_rfl) rfl; (· ((exact voA)))) | (refine sa_stat_off 3 rfl rfl (.inl ⟨rfl, rfl⟩) (by kernel_rfl) rfl ?_) | (refine sa_stat_off 3 rfl rfl (.inr rfl) (by kernel_rfl) rfl ?_) | (apply sa_stat_on 3 rfl rfl rfl ?_ (by kernel_rfl) rfl; (· ((exact voA))); (rotate_left 1); (· (exact decA))) | (refine sa_stat_off 3 rfl rfl (.inl ⟨rfl, ?_⟩) (by kernel_rfl) rfl ?_; (· (exact decA)))
              first | (apply sa_stat_on 4 rfl rfl rfl rfl (by kernel_rfl) rfl; (· ((exact voA)))) | (refine sa_stat_off 4 rfl rfl (.inl ⟨rfl, rfl⟩) (by kernel_rfl) rfl ?_) | (refine sa_stat_off 4 rfl rfl (.inr rfl) (by kernel_rfl) rfl ?_) | (apply sa_stat_on 4 rfl rfl rfl ?_ (by kernel_rfl) rfl; (· ((exact voA))); (rotate_left 1); (· (exact decA))) | (refine sa_stat_off 4 rfl rfl (.inl ⟨rfl, ?_⟩) (by kernel_rfl) rfl ?_; (· (exact decA)))
              first | (apply sa_stat_on 5 rfl rfl rfl rfl (by kernel_rfl) rfl; (· ((exact voA)))) | (refine sa_stat_off 5 rfl rfl (.inl ⟨rfl, rfl⟩) (by kernel_rfl) rfl ?_) | (refine sa_stat_off 5 rfl rfl (.inr rfl) (by kernel_rfl) rfl ?_) | (apply sa_stat_on 5 rfl rfl rfl ?_ (by kernel_rfl) rfl; (· ((exact voA))); (rotate_left 1); (· (exact decA))) | (refine sa_stat_off 5 rfl rfl (.inl ⟨rfl, ?_⟩) (by kernel_rfl) rfl ?_; (· (exact decA)))
              first | (apply sa_stat_on 6 rfl rfl rfl rfl (by kernel_rfl) rfl; (· ((exact voA)))) | (refine sa_stat_off 6 rfl rfl (.inl ⟨rfl, rfl⟩) (by kernel_rfl) rfl ?_) | (refine sa_stat_off 6 rfl rfl (.inr rfl) (by kernel_rfl) rfl ?_) | (apply sa_stat_on 6 rfl rfl rfl ?_ (by kernel_rfl) rfl; (· ((exact voA))); (rotate_left 1); (· (exact decA))) | (refine sa_stat_off 6 rfl rfl (.inl ⟨rfl, ?_⟩) (by kernel_rfl) rfl ?_; (· (exact decA)))
              first | (apply sa_stat_on 7 rfl rfl rfl rfl (by kernel_rfl) rfl; (· ((exact voA)))) | (refine sa_stat_off 7 rfl rfl (.inl ⟨rfl, rfl⟩) (by kernel_rfl) rfl ?_) | (refine sa_stat_off 7 rfl rfl (.inr rfl) (by kernel_rfl) rfl ?_) | (apply sa_stat_on 7 rfl rfl rfl ?_ (by kernel_rfl) rfl; (· ((exact voA))); (rotate_left 1); (· (exact decA))) | (refine sa_stat_off 7 rfl rfl (.inl ⟨rfl, ?_⟩) (by kernel_rfl) rfl ?_; (· (exact decA)))
              first | (apply sa_stat_on 8 rfl rfl rfl rfl (by kernel_rfl) rfl; (· ((exact voA)))) | (refine sa_stat_off 8 rfl rfl (.inl ⟨rfl, rfl⟩) (by kernel_rfl) rfl ?_) | (refine sa_stat_off 8 rfl rfl (.inr rfl) (by kernel_rfl) rfl ?_) | (apply sa_stat_on 8 rfl rfl rfl ?_ (by kernel_rfl) rfl; (· ((exact voA))); (rotate_left 1); (· (exact decA))) | (refine sa_stat_off 8 rfl rfl (.inl ⟨rfl, ?_⟩) (by kernel_rfl) rfl ?_; (· (exact decA)))
              first | (apply sa_stat_on 9 rfl rfl rfl rfl (by kernel_rfl) rfl; (· ((exact voA)))) | (refine sa_stat_off 9 rfl rfl (.inl ⟨rfl, rfl⟩) (by kernel_rfl) rfl ?_) | (refine sa_stat_off 9 rfl rfl (.inr rfl) (by kernel_rfl) rfl ?_) | (apply sa_stat_on 9 rfl rfl rfl ?_ (by kernel_rfl) rfl; (· ((exact voA))); (rotate_left 1); (· (exact decA))) | (refine sa_stat_off 9 rfl rfl (.inl ⟨rfl, ?_⟩) (by kernel_rfl) rfl ?_; (· (exact decA)))
              first | (apply sa_stat_on 10 rfl rfl rfl rfl (by kernel_rfl) rfl; (· ((exact voA)))) | (refine sa_stat_off 10 rfl rfl (.inl ⟨rfl, rfl⟩) (by kernel_rfl) rfl ?_) | (refine sa_stat_off 10 rfl rfl (.inr rfl) (by kernel_rfl) rfl ?_) | (apply sa_stat_on 10 rfl rfl rfl ?_ (by kernel_rfl) rfl; (· ((exact voA))); (rotate_left 1); (· (exact decA))) | (refine sa_stat_off 10 rfl rfl (.inl ⟨rfl, ?_⟩) (by kernel_rfl) rfl ?_; (· (exact decA)))
              first | (apply sa_stat_on 11 rfl rfl rfl rfl (by kernel_rfl) rfl; (· ((exact voA)))) | (refine sa_stat_off 11 rfl rfl (.inl ⟨rfl, rfl⟩) (by kernel_rfl) rfl ?_) | (refine sa_stat_off 11 rfl rfl (.inr rfl) (by kernel_rfl) rfl ?_) | (apply sa_stat_on 11 rfl rfl rfl ?_ (by kernel_rfl) rfl; (· ((exact voA))); (rotate_left 1); (· (exact decA))) | (refine sa_stat_off 11 rfl rfl (.inl ⟨rfl, ?_⟩) (by kernel_rfl) rfl ?_; (· (exact decA)))
              first | (apply sa_stat_on 12 rfl rfl rfl rfl (by kernel_rfl) rfl; (· ((exact voA)))) | (refine sa_stat_off 12 rfl rfl (.inl ⟨rfl, rfl⟩) (by kernel_rfl) rfl ?_) | (refine sa_stat_off 12 rfl rfl (.inr rfl) (by kernel_rfl) rfl ?_) | (apply sa_stat_on 12 rfl rfl rfl ?_ (by kernel_rfl) rfl; (· ((exact voA))); (rotate_left 1); (· (exact decA))) | (refine sa_stat_off 12 rfl rfl (.inl ⟨rfl, ?_⟩) (by kernel_rfl) rfl ?_; (· (exact decA)))
              first | (apply sa_stat_on 13 rfl rfl rfl rfl (by kernel_rfl) rfl; (· ((exact voA)))) | (refine sa_stat_off 13 rfl rfl (.inl ⟨rfl, rfl⟩) (by kernel_rfl) rfl ?_) | (refine sa_stat_off 13 rfl rfl (.inr rfl) (by kernel_rfl) rfl ?_) | (apply sa_stat_on 13 rfl rfl rfl ?_ (by kernel_rfl) rfl; (· ((exact voA))); (rotate_left 1); (· (exact decA))) | (refine sa_stat_off 13 rfl rfl (.inl ⟨rfl, ?_⟩) (by kernel_rfl) rfl ?_; (· (exact decA)))
              apply sa_stat 14 rfl (by kernel_rfl) rfl
              · (exact voA)
              refine sa_rest (T' := []) rfl (by kernel_rfl) ?_
              repeat' (first
                | (apply so_vo; (· exact voA); (· rfl))
                | refine so_nil ?_
                | refine q_go ?_
                | refine sw_region ?_
                | (refine goQ ?_; intro _ _)
                | refine go1 ?_
                | (refine goU ?_; intro nu)
                | (refine goB ?_; intro nb)
                | (refine goM ?_; intro nm)
                | (refine go2 ?_ ?_ <;> intro h <;> (try simp only [Bool.not_true, Bool.not_false, decide_eq_true_eq, decide_eq_false_iff_not, Bool.not_eq_true', Bool.not_eq_false', ne_eq, Decidable.not_not, Int.not_lt, Int.not_le, not_false_eq_true] at h))
                | fail)
              rw [hnext, hst]
              refine ⟨rfl, tc, trivial, ?_, ?_⟩
              · (exact fsA)
              · (first | exact fun _ h => h | exact HLess.sat inferInstance)
            · refine sa_start [] mixed (by kernel_rfl) ?_
              apply sa_stat 0 rfl (by kernel_rfl) rfl
              · (exact voA)
              apply sa_stat 1 rfl (by kernel_rfl) rfl
              · (exact voA)
              apply sa_stat 2 rfl (by kernel_rfl) rfl
              · (exact voA)
              first | (apply sa_stat_on 3 rfl rfl rfl rfl (by kernel_rfl) rfl; (· ((exact voA)))) | (refine sa_stat_off 3 rfl rfl (.inl ⟨rfl, rfl⟩) (by kernel_rfl) rfl ?_) | (refine sa_stat_off 3 rfl rfl (.inr rfl) (by kernel_rfl) rfl ?_) | (apply sa_stat_on 3 rfl rfl rfl ?_ (by kernel_rfl) rfl; (· ((exact voA))); (rotate_left 1); (· (exact decA))) | (refine sa_stat_off 3 rfl rfl (.inl ⟨rfl, ?_⟩) (by kernel_rfl) rfl ?_; (· (exact decA)))
              first | (apply sa_stat_on 4 rfl rfl rfl rfl (by kernel_rfl) rfl; (· ((exact voA)))) | (refine sa_stat_off 4 rfl rfl (.inl ⟨rfl, rfl⟩) (by kernel_rfl) rfl ?_) | (refine sa_stat_off 4 rfl rfl (.inr rfl) (by kernel_rfl) rfl ?_) | (apply sa_stat_on 4 rfl rfl rfl ?_ (by kernel_rfl) rfl; (· ((exact voA))); (rotate_left 1); (· (exact decA))) | (refine sa_stat_off 4 rfl rfl (.inl ⟨rfl, ?_⟩) (by kernel_rfl) rfl ?_; (· (exact decA)))
              first | (apply sa_stat_on 5 rfl rfl rfl rfl (by kernel_rfl) rfl; (· ((exact voA)))) | (refine sa_stat_off 5 rfl rfl (.inl ⟨rfl, rfl⟩) (by kernel_rfl) rfl ?_) | (refine sa_stat_off 5 rfl rfl (.inr rfl) (by kernel_rfl) rfl ?_) | (apply sa_stat_on 5 rfl rfl rfl ?_ (by kernel_rfl) rfl; (· ((exact voA))); (rotate_left 1); (· (exact decA))) | (refine sa_stat_off 5 rfl rfl (.inl ⟨rfl, ?_⟩) (by kernel_rfl) rfl ?_; (· (exact decA)))
              first | (apply sa_stat_on 6 rfl rfl rfl rfl (by kernel_rfl) rfl; (· ((exact voA)))) | (refine sa_stat_off 6 rfl rfl (.inl ⟨rfl, rfl⟩) (by kernel_rfl) rfl ?_) | (refine sa_stat_off 6 rfl rfl (.inr rfl) (by kernel_rfl) rfl ?_) | (apply sa_stat_on 6 rfl rfl rfl ?_ (by kernel_rfl) rfl; (· ((exact voA))); (rotate_left 1); (· (exact decA))) | (refine sa_stat_off 6 rfl rfl (.inl ⟨rfl, ?_⟩) (by kernel_rfl) rfl ?_; (· (exact decA)))
              first | (apply sa_stat_on 7 rfl rfl rfl rfl (by kernel_rfl) rfl; (· ((exact voA)))) | (refine sa_stat_off 7 rfl rfl (.inl ⟨rfl, rfl⟩) (by kernel_rfl) rfl ?_) | (refine sa_stat_off 7 rfl rfl (.inr rfl) (by kernel_rfl) rfl ?_) | (apply sa_stat_on 7 rfl rfl rfl ?_ (by kernel_rfl) rfl; (· ((exact voA))); (rotate_left 1); (· (exact decA))) | (refine sa_stat_off 7 rfl rfl (.inl ⟨rfl, ?_⟩) (by kernel_rfl) rfl ?_; (· (exact decA)))
              first | (apply sa_stat_on 8 rfl rfl rfl rfl (by kernel_rfl) rfl; (· ((exact voA)))) | (refine sa_stat_off 8 rfl rfl (.inl ⟨rfl, rfl⟩) (by kernel_rfl) rfl ?_) | (refine sa_stat_off 8 rfl rfl (.inr rfl) (by kernel_rfl) rfl ?_) | (apply sa_stat_on 8 rfl rfl rfl ?_ (by kernel_rfl) rfl; (· ((exact voA))); (rotate_left 1); (· (exact decA))) | (refine sa_stat_off 8 rfl rfl (.inl ⟨rfl, ?_⟩) (by kernel_rfl) rfl ?_; (· (exact decA)))
              first | (apply sa_stat_on 9 rfl rfl rfl rfl (by kernel_rfl) rfl; (· ((exact voA)))) | (refine sa_stat_off 9 rfl rfl (.inl ⟨rfl, rfl⟩) (by kernel_rfl) rfl ?_) | (refine sa_stat_off 9 rfl rfl (.inr rfl) (by kernel_rfl) rfl ?_) | (apply sa_stat_on 9 rfl rfl rfl ?_ (by kernel_rfl) rfl; (· ((exact voA))); (rotate_left 1); (· (exact decA))) | (refine sa_stat_off 9 rfl rfl (.inl ⟨rfl, ?_⟩) (by kernel_rfl) rfl ?_; (· (exact decA)))
              first | (apply sa_stat_on 10 rfl rfl rfl rfl (by kernel_rfl) rfl; (· ((exact voA)))) | (refine sa_stat_off 10 rfl rfl (.inl ⟨rfl, rfl⟩) (by kernel_rfl) rfl ?_) | (refine sa_stat_off 10 rfl rfl (.inr rfl) (by kernel_rfl) rfl ?_) | (apply sa_stat_on 10 rfl rfl rfl ?_ (by kernel_rfl) rfl; (· ((exact voA))); (rotate_left 1); (· (exact decA))) | (refine sa_stat_off 10 rfl rfl (.inl ⟨rfl, ?_⟩) (by kernel_rfl) rfl ?_; (· (exact decA)))
              first | (apply sa_stat_on 11 rfl rfl rfl rfl (by kernel_rfl) rfl; (· ((exact voA)))) | (refine sa_stat_off 11 rfl rfl (.inl ⟨rfl, rfl⟩) (by kernel_rfl) rfl ?_) | (refine sa_stat_off 11 rfl rfl (.inr rfl) (by kernel_rfl) rfl ?_) | (apply sa_stat_on 11 rfl rfl rfl ?_ (by kernel_rfl) rfl; (· ((exact voA))); (rotate_left 1); (· (exact decA))) | (refine sa_stat_off 11 rfl rfl (.inl ⟨rfl, ?_⟩) (by kernel_rfl) rfl ?_; (· (exact decA)))
              first | (apply sa_stat_on 12 rfl rfl rfl rfl (by kernel_rfl) rfl; (· ((exact voA)))) | (refine sa_stat_off 12 rfl rfl (.inl ⟨rfl, rfl⟩) (by kernel_rfl) rfl ?_) | (refine sa_stat_off 12 rfl rfl (.inr rfl) (by kernel_rfl) rfl ?_) | (apply sa_stat_on 12 rfl rfl rfl ?_ (by kernel_rfl) rfl; (· ((exact voA))); (rotate_left 1); (· (exact decA))) | (refine sa_stat_off 12 rfl rfl (.inl ⟨rfl, ?_⟩) (by kernel_rfl) rfl ?_; (· (exact decA)))
              first | (apply sa_stat_on 13 rfl rfl rfl rfl (by kernel_rfl) rfl; (· ((exact voA)))) | (refine sa_stat_off 13 rfl rfl (.inl ⟨rfl, rfl⟩) (by kernel_rfl) rfl ?_) | (refine sa_stat_off 13 rfl rfl (.inr rfl) (by kernel_rfl) rfl ?_) | (apply sa_stat_on 13 rfl rfl rfl ?_ (by kernel_rfl) rfl; (· ((exact voA))); (rotate_left 1); (· (exact decA))) | (refine sa_stat_off 13 rfl rfl (.inl ⟨rfl, ?_⟩) (by kernel_rfl) rfl ?_; (· (exact decA)))
              apply sa_stat 14 rfl (by kernel_rfl) rfl
              · (exact voA)
              refine sa_rest (T' := []) rfl (by kernel_rfl) ?_
              repeat' (first
                | (apply so_vo; (· exact voA); (· rfl))
                | refine so_nil ?_
                | refine q_go ?_
                | refine sw_region ?_
                | (refine goQ ?_; intro _ _)
                | refine go1 ?_
                | (refine goU ?_; intro nu)
                | (refine goB ?_; intro nb)
                | (refine goM ?_; intro nm)
                | (refine go2 ?_ ?_ <;> intro h <;> (try simp only [Bool.not_true, Bool.not_false, decide_eq_true_eq, decide_eq_false_iff_not, Bool.not_eq_true', Bool.not_eq_false', ne_eq, Decidable.not_not, Int.not_lt, Int.not_le, not_false_eq_true] at h))
                | fail)
              rw [hnext, hst]
              refine ⟨rfl, tc, trivial, ?_, ?_⟩
              · (exact fsA)
              · (first | exact fun _ h => h | exact HLess.sat inferInstance)
        · have hm : ¬ much sc.1 a b = 0 := fun e => hi (.inl e)
          have hsg : (decide (0 < gv sc.1 a) == decide (0 < gv sc.1 b)) = false := by
            rw [Bool.eq_false_iff]; intro e; exact hi (.inr (by simpa using e))
          have hgs1 : ∀ (F T : Int), (0 ≤ F ∧ F < d.length) → (0 ≤ T ∧ T < d.length) → F ≠ T → (sc.1.set F.toNat (gv sc.1 F + much sc.1 a b))[T.toNat]? = some (gv sc.1 T) := fun F T hF hT hFT => by
            rw [List.getElem?_set_ne (by omega)]; exact getD_get (by omega)
          by_cases hp : 0 < gv sc.1 a
          · have hst : stepAB a sc b = ((sc.1.set b.toNat (gv sc.1 b + much sc.1 a b)).set a.toNat (gv sc.1 a - much sc.1 a b), sc.2 ++ [(b, a, much sc.1 a b)]) := by
              have h5 := getD_of (d := 0) (hgs1 b a hb ha (Ne.symm hab))
              unfold stepAB; rw [if_neg hi]; unfold prom; rw [if_pos hp]; unfold payStep netStep; simp only [gv] at h5 ⊢; rw [h5]
            have hA2 := hgs1 b a hb ha (Ne.symm hab)
            repeat' (first
              | (apply so_vo; (· exact voA); (· rfl))
              | refine so_nil ?_
              | refine q_go ?_
              | refine sw_region ?_
              | (refine goQ ?_; intro _ _)
              | refine go1 ?_
              | (refine goU ?_; intro nu)
              | (refine goB ?_; intro nb)
              | (refine goM ?_; intro nm)
              | (refine go2 ?_ ?_ <;> intro h <;> (try simp only [Bool.not_true, Bool.not_false, decide_eq_true_eq, decide_eq_false_iff_not, Bool.not_eq_true', Bool.not_eq_false', ne_eq, Decidable.not_not, Int.not_lt, Int.not_le, not_false_eq_true] at h))
              | fail)
            refine sa_start [22] mixed (by kernel_rfl) ?_
            apply sa_stat 0 rfl (by kernel_rfl) rfl
            · (exact voA)
            apply sa_stat 1 rfl (by kernel_rfl) rfl
            · (exact voA)
            apply sa_stat 2 rfl (by kernel_rfl) rfl
            · (exact voA)
            apply sa_stat 3 rfl (by kernel_rfl) rfl
            · (exact voA)
            apply sa_stat 4 rfl (by kernel_rfl) rfl
            · (exact voA)
            apply sa_stat 5 rfl (by kernel_rfl) rfl
            · (exact voA)
            apply sa_stat 6 rfl (by kernel_rfl) rfl
            · (exact voA)
            apply sa_stat 7 rfl (by kernel_rfl) rfl
            · (exact voA)
            apply sa_stat 8 rfl (by kernel_rfl) rfl
            · (exact voA)
            apply sa_stat 9 rfl (by kernel_rfl) rfl
            · (exact voA)
            apply sa_stat 10 rfl (by kernel_rfl) rfl
            · (exact voA)
            apply sa_stat 11 rfl (by kernel_rfl) rfl
            · (exact voA)
            apply sa_stat 12 rfl (by kernel_rfl) rfl
            · (exact voA)
            apply sa_stat 13 rfl (by kernel_rfl) rfl
            · (exact voA)
            apply sa_stat 14 rfl (by kernel_rfl) rfl
            · (exact voA)
            apply sa_stat 15 rfl (by kernel_rfl) rfl
            · (exact voA)
            apply sa_stat 16 rfl (by kernel_rfl) rfl
            · (exact voA)
            apply sa_stat 17 rfl (by kernel_rfl) rfl
            · (exact voA)
            apply sa_stat 18 rfl (by kernel_rfl) rfl
            · (exact voA)
            apply sa_stat 19 rfl (by kernel_rfl) rfl
            · (exact voA)
            refine sa_chainL 20 rfl (by kernel_rfl) ?_
            repeat' (first
              | (apply so_vo; (· exact voA); (· rfl))
              | refine so_nil ?_
              | refine q_go ?_
              | refine sw_region ?_
              | (refine goQ ?_; intro _ _)
              | refine go1 ?_
              | (refine goU ?_; intro nu)
              | (refine goB ?_; intro nb)
              | (refine goM ?_; intro nm)
              | (refine go2 ?_ ?_ <;> intro h <;> (try simp only [Bool.not_true, Bool.not_false, decide_eq_true_eq, decide_eq_false_iff_not, Bool.not_eq_true', Bool.not_eq_false', ne_eq, Decidable.not_not, Int.not_lt, Int.not_le, not_false_eq_true] at h))
              | fail)
            refine ⟨rfl, rfl, HLess.sat inferInstance, ?_⟩
            refine sa_chainL 21 rfl (by kernel_rfl) ?_
            (refine so_call rfl rfl rfl (least_ok _ _ nu _) ?_; rintro _ _ ⟨rfl, rfl⟩; rw [em])
            repeat' (first
              | (apply so_vo; (· exact voA); (· rfl))
              | refine so_nil ?_
              | refine q_go ?_
              | refine sw_region ?_
              | (refine goQ ?_; intro _ _)
              | refine go1 ?_
              | (refine goU ?_; intro nu)
              | (refine goB ?_; intro nb)
              | (refine goM ?_; intro nm)
              | (refine go2 ?_ ?_ <;> intro h <;> (try simp only [Bool.not_true, Bool.not_false, decide_eq_true_eq, decide_eq_false_iff_not, Bool.not_eq_true', Bool.not_eq_false', ne_eq, Decidable.not_not, Int.not_lt, Int.not_le, not_false_eq_true] at h))
              | fail)
            refine ⟨rfl, rfl, HLess.sat inferInstance, ?_⟩
            refine sa_rest (T' := [_]) rfl (by kernel_rfl) ?_
            repeat' (first
              | (apply so_vo; (· exact voA); (· rfl))
              | refine so_nil ?_
              | refine q_go ?_
              | refine sw_region ?_
              | (refine goQ ?_; intro _ _)
              | refine go1 ?_
              | (refine goU ?_; intro nu)
              | (refine goB ?_; intro nb)
              | (refine goM ?_; intro nm)
              | (refine go2 ?_ ?_ <;> intro h <;> (try simp only [Bool.not_true, Bool.not_false, decide_eq_true_eq, decide_eq_false_iff_not, Bool.not_eq_true', Bool.not_eq_false', ne_eq, Decidable.not_not, Int.not_lt, Int.not_le, not_false_eq_true] at h))
              | fail)
            refine sa_start [] mixed (by kernel_rfl) ?_
            apply sa_stat 0 rfl (by kernel_rfl) rfl
            · (exact voA)
            apply sa_stat 1 rfl (by kernel_rfl) rfl
            · (exact voA)
            apply sa_stat 2 rfl (by kernel_rfl) rfl
            · (exact voA)
            first | (apply sa_stat_on 3 rfl rfl rfl rfl (by kernel_rfl) rfl; (· ((exact voA)))) | (refine sa_stat_off 3 rfl rfl (.inl ⟨rfl, rfl⟩) (by kernel_rfl) rfl ?_) | (refine sa_stat_off 3 rfl rfl (.inr rfl) (by kernel_rfl) rfl ?_) | (apply sa_stat_on 3 rfl rfl rfl ?_ (by kernel_rfl) rfl; (· ((exact voA))); (rotate_left 1); (· (exact decA))) | (refine sa_stat_off 3 rfl rfl (.inl ⟨rfl, ?_⟩) (by kernel_rfl) rfl ?_; (· (exact decA)))
            first | (apply sa_stat_on 4 rfl rfl rfl rfl (by kernel_rfl) rfl; (· ((exact voA)))) | (refine sa_stat_off 4 rfl rfl (.inl ⟨rfl, rfl⟩) (by kernel_rfl) rfl ?_) | (refine sa_stat_off 4 rfl rfl (.inr rfl) (by kernel_rfl) rfl ?_) | (apply sa_stat_on 4 rfl rfl rfl ?_ (by kernel_rfl) rfl; (· ((exact voA))); (rotate_left 1); (· (exact decA))) | (refine sa_stat_off 4 rfl rfl (.inl ⟨rfl, ?_⟩) (by kernel_rfl) rfl ?_; (· (exact decA)))
            first | (apply sa_stat_on 5 rfl rfl rfl rfl (by kernel_rfl) rfl; (· ((exact voA)))) | (refine sa_stat_off 5 rfl rfl (.inl ⟨rfl, rfl⟩) (by kernel_rfl) rfl ?_) | (refine sa_stat_off 5 rfl rfl (.inr rfl) (by kernel_rfl) rfl ?_) | (apply sa_stat_on 5 rfl rfl rfl ?_ (by kernel_rfl) rfl; (· ((exact voA))); (rotate_left 1); (· (exact decA))) | (refine sa_stat_off 5 rfl rfl (.inl ⟨rfl, ?_⟩) (by kernel_rfl) rfl ?_; (· (exact decA)))
            first | (apply sa_stat_on 6 rfl rfl rfl rfl (by kernel_rfl) rfl; (· ((exact voA)))) | (refine sa_stat_off 6 rfl rfl (.inl ⟨rfl, rfl⟩) (by kernel_rfl) rfl ?_) | (refine sa_stat_off 6 rfl rfl (.inr rfl) (by kernel_rfl) rfl ?_) | (apply sa_stat_on 6 rfl rfl rfl ?_ (by kernel_rfl) rfl; (· ((exact voA))); (rotate_left 1); (· (exact decA))) | (refine sa_stat_off 6 rfl rfl (.inl ⟨rfl, ?_⟩) (by kernel_rfl) rfl ?_; (· (exact decA)))
            first | (apply sa_stat_on 7 rfl rfl rfl rfl (by kernel_rfl) rfl; (· ((exact voA)))) | (refine sa_stat_off 7 rfl rfl (.inl ⟨rfl, rfl⟩) (by kernel_rfl) rfl ?_) | (refine sa_stat_off 7 rfl rfl (.inr rfl) (by kernel_rfl) rfl ?_) | (apply sa_stat_on 7 rfl rfl rfl ?_ (by kernel_rfl) rfl; (· ((exact voA))); (rotate_left 1); (· (exact decA))) | (refine sa_stat_off 7 rfl rfl (.inl ⟨rfl, ?_⟩) (by kernel_rfl) rfl ?_; (· (exact decA)))
            first | (apply sa_stat_on 8 rfl rfl rfl rfl (by kernel_rfl) rfl; (· ((exact voA)))) | (refine sa_stat_off 8 rfl rfl (.inl ⟨rfl, rfl⟩) (by kernel_rfl) rfl ?_) | (refine sa_stat_off 8 rfl rfl (.inr rfl) (by kernel_rfl) rfl ?_) | (apply sa_stat_on 8 rfl rfl rfl ?_ (by kernel_rfl) rfl; (· ((exact voA))); (rotate_left 1); (· (exact decA))) | (refine sa_stat_off 8 rfl rfl (.inl ⟨rfl, ?_⟩) (by kernel_rfl) rfl ?_; (· (exact decA)))
            first | (apply sa_stat_on 9 rfl rfl rfl rfl (by kernel_rfl) rfl; (· ((exact voA)))) | (refine sa_stat_off 9 rfl rfl (.inl ⟨rfl, rfl⟩) (by kernel_rfl) rfl ?_) | (refine sa_stat_off 9 rfl rfl (.inr rfl) (by kernel_rfl) rfl ?_) | (apply sa_stat_on 9 rfl rfl rfl ?_ (by kernel_rfl) rfl; (· ((exact voA))); (rotate_left 1); (· (exact decA))) | (refine sa_stat_off 9 rfl rfl (.inl ⟨rfl, ?_⟩) (by kernel_rfl) rfl ?_; (· (exact decA)))
            first | (apply sa_stat_on 10 rfl rfl rfl rfl (by kernel_rfl) rfl; (· ((exact voA)))) | (refine sa_stat_off 10 rfl rfl (.inl ⟨rfl, rfl⟩) (by kernel_rfl) rfl ?_) | (refine sa_stat_off 10 rfl rfl (.inr rfl) (by kernel_rfl) rfl ?_) | (apply sa_stat_on 10 rfl rfl rfl ?_ (by kernel_rfl) rfl; (· ((exact voA))); (rotate_left 1); (· (exact decA))) | (refine sa_stat_off 10 rfl rfl (.inl ⟨rfl, ?_⟩) (by kernel_rfl) rfl ?_; (· (exact decA)))
            first | (apply sa_stat_on 11 rfl rfl rfl rfl (by kernel_rfl) rfl; (· ((exact voA)))) | (refine sa_stat_off 11 rfl rfl (.inl ⟨rfl, rfl⟩) (by kernel_rfl) rfl ?_) | (refine sa_stat_off 11 rfl rfl (.inr rfl) (by kernel_rfl) rfl ?_) | (apply sa_stat_on 11 rfl rfl rfl ?_ (by kernel_rfl) rfl; (· ((exact voA))); (rotate_left 1); (· (exact decA))) | (refine sa_stat_off 11 rfl rfl (.inl ⟨rfl, ?_⟩) (by kernel_rfl) rfl ?_; (· (exact decA)))
            first | (apply sa_stat_on 12 rfl rfl rfl rfl (by kernel_rfl) rfl; (· ((exact voA)))) | (refine sa_stat_off 12 rfl rfl (.inl ⟨rfl, rfl⟩) (by kernel_rfl) rfl ?_) | (refine sa_stat_off 12 rfl rfl (.inr rfl) (by kernel_rfl) rfl ?_) | (apply sa_stat_on 12 rfl rfl rfl ?_ (by kernel_rfl) rfl; (· ((exact voA))); (rotate_left 1); (· (exact decA))) | (refine sa_stat_off 12 rfl rfl (.inl ⟨rfl, ?_⟩) (by kernel_rfl) rfl ?_; (· (exact decA)))
            first | (apply sa_stat_on 13 rfl rfl rfl rfl (by kernel_rfl) rfl; (· ((exact voA)))) | (refine sa_stat_off 13 rfl rfl (.inl ⟨rfl, rfl⟩) (by kernel_rfl) rfl ?_) | (refine sa_stat_off 13 rfl rfl (.inr rfl) (by kernel_rfl) rfl ?_) | (apply sa_stat_on 13 rfl rfl rfl ?_ (by kernel_rfl) rfl; (· ((exact voA))); (rotate_left 1); (· (exact decA))) | (refine sa_stat_off 13 rfl rfl (.inl ⟨rfl, ?_⟩) (by kernel_rfl) rfl ?_; (· (exact decA)))
            apply sa_stat 14 rfl (by kernel_rfl) rfl
            · (exact voA)
            refine sa_rest (T' := []) rfl (by kernel_rfl) ?_
            repeat' (first
              | (apply so_vo; (· exact voA); (· rfl))
              | refine so_nil ?_
              | refine q_go ?_
              | refine sw_region ?_
              | (refine goQ ?_; intro _ _)
              | refine go1 ?_
              | (refine go2 ?_ ?_ <;> intro h <;> (try simp only [Bool.not_true, Bool.not_false, decide_eq_true_eq, decide_eq_false_iff_not, Bool.not_eq_true', Bool.not_eq_false', ne_eq, Decidable.not_not, Int.not_lt, Int.not_le, not_false_eq_true] at h))
              | fail)
            first
              | (refine goU ?_; intro x1)
              | (refine goB ?_; intro x1)
              | (refine goM ?_; intro x1)
            repeat' (first
              | (apply so_vo; (· exact voA); (· rfl))
              | refine so_nil ?_
              | refine q_go ?_
              | refine sw_region ?_
              | (refine goQ ?_; intro _ _)
              | refine go1 ?_
              | (refine go2 ?_ ?_ <;> intro h <;> (try simp only [Bool.not_true, Bool.not_false, decide_eq_true_eq, decide_eq_false_iff_not, Bool.not_eq_true', Bool.not_eq_false', ne_eq, Decidable.not_not, Int.not_lt, Int.not_le, not_false_eq_true] at h))
              | fail)
            first
              | (refine goU ?_; intro x2)
              | (refine goB ?_; intro x2)
              | (refine goM ?_; intro x2)
            repeat' (first
              | (apply so_vo; (· exact voA); (· rfl))
              | refine so_nil ?_
              | refine q_go ?_
              | refine sw_region ?_
              | (refine goQ ?_; intro _ _)
              | refine go1 ?_
              | (refine go2 ?_ ?_ <;> intro h <;> (try simp only [Bool.not_true, Bool.not_false, decide_eq_true_eq, decide_eq_false_iff_not, Bool.not_eq_true', Bool.not_eq_false', ne_eq, Decidable.not_not, Int.not_lt, Int.not_le, not_false_eq_true] at h))
              | fail)
            rw [hnext, hst]
            refine ⟨rfl, x2, trivial, ?_, ?_⟩
            · (exact fsA)
            · (first | exact fun _ h => h | exact HLess.sat inferInstance)
          · have hst : stepAB a sc b = ((sc.1.set a.toNat (gv sc.1 a + much sc.1 a b)).set b.toNat (gv sc.1 b - much sc.1 a b), sc.2 ++ [(a, b, much sc.1 a b)]) := by
              have h5 := getD_of (d := 0) (hgs1 a b ha hb hab)
              unfold stepAB; rw [if_neg hi]; unfold prom; rw [if_neg hp]; unfold payStep netStep; simp only [gv] at h5 ⊢; rw [h5]
            have hA2 := hgs1 a b ha hb hab
            repeat' (first
              | (apply so_vo; (· exact voA); (· rfl))
              | refine so_nil ?_
              | refine q_go ?_
              | refine sw_region ?_
              | (refine goQ ?_; intro _ _)
              | refine go1 ?_
              | (refine goU ?_; intro nu)
              | (refine goB ?_; intro nb)
              | (refine goM ?_; intro nm)
              | (refine go2 ?_ ?_ <;> intro h <;> (try simp only [Bool.not_true, Bool.not_false, decide_eq_true_eq, decide_eq_false_iff_not, Bool.not_eq_true', Bool.not_eq_false', ne_eq, Decidable.not_not, Int.not_lt, Int.not_le, not_false_eq_true] at h))
              | fail)
            refine sa_start [22] mixed (by kernel_rfl) ?_
            apply sa_stat 0 rfl (by kernel_rfl) rfl
            · (exact voA)
            apply sa_stat 1 rfl (by kernel_rfl) rfl
            · (exact voA)
            apply sa_stat 2 rfl (by kernel_rfl) rfl
            · (exact voA)
            apply sa_stat 3 rfl (by kernel_rfl) rfl
            · (exact voA)
            apply sa_stat 4 rfl (by kernel_rfl) rfl
            · (exact voA)
            apply sa_stat 5 rfl (by kernel_rfl) rfl
            · (exact voA)
            apply sa_stat 6 rfl (by kernel_rfl) rfl
            · (exact voA)
            apply sa_stat 7 rfl (by kernel_rfl) rfl
            · (exact voA)
            apply sa_stat 8 rfl (by kernel_rfl) rfl
            · (exact voA)
            apply sa_stat 9 rfl (by kernel_rfl) rfl
            · (exact voA)
            apply sa_stat 10 rfl (by kernel_rfl) rfl
            · (exact voA)
            apply sa_stat 11 rfl (by kernel_rfl) rfl
            · (exact voA)
            apply sa_stat 12 rfl (by kernel_rfl) rfl
            · (exact voA)
            apply sa_stat 13 rfl (by kernel_rfl) rfl
            · (exact voA)
            apply sa_stat 14 rfl (by kernel_rfl) rfl
            · (exact voA)
            apply sa_stat 15 rfl (by kernel_rfl) rfl
            · (exact voA)
            apply sa_stat 16 rfl (by kernel_rfl) rfl
            · (exact voA)
            apply sa_stat 17 rfl (by kernel_rfl) rfl
            · (exact voA)
            apply sa_stat 18 rfl (by kernel_rfl) rfl
            · (exact voA)
            apply sa_stat 19 rfl (by kernel_rfl) rfl
            · (exact voA)
            refine sa_chainL 20 rfl (by kernel_rfl) ?_
            repeat' (first
              | (apply so_vo; (· exact voA); (· rfl))
              | refine so_nil ?_
              | refine q_go ?_
              | refine sw_region ?_
              | (refine goQ ?_; intro _ _)
              | refine go1 ?_
              | (refine goU ?_; intro nu)
              | (refine goB ?_; intro nb)
              | (refine goM ?_; intro nm)
              | (refine go2 ?_ ?_ <;> intro h <;> (try simp only [Bool.not_true, Bool.not_false, decide_eq_true_eq, decide_eq_false_iff_not, Bool.not_eq_true', Bool.not_eq_false', ne_eq, Decidable.not_not, Int.not_lt, Int.not_le, not_false_eq_true] at h))
              | fail)
            refine ⟨rfl, rfl, HLess.sat inferInstance, ?_⟩
            refine sa_chainL 21 rfl (by kernel_rfl) ?_
            (refine so_call rfl rfl rfl (least_ok _ _ nu _) ?_; rintro _ _ ⟨rfl, rfl⟩; rw [em])
            repeat' (first
              | (apply so_vo; (· exact voA); (· rfl))
              | refine so_nil ?_
              | refine q_go ?_
              | refine sw_region ?_
              | (refine goQ ?_; intro _ _)
              | refine go1 ?_
              | (refine goU ?_; intro nu)
              | (refine goB ?_; intro nb)
              | (refine goM ?_; intro nm)
              | (refine go2 ?_ ?_ <;> intro h <;> (try simp only [Bool.not_true, Bool.not_false, decide_eq_true_eq, decide_eq_false_iff_not, Bool.not_eq_true', Bool.not_eq_false', ne_eq, Decidable.not_not, Int.not_lt, Int.not_le, not_false_eq_true] at h))
              | fail)
            refine ⟨rfl, rfl, HLess.sat inferInstance, ?_⟩
            refine sa_rest (T' := [_]) rfl (by kernel_rfl) ?_
            repeat' (first
              | (apply so_vo; (· exact voA); (· rfl))
              | refine so_nil ?_
              | refine q_go ?_
              | refine sw_region ?_
              | (refine goQ ?_; intro _ _)
              | refine go1 ?_
              | (refine goU ?_; intro nu)
              | (refine goB ?_; intro nb)
              | (refine goM ?_; intro nm)
              | (refine go2 ?_ ?_ <;> intro h <;> (try simp only [Bool.not_true, Bool.not_false, decide_eq_true_eq, decide_eq_false_iff_not, Bool.not_eq_true', Bool.not_eq_false', ne_eq, Decidable.not_not, Int.not_lt, Int.not_le, not_false_eq_true] at h))
              | fail)
            refine sa_start [] mixed (by kernel_rfl) ?_
            apply sa_stat 0 rfl (by kernel_rfl) rfl
            · (exact voA)
            apply sa_stat 1 rfl (by kernel_rfl) rfl
            · (exact voA)
            apply sa_stat 2 rfl (by kernel_rfl) rfl
            · (exact voA)
            first | (apply sa_stat_on 3 rfl rfl rfl rfl (by kernel_rfl) rfl; (· ((exact voA)))) | (refine sa_stat_off 3 rfl rfl (.inl ⟨rfl, rfl⟩) (by kernel_rfl) rfl ?_) | (refine sa_stat_off 3 rfl rfl (.inr rfl) (by kernel_rfl) rfl ?_) | (apply sa_stat_on 3 rfl rfl rfl ?_ (by kernel_rfl) rfl; (· ((exact voA))); (rotate_left 1); (· (exact decA))) | (refine sa_stat_off 3 rfl rfl (.inl ⟨rfl, ?_⟩) (by kernel_rfl) rfl ?_; (· (exact decA)))
            first | (apply sa_stat_on 4 rfl rfl rfl rfl (by kernel_rfl) rfl; (· ((exact voA)))) | (refine sa_stat_off 4 rfl rfl (.inl ⟨rfl, rfl⟩) (by kernel_rfl) rfl ?_) | (refine sa_stat_off 4 rfl rfl (.inr rfl) (by kernel_rfl) rfl ?_) | (apply sa_stat_on 4 rfl rfl rfl ?_ (by kernel_rfl) rfl; (· ((exact voA))); (rotate_left 1); (· (exact decA))) | (refine sa_stat_off 4 rfl rfl (.inl ⟨rfl, ?_⟩) (by kernel_rfl) rfl ?_; (· (exact decA)))
            first | (apply sa_stat_on 5 rfl rfl rfl rfl (by kernel_rfl) rfl; (· ((exact voA)))) | (refine sa_stat_off 5 rfl rfl (.inl ⟨rfl, rfl⟩) (by kernel_rfl) rfl ?_) | (refine sa_stat_off 5 rfl rfl (.inr rfl) (by kernel_rfl) rfl ?_) | (apply sa_stat_on 5 rfl rfl rfl ?_ (by kernel_rfl) rfl; (· ((exact voA))); (rotate_left 1); (· (exact decA))) | (refine sa_stat_off 5 rfl rfl (.inl ⟨rfl, ?_⟩) (by kernel_rfl) rfl ?_; (· (exact decA)))
            first | (apply sa_stat_on 6 rfl rfl rfl rfl (by kernel_rfl) rfl; (· ((exact voA)))) | (refine sa_stat_off 6 rfl rfl (.inl ⟨rfl, rfl⟩) (by kernel_rfl) rfl ?_) | (refine sa_stat_off 6 rfl rfl (.inr rfl) (by kernel_rfl) rfl ?_) | (apply sa_stat_on 6 rfl rfl rfl ?_ (by kernel_rfl) rfl; (· ((exact voA))); (rotate_left 1); (· (exact decA))) | (refine sa_stat_off 6 rfl rfl (.inl ⟨rfl, ?_⟩) (by kernel_rfl) rfl ?_; (· (exact decA)))
            first | (apply sa_stat_on 7 rfl rfl rfl rfl (by kernel_rfl) rfl; (· ((exact voA)))) | (refine sa_stat_off 7 rfl rfl (.inl ⟨rfl, rfl⟩) (by kernel_rfl) rfl ?_) | (refine sa_stat_off 7 rfl rfl (.inr rfl) (by kernel_rfl) rfl ?_) | (apply sa_stat_on 7 rfl rfl rfl ?_ (by kernel_rfl) rfl; (· ((exact voA))); (rotate_left 1); (· (exact decA))) | (refine sa_stat_off 7 rfl rfl (.inl ⟨rfl, ?_⟩) (by kernel_rfl) rfl ?_; (· (exact decA)))
            first | (apply sa_stat_on 8 rfl rfl rfl rfl (by kernel_rfl) rfl; (· ((exact voA)))) | (refine sa_stat_off 8 rfl rfl (.inl ⟨rfl, rfl⟩) (by kernel_rfl) rfl ?_) | (refine sa_stat_off 8 rfl rfl (.inr rfl) (by kernel_rfl) rfl ?_) | (apply sa_stat_on 8 rfl rfl rfl ?_ (by kernel_rfl) rfl; (· ((exact voA))); (rotate_left 1); (· (exact decA))) | (refine sa_stat_off 8 rfl rfl (.inl ⟨rfl, ?_⟩) (by kernel_rfl) rfl ?_; (· (exact decA)))
            first | (apply sa_stat_on 9 rfl rfl rfl rfl (by kernel_rfl) rfl; (· ((exact voA)))) | (refine sa_stat_off 9 rfl rfl (.inl ⟨rfl, rfl⟩) (by kernel_rfl) rfl ?_) | (refine sa_stat_off 9 rfl rfl (.inr rfl) (by kernel_rfl) rfl ?_) | (apply sa_stat_on 9 rfl rfl rfl ?_ (by kernel_rfl) rfl; (· ((exact voA))); (rotate_left 1); (· (exact decA))) | (refine sa_stat_off 9 rfl rfl (.inl ⟨rfl, ?_⟩) (by kernel_rfl) rfl ?_; (· (exact decA)))
            first | (apply sa_stat_on 10 rfl rfl rfl rfl (by kernel_rfl) rfl; (· ((exact voA)))) | (refine sa_stat_off 10 rfl rfl (.inl ⟨rfl, rfl⟩) (by kernel_rfl) rfl ?_) | (refine sa_stat_off 10 rfl rfl (.inr rfl) (by kernel_rfl) rfl ?_) | (apply sa_stat_on 10 rfl rfl rfl ?_ (by kernel_rfl) rfl; (· ((exact voA))); (rotate_left 1); (· (exact decA))) | (refine sa_stat_off 10 rfl rfl (.inl ⟨rfl, ?_⟩) (by kernel_rfl) rfl ?_; (· (exact decA)))
            first | (apply sa_stat_on 11 rfl rfl rfl rfl (by kernel_rfl) rfl; (· ((exact voA)))) | (refine sa_stat_off 11 rfl rfl (.inl ⟨rfl, rfl⟩) (by kernel_rfl) rfl ?_) | (refine sa_stat_off 11 rfl rfl (.inr rfl) (by kernel_rfl) rfl ?_) | (apply sa_stat_on 11 rfl rfl rfl ?_ (by kernel_rfl) rfl; (· ((exact voA))); (rotate_left 1); (· (exact decA))) | (refine sa_stat_off 11 rfl rfl (.inl ⟨rfl, ?_⟩) (by kernel_rfl) rfl ?_; (· (exact decA)))
            first | (apply sa_stat_on 12 rfl rfl rfl rfl (by kernel_rfl) rfl; (· ((exact voA)))) | (refine sa_stat_off 12 rfl rfl (.inl ⟨rfl, rfl⟩) (by kernel_rfl) rfl ?_) | (refine sa_stat_off 12 rfl rfl (.inr rfl) (by kernel_rfl) rfl ?_) | (apply sa_stat_on 12 rfl rfl rfl ?_ (by kernel_rfl) rfl; (· ((exact voA))); (rotate_left 1); (· (exact decA))) | (refine sa_stat_off 12 rfl rfl (.inl ⟨rfl, ?_⟩) (by kernel_rfl) rfl ?_; (· (exact decA)))
            first | (apply sa_stat_on 13 rfl rfl rfl rfl (by kernel_rfl) rfl; (· ((exact voA)))) | (refine sa_stat_off 13 rfl rfl (.inl ⟨rfl, rfl⟩) (by kernel_rfl) rfl ?_) | (refine sa_stat_off 13 rfl rfl (.inr rfl) (by kernel_rfl) rfl ?_) | (apply sa_stat_on 13 rfl rfl rfl ?_ (by kernel_rfl) rfl; (· ((exact voA))); (rotate_left 1); (· (exact decA))) | (refine sa_stat_off 13 rfl rfl (.inl ⟨rfl, ?_⟩) (by kernel_rfl) rfl ?_; (· (exact decA)))
            apply sa_stat 14 rfl (by kernel_rfl) rfl
            · (exact voA)
            refine sa_rest (T' := []) rfl (by kernel_rfl) ?_
            repeat' (first
              | (apply so_vo; (· exact voA); (· rfl))
              | refine so_nil ?_
              | refine q_go ?_
              | refine sw_region ?_
              | (refine goQ ?_; intro _ _)
              | refine go1 ?_
              | (refine go2 ?_ ?_ <;> intro h <;> (try simp only [Bool.not_true, Bool.not_false, decide_eq_true_eq, decide_eq_false_iff_not, Bool.not_eq_true', Bool.not_eq_false', ne_eq, Decidable.not_not, Int.not_lt, Int.not_le, not_false_eq_true] at h))
              | fail)
            first
              | (refine goU ?_; intro x1)
              | (refine goB ?_; intro x1)
              | (refine goM ?_; intro x1)
            repeat' (first
              | (apply so_vo; (· exact voA); (· rfl))
              | refine so_nil ?_
              | refine q_go ?_
              | refine sw_region ?_
              | (refine goQ ?_; intro _ _)
              | refine go1 ?_
              | (refine go2 ?_ ?_ <;> intro h <;> (try simp only [Bool.not_true, Bool.not_false, decide_eq_true_eq, decide_eq_false_iff_not, Bool.not_eq_true', Bool.not_eq_false', ne_eq, Decidable.not_not, Int.not_lt, Int.not_le, not_false_eq_true] at h))
              | fail)
            first
              | (refine goU ?_; intro x2)
              | (refine goB ?_; intro x2)
              | (refine goM ?_; intro x2)
            repeat' (first
              | (apply so_vo; (· exact voA); (· rfl))
              | refine so_nil ?_
              | refine q_go ?_
              | refine sw_region ?_
              | (refine goQ ?_; intro _ _)
              | refine go1 ?_
              | (refine go2 ?_ ?_ <;> intro h <;> (try simp only [Bool.not_true, Bool.not_false, decide_eq_true_eq, decide_eq_false_iff_not, Bool.not_eq_true', Bool.not_eq_false', ne_eq, Decidable.not_not, Int.not_lt, Int.not_le, not_false_eq_true] at h))
              | fail)
            rw [hnext, hst]
            refine ⟨rfl, x2, trivial, ?_, ?_⟩
            · (exact fsA)
            · (first | exact fun _ h => h | exact HLess.sat inferInstance)
      · rw [List.take_of_length_le (Nat.le_refl _)]
        have e : ((atx gs ka).drop (kb + 1)).foldl (stepAB a) sb = (List.range (kb + 1)).foldl (rowS (atx gs ka)) s := by rw [hrow, rowS, ← hae]
        rw [e]
        repeat' (first
          | (apply so_vo; (· exact voA); (· rfl))
          | refine so_nil ?_
          | refine q_go ?_
          | refine sw_region ?_
          | (refine goQ ?_; intro _ _)
          | refine go1 ?_
          | (refine goU ?_; intro nu)
          | (refine goB ?_; intro nb)
          | (refine goM ?_; intro nm)
          | (refine go2 ?_ ?_ <;> intro h <;> (try simp only [Bool.not_true, Bool.not_false, decide_eq_true_eq, decide_eq_false_iff_not, Bool.not_eq_true', Bool.not_eq_false', ne_eq, Decidable.not_not, Int.not_lt, Int.not_le, not_false_eq_true] at h))
          | fail)
        refine ⟨rfl, tc, trivial, ?_, ?_⟩
        · (exact fsA)
        · (first | exact fun _ h => h | exact HLess.sat inferInstance)
    · have e : (List.range (atx gs ka).length).foldl (rowS (atx gs ka)) s = (gs.take (ka + 1)).foldl groupS (netM d, []) := hgrp.symm
      have hI' := rows_ok hlG i1 (atx gs ka).length (Nat.le_refl _)
      rw [e] at hI' ⊢
      have : (atx gs ka).length * (atx gs ka).length ≤ 7 * 7 := Nat.mul_le_mul (by omega) (by omega)
      repeat' (first
        | (apply so_vo; (· exact voA); (· rfl))
        | refine so_nil ?_
        | refine q_go ?_
        | refine sw_region ?_
        | (refine goQ ?_; intro _ _)
        | refine go1 ?_
        | (refine goU ?_; intro nu)
        | (refine goB ?_; intro nb)
        | (refine goM ?_; intro nm)
        | (refine go2 ?_ ?_ <;> intro h <;> (try simp only [Bool.not_true, Bool.not_false, decide_eq_true_eq, decide_eq_false_iff_not, Bool.not_eq_true', Bool.not_eq_false', ne_eq, Decidable.not_not, Int.not_lt, Int.not_le, not_false_eq_true] at h))
        | fail)
      refine ⟨rfl, tb, ⟨hI'.1, by omega⟩, ?_, ?_⟩
      · (exact fsA)
      · (first | exact fun _ h => h | exact HLess.sat inferInstance)
  · rw [List.take_of_length_le (by omega), ← show settleM gs (netM d, []) = gs.foldl groupS (netM d, []) from rfl] at hIa ⊢
    repeat' (first
      | (apply so_vo; (· exact voA); (· rfl))
      | refine so_nil ?_
      | refine q_go ?_
      | refine sw_region ?_
      | (refine goQ ?_; intro _ _)
      | refine go1 ?_
      | (refine goU ?_; intro nu)
      | (refine goB ?_; intro nb)
      | (refine goM ?_; intro nm)
      | (refine go2 ?_ ?_ <;> intro h <;> (try simp only [Bool.not_true, Bool.not_false, decide_eq_true_eq, decide_eq_false_iff_not, Bool.not_eq_true', Bool.not_eq_false', ne_eq, Decidable.not_not, Int.not_lt, Int.not_le, not_false_eq_true] at h))
      | fail)
    apply rq2 rfl rfl rfl
    · exact ⟨ta, _, by rw [h0], fun h => absurd h0 h, fun _ => ⟨gs, hgs, rfl⟩, rfl⟩
    · (first | infer_instance | exact ⟨fun _ H => H⟩)
end Go.Proofs.YtmhfhfhdblccjaaGreat
/-
  Settlements in plain terms: the fewest payments.
-/
namespace Go.Proofs.YtmhfhfhdblccjaaGreat
set_option linter.unusedVariables false

theorem settle_groups {n : Nat} {g : Int → Int} : ∀ (gs : List (List Int)) (s : PS), OkS n g s → (∀ l ∈ gs, OkG n l ∧ l ≠ [] ∧ lsum (gv s.1) l = 0) → gs.flatten.Nodup →
    OkS n g (settleM gs s) ∧ (∀ k : Int, 0 ≤ k → k ∉ gs.flatten → gv (settleM gs s).1 k = gv s.1 k) ∧ (∀ k ∈ gs.flatten, gv (settleM gs s).1 k = 0) ∧ (settleM gs s).2.length + gs.length ≤ s.2.length + gs.flatten.length
  | [], s, h, _, _ => ⟨h, fun _ _ _ => rfl, fun k hk => by simp at hk, by simp [settleM]⟩
  | l :: gs, s, h, hl, hn => by
    obtain ⟨g1, g2, g3⟩ := hl l (by simp)
    obtain ⟨h1, h2, h3, h4⟩ := group_law g1 g2 h g3
    rw [List.flatten_cons, List.nodup_append] at hn
    obtain ⟨n1, n2, n3⟩ := hn
    have hdis : ∀ k ∈ gs.flatten, k ∉ l := fun k hk hkl => n3 k hkl k hk rfl
    obtain ⟨i1, i2, i3, i4⟩ := settle_groups gs (groupS s l) h1 (fun m hm => by
      obtain ⟨k1, k2, k3⟩ := hl m (by simp [hm])
      refine ⟨k1, k2, ?_⟩
      rw [← k3]
      exact lsum_congr fun x hx => h2 x (k1.rng x hx).1 (hdis x (List.mem_flatten.2 ⟨m, hm, hx⟩))) n2
    have e : settleM (l :: gs) s = settleM gs (groupS s l) := rfl
    rw [e]
    refine ⟨i1, fun k h0 hk => ?_, fun k hk => ?_, ?_⟩
    · rw [List.flatten_cons, List.mem_append] at hk
      rw [i2 k h0 (fun x => hk (.inr x))]
      exact h2 k h0 (fun x => hk (.inl x))
    · rw [List.flatten_cons, List.mem_append] at hk
      by_cases hg : k ∈ gs.flatten
      · exact i3 k hg
      · have hkl : k ∈ l := by rcases hk with hk | hk; (· exact hk); (· exact absurd hk hg)
        rw [i2 k (g1.rng k hkl).1 hg]; exact h3 k hkl
    · rw [List.flatten_cons]; simp only [List.length_append, List.length_cons]; omega
theorem bitsTo_iff {s k : Nat} {x : Int} : x ∈ bitsTo s k ↔ 0 ≤ x ∧ x < k ∧ s.testBit x.toNat = true :=
  ⟨bitsTo_mem, fun ⟨h1, h2, h3⟩ => by have := mem_bitsTo (s := s) (k := k) (j := x.toNat) (by omega) h3; rwa [show ((x.toNat : Nat) : Int) = x by omega] at this⟩
theorem bitsTo_open (f : Nat → Int) (n : Nat) : ∀ k, k ≤ n → (bitsTo (allS f n) k).length = openN f k
  | 0, _ => by simp [bitsTo, openN]
  | k + 1, h => by
    rw [bitsTo_succ, bit_all, openN]
    have := bitsTo_open f n k (by omega)
    by_cases e : f k = 0
    · simp [e, this]
    · simp [e, this, show k < n by omega]
theorem lsum_bits (f : Nat → Int) (s : Nat) : ∀ k, lsum (fun x => f x.toNat) (bitsTo s k) = sumS f k s
  | 0 => by simp [bitsTo, lsum, sumS, sumN]
  | k + 1 => by
    have ih := lsum_bits f s k
    rw [bitsTo_succ]
    have e : sumS f (k + 1) s = sumS f k s + if s.testBit k then f k else 0 := rfl
    rw [e, ← ih]
    cases h : s.testBit k with
    | false => simp
    | true =>
      simp only [if_true]
      unfold lsum
      rw [List.map_append, List.sum_append]; simp
theorem sumS_more (f : Nat → Int) {n s : Nat} (hs : s < 2 ^ n) : ∀ k, n ≤ k → sumS f k s = sumS f n s
  | 0, h => by rw [show n = 0 by omega]
  | k + 1, h => by
    rcases Nat.lt_or_ge n (k + 1) with g | g
    · have e : sumS f (k + 1) s = sumS f k s + if s.testBit k then f k else 0 := rfl
      have hb : s.testBit k = false := Nat.testBit_lt_two_pow (Nat.lt_of_lt_of_le hs (Nat.pow_le_pow_right (by decide) (by omega)))
      rw [e, sumS_more f hs k (by omega), hb]; simp
    · rw [show n = k + 1 by omega]
/-- Groups of all those whose number is not 0, each of whom is in one. -/
structure Whole (f : Nat → Int) (n : Nat) (gs : List (List Int)) : Prop where
  okg : ∀ l ∈ gs, OkG n l ∧ l ≠ [] ∧ lsum (fun x => f x.toNat) l = 0 ∧ (∀ k ∈ l, f k.toNat ≠ 0)
  nd : gs.flatten.Nodup
  all : ∀ k : Int, k ∈ gs.flatten ↔ 0 ≤ k ∧ k < n ∧ f k.toNat ≠ 0
  len : gs.flatten.length = openN f n
theorem tell_nodup {f : Nat → Int} {n : Nat} (hn : n ≤ 7) : ∀ {P : List Nat} {S : Nat}, Part f n S P → S < 2 ^ n → (tell P).flatten.Nodup ∧ ∀ k : Int, k ∈ (tell P).flatten ↔ k ∈ bitsTo S 7
  | [], S, h, hS => by rw [h.of_nil]; simp [tell, bitsTo]
  | p :: P, S, h, hS => by
    obtain ⟨h0, h1, h2, h3⟩ := h.uncons
    obtain ⟨i1, i2⟩ := tell_nodup hn h3 (Nat.lt_of_le_of_lt Sub.less.le hS)
    have e : (tell (p :: P)).flatten = bitsTo p 7 ++ (tell P).flatten := rfl
    rw [e]
    refine ⟨?_, fun k => ?_⟩
    · rw [List.nodup_append]
      refine ⟨bitsTo_nodup _ _, i1, fun a ha b hb hab => ?_⟩
      subst hab
      rw [i2, bitsTo_iff, bit_less] at hb
      rw [bitsTo_iff] at ha
      simp [ha.2.2] at hb
    · rw [List.mem_append, i2, bitsTo_iff, bitsTo_iff, bitsTo_iff, bit_less]
      constructor
      · rintro (⟨a, b, c⟩ | ⟨a, b, c⟩)
        · exact ⟨a, b, h2 _ c⟩
        · simp at c; exact ⟨a, b, c.1⟩
      · rintro ⟨a, b, c⟩
        cases hk : p.testBit k.toNat with
        | true => exact .inl ⟨a, b, rfl⟩
        | false => exact .inr ⟨a, b, by simp [c]⟩
theorem nodup_same_len {l m : List Int} (h1 : l.Nodup) (h2 : m.Nodup) (h : ∀ k, k ∈ l ↔ k ∈ m) : l.length = m.length := by
  have : l.Perm m := by
    rw [List.perm_iff_count]
    intro a
    rw [h1.count, h2.count]
    simp only [h]
  exact this.length_eq
theorem whole_of {f : Nat → Int} {n : Nat} (hn : n ≤ 7) {P : List Nat} (h : Part f n (allS f n) P) {gs : List (List Int)} (hg : gs.Perm (tell P)) : Whole f n gs := by
  have hS := allS_lt f n
  obtain ⟨t1, t2⟩ := tell_nodup hn h hS
  have hp := hg.flatten
  have hall : ∀ k : Int, k ∈ gs.flatten ↔ 0 ≤ k ∧ k < n ∧ f k.toNat ≠ 0 := fun k => by
    rw [hp.mem_iff, t2, bitsTo_iff, bit_all]
    simp only [Bool.and_eq_true, decide_eq_true_eq]
    constructor
    · rintro ⟨a, b, c, e⟩; exact ⟨a, by omega, e⟩
    · rintro ⟨a, b, c⟩; exact ⟨a, by omega, by omega, c⟩
  have hnd : gs.flatten.Nodup := hp.nodup_iff.2 t1
  refine ⟨fun l hl => ?_, hnd, hall, ?_⟩
  · have hl2 := hg.mem_iff.1 hl
    have hok := h.okG hS hn hl2
    obtain ⟨p, hpP, rfl⟩ := List.mem_map.1 hl2
    have hplt := Nat.lt_of_le_of_lt (h.sub hpP).le hS
    refine ⟨hok, fun e => ?_, ?_, fun k hk => ((hall k).1 (List.mem_flatten.2 ⟨_, hl, hk⟩)).2.2⟩
    · obtain ⟨k, hk⟩ := ne_zero_bit (h.nz p hpP)
      have hk7 := bit_lt hplt hk
      exact absurd (e ▸ mem_bitsTo (k := 7) (by omega) hk) List.not_mem_nil
    · rw [lsum_bits, sumS_more f hplt 7 hn]; exact h.zs p hpP
  · rw [← bitsTo_open f n n (Nat.le_refl _)]
    exact nodup_same_len hnd (bitsTo_nodup _ _) fun k => by
      rw [hall, bitsTo_iff, bit_all]
      simp only [Bool.and_eq_true, decide_eq_true_eq]
      constructor
      · rintro ⟨a, b, c⟩; exact ⟨a, b, by omega, c⟩
      · rintro ⟨a, b, _, c⟩; exact ⟨a, b, c⟩
/-- A settlement. -/
structure Settl (d : List (List Int)) (x : List (Int × Int × Int)) : Prop where
  ok : ∀ p ∈ x, 0 ≤ p.1 ∧ p.1 < d.length ∧ 0 ≤ p.2.1 ∧ p.2.1 < d.length ∧ p.1 ≠ p.2.1 ∧ 1 ≤ p.2.2 ∧ p.2.2 ≤ 6000000
  is : ∀ k : Nat, k < d.length → netF d k + eff x k = 0
/-- with as few payments as can be; as many as there are people whose net is not 0, less the groups -/
def settleR (d : List (List Int)) (x : List (Int × Int × Int)) : Prop := Settl d x ∧ (∀ y : List (Int × Int × Int), (∀ p ∈ y, 0 ≤ p.1 ∧ p.1 < d.length ∧ 0 ≤ p.2.1 ∧ p.2.1 < d.length) → (∀ k : Nat, k < d.length → netF d k + eff y k = 0) → x.length ≤ y.length) ∧
  ∀ gs, groupsR d gs → x.length + gs.length = openN (netF d) d.length
theorem Most.same {f : Nat → Int} {n A : Nat} {P Q : List Nat} (h : Most f n A P) (k : Most f n A Q) : P.length = Q.length := Nat.le_antisymm (k.2 P h.1) (h.2 Q k.1)
theorem tell_len (P : List Nat) : (tell P).length = P.length := by simp [tell]
theorem settle_law {d : List (List Int)} (h0 : checkD d = 0) {gs : List (List Int)} (hg : groupsR d gs) : settleR d (settleM gs (netM d, [])).2 := by
  obtain ⟨hd, hd1, hz⟩ := checkD_ok h0
  obtain ⟨P, hP, hgp⟩ := hg
  have hw := whole_of hd.len hP.1 hgp
  obtain ⟨h1, h2, h3, h4⟩ := settle_groups (g := netG d) gs (netM d, []) (OkS.start hd hz) (fun l hl => by
    obtain ⟨a, b, c, _⟩ := hw.okg l hl
    exact ⟨a, b, by rw [← c]; exact lsum_congr fun x hx => rfl⟩) hw.nd
  have hlen := hgp.length_eq
  rw [tell_len] at hlen
  rw [hw.len] at h4
  simp only [List.length_nil, Nat.zero_add] at h4
  have his : ∀ k : Nat, k < d.length → netF d k + eff (settleM gs (netM d, [])).2 k = 0 := fun k hk => by
    have e := h1.is k (by omega) (by omega)
    have e2 : netG d k = netF d k := by unfold netG; rw [Int.toNat_natCast]
    rw [e2] at e
    rw [← e]
    by_cases hm : (k : Int) ∈ gs.flatten
    · exact h3 _ hm
    · rw [h2 _ (by omega) hm]
      have : ¬ (netF d k ≠ 0) := fun g => hm ((hw.all k).2 ⟨by omega, by omega, by rw [Int.toNat_natCast]; exact g⟩)
      have e3 : gv (netM d) k = netF d k := by unfold gv netF; rw [Int.toNat_natCast]
      simp only [e3]; omega
  have low : ∀ y : List (Int × Int × Int), (∀ p ∈ y, 0 ≤ p.1 ∧ p.1 < d.length ∧ 0 ≤ p.2.1 ∧ p.2.1 < d.length) → (∀ k : Nat, k < d.length → netF d k + eff y k = 0) → openN (netF d) d.length ≤ P.length + y.length := fun y hy hy2 => by
    obtain ⟨P', q1, q2⟩ := settle_part d.length y (netF d) hy hy2
    have := hP.2 P' q1; omega
  have hok : ∀ p ∈ (settleM gs (netM d, [])).2, 0 ≤ p.1 ∧ p.1 < d.length ∧ 0 ≤ p.2.1 ∧ p.2.1 < d.length := fun p hp => by
    have := h1.ok p hp; exact ⟨this.1, this.2.1, this.2.2.1, this.2.2.2.1⟩
  have hself := low _ hok his
  refine ⟨⟨h1.ok, his⟩, fun y hy hy2 => ?_, fun gs' hg' => ?_⟩
  · have := low y hy hy2; omega
  · obtain ⟨P', hP', hgp'⟩ := hg'
    have e1 := hgp'.length_eq
    rw [tell_len] at e1
    have e2 := hP.same hP'
    omega
end Go.Proofs.YtmhfhfhdblccjaaGreat
