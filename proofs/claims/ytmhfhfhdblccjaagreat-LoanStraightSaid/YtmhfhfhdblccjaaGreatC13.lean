/-
  Straight debts in plain terms.
-/
import Derived.Test.YtmhfhfhdblccjaaGreatC12
import Derived.OpenShut
namespace Go.Proofs.YtmhfhfhdblccjaaGreat
set_option linter.unusedVariables false
set_option linter.unusedSimpArgs false
theorem getD_ext {xs ys : List Int} (hl : xs.length = ys.length) (h : ∀ k, k < xs.length → xs.getD k 0 = ys.getD k 0) : xs = ys := by
  refine List.ext_getElem? fun k => ?_
  rcases Nat.lt_or_ge k xs.length with hk | hk
  · rw [getD_get hk, getD_get (by omega), h k hk]
  · rw [List.getElem?_eq_none hk, List.getElem?_eq_none (by omega)]
theorem Red.law {d s : List (List Int)} (h0 : checkD d = 0) (h : Red d s) : checkD s = 0 ∧ s.length = d.length ∧ netM s = netM d ∧ (∀ a b : Nat, (atx s a).getD b 0 ≤ (atx d a).getD b 0) ∧ (Acyc d → s = d) := by
  obtain ⟨hd, h1, hz⟩ := checkD_ok h0
  obtain ⟨i1, i2, i3, i4⟩ := h.ok hd
  have i5 : ∀ a b : Nat, (atx s a).getD b 0 ≤ (atx d a).getD b 0 := fun a b => by
    have := i3 (a : Int) (b : Int) (by omega) (by omega)
    unfold dv at this; simpa using this
  refine ⟨checkD_of i1 (by omega) fun a => ?_, i2, ?_, i5, fun ha => ?_⟩
  · have e1 := i5 a a
    have e2 := i1.val (a := a) (b := a)
    have e3 := hz a
    omega
  · refine getD_ext (by rw [netM_len s i1, netM_len d hd, i2]) fun k hk => ?_
    rw [netM_len s i1] at hk
    rw [netM_getD s i1 hk, netM_getD d hd (by omega)]
    exact i4 k (by omega)
  · have key : ∀ t, Red d t → t = d := fun t ht => by
      induction ht with
      | refl => rfl
      | step h hc ih => subst ih; exact absurd ha hc.not_acyc
    exact key s h
theorem settle_same {d s : List (List Int)} {x y : List (Int × Int × Int)} (hl : s.length = d.length) (hn : netM s = netM d) (hx : settleR d x) (hy : settleR s y) : x.length = y.length := by
  have e : netF s = netF d := by funext k; unfold netF; rw [hn]
  refine Nat.le_antisymm (hx.2.1 y (fun p hp => ?_) fun k hk => ?_) (hy.2.1 x (fun p hp => ?_) fun k hk => ?_)
  · have := hy.1.ok p hp; omega
  · have := hy.1.is k (by omega); rw [e] at this; exact this
  · have := hx.1.ok p hp; omega
  · have := hx.1.is k (by omega); rw [e]; exact this
/-- the payments of the debts of one row, up to one of them -/
def payR (row : List Int) (a : Nat) : Nat → List (Int × Int × Int)
  | 0 => []
  | k + 1 => payR row a k ++ if row.getD k 0 > 0 then [((a : Int), (k : Int), row.getD k 0)] else []
def payD (s : List (List Int)) : Nat → List (Int × Int × Int)
  | 0 => []
  | a + 1 => payD s a ++ payR (atx s a) a (atx s a).length
theorem payR_len (row : List Int) (a : Nat) : ∀ k, (payR row a k).length ≤ k
  | 0 => Nat.le_refl _
  | k + 1 => by
    have := payR_len row a k
    unfold payR; rw [List.length_append]; split <;> simp <;> omega
theorem payD_len {s : List (List Int)} (h : OkD s) : ∀ k, k ≤ s.length → (payD s k).length ≤ 7 * k
  | 0, _ => Nat.le_refl _
  | k + 1, hk => by
    have h1 := payD_len h k (by omega)
    have h2 := payR_len (atx s k) k (atx s k).length
    have h3 := h.row (a := k) (by omega)
    have h4 := h.len
    unfold payD; rw [List.length_append]; omega
theorem payR_rng {row : List Int} {a n : Nat} (ha : a < n) : ∀ k, k ≤ n → ∀ p ∈ payR row a k, 0 ≤ p.1 ∧ p.1 < n ∧ 0 ≤ p.2.1 ∧ p.2.1 < n
  | 0, _, p, hp => by simp [payR] at hp
  | k + 1, hk, p, hp => by
    unfold payR at hp
    rcases List.mem_append.1 hp with hp | hp
    · exact payR_rng ha k (by omega) p hp
    · split at hp
      · rw [List.mem_singleton] at hp; subst hp; simp; omega
      · simp at hp
theorem payD_rng {s : List (List Int)} (h : OkD s) : ∀ k, k ≤ s.length → ∀ p ∈ payD s k, 0 ≤ p.1 ∧ p.1 < s.length ∧ 0 ≤ p.2.1 ∧ p.2.1 < s.length
  | 0, _, p, hp => by simp [payD] at hp
  | k + 1, hk, p, hp => by
    unfold payD at hp
    rcases List.mem_append.1 hp with hp | hp
    · exact payD_rng h k (by omega) p hp
    · exact payR_rng (by omega) _ (by rw [h.row (by omega)]; exact Nat.le_refl _) p hp
theorem payR_eff {row : List Int} (h : ∀ k, 0 ≤ row.getD k 0) (a j : Nat) : ∀ k, eff (payR row a k) j = (if a = j then sumN k (fun b => row.getD b 0) else 0) - (if j < k then row.getD j 0 else 0)
  | 0 => by simp [payR, eff, sumN]
  | k + 1 => by
    have ih := payR_eff h a j k
    have hk := h k
    unfold payR
    rw [eff_app, ih]
    have e : eff (if row.getD k 0 > 0 then [((a : Int), (k : Int), row.getD k 0)] else []) j = (if a = j then row.getD k 0 else 0) - (if k = j then row.getD k 0 else 0) := by
      split
      · simp only [eff, Int.natCast_inj]; omega
      · rename_i g
        have : row.getD k 0 = 0 := by omega
        simp only [eff, this]; simp
    rw [e]
    simp only [sumN]
    rcases Nat.lt_trichotomy j k with h1 | h1 | h1
    · rw [if_pos h1, if_pos (show j < k + 1 by omega), if_neg (show ¬ k = j by omega)]
      split <;> omega
    · subst h1
      rw [if_neg (Nat.lt_irrefl j), if_pos (show j < j + 1 by omega), if_pos rfl]
      split <;> omega
    · rw [if_neg (show ¬ j < k by omega), if_neg (show ¬ j < k + 1 by omega), if_neg (show ¬ k = j by omega)]
      split <;> omega
theorem payD_eff {s : List (List Int)} (h : OkD s) {j : Nat} (hj : j < s.length) : ∀ a, a ≤ s.length → eff (payD s a) j = (if j < a then sumN s.length (fun b => (atx s j).getD b 0) else 0) - sumN a (fun a => (atx s a).getD j 0)
  | 0, _ => by simp [payD, eff, sumN]
  | a + 1, ha => by
    have ih := payD_eff h hj a (by omega)
    have hr := h.row (a := a) (by omega)
    unfold payD
    rw [eff_app, ih, payR_eff (fun k => (h.val (a := a) (b := k)).1), hr, if_pos hj]
    simp only [sumN]
    rcases Nat.lt_trichotomy j a with h1 | h1 | h1
    · rw [if_pos h1, if_pos (show j < a + 1 by omega), if_neg (show ¬ a = j by omega)]; omega
    · subst h1
      rw [if_neg (Nat.lt_irrefl j), if_pos (show j < j + 1 by omega), if_pos rfl]; omega
    · rw [if_neg (show ¬ j < a by omega), if_neg (show ¬ j < a + 1 by omega), if_neg (show ¬ a = j by omega)]; omega
theorem settle_many {s : List (List Int)} (h0 : checkD s = 0) {x : List (Int × Int × Int)} (hx : settleR s x) : x.length ≤ (payD s s.length).length := by
  have hd := (checkD_ok h0).1
  refine hx.2.1 _ (payD_rng hd _ (Nat.le_refl _)) fun k hk => ?_
  rw [payD_eff hd hk _ (Nat.le_refl _), if_pos hk]
  unfold netF
  rw [netM_getD s hd hk]
  unfold netOf; omega
theorem IsC.cancelE {d : List (List Int)} (h0 : checkD d = 0) {c : List Int} (hc : IsC d c) : cancelE d c = 0 := by
  have h2 := hc.two (checkD_ok h0).2.2
  unfold Go.Proofs.YtmhfhfhdblccjaaGreat.cancelE
  rw [if_neg (by omega), if_neg (by omega), if_neg, if_neg, if_neg]
  · unfold goneD; rw [any_not fun i hi => by simpa using hc.lnk i hi]; decide
  · unfold twiceD
    rw [any_not fun i hi => ?_]; · decide
    refine decide_eq_false fun hm => ?_
    obtain ⟨j, hj, e⟩ := List.getElem_of_mem hm
    rw [List.length_take] at hj
    rw [List.getElem_take] at e
    have := nodup_getD hc.nd (i := j) (j := i) (by omega) hi (by rw [← e, getD_of (List.getElem?_eq_getElem (by omega))])
    omega
  · have : inD d c = true := List.all_eq_true.2 fun x hx => by have := hc.rng x hx; exact decide_eq_true (by omega)
    rw [this]; decide
theorem IsC.fresh {d : List (List Int)} {c : List Int} (hc : IsC d c) {i : Nat} (hi : i < c.length) : decide (c.getD i 0 ∈ c.take i) = false := by
  refine decide_eq_false fun hm => ?_
  obtain ⟨j, hj, e⟩ := List.getElem_of_mem hm
  rw [List.length_take] at hj
  rw [List.getElem_take] at e
  have := nodup_getD hc.nd (i := j) (j := i) (by omega) hi (by rw [← e, getD_of (List.getElem?_eq_getElem (by omega))])
  omega
theorem IsC.at {d : List (List Int)} {c : List Int} (hc : IsC d c) {i : Nat} (hi : i < c.length) : 0 ≤ c.getD i 0 ∧ c.getD i 0 < d.length ∧ 0 ≤ nxt c i ∧ nxt c i < d.length := by
  have h1 := hc.rng _ (List.mem_of_getElem? (getD_get hi))
  have h2 := hc.rng _ (List.mem_of_getElem? (getD_get (xs := c) (k := (i + 1) % c.length) (Nat.mod_lt _ (by omega))))
  exact ⟨h1.1, h1.2, h2.1, h2.2⟩
theorem IsC.less {d : List (List Int)} (hd : OkD d) {c : List Int} (hc : IsC d c) {i : Nat} (hi : i < c.length) : dv (cancelM d c) (c.getD i 0) (nxt c i) = dv d (c.getD i 0) (nxt c i) - byM d c c.length := by
  have h := hc.at hi
  exact (cancelK_dv hd hc c.length (Nat.le_refl _) _ _ h.1 h.2.2.1).1 ⟨i, hi, rfl, rfl⟩
end Go.Proofs.YtmhfhfhdblccjaaGreat
/-
  The law of straight debts.
-/
namespace Go.Proofs.YtmhfhfhdblccjaaGreat
open Go Go.RowKit
set_option linter.unusedVariables false
set_option linter.unusedSimpArgs false
set_option maxRecDepth 100000
set_option maxHeartbeats 4000000
attribute [local irreducible] SW SO FnC retQ SA VO
theorem LoanStraight_ok (L : List SP) (u : SlV) (g : List UInt8) [r : RdSl L u.v UInt8 encU8 g] : FnC Tryz.prog 5 [u.v] L (fun v M => v = .bool true ∧ M = L) := by
  refine fn_start (sz := 263) Tryz.func5 rfl rfl rfl ?_
  repeat' (first
    | (apply so_vo; (· exact voA); (· rfl))
    | refine so_nil ?_
    | refine q_go ?_
    | refine sw_region ?_
    | (refine goQ ?_; intro _ _)
    | refine go1 ?_
    | (refine goU ?_; intro nu)
    | (refine goB ?_; intro nb)
    | (refine goM ?_; intro nm)
    | (refine go2 ?_ ?_ <;> intro h <;> (try simp only [Bool.not_true, Bool.not_false, decide_eq_true_eq, decide_eq_false_iff_not, Bool.not_eq_true', Bool.not_eq_false', ne_eq, Decidable.not_not, Int.not_lt, Int.not_le, not_false_eq_true] at h))
    | fail)
  refine so_call rfl rfl rfl (Fill_ok _ u g) ?_
  rintro _ _ ⟨b, rfl, rfl⟩
  repeat' (first
    | (apply so_vo; (· exact voA); (· rfl))
    | refine so_nil ?_
    | refine q_go ?_
    | refine sw_region ?_
    | (refine goQ ?_; intro _ _)
    | refine go1 ?_
    | (refine goU ?_; intro nu)
    | (refine goB ?_; intro nb)
    | (refine goM ?_; intro nm)
    | (refine go2 ?_ ?_ <;> intro h <;> (try simp only [Bool.not_true, Bool.not_false, decide_eq_true_eq, decide_eq_false_iff_not, Bool.not_eq_true', Bool.not_eq_false', ne_eq, Decidable.not_not, Int.not_lt, Int.not_le, not_false_eq_true] at h))
    | fail)
  refine so_call rfl rfl rfl (Owing_ok _ b 0 u g (by omega)) ?_
  rintro _ _ ⟨ud, usd, d, rfl, hud, hd, rfl⟩
  obtain ⟨hdo, hd1, hdz⟩ := checkD_ok hd
  have hd7 := hdo.len
  repeat' (first
    | (apply so_vo; (· exact voA); (· rfl))
    | refine so_nil ?_
    | refine q_go ?_
    | refine sw_region ?_
    | (refine goQ ?_; intro _ _)
    | refine go1 ?_
    | (refine goU ?_; intro nu)
    | (refine goB ?_; intro nb)
    | (refine goM ?_; intro nm)
    | (refine go2 ?_ ?_ <;> intro h <;> (try simp only [Bool.not_true, Bool.not_false, decide_eq_true_eq, decide_eq_false_iff_not, Bool.not_eq_true', Bool.not_eq_false', ne_eq, Decidable.not_not, Int.not_lt, Int.not_le, not_false_eq_true] at h))
    | fail)
  refine so_call rfl rfl rfl (nets_ok _ ud usd d hdo hdz) ?_
  rintro _ _ ⟨un, rfl, rfl⟩
  repeat' (first
    | (apply so_vo; (· exact voA); (· rfl))
    | refine so_nil ?_
    | refine q_go ?_
    | refine sw_region ?_
    | (refine goQ ?_; intro _ _)
    | refine go1 ?_
    | (refine goU ?_; intro nu)
    | (refine goB ?_; intro nb)
    | (refine goM ?_; intro nm)
    | (refine go2 ?_ ?_ <;> intro h <;> (try simp only [Bool.not_true, Bool.not_false, decide_eq_true_eq, decide_eq_false_iff_not, Bool.not_eq_true', Bool.not_eq_false', ne_eq, Decidable.not_not, Int.not_lt, Int.not_le, not_false_eq_true] at h))
    | fail)
  refine so_call rfl rfl rfl (Straight_ok _ ud usd d) ?_
  rintro _ _ ⟨s, ⟨us, uss, rfl, hus, rfl⟩, -, hs⟩
  obtain ⟨hred, hac⟩ := hs hd
  obtain ⟨hs0, hsl, hsn, hsle, hsd⟩ := hred.law hd
  obtain ⟨hso, hs1, hsz⟩ := checkD_ok hs0
  rw [hd]
  repeat' (first
    | (apply so_vo; (· exact voA); (· rfl))
    | refine so_nil ?_
    | refine q_go ?_
    | refine sw_region ?_
    | (refine goQ ?_; intro _ _)
    | refine go1 ?_
    | (refine goU ?_; intro nu)
    | (refine goB ?_; intro nb)
    | (refine goM ?_; intro nm)
    | (refine go2 ?_ ?_ <;> intro h <;> (try simp only [Bool.not_true, Bool.not_false, decide_eq_true_eq, decide_eq_false_iff_not, Bool.not_eq_true', Bool.not_eq_false', ne_eq, Decidable.not_not, Int.not_lt, Int.not_le, not_false_eq_true] at h))
    | fail)
  refine so_call rfl rfl rfl (CheckDebts_ok _ us uss s) ?_
  rintro _ _ ⟨rfl, rfl⟩
  rw [hs0]
  repeat' (first
    | (apply so_vo; (· exact voA); (· rfl))
    | refine so_nil ?_
    | refine q_go ?_
    | refine sw_region ?_
    | (refine goQ ?_; intro _ _)
    | refine go1 ?_
    | (refine goU ?_; intro nu)
    | (refine goB ?_; intro nb)
    | (refine goM ?_; intro nm)
    | (refine go2 ?_ ?_ <;> intro h <;> (try simp only [Bool.not_true, Bool.not_false, decide_eq_true_eq, decide_eq_false_iff_not, Bool.not_eq_true', Bool.not_eq_false', ne_eq, Decidable.not_not, Int.not_lt, Int.not_le, not_false_eq_true] at h))
    | fail)
  refine so_call rfl rfl rfl (nets_ok _ us uss s hso hsz) ?_
  rintro _ _ ⟨un2, rfl, rfl⟩
  rw [hsn]
  repeat' (first
    | (apply so_vo; (· exact voA); (· rfl))
    | refine so_nil ?_
    | refine q_go ?_
    | refine sw_region ?_
    | (refine goQ ?_; intro _ _)
    | refine go1 ?_
    | (refine goU ?_; intro nu)
    | (refine goB ?_; intro nb)
    | (refine goM ?_; intro nm)
    | (refine go2 ?_ ?_ <;> intro h <;> (try simp only [Bool.not_true, Bool.not_false, decide_eq_true_eq, decide_eq_false_iff_not, Bool.not_eq_true', Bool.not_eq_false', ne_eq, Decidable.not_not, Int.not_lt, Int.not_le, not_false_eq_true] at h))
    | fail)
  refine so_call rfl rfl rfl (Eq_int _ un2 un (netM d) (netM d)) ?_
  rintro _ _ ⟨rfl, rfl⟩
  rw [decide_eq_true rfl]
  repeat' (first
    | (apply so_vo; (· exact voA); (· rfl))
    | refine so_nil ?_
    | refine q_go ?_
    | refine sw_region ?_
    | (refine goQ ?_; intro _ _)
    | refine go1 ?_
    | (refine goU ?_; intro nu)
    | (refine goB ?_; intro nb)
    | (refine goM ?_; intro nm)
    | (refine go2 ?_ ?_ <;> intro h <;> (try simp only [Bool.not_true, Bool.not_false, decide_eq_true_eq, decide_eq_false_iff_not, Bool.not_eq_true', Bool.not_eq_false', ne_eq, Decidable.not_not, Int.not_lt, Int.not_le, not_false_eq_true] at h))
    | fail)
  refine sw_range (τ := Nat) (fun k t => [(3, ud.v), (4, un.v), (5, us.v), (58, us.v), (7, .int .i64 t)]) (fun _ _ => ownSl 3 encInt un2.v (netM d) :: ownSl 28 encSl us.v uss :: rows 3 encInt uss s :: ownSl 3 encInt un.v (netM d) :: ownSl 28 encSl ud.v usd :: rows 3 encInt usd d :: sack b u.v (0 + 1000) :: L) (fun k t => t = (payD s k).length) 0 rfl (by rfl) (by rfl) (by omega) (by (exact fsA)) (fun _ h => h) (fun _ _ => by rfl) (by rfl) (fun ka ta hlta hIa _ _ => ?_) (fun ta hIa => ?_)
  · have hka : ka < s.length := by omega
    have hrow := hso.row hka
    have hrd := hdo.row (a := ka) (by omega)
    have hlm := payD_len hso ka (by omega)
    have hs7 := hso.len
    repeat' (first
      | (apply so_vo; (· exact voA); (· rfl))
      | refine so_nil ?_
      | refine q_go ?_
      | refine sw_region ?_
      | (refine goQ ?_; intro _ _)
      | refine go1 ?_
      | (refine goU ?_; intro nu)
      | (refine goB ?_; intro nb)
      | (refine goM ?_; intro nm)
      | (refine go2 ?_ ?_ <;> intro h <;> (try simp only [Bool.not_true, Bool.not_false, decide_eq_true_eq, decide_eq_false_iff_not, Bool.not_eq_true', Bool.not_eq_false', ne_eq, Decidable.not_not, Int.not_lt, Int.not_le, not_false_eq_true] at h))
      | fail)
    refine sw_range (τ := Nat) (fun k t => [(3, ud.v), (4, un.v), (5, us.v), (58, us.v), (8, .int .i64 ka), (59, .int .i64 uss.length), (60, .int .i64 ka), (65, (at' uss ka).v), (7, .int .i64 t)]) (fun _ _ => ownSl 3 encInt un2.v (netM d) :: ownSl 28 encSl us.v uss :: rows 3 encInt uss s :: ownSl 3 encInt un.v (netM d) :: ownSl 28 encSl ud.v usd :: rows 3 encInt usd d :: sack b u.v (0 + 1000) :: L) (fun k t => t = (payD s ka ++ payR (atx s ka) ka k).length) ta (by rw [hIa]; simp [payR]) (by rfl) (by rfl) (by omega) (by (exact fsA)) (fun _ h => h) (fun _ _ => by rfl) (by rfl) (fun kb tb hltb hIb _ _ => ?_) (fun tb hIb => ?_)
    · obtain ⟨x, hx⟩ := get_some hltb
      have hxv := getD_of (d := 0) hx
      have hle := hsle ka kb
      have hy : (atx d ka)[kb]? = some ((atx d ka).getD kb 0) := getD_get (by omega)
      have hpr := payR_len (atx s ka) ka kb
      have hle2 : x ≤ (atx d ka).getD kb 0 := by rw [← hxv]; exact hle
      have hb : tb ≤ 7 * ka + kb := by rw [hIb, List.length_append]; omega
      repeat' (first
        | (apply so_vo; (· exact voA); (· rfl))
        | refine so_nil ?_
        | refine q_go ?_
        | refine sw_region ?_
        | (refine goQ ?_; intro _ _)
        | refine go1 ?_
        | (refine goU ?_; intro nu)
        | (refine goB ?_; intro nb)
        | (refine goM ?_; intro nm)
        | (refine go2 ?_ ?_ <;> intro h <;> (try simp only [Bool.not_true, Bool.not_false, decide_eq_true_eq, decide_eq_false_iff_not, Bool.not_eq_true', Bool.not_eq_false', ne_eq, Decidable.not_not, Int.not_lt, Int.not_le, not_false_eq_true] at h))
        | fail)
      · refine ⟨rfl, tb + 1, ?_, ?_, fun w H => H⟩
        · rw [hIb, payR, if_pos (by rw [hxv]; exact h)]; simp; omega
        · (exact fsA)
      · refine ⟨rfl, tb, ?_, ?_, fun w H => H⟩
        · rw [hIb, payR, if_neg (by rw [hxv]; omega)]; simp
        · (exact fsA)
    · repeat' (first
        | (apply so_vo; (· exact voA); (· rfl))
        | refine so_nil ?_
        | refine q_go ?_
        | refine sw_region ?_
        | (refine goQ ?_; intro _ _)
        | refine go1 ?_
        | (refine goU ?_; intro nu)
        | (refine goB ?_; intro nb)
        | (refine goM ?_; intro nm)
        | (refine go2 ?_ ?_ <;> intro h <;> (try simp only [Bool.not_true, Bool.not_false, decide_eq_true_eq, decide_eq_false_iff_not, Bool.not_eq_true', Bool.not_eq_false', ne_eq, Decidable.not_not, Int.not_lt, Int.not_le, not_false_eq_true] at h))
        | fail)
      refine ⟨rfl, tb, by rw [hIb]; rfl, ?_, fun w H => H⟩
      (exact fsA)
  · have hlm := payD_len hso s.length (Nat.le_refl _)
    rw [hus] at hIa
    have hta : ta ≤ 49 := by have := hso.len; omega
    repeat' (first
      | (apply so_vo; (· exact voA); (· rfl))
      | refine so_nil ?_
      | refine q_go ?_
      | refine sw_region ?_
      | (refine goQ ?_; intro _ _)
      | refine go1 ?_
      | (refine goU ?_; intro nu)
      | (refine goB ?_; intro nb)
      | (refine goM ?_; intro nm)
      | (refine go2 ?_ ?_ <;> intro h <;> (try simp only [Bool.not_true, Bool.not_false, decide_eq_true_eq, decide_eq_false_iff_not, Bool.not_eq_true', Bool.not_eq_false', ne_eq, Decidable.not_not, Int.not_lt, Int.not_le, not_false_eq_true] at h))
      | fail)
    refine so_call rfl rfl rfl (Fewest_ok _ us uss s) ?_
    rintro _ _ ⟨x, rfl, -, hx, rfl⟩
    have hx1 := hx hs0
    have hmany := settle_many hs0 hx1
    rw [hs0]
    repeat' (first
      | (apply so_vo; (· exact voA); (· rfl))
      | refine so_nil ?_
      | refine q_go ?_
      | refine sw_region ?_
      | (refine goQ ?_; intro _ _)
      | refine go1 ?_
      | (refine goU ?_; intro nu)
      | (refine goB ?_; intro nb)
      | (refine goM ?_; intro nm)
      | (refine go2 ?_ ?_ <;> intro h <;> (try simp only [Bool.not_true, Bool.not_false, decide_eq_true_eq, decide_eq_false_iff_not, Bool.not_eq_true', Bool.not_eq_false', ne_eq, Decidable.not_not, Int.not_lt, Int.not_le, not_false_eq_true] at h))
      | fail)
    refine so_call rfl rfl rfl (Fewest_ok _ ud usd d) ?_
    rintro _ _ ⟨y, rfl, -, hy, rfl⟩
    have hxy := settle_same hsl hsn (hy hd) hx1
    rw [hd]
    repeat' (first
      | (apply so_vo; (· exact voA); (· rfl))
      | refine so_nil ?_
      | refine q_go ?_
      | refine sw_region ?_
      | (refine goQ ?_; intro _ _)
      | refine go1 ?_
      | (refine goU ?_; intro nu)
      | (refine goB ?_; intro nb)
      | (refine goM ?_; intro nm)
      | (refine go2 ?_ ?_ <;> intro h <;> (try simp only [Bool.not_true, Bool.not_false, decide_eq_true_eq, decide_eq_false_iff_not, Bool.not_eq_true', Bool.not_eq_false', ne_eq, Decidable.not_not, Int.not_lt, Int.not_le, not_false_eq_true] at h))
      | fail)
    refine so_call rfl rfl rfl (Circle_ok _ us uss s) ?_
    rintro _ _ ⟨uz, cz, ez, rfl, rfl, hz⟩
    obtain rfl : ez = 6 := by
      rcases hz with hz | hz | hz
      · exact absurd hs0 hz.1
      · exact hz.2.1
      · exact absurd hac hz.2.2.not_acyc
    clear hz
    repeat' (first
      | (apply so_vo; (· exact voA); (· rfl))
      | refine so_nil ?_
      | refine q_go ?_
      | refine sw_region ?_
      | (refine goQ ?_; intro _ _)
      | refine go1 ?_
      | (refine goU ?_; intro nu)
      | (refine goB ?_; intro nb)
      | (refine goM ?_; intro nm)
      | (refine go2 ?_ ?_ <;> intro h <;> (try simp only [Bool.not_true, Bool.not_false, decide_eq_true_eq, decide_eq_false_iff_not, Bool.not_eq_true', Bool.not_eq_false', ne_eq, Decidable.not_not, Int.not_lt, Int.not_le, not_false_eq_true] at h))
      | fail)
    refine so_call rfl rfl rfl (Circle_ok _ ud usd d) ?_
    rintro _ _ ⟨uc, c, e, rfl, rfl, hc⟩
    rcases hc with hc | ⟨-, rfl, rfl, hc⟩ | ⟨-, rfl, hc⟩
    · exact absurd hd hc.1
    · obtain rfl := hsd hc
      repeat' (first
        | (apply so_vo; (· exact voA); (· rfl))
        | refine so_nil ?_
        | refine q_go ?_
        | refine sw_region ?_
        | (refine goQ ?_; intro _ _)
        | refine go1 ?_
        | (refine goU ?_; intro nu)
        | (refine goB ?_; intro nb)
        | (refine goM ?_; intro nm)
        | (refine go2 ?_ ?_ <;> intro h <;> (try simp only [Bool.not_true, Bool.not_false, decide_eq_true_eq, decide_eq_false_iff_not, Bool.not_eq_true', Bool.not_eq_false', ne_eq, Decidable.not_not, Int.not_lt, Int.not_le, not_false_eq_true] at h))
        | fail)
      refine so_call rfl rfl rfl (EqRows_int _ us ud uss usd s s) ?_
      rintro _ _ ⟨rfl, rfl⟩
      rw [decide_eq_true rfl]
      repeat' (first
        | (apply so_vo; (· exact voA); (· rfl))
        | refine so_nil ?_
        | refine q_go ?_
        | refine sw_region ?_
        | (refine goQ ?_; intro _ _)
        | refine go1 ?_
        | (refine goU ?_; intro nu)
        | (refine goB ?_; intro nb)
        | (refine goM ?_; intro nm)
        | (refine go2 ?_ ?_ <;> intro h <;> (try simp only [Bool.not_true, Bool.not_false, decide_eq_true_eq, decide_eq_false_iff_not, Bool.not_eq_true', Bool.not_eq_false', ne_eq, Decidable.not_not, Int.not_lt, Int.not_le, not_false_eq_true] at h))
        | fail)
      refine so_call rfl rfl rfl (awake_ok _) ?_
      rintro _ M ⟨rfl, hM⟩
      obtain rfl := hM.symm
      repeat' (first
        | (apply so_vo; (· exact voA); (· rfl))
        | refine so_nil ?_
        | refine q_go ?_
        | refine sw_region ?_
        | (refine goQ ?_; intro _ _)
        | refine go1 ?_
        | (refine goU ?_; intro nu)
        | (refine goB ?_; intro nb)
        | (refine goM ?_; intro nm)
        | (refine go2 ?_ ?_ <;> intro h <;> (try simp only [Bool.not_true, Bool.not_false, decide_eq_true_eq, decide_eq_false_iff_not, Bool.not_eq_true', Bool.not_eq_false', ne_eq, Decidable.not_not, Int.not_lt, Int.not_le, not_false_eq_true] at h))
        | fail)
      apply rq1 rfl rfl
      · exact ⟨rfl, rfl⟩
      · infer_instance
    have hc2 := hc.two hdz
    have hbr := byM_rng hdo c
    have hc7 := nodup_len _ _ hc.nd hc.rng
    repeat' (first
      | (apply so_vo; (· exact voA); (· rfl))
      | refine so_nil ?_
      | refine q_go ?_
      | refine sw_region ?_
      | (refine goQ ?_; intro _ _)
      | refine go1 ?_
      | (refine goU ?_; intro nu)
      | (refine goB ?_; intro nb)
      | (refine goM ?_; intro nm)
      | (refine go2 ?_ ?_ <;> intro h <;> (try simp only [Bool.not_true, Bool.not_false, decide_eq_true_eq, decide_eq_false_iff_not, Bool.not_eq_true', Bool.not_eq_false', ne_eq, Decidable.not_not, Int.not_lt, Int.not_le, not_false_eq_true] at h))
      | fail)
    refine sw_range (τ := Unit) (fun k _ => [(3, ud.v), (4, un.v), (18, uc.v), (142, uc.v), (19, .int .i64 (byM d c k))]) (fun _ _ => ownSl 3 encInt uc.v c :: ownSl 3 encInt uz.v cz :: ownSl 3 encInt un2.v (netM d) :: ownSl 28 encSl us.v uss :: rows 3 encInt uss s :: ownSl 3 encInt un.v (netM d) :: ownSl 28 encSl ud.v usd :: rows 3 encInt usd d :: sack b u.v (0 + 1000) :: L) (fun k _ => True) () trivial (by rfl) (by rfl) (by omega) (by (exact fsA)) (fun _ h => h) (fun _ _ => by rfl) (by rfl) (fun k t hlt hI _ _ => ?_) (fun t hI => ?_)
    · haveI : RdSl (ownSl 3 encInt uc.v c :: ownSl 3 encInt uz.v cz :: ownSl 3 encInt un2.v (netM d) :: ownSl 28 encSl us.v uss :: rows 3 encInt uss s :: ownSl 3 encInt un.v (netM d) :: ownSl 28 encSl ud.v usd :: rows 3 encInt usd d :: sack b u.v (0 + 1000) :: L) (subu 1 uc 0 k).v Int encInt (c.take k) := by
        have := RdSl.sub (L := ownSl 3 encInt uc.v c :: ownSl 3 encInt uz.v cz :: ownSl 3 encInt un2.v (netM d) :: ownSl 28 encSl us.v uss :: rows 3 encInt uss s :: ownSl 3 encInt un.v (netM d) :: ownSl 28 encSl ud.v usd :: rows 3 encInt usd d :: sack b u.v (0 + 1000) :: L) (v := uc.v) (enc := encInt) (xs := c) inferInstance (lo := 0) (hi := k) (by omega) (by omega)
        rw [List.drop_zero] at this
        exact this
      have g := hc.at hlt
      have hx := getD_get hlt
      have e1 := emod_nat k c.length
      have g3 := Int.emod_nonneg ((k : Int) + 1) (b := (c.length : Int)) (by omega)
      have g4 := Int.emod_lt_of_pos ((k : Int) + 1) (b := (c.length : Int)) (by omega)
      have hy : c[(((k : Int) + 1) % (c.length : Int)).toNat]? = some (nxt c k) := by rw [e1]; exact getD_get (Nat.mod_lt _ (by omega))
      have g5 := hdo.row (a := (c.getD k 0).toNat) (by omega)
      have hz := getD_get (xs := atx d (c.getD k 0).toNat) (k := (nxt c k).toNat) (by omega)
      have hlk : (atx d (c.getD k 0).toNat).getD (nxt c k).toNat 0 ≠ 0 := hc.lnk k hlt
      have hfr := hc.fresh hlt
      repeat' (first
        | (apply so_vo; (· exact voA); (· rfl))
        | refine so_nil ?_
        | refine q_go ?_
        | refine sw_region ?_
        | (refine goQ ?_; intro _ _)
        | refine go1 ?_
        | (refine goU ?_; intro nu)
        | (refine goB ?_; intro nb)
        | (refine goM ?_; intro nm)
        | (refine go2 ?_ ?_ <;> intro h <;> (try simp only [Bool.not_true, Bool.not_false, decide_eq_true_eq, decide_eq_false_iff_not, Bool.not_eq_true', Bool.not_eq_false', ne_eq, Decidable.not_not, Int.not_lt, Int.not_le, not_false_eq_true] at h))
        | fail)
      refine so_call rfl rfl rfl (Contains_int _ (subu 1 uc 0 k) (c.getD k 0) (c.take k)) ?_
      rintro _ _ ⟨rfl, rfl⟩
      rw [hfr]
      have hb1 := hbr k
      have hv := hdo.val (a := (c.getD k 0).toNat) (b := (nxt c k).toNat)
      have eb : byM d c (k + 1) = min (byM d c k) ((atx d (c.getD k 0).toNat).getD (nxt c k).toNat 0) := byM_succ d c k
      repeat' (first
        | (apply so_vo; (· exact voA); (· rfl))
        | refine so_nil ?_
        | refine q_go ?_
        | refine sw_region ?_
        | (refine goQ ?_; intro _ _)
        | refine go1 ?_
        | (refine goU ?_; intro nu)
        | (refine goB ?_; intro nb)
        | (refine goM ?_; intro nm)
        | (refine go2 ?_ ?_ <;> intro h <;> (try simp only [Bool.not_true, Bool.not_false, decide_eq_true_eq, decide_eq_false_iff_not, Bool.not_eq_true', Bool.not_eq_false', ne_eq, Decidable.not_not, Int.not_lt, Int.not_le, not_false_eq_true] at h))
        | fail)
      refine ⟨rfl, (), trivial, ?_, fun w H => H⟩
      rw [eb]
      (exact fsA)
    · obtain ⟨hx0, hxl, hxn, hxle, -⟩ := (Red.refl.step hc : Red d (cancelM d c)).law hd
      obtain ⟨hxo, hx1', hxz⟩ := checkD_ok hx0
      have hce := hc.cancelE hd
      repeat' (first
        | (apply so_vo; (· exact voA); (· rfl))
        | refine so_nil ?_
        | refine q_go ?_
        | refine sw_region ?_
        | (refine goQ ?_; intro _ _)
        | refine go1 ?_
        | (refine goU ?_; intro nu)
        | (refine goB ?_; intro nb)
        | (refine goM ?_; intro nm)
        | (refine go2 ?_ ?_ <;> intro h <;> (try simp only [Bool.not_true, Bool.not_false, decide_eq_true_eq, decide_eq_false_iff_not, Bool.not_eq_true', Bool.not_eq_false', ne_eq, Decidable.not_not, Int.not_lt, Int.not_le, not_false_eq_true] at h))
        | fail)
      refine so_call rfl rfl rfl (Cancel_ok _ ud uc usd d c (by omega)) ?_
      rintro _ _ ⟨ux, usx, rfl, husx, rfl⟩
      rw [if_pos hce] at husx ⊢
      rw [hce]
      repeat' (first
        | (apply so_vo; (· exact voA); (· rfl))
        | refine so_nil ?_
        | refine q_go ?_
        | refine sw_region ?_
        | (refine goQ ?_; intro _ _)
        | refine go1 ?_
        | (refine goU ?_; intro nu)
        | (refine goB ?_; intro nb)
        | (refine goM ?_; intro nm)
        | (refine go2 ?_ ?_ <;> intro h <;> (try simp only [Bool.not_true, Bool.not_false, decide_eq_true_eq, decide_eq_false_iff_not, Bool.not_eq_true', Bool.not_eq_false', ne_eq, Decidable.not_not, Int.not_lt, Int.not_le, not_false_eq_true] at h))
        | fail)
      refine so_call rfl rfl rfl (CheckDebts_ok _ ux usx (cancelM d c)) ?_
      rintro _ _ ⟨rfl, rfl⟩
      rw [hx0]
      repeat' (first
        | (apply so_vo; (· exact voA); (· rfl))
        | refine so_nil ?_
        | refine q_go ?_
        | refine sw_region ?_
        | (refine goQ ?_; intro _ _)
        | refine go1 ?_
        | (refine goU ?_; intro nu)
        | (refine goB ?_; intro nb)
        | (refine goM ?_; intro nm)
        | (refine go2 ?_ ?_ <;> intro h <;> (try simp only [Bool.not_true, Bool.not_false, decide_eq_true_eq, decide_eq_false_iff_not, Bool.not_eq_true', Bool.not_eq_false', ne_eq, Decidable.not_not, Int.not_lt, Int.not_le, not_false_eq_true] at h))
        | fail)
      refine so_call rfl rfl rfl (nets_ok _ ux usx (cancelM d c) hxo hxz) ?_
      rintro _ _ ⟨un3, rfl, rfl⟩
      rw [hxn]
      repeat' (first
        | (apply so_vo; (· exact voA); (· rfl))
        | refine so_nil ?_
        | refine q_go ?_
        | refine sw_region ?_
        | (refine goQ ?_; intro _ _)
        | refine go1 ?_
        | (refine goU ?_; intro nu)
        | (refine goB ?_; intro nb)
        | (refine goM ?_; intro nm)
        | (refine go2 ?_ ?_ <;> intro h <;> (try simp only [Bool.not_true, Bool.not_false, decide_eq_true_eq, decide_eq_false_iff_not, Bool.not_eq_true', Bool.not_eq_false', ne_eq, Decidable.not_not, Int.not_lt, Int.not_le, not_false_eq_true] at h))
        | fail)
      refine so_call rfl rfl rfl (Eq_int _ un3 un (netM d) (netM d)) ?_
      rintro _ _ ⟨rfl, rfl⟩
      rw [decide_eq_true rfl]
      repeat' (first
        | (apply so_vo; (· exact voA); (· rfl))
        | refine so_nil ?_
        | refine q_go ?_
        | refine sw_region ?_
        | (refine goQ ?_; intro _ _)
        | refine go1 ?_
        | (refine goU ?_; intro nu)
        | (refine goB ?_; intro nb)
        | (refine goM ?_; intro nm)
        | (refine go2 ?_ ?_ <;> intro h <;> (try simp only [Bool.not_true, Bool.not_false, decide_eq_true_eq, decide_eq_false_iff_not, Bool.not_eq_true', Bool.not_eq_false', ne_eq, Decidable.not_not, Int.not_lt, Int.not_le, not_false_eq_true] at h))
        | fail)
      refine sw_range (τ := Unit) (fun k _ => [(3, ud.v), (18, uc.v), (23, ux.v), (229, uc.v), (19, .int .i64 (byM d c c.length))]) (fun _ _ => ownSl 3 encInt un3.v (netM d) :: ownSl 28 encSl ux.v usx :: rows 3 encInt usx (cancelM d c) :: ownSl 3 encInt uc.v c :: ownSl 3 encInt uz.v cz :: ownSl 3 encInt un2.v (netM d) :: ownSl 28 encSl us.v uss :: rows 3 encInt uss s :: ownSl 3 encInt un.v (netM d) :: ownSl 28 encSl ud.v usd :: rows 3 encInt usd d :: sack b u.v (0 + 1000) :: L) (fun k _ => True) () trivial (by rfl) (by rfl) (by omega) (by (exact fsA)) (fun _ h => h) (fun _ _ => by rfl) (by rfl) (fun k t hlt hI _ _ => ?_) (fun t hI => ?_)
      · have g := hc.at hlt
        have hx := getD_get hlt
        have e1 := emod_nat k c.length
        have g3 := Int.emod_nonneg ((k : Int) + 1) (b := (c.length : Int)) (by omega)
        have g4 := Int.emod_lt_of_pos ((k : Int) + 1) (b := (c.length : Int)) (by omega)
        have hy : c[(((k : Int) + 1) % (c.length : Int)).toNat]? = some (nxt c k) := by rw [e1]; exact getD_get (Nat.mod_lt _ (by omega))
        have g5 := hdo.row (a := (c.getD k 0).toNat) (by omega)
        have hz := getD_get (xs := atx d (c.getD k 0).toNat) (k := (nxt c k).toNat) (by omega)
        have hlk : (atx d (c.getD k 0).toNat).getD (nxt c k).toNat 0 ≠ 0 := hc.lnk k hlt
        have hxr := hxo.row (a := (c.getD k 0).toNat) (by omega)
        have hz2 := getD_get (xs := atx (cancelM d c) (c.getD k 0).toNat) (k := (nxt c k).toNat) (by omega)
        have hdf : (atx (cancelM d c) (c.getD k 0).toNat).getD (nxt c k).toNat 0 = (atx d (c.getD k 0).toNat).getD (nxt c k).toNat 0 - byM d c c.length := hc.less hdo hlt
        have hv := hdo.val (a := (c.getD k 0).toNat) (b := (nxt c k).toNat)
        have hb1 := hbr c.length
        repeat' (first
          | (apply so_vo; (· exact voA); (· rfl))
          | refine so_nil ?_
          | refine q_go ?_
          | refine sw_region ?_
          | (refine goQ ?_; intro _ _)
          | refine go1 ?_
          | (refine goU ?_; intro nu)
          | (refine goB ?_; intro nb)
          | (refine goM ?_; intro nm)
          | (refine go2 ?_ ?_ <;> intro h <;> (try simp only [Bool.not_true, Bool.not_false, decide_eq_true_eq, decide_eq_false_iff_not, Bool.not_eq_true', Bool.not_eq_false', ne_eq, Decidable.not_not, Int.not_lt, Int.not_le, not_false_eq_true] at h))
          | fail)
        refine sa_start [] mixed (by kernel_rfl) ?_
        apply sa_stat 0 rfl (by kernel_rfl) rfl
        · (exact voA)
        apply sa_stat 1 rfl (by kernel_rfl) rfl
        · (exact voA)
        apply sa_stat 2 rfl (by kernel_rfl) rfl
        · (exact voA)
        apply sa_stat 3 rfl (by kernel_rfl) rfl
        · (exact voA)
        apply sa_stat 4 rfl (by kernel_rfl) rfl
        · (exact voA)
        apply sa_stat 5 rfl (by kernel_rfl) rfl
        · (exact voA)
        apply sa_stat 6 rfl (by kernel_rfl) rfl
        · (exact voA)
        apply sa_stat 7 rfl (by kernel_rfl) rfl
        · (exact voA)
        apply sa_stat 8 rfl (by kernel_rfl) rfl
        · (exact voA)
        apply sa_stat 9 rfl (by kernel_rfl) rfl
        · (exact voA)
        apply sa_stat 10 rfl (by kernel_rfl) rfl
        · (exact voA)
        apply sa_stat 11 rfl (by kernel_rfl) rfl
        · (exact voA)
        apply sa_stat 12 rfl (by kernel_rfl) rfl
        · (exact voA)
        apply sa_stat 13 rfl (by kernel_rfl) rfl
        · (exact voA)
        apply sa_stat 14 rfl (by kernel_rfl) rfl
        · (exact voA)
        apply sa_stat 15 rfl (by kernel_rfl) rfl
        · (exact voA)
        apply sa_stat 16 rfl (by kernel_rfl) rfl
        · (exact voA)
        refine sa_rest (T' := []) rfl (by kernel_rfl) ?_
        repeat' (first
          | (apply so_vo; (· exact voA); (· rfl))
          | refine so_nil ?_
          | refine q_go ?_
          | refine sw_region ?_
          | (refine goQ ?_; intro _ _)
          | refine go1 ?_
          | (refine goU ?_; intro nu)
          | (refine goB ?_; intro nb)
          | (refine goM ?_; intro nm)
          | (refine go2 ?_ ?_ <;> intro h <;> (try simp only [Bool.not_true, Bool.not_false, decide_eq_true_eq, decide_eq_false_iff_not, Bool.not_eq_true', Bool.not_eq_false', ne_eq, Decidable.not_not, Int.not_lt, Int.not_le, not_false_eq_true] at h))
          | fail)
        refine ⟨rfl, (), trivial, ?_, fun w H => H⟩
        (exact fsA)
      · repeat' (first
          | (apply so_vo; (· exact voA); (· rfl))
          | refine so_nil ?_
          | refine q_go ?_
          | refine sw_region ?_
          | (refine goQ ?_; intro _ _)
          | refine go1 ?_
          | (refine goU ?_; intro nu)
          | (refine goB ?_; intro nb)
          | (refine goM ?_; intro nm)
          | (refine go2 ?_ ?_ <;> intro h <;> (try simp only [Bool.not_true, Bool.not_false, decide_eq_true_eq, decide_eq_false_iff_not, Bool.not_eq_true', Bool.not_eq_false', ne_eq, Decidable.not_not, Int.not_lt, Int.not_le, not_false_eq_true] at h))
          | fail)
        refine so_call rfl rfl rfl (awake_ok _) ?_
        rintro _ M ⟨rfl, hM⟩
        obtain rfl := hM.symm
        repeat' (first
          | (apply so_vo; (· exact voA); (· rfl))
          | refine so_nil ?_
          | refine q_go ?_
          | refine sw_region ?_
          | (refine goQ ?_; intro _ _)
          | refine go1 ?_
          | (refine goU ?_; intro nu)
          | (refine goB ?_; intro nb)
          | (refine goM ?_; intro nm)
          | (refine go2 ?_ ?_ <;> intro h <;> (try simp only [Bool.not_true, Bool.not_false, decide_eq_true_eq, decide_eq_false_iff_not, Bool.not_eq_true', Bool.not_eq_false', ne_eq, Decidable.not_not, Int.not_lt, Int.not_le, not_false_eq_true] at h))
          | fail)
        apply rq1 rfl rfl
        · exact ⟨rfl, rfl⟩
        · infer_instance
end Go.Proofs.YtmhfhfhdblccjaaGreat
/-
  Bytes that come in, as a list of bytes in the memory that the call finds.
-/
namespace Go.Proofs.YtmhfhfhdblccjaaGreat
open Go Go.RowKit
set_option linter.unusedVariables false
set_option linter.unusedSimpArgs false
/-- what is known of bytes that come in -/
def RowU8 (w : World) (a : Option Addr) (len cap : Nat) (zs : List Int) : Prop :=
  (a = none ∧ len = 0 ∧ cap = 0 ∧ zs = []) ∨
  ∃ x, a = some x ∧ len ≤ cap ∧ len ≤ 140737488355328 ∧ zs.length = cap ∧ (∀ i, i < zs.length → w.cell? (x.add i) = some (.int .u8 (zs.getD i 0))) ∧ ∀ n ∈ zs, (Lit.int .u8 n).wf = true
theorem block_of_cell {w : World} {b o : Nat} {v : Value} (h : w.cell? ⟨b, o, none⟩ = some v) : ∃ cs T fz, w.heap[b]? = some (.cells cs T fz) := by
  unfold World.cell? at h
  split at h
  · rename_i c T fz e; exact ⟨c, T, fz, e⟩
  · cases h
theorem u8_nat {n : Int} (h : (Lit.int .u8 n).wf = true) : ((UInt8.ofNat n.toNat).toNat : Int) = n := by
  have hb := bounds_u8 h
  have : (UInt8.ofNat n.toNat).toNat = n.toNat % 256 := by simp [UInt8.ofNat, UInt8.toNat]
  rw [this]; omega
theorem row_bytes {w : World} {a : Option Addr} {len cap : Nat} {zs : List Int} (h : RowU8 w a len cap zs) : ∃ g : List UInt8, RdSl [rest w] (.slice a len cap) UInt8 encU8 g := by
  rcases h with ⟨rfl, rfl, rfl, rfl⟩ | ⟨x, rfl, h1, h2, h3, h4, h5⟩
  · exact ⟨[], ⟨fun h H => ⟨none, 0, rfl, Nat.le_refl _, by simp, fun e => absurd rfl e⟩⟩⟩
  have hl : ((zs.take len).map fun n => UInt8.ofNat n.toNat).length = len := by simp; omega
  refine ⟨(zs.take len).map fun n => UInt8.ofNat n.toNat, ⟨fun h H => ⟨some x, cap, by rw [hl], by omega, by rw [hl]; exact h2, fun hne => ?_⟩⟩⟩
  have hp : 0 < len := by
    rcases Nat.eq_zero_or_pos len with e | e
    · subst e; exact absurd (by simp) hne
    · exact e
  obtain ⟨b, off, rfl, hc⟩ := ints_at h4 (by omega)
  obtain ⟨cs, T, fz, hb⟩ := block_of_cell (hc 0 (by omega))
  obtain ⟨h1', hr, hle⟩ := Holds.head H
  refine ⟨b, off, cs, T, fz, rfl, hle _ _ (hr _ _ hb), fun j y hy i u hu => ?_⟩
  rw [List.getElem?_map] at hy
  cases hz : (zs.take len)[j]? with
  | none => rw [hz] at hy; cases hy
  | some n =>
    rw [hz] at hy
    simp at hy
    subst hy
    have hj : j < len := by have := (List.getElem?_eq_some_iff.1 hz).1; simp at this; omega
    rw [List.getElem?_take_of_lt hj] at hz
    have hn := h5 n (List.mem_of_getElem? hz)
    have hcj := hc j (by omega)
    rw [cell_of_block hb, show zs.getD j 0 = n by simp [List.getD, hz]] at hcj
    have hi : i = 0 := by
      have := (List.getElem?_eq_some_iff.1 hu).1
      simp [Enc.cells, encU8] at this; omega
    subst hi
    simp only [Enc.cells, Enc.k, encU8, List.getElem?_cons_zero, Option.some.injEq] at hu ⊢
    subst hu
    rw [u8_nat hn]
    simpa using hcj
/-- a law of bytes, from what is shown of it -/
theorem law_bytes1 {P : Program} {f : Nat} {w : World} {a : Option Addr} {len cap : Nat} {zs : List Int} (h : RowU8 w a len cap zs) (k : ∀ (L : List SP) (u : SlV) (g : List UInt8) [r : RdSl L u.v UInt8 encU8 g], FnC P f [u.v] L (fun v M => v = .bool true ∧ M = L)) :
    Calls P f #[.slice a len cap] w fun e w' => e = .returned (.bool true) ∧ Below w.heap.size w w' := by
  obtain ⟨g, r⟩ := row_bytes h
  refine (k [rest w] ⟨.slice a len cap, ⟨_, _, _, rfl⟩⟩ g (r := r) w (Sat.start w)).mono fun e w' ⟨v, L', he, ⟨hv, hL⟩, hs, hk⟩ => ⟨by rw [he, hv], ?_⟩
  subst hL
  exact Sat.below hs hk
theorem law_bytes2 {P : Program} {f : Nat} {w : World} {a b : Option Addr} {len cap len2 cap2 : Nat} {zs ys : List Int} (h : RowU8 w a len cap zs) (h2 : RowU8 w b len2 cap2 ys) (k : ∀ (L : List SP) (u u2 : SlV) (g g2 : List UInt8) [r : RdSl L u.v UInt8 encU8 g] [r2 : RdSl L u2.v UInt8 encU8 g2], FnC P f [u.v, u2.v] L (fun v M => v = .bool true ∧ M = L)) :
    Calls P f #[.slice a len cap, .slice b len2 cap2] w fun e w' => e = .returned (.bool true) ∧ Below w.heap.size w w' := by
  obtain ⟨g, r⟩ := row_bytes h
  obtain ⟨g2, r2⟩ := row_bytes h2
  refine (k [rest w] ⟨.slice a len cap, ⟨_, _, _, rfl⟩⟩ ⟨.slice b len2 cap2, ⟨_, _, _, rfl⟩⟩ g g2 (r := r) (r2 := r2) w (Sat.start w)).mono fun e w' ⟨v, L', he, ⟨hv, hL⟩, hs, hk⟩ => ⟨by rw [he, hv], ?_⟩
  subst hL
  exact Sat.below hs hk
end Go.Proofs.YtmhfhfhdblccjaaGreat
