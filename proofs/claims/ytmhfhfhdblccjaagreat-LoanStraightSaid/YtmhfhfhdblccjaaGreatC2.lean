/-
  An own logic over the kit's calculus: regions that draw their order. Operations that only read what stays are taken first; the others follow in their one order.
-/
import Derived.Test.YtmhfhfhdblccjaaGreatC1
import Derived.Still
namespace Go.Proofs.YtmhfhfhdblccjaaGreat
open Go Go.RowKit
set_option linter.unusedVariables false

section
variable {P : Program} {F : Fence} {n : Nat} {ops : Array Oper} {Q : Exit → Act → World → Prop} {md : Region.Mode} {C : World → Prop} {T : List Nat}
def noneOf (T : List Nat) (listed : Array Bool) : Prop := ∀ t ∈ T, listed.getD t false = false
/-- Whatever order is picked from here on; each world on the way is one of C, till an operation of T has come. -/
def wpAnyC (F : Fence) (n : Nat) (P : Program) (md : Region.Mode) (ops : Array Oper) (T : List Nat) (Q : Exit → Act → World → Prop) (C : World → Prop) : Nat → Array Bool → Act → World → Prop
  | 0, listed, a, w => (noneOf T listed → C w) ∧ Region.ready md ops listed = [] ∧ Q .normal a w
  | fuel + 1, listed, a, w => (noneOf T listed → C w) ∧ (Region.ready md ops listed = [] → Q .normal a w) ∧
    ∀ i ∈ Region.ready md ops listed, wpOpIn F n P ops Q i (wpAnyC F n P md ops T Q C fuel (listed.setIfInBounds i true)) a w
theorem wpAnyC.any : ∀ (fuel : Nat) (listed : Array Bool) (a : Act) (w : World), wpAnyC F n P md ops T Q C fuel listed a w → wpAnyIn F n P md ops Q fuel listed a w
  | 0, _, _, _, h => h.2
  | fuel + 1, _, _, _, h => ⟨h.2.1, fun i hi => wpOpIn_mono (fun a w => wpAnyC.any fuel _ a w) (h.2.2 i hi)⟩
theorem wpAnyC.weaken {C' : World → Prop} (hC : ∀ w, C w → C' w) : ∀ (fuel : Nat) (listed : Array Bool) (a : Act) (w : World), wpAnyC F n P md ops T Q C fuel listed a w → wpAnyC F n P md ops T Q C' fuel listed a w
  | 0, _, _, _, h => ⟨fun x => hC _ (h.1 x), h.2⟩
  | fuel + 1, _, _, _, h => ⟨fun x => hC _ (h.1 x), h.2.1, fun i hi => wpOpIn_mono (fun a w => wpAnyC.weaken hC fuel _ a w) (h.2.2 i hi)⟩
/-- In every world of C the operation yields v and leaves it as it is. -/
def StillC (P : Program) (ops : Array Oper) (C : World → Prop) (o : Oper) (v : Value) (a : Act) : Prop :=
  (Region.wanted o (yielded ops a.tmps) = true ∧ ∀ w, C w → (execOp a.eval o).run P w = .ok (.value v) w) ∨ (Region.wanted o (yielded ops a.tmps) = false ∧ v = undef)
theorem StillC.of_same {o : Oper} {v : Value} {a a' : Act} (hy : StillC P ops C o v a) (he : execOp a'.eval o = execOp a.eval o) (hw : Region.wanted o (yielded ops a'.tmps) = Region.wanted o (yielded ops a.tmps)) : StillC P ops C o v a' := by
  unfold StillC at *; rw [he, hw]; exact hy
def noDefer (ops : Array Oper) : Bool := ops.all fun o => match o.op with | .defer .. => false | _ => true
theorem noDefer_spec (h : noDefer ops = true) (j : Nat) (o : Oper) (c : Call) (ho : ops[j]? = some o) : o.op ≠ .defer c := by
  intro heq
  have := Array.all_eq_true_iff_forall_mem.1 h o (Array.mem_of_getElem? ho)
  simp [heq] at this
theorem StillC.wpOp {i : Nat} {o : Oper} {v : Value} {a : Act} (hfn : ∀ f, F.fn f) (hi : ops[i]? = some o) (hnd : ∀ c, o.op ≠ .defer c) (hy : StillC P ops C o v a) {K : Act → World → Prop} {w : World} (hC : C w) (h : K (a.put o.dst v) w) : wpOpIn F n P ops Q i K a w := by
  unfold wpOpIn
  simp only [hi]
  rcases hy with ⟨hw, hv⟩ | ⟨hw, rfl⟩
  · simp only [hw, if_true, Oper.wpIn, Oper.semAt_eq _ _ _ hnd, hv w hC, Oper.uponIn]; exact ⟨fun _ _ => hfn _, h⟩
  · simp only [hw, Bool.false_eq_true, if_false]; exact ⟨fun _ _ => hfn _, h⟩
theorem StillC.put {j : Nat} {oi oj : Oper} {v : Value} (hfn : ∀ f, F.fn f) (hj : ops[j]? = some oj) (hnd : ∀ c, oj.op ≠ .defer c) (hap : oi.apart ops oj = true) (hsi : ∀ cs b, oi.op ≠ .select cs b) (hsj : ∀ cs b, oj.op ≠ .select cs b)
    (hQ : ∀ c a w, ¬ Q (.panic c) a w) {K : Act → World → Prop} {a : Act} {w : World} (hy : StillC P ops C oi v a) (h : wpOpIn F n P ops Q j K (a.put oi.dst v) w) :
    wpOpIn F n P ops Q j (fun a' w' => StillC P ops C oi v a' ∧ K (a'.put oi.dst v) w') a w := by
  obtain ⟨h1, h2, h3⟩ := Oper.apart_spec hap
  have keep : ∀ (a : Act), StillC P ops C oi v a → ∀ u, StillC P ops C oi v (a.put oj.dst u) := fun a hy u =>
    hy.of_same (execOp_put oi hsi a oj.dst u h3) (wanted_put oi a oj.dst u h3)
  have keepD : ∀ d, StillC P ops C oi v { a with defers := d :: a.defers } := fun d => hy.of_same rfl rfl
  unfold wpOpIn at *
  simp only [hj] at *
  rw [wanted_put oj a oi.dst v h1] at h
  split
  · rename_i hw
    simp only [hw, if_true] at h
    unfold Oper.wpIn at *
    refine ⟨fun _ _ => hfn _, ?_⟩
    have h := h.2
    rw [Oper.semAt_eq _ _ _ hnd, execOp_put oj hsj a oi.dst v h1] at h
    rw [Oper.semAt_eq _ _ _ hnd]
    generalize (execOp a.eval oj).run P w = r at *
    cases r with
    | ok x w' =>
      cases x <;> simp only [Oper.uponIn] at h ⊢
      case value u => exact ⟨keep a hy u, by rw [← Act.put_comm a v u h2]; exact h⟩
      case skip => exact ⟨keep a hy _, by rw [← Act.put_comm a v undef h2]; exact h⟩
      case defer d =>
        refine ⟨keep _ (keepD d) _, ?_⟩
        rw [← Act.put_comm _ v undef h2, ← Act.put_defers]
        exact h
      case enter f args =>
        refine ⟨h.1, CallsIn.mono h.2 fun e w'' he => ?_⟩
        cases e with
        | returned u => exact ⟨keep a hy u, by rw [← Act.put_comm a v u h2]; exact he⟩
        | panicked c => exact absurd he (hQ _ _ _)
        | outgrown => exact he
      case row row args => exact ⟨h.1, RowsIn.mono h.2 fun u w'' he => ⟨keep a hy u, by rw [← Act.put_comm a v u h2]; exact he⟩⟩
      case round l f tmps assign body =>
        refine ⟨h.1, RoundIn.mono h.2 fun e w'' he => ?_⟩
        cases e with
        | returned u => exact ⟨keep a hy u, by rw [← Act.put_comm a v u h2]; exact he⟩
        | panicked c => exact absurd he (hQ _ _ _)
        | outgrown => exact he
    | halt x w' =>
      cases x <;> simp only [Oper.uponIn] at h ⊢
      case panic u => exact absurd h (hQ _ _ _)
  · rename_i hw
    simp only [hw] at h
    exact ⟨fun _ _ => hfn _, keep a hy _, by rw [← Act.put_comm a v undef h2]; exact h.2⟩
theorem wpAnyC.first {i : Nat} {oi : Oper} {v : Value} (hfn : ∀ f, F.fn f) (hi : ops[i]? = some oi) (hsel : ∀ (j : Nat) (o : Oper) cs b, ops[j]? = some o → o.op ≠ .select cs b) (hdef : ∀ (j : Nat) (o : Oper) c, ops[j]? = some o → o.op ≠ .defer c)
    (hQ : ∀ c a w, ¬ Q (.panic c) a w) (hiT : i ∉ T) (hT : ∀ t ∈ T, ∀ ot, ops[t]? = some ot → ∃ e ∈ ot.after, Region.binds md e = true ∧ e.on = i) :
    ∀ (fuel : Nat) (listed : Array Bool) (a : Act) (w : World),
      (∀ j oj, ops[j]? = some oj → j ≠ i → listed.getD j true = false → (∀ e ∈ oj.after, Region.binds md e = true → e.on ≠ i) → oi.apart ops oj = true) →
      i ∈ Region.ready md ops listed → StillC P ops C oi v a → noneOf T listed →
      wpAnyC F n P md ops T Q C fuel (listed.setIfInBounds i true) (a.put oi.dst v) w → wpAnyC F n P md ops T Q C (fuel + 1) listed a w := by
  have none1 : ∀ listed, noneOf T listed → noneOf T (listed.setIfInBounds i true) := fun listed h t ht => by
    have hne : i ≠ t := fun e => hiT (by rw [e]; exact ht)
    rw [getD_set_ne false hne]; exact h t ht
  intro fuel
  induction fuel with
  | zero =>
    intro listed a w _ hr hy hN H
    have hC : C w := H.1 (none1 _ hN)
    refine ⟨fun _ => hC, fun h => (by rw [h] at hr; cases hr), fun j hj => ?_⟩
    by_cases hji : j = i
    · subst hji; exact hy.wpOp hfn hi (hdef _ _ · hi) hC H
    · have := ready_mono hj hji
      rw [H.2.1] at this
      cases this
  | succ fuel ih =>
    intro listed a w hfree hr hy hN H
    have hC : C w := H.1 (none1 _ hN)
    refine ⟨fun _ => hC, fun h => (by rw [h] at hr; cases hr), fun j hj => ?_⟩
    by_cases hji : j = i
    · subst hji; exact hy.wpOp hfn hi (hdef _ _ · hi) hC H
    · have h1 := H.2.2 j (ready_mono hj hji)
      obtain ⟨hjun, oj, hoj, hall⟩ := mem_ready.1 hj
      have hnot : ∀ e ∈ oj.after, Region.binds md e = true → e.on ≠ i := fun e he hb heq => by
        have h1 := hall e he hb
        have h0 := (mem_ready.1 hr).1
        rw [heq] at h1
        rcases Nat.lt_or_ge i listed.size with h' | h'
        · simp [h'] at h0 h1; rw [h0] at h1; cases h1
        · simp [Array.getElem?_eq_none h'] at h1
      have h2 := StillC.put hfn hoj (hdef j oj · hoj) (hfree j oj hoj hji hjun hnot) (fun cs b => hsel i oi cs b hi) (fun cs b => hsel j oj cs b hoj) hQ hy h1
      have hfree' : ∀ k ok, ops[k]? = some ok → k ≠ i → (listed.setIfInBounds j true).getD k true = false →
          (∀ e ∈ ok.after, Region.binds md e = true → e.on ≠ i) → oi.apart ops ok = true := fun k ok hk hki hun hno => by
        refine hfree k ok hk hki ?_ hno
        by_cases hjk : j = k
        · subst hjk; exact hjun
        · rw [getD_set_ne true hjk] at hun; exact hun
      have hjT : j ∉ T := fun hj' => by
        obtain ⟨e, he, hb, hon⟩ := hT j hj' oj hoj
        exact hnot e he hb hon
      have hN' : noneOf T (listed.setIfInBounds j true) := fun t ht => by
        have hne : j ≠ t := fun e => hjT (by rw [e]; exact ht)
        rw [getD_set_ne false hne]; exact hN t ht
      refine wpOpIn_mono (fun a' w' h3 => ih (listed.setIfInBounds j true) a' w' hfree' (ready_mono hr (Ne.symm hji)) h3.1 hN' ?_) h2
      rw [Array.setIfInBounds_comm _ _ hji]
      exact h3.2
/-- an operation whose value does not hang on the memory may be taken first -/
theorem wpAnyC.pure {i : Nat} {oi : Oper} {v : Value} (hfn : ∀ f, F.fn f) (hi : ops[i]? = some oi) (hsel : ∀ (j : Nat) (o : Oper) cs b, ops[j]? = some o → o.op ≠ .select cs b) (hdef : ∀ (j : Nat) (o : Oper) c, ops[j]? = some o → o.op ≠ .defer c)
    (hQ : ∀ c a w, ¬ Q (.panic c) a w) (hiT : i ∉ T) :
    ∀ (fuel : Nat) (listed : Array Bool) (a : Act) (w : World),
      (∀ j oj, ops[j]? = some oj → j ≠ i → listed.getD j true = false → (∀ e ∈ oj.after, Region.binds md e = true → e.on ≠ i) → oi.apart ops oj = true) →
      i ∈ Region.ready md ops listed → StillC P ops (fun _ => True) oi v a →
      wpAnyC F n P md ops T Q C fuel (listed.setIfInBounds i true) (a.put oi.dst v) w → wpAnyC F n P md ops T Q C (fuel + 1) listed a w := by
  have none1 : ∀ listed, noneOf T listed → noneOf T (listed.setIfInBounds i true) := fun listed h t ht => by
    have hne : i ≠ t := fun e => hiT (by rw [e]; exact ht)
    rw [getD_set_ne false hne]; exact h t ht
  intro fuel
  induction fuel with
  | zero =>
    intro listed a w _ hr hy H
    refine ⟨fun h => H.1 (none1 _ h), fun h => (by rw [h] at hr; cases hr), fun j hj => ?_⟩
    by_cases hji : j = i
    · subst hji; exact hy.wpOp hfn hi (hdef _ _ · hi) trivial H
    · have := ready_mono hj hji
      rw [H.2.1] at this
      cases this
  | succ fuel ih =>
    intro listed a w hfree hr hy H
    refine ⟨fun h => H.1 (none1 _ h), fun h => (by rw [h] at hr; cases hr), fun j hj => ?_⟩
    by_cases hji : j = i
    · subst hji; exact hy.wpOp hfn hi (hdef _ _ · hi) trivial H
    · have h1 := H.2.2 j (ready_mono hj hji)
      obtain ⟨hjun, oj, hoj, hall⟩ := mem_ready.1 hj
      have hnot : ∀ e ∈ oj.after, Region.binds md e = true → e.on ≠ i := fun e he hb heq => by
        have h1 := hall e he hb
        have h0 := (mem_ready.1 hr).1
        rw [heq] at h1
        rcases Nat.lt_or_ge i listed.size with h' | h'
        · simp [h'] at h0 h1; rw [h0] at h1; cases h1
        · simp [Array.getElem?_eq_none h'] at h1
      have h2 := StillC.put hfn hoj (hdef j oj · hoj) (hfree j oj hoj hji hjun hnot) (fun cs b => hsel i oi cs b hi) (fun cs b => hsel j oj cs b hoj) hQ hy h1
      have hfree' : ∀ k ok, ops[k]? = some ok → k ≠ i → (listed.setIfInBounds j true).getD k true = false →
          (∀ e ∈ ok.after, Region.binds md e = true → e.on ≠ i) → oi.apart ops ok = true := fun k ok hk hki hun hno => by
        refine hfree k ok hk hki ?_ hno
        by_cases hjk : j = k
        · subst hjk; exact hjun
        · rw [getD_set_ne true hjk] at hun; exact hun
      refine wpOpIn_mono (fun a' w' h3 => ih (listed.setIfInBounds j true) a' w' hfree' (ready_mono hr (Ne.symm hji)) h3.1 ?_) h2
      rw [Array.setIfInBounds_comm _ _ hji]
      exact h3.2
end

section
variable {P : Program} {ro : Option Nat} {sz : Nat} {fr : Fr} {ds : List Deferred} {L M : List SP} {Q : Post} {l : List Oper} {d : Nat} {ty : TypeId} {pos : String} {aft : Array Edge} {T : List Nat}
def calmQ (Q : Post) : Post := fun e fr ds L => (∀ c, e ≠ .panic c) ∧ Q e fr ds L
/-- Whatever order is picked of the operations that are not listed; M: the memory, L: what stays of it. -/
def SA (T : List Nat) (listed : Array Bool) (fuel : Nat) (l : List Oper) (P : Program) (ro : Option Nat) (sz : Nat) (fr : Fr) (ds : List Deferred) (M L : List SP) (Q : Post) : Prop :=
  ∀ tm w w0 n, tm.size = sz → Agr fr tm → Sat M w → Sat L w → Kept w0 w → wpAnyC (fen ro) n P .any l.toArray T (toQ sz w0 (calmQ Q)) (Sat L) fuel listed ⟨tm, ds⟩ w
def okOps (l : List Oper) : Bool := Region.noSelect l.toArray && noDefer l.toArray
theorem sa_start {id : Nat} (T : List Nat) (hm : P.follows .mixedOrders = true) (hok : okOps l = true) (h : SA T (Array.replicate l.length false) l.length l P ro sz fr ds L L Q) : SW (.region id l.toArray true) P ro sz fr ds L Q := by
  intro tm w n h1 h2 h3
  have h4 : Sat L { w with drawn := w.drawn + 1 } := h3
  have := h tm { w with drawn := w.drawn + 1 } w n h1 h2 h4 h4 ⟨rfl, rfl, rfl, Nat.le_refl _⟩
  refine wpIn_mono (Q := toQ sz w (calmQ Q)) ?_ (fun e a w' q => q.mono fun _ _ _ _ q => q.2)
  exact wpIn_region_any hm (wpAnyC.any _ _ _ _ (by simpa using this))
def tailOk (l : List Oper) (T : List Nat) (i : Nat) : Bool := !T.contains i && T.all fun t => match l[t]? with | some o => o.after.any (fun e => Region.binds .any e && e.on == i) | none => true
theorem tailOk_spec {l : List Oper} {T : List Nat} {i : Nat} (h : tailOk l T i = true) : i ∉ T ∧ ∀ t ∈ T, ∀ ot, l.toArray[t]? = some ot → ∃ e ∈ ot.after, Region.binds .any e = true ∧ e.on = i := by
  simp only [tailOk, Bool.and_eq_true, Bool.not_eq_true', List.all_eq_true] at h
  refine ⟨by simpa using h.1, fun t ht ot ho => ?_⟩
  have h1 := h.2 t ht
  have ho' : l[t]? = some ot := by simpa using ho
  rw [ho'] at h1
  obtain ⟨e, he, hb⟩ := Array.any_eq_true'.1 h1
  simp only [Bool.and_eq_true, beq_iff_eq] at hb
  exact ⟨e, he, hb.1, hb.2⟩
def noneB (T : List Nat) (listed : Array Bool) : Bool := T.all fun t => listed.getD t false == false
theorem noneB_spec {T : List Nat} {listed : Array Bool} (h : noneB T listed = true) : noneOf T listed := fun t ht => by
  have := List.all_eq_true.1 h t ht
  simpa using this
/-- whether operation i may be taken now as one that only reads -/
def mayFirst (T : List Nat) (l : List Oper) (listed : Array Bool) (i : Nat) : Bool := tailOk l T i && noneB T listed && (okOps l && Region.free .any l.toArray listed i && (Region.ready .any l.toArray listed).contains i)
theorem sa_stat {listed : Array Bool} {fuel : Nat} (i : Nat) {op : Op} {v : Value} (ho : l[i]? = some ⟨some d, op, ty, pos, aft, none⟩) (hf : mayFirst T l listed i = true) (hd : Nat.blt d sz = true) (hv : VO P ds ⟨some d, op, ty, pos, aft, none⟩ fr L v)
    (k : SA T (listed.setIfInBounds i true) fuel l P ro sz ((d, v) :: fr) ds M L Q) : SA T listed (fuel + 1) l P ro sz fr ds M L Q := by
  intro tm w w0 n h1 h2 h3 h4 h5
  simp only [mayFirst, okOps, Bool.and_eq_true] at hf
  have hd' : d < sz := by simpa [Nat.blt_eq] using hd
  have hi : l.toArray[i]? = some ⟨some d, op, ty, pos, aft, none⟩ := by simpa using ho
  refine wpAnyC.first (fun _ => trivial) hi (Region.noSelect_spec hf.2.1.1.1) (noDefer_spec hf.2.1.1.2) (fun c a w q => by obtain ⟨_, _, q, _⟩ := q; exact q.1 c rfl) (tailOk_spec hf.1.1).1 (tailOk_spec hf.1.1).2 fuel listed _ w (Region.free_spec hi hf.2.1.2) (by simpa using hf.2.2)
    (.inl ⟨by simp [Region.wanted], fun w' hw' => hv.2 tm w' h2 hw'⟩) (noneB_spec hf.1.2) ?_
  exact k (tm.setIfInBounds d v) w w0 n (by simp [h1]) (h2.put (by omega) v) h3 h4 h5
theorem sa_stat_on {listed : Array Bool} {fuel : Nat} (i : Nat) {op : Op} {v : Value} {j t : Nat} {b want : Bool} (ho : l[i]? = some ⟨some d, op, ty, pos, aft, some (j, want)⟩) (ht : (l[j]?).bind (·.dst) = some t) (hb : Fr.get fr t = some (.bool b)) (e : b = want) (hf : mayFirst T l listed i = true) (hd : Nat.blt d sz = true) (hv : VO P ds ⟨some d, op, ty, pos, aft, none⟩ fr L v)
    (k : SA T (listed.setIfInBounds i true) fuel l P ro sz ((d, v) :: fr) ds M L Q) : SA T listed (fuel + 1) l P ro sz fr ds M L Q := by
  intro tm w w0 n h1 h2 h3 h4 h5
  simp only [mayFirst, okOps, Bool.and_eq_true] at hf
  have hd' : d < sz := by simpa [Nat.blt_eq] using hd
  have hi : l.toArray[i]? = some ⟨some d, op, ty, pos, aft, some (j, want)⟩ := by simpa using ho
  have ht' : (l.toArray[j]?).bind (·.dst) = some t := by simpa using ht
  refine wpAnyC.first (fun _ => trivial) hi (Region.noSelect_spec hf.2.1.1.1) (noDefer_spec hf.2.1.1.2) (fun c a w q => by obtain ⟨_, _, q, _⟩ := q; exact q.1 c rfl) (tailOk_spec hf.1.1).1 (tailOk_spec hf.1.1).2 fuel listed _ w (Region.free_spec hi hf.2.1.2) (by simpa using hf.2.2)
    (.inl ⟨by simp [Region.wanted, yielded, ht, h2 t _ hb, e], fun w' hw' => hv.2 tm w' h2 hw'⟩) (noneB_spec hf.1.2) ?_
  exact k (tm.setIfInBounds d v) w w0 n (by simp [h1]) (h2.put (by omega) v) h3 h4 h5
theorem sa_stat_off {listed : Array Bool} {fuel : Nat} (i : Nat) {op : Op} {j t : Nat} {b want : Bool} (ho : l[i]? = some ⟨some d, op, ty, pos, aft, some (j, want)⟩) (ht : (l[j]?).bind (·.dst) = some t) (hb : Fr.get fr t = some (.bool b) ∧ b = !want ∨ Fr.get fr t = some undef) (hf : mayFirst T l listed i = true) (hd : Nat.blt d sz = true)
    (k : SA T (listed.setIfInBounds i true) fuel l P ro sz ((d, undef) :: fr) ds M L Q) : SA T listed (fuel + 1) l P ro sz fr ds M L Q := by
  intro tm w w0 n h1 h2 h3 h4 h5
  simp only [mayFirst, okOps, Bool.and_eq_true] at hf
  have hd' : d < sz := by simpa [Nat.blt_eq] using hd
  have hi : l.toArray[i]? = some ⟨some d, op, ty, pos, aft, some (j, want)⟩ := by simpa using ho
  refine wpAnyC.first (fun _ => trivial) hi (Region.noSelect_spec hf.2.1.1.1) (noDefer_spec hf.2.1.1.2) (fun c a w q => by obtain ⟨_, _, q, _⟩ := q; exact q.1 c rfl) (tailOk_spec hf.1.1).1 (tailOk_spec hf.1.1).2 fuel listed _ w (Region.free_spec hi hf.2.1.2) (by simpa using hf.2.2)
    (v := undef) (.inr ⟨?_, rfl⟩) (noneB_spec hf.1.2) ?_
  · rcases hb with ⟨hb, e⟩ | hb <;> simp [Region.wanted, yielded, ht, h2 t _ hb]
    · simp [e]
    · simp [undef]
  exact k (tm.setIfInBounds d undef) w w0 n (by simp [h1]) (h2.put (by omega) undef) h3 h4 h5
def mayPure (T : List Nat) (l : List Oper) (listed : Array Bool) (i : Nat) : Bool := !T.contains i && (okOps l && Region.free .any l.toArray listed i && (Region.ready .any l.toArray listed).contains i)
theorem sa_pure {listed : Array Bool} {fuel : Nat} (i : Nat) {op : Op} {v : Value} (ho : l[i]? = some ⟨some d, op, ty, pos, aft, none⟩) (hf : mayPure T l listed i = true) (hd : Nat.blt d sz = true) (hv : VO P ds ⟨some d, op, ty, pos, aft, none⟩ fr [] v)
    (k : SA T (listed.setIfInBounds i true) fuel l P ro sz ((d, v) :: fr) ds M L Q) : SA T listed (fuel + 1) l P ro sz fr ds M L Q := by
  intro tm w w0 n h1 h2 h3 h4 h5
  simp only [mayPure, okOps, Bool.and_eq_true] at hf
  have hd' : d < sz := by simpa [Nat.blt_eq] using hd
  have hi : l.toArray[i]? = some ⟨some d, op, ty, pos, aft, none⟩ := by simpa using ho
  refine wpAnyC.pure (fun _ => trivial) hi (Region.noSelect_spec hf.2.1.1.1) (noDefer_spec hf.2.1.1.2) (fun c a w q => by obtain ⟨_, _, q, _⟩ := q; exact q.1 c rfl) (by simpa using hf.1) fuel listed _ w (Region.free_spec hi hf.2.1.2) (by simpa using hf.2.2)
    (.inl ⟨by simp [Region.wanted], fun w' _ => hv.2 tm w' h2 trivial⟩) ?_
  exact k (tm.setIfInBounds d v) w w0 n (by simp [h1]) (h2.put (by omega) v) h3 h4 h5
theorem sa_start0 {id : Nat} (hm : P.follows .mixedOrders = true) (hok : okOps l = true) (h : SA [] (Array.replicate l.length false) l.length l P ro sz fr ds L [] Q) : SW (.region id l.toArray true) P ro sz fr ds L Q := by
  intro tm w n h1 h2 h3
  have h4 : Sat L { w with drawn := w.drawn + 1 } := h3
  have := h tm { w with drawn := w.drawn + 1 } w n h1 h2 h4 trivial ⟨rfl, rfl, rfl, Nat.le_refl _⟩
  refine wpIn_mono (Q := toQ sz w (calmQ Q)) ?_ (fun e a w' q => q.mono fun _ _ _ _ q => q.2)
  exact wpIn_region_any hm (wpAnyC.any _ _ _ _ (by simpa using this))
/-- the operation that alone can come now -/
def onlyNow (l : List Oper) (listed : Array Bool) (i : Nat) : Bool := Region.ready .any l.toArray listed == [i]
theorem sa_ready {listed : Array Bool} {fuel : Nat} (is : List Nat) (hne : is ≠ []) (hr : Region.ready .any l.toArray listed = is)
    (hall : ∀ i ∈ is, ∃ o, l[i]? = some o ∧ SO [o] P ro sz l.toArray fr ds M (fun e fr' ds' M' => e = .normal ∧ ds' = ds ∧ (∀ w, Sat M' w → Sat L w) ∧ ∃ L', (∀ w, Sat M' w → Sat L' w) ∧ (∀ w, Sat L' w → Sat L w) ∧ SA T (listed.setIfInBounds i true) fuel l P ro sz fr' ds M' L' Q)) : SA T listed (fuel + 1) l P ro sz fr ds M L Q := by
  intro tm w w0 n h1 h2 h3 h4 h5
  refine ⟨fun _ => h4, (fun h0 => absurd (hr.symm.trans h0) hne), fun j hj => ?_⟩
  rw [hr] at hj
  obtain ⟨o, ho, h⟩ := hall j hj
  have hi : l.toArray[j]? = some o := by simpa using ho
  have hh := h tm w n h1 h2 h3
  unfold wpOpIn
  simp only [hi]
  have fin : ∀ a' w', wpListIn (fen ro) n P l.toArray (toQ sz w fun e fr' ds' M' => e = .normal ∧ ds' = ds ∧ (∀ w, Sat M' w → Sat L w) ∧ ∃ L', (∀ w, Sat M' w → Sat L' w) ∧ (∀ w, Sat L' w → Sat L w) ∧ SA T (listed.setIfInBounds j true) fuel l P ro sz fr' ds M' L' Q) [] a' w' →
      wpAnyC (fen ro) n P .any l.toArray T (toQ sz w0 (calmQ Q)) (Sat L) fuel (listed.setIfInBounds j true) a' w' := by
    rintro a' w' ⟨fr', M', ⟨_, e1, e2, L', e3, e4, e5⟩, k1, k2, k3, k4⟩
    have ea : a' = ⟨a'.tmps, ds⟩ := by cases a'; simp at e1; subst e1; rfl
    rw [ea]
    exact wpAnyC.weaken e4 _ _ _ _ (e5 a'.tmps w' w0 n k1 k2 k3 (e3 w' k3) (h5.trans k4))
  unfold wpListIn at hh
  split
  · rename_i hw
    rw [if_pos hw] at hh
    have h' := Oper.wpIn_mono fin hh
    unfold Oper.wpIn at *
    refine ⟨h'.1, ?_⟩
    have h2 := h'.2
    generalize (o.semAt (fen ro).round (Act.mk tm ds).eval).run P w = r at *
    have noP : ∀ c a w', ¬ toQ sz w (fun e fr' ds' M' => e = .normal ∧ ds' = ds ∧ (∀ w, Sat M' w → Sat L w) ∧ ∃ L', (∀ w, Sat M' w → Sat L' w) ∧ (∀ w, Sat L' w → Sat L w) ∧ SA T (listed.setIfInBounds j true) fuel l P ro sz fr' ds M' L' Q) (.panic c) a w' := by
      rintro c a w' ⟨_, _, ⟨e, _⟩, _⟩; cases e
    have noO : ¬ LetsOut (toQ sz w (fun e fr' ds' M' => e = .normal ∧ ds' = ds ∧ (∀ w, Sat M' w → Sat L w) ∧ ∃ L', (∀ w, Sat M' w → Sat L' w) ∧ (∀ w, Sat L' w → Sat L w) ∧ SA T (listed.setIfInBounds j true) fuel l P ro sz fr' ds M' L' Q)) := by
      rintro ⟨a, w', _, _, ⟨e, _⟩, _⟩; cases e
    cases r with
    | ok x w' =>
      cases x <;> simp only [Oper.uponIn] at h2 ⊢ <;>
        first
          | exact h2
          | exact ⟨h2.1, CallsIn.mono h2.2 (fun e w'' he => by cases e <;> first | exact he | exact absurd he (noP _ _ _) | exact absurd he noO)⟩
          | exact ⟨h2.1, RoundIn.mono h2.2 (fun e w'' he => by cases e <;> first | exact he | exact absurd he (noP _ _ _) | exact absurd he noO)⟩
    | halt x w' => cases x <;> simp only [Oper.uponIn] at h2 ⊢ <;> first | exact h2 | exact absurd h2 (noP _ _ _)
  · rename_i hw
    rw [if_neg hw] at hh
    exact ⟨hh.1, fin _ _ hh.2⟩
theorem sa_chain {listed : Array Bool} {fuel : Nat} (i : Nat) {o : Oper} (ho : l[i]? = some o) (hf : onlyNow l listed i = true)
    (h : SO [o] P ro sz l.toArray fr ds M (fun e fr' ds' M' => e = .normal ∧ ds' = ds ∧ (∀ w, Sat M' w → Sat L w) ∧ ∃ L', (∀ w, Sat M' w → Sat L' w) ∧ (∀ w, Sat L' w → Sat L w) ∧ SA T (listed.setIfInBounds i true) fuel l P ro sz fr' ds M' L' Q)) : SA T listed (fuel + 1) l P ro sz fr ds M L Q :=
  sa_ready [i] (by simp) (by simpa [onlyNow] using hf) fun j hj => by
    obtain rfl : j = i := by simpa using hj
    exact ⟨o, ho, h⟩
def twoNow (l : List Oper) (listed : Array Bool) (i j : Nat) : Bool := Region.ready .any l.toArray listed == [i, j]
/-- two operations, either of which may come now -/
theorem sa_fork {listed : Array Bool} {fuel : Nat} (i j : Nat) {o o2 : Oper} (ho : l[i]? = some o) (ho2 : l[j]? = some o2) (hf : twoNow l listed i j = true)
    (h : SO [o] P ro sz l.toArray fr ds M (fun e fr' ds' M' => e = .normal ∧ ds' = ds ∧ (∀ w, Sat M' w → Sat L w) ∧ ∃ L', (∀ w, Sat M' w → Sat L' w) ∧ (∀ w, Sat L' w → Sat L w) ∧ SA T (listed.setIfInBounds i true) fuel l P ro sz fr' ds M' L' Q))
    (h2 : SO [o2] P ro sz l.toArray fr ds M (fun e fr' ds' M' => e = .normal ∧ ds' = ds ∧ (∀ w, Sat M' w → Sat L w) ∧ ∃ L', (∀ w, Sat M' w → Sat L' w) ∧ (∀ w, Sat L' w → Sat L w) ∧ SA T (listed.setIfInBounds j true) fuel l P ro sz fr' ds M' L' Q)) : SA T listed (fuel + 1) l P ro sz fr ds M L Q :=
  sa_ready [i, j] (by simp) (by simpa [twoNow] using hf) fun k hk => by
    simp at hk
    rcases hk with rfl | rfl
    · exact ⟨o, ho, h⟩
    · exact ⟨o2, ho2, h2⟩
theorem sa_chainL {listed : Array Bool} {fuel : Nat} (i : Nat) {o : Oper} (ho : l[i]? = some o) (hf : onlyNow l listed i = true)
    (h : SO [o] P ro sz l.toArray fr ds M (fun e fr' ds' M' => e = .normal ∧ ds' = ds ∧ (∀ w, Sat M' w → Sat L w) ∧ SA T (listed.setIfInBounds i true) fuel l P ro sz fr' ds M' L Q)) : SA T listed (fuel + 1) l P ro sz fr ds M L Q :=
  sa_chain i ho hf fun tm w n h1 h2 h3 => wpListIn_mono (fun _ _ _ q => q.mono fun e fr ds L ⟨e1, e2, e3, e4⟩ => ⟨e1, e2, e3, _, e3, fun _ h => h, e4⟩) _ _ _ (h tm w n h1 h2 h3)
theorem sa_startC {id : Nat} (T : List Nat) {L1 : List SP} (hL : ∀ w, Sat L w → Sat L1 w) (hm : P.follows .mixedOrders = true) (hok : okOps l = true) (h : SA T (Array.replicate l.length false) l.length l P ro sz fr ds L L1 Q) : SW (.region id l.toArray true) P ro sz fr ds L Q := by
  intro tm w n h1 h2 h3
  have h4 : Sat L { w with drawn := w.drawn + 1 } := h3
  have := h tm { w with drawn := w.drawn + 1 } w n h1 h2 h4 (hL _ h4) ⟨rfl, rfl, rfl, Nat.le_refl _⟩
  refine wpIn_mono (Q := toQ sz w (calmQ Q)) ?_ (fun e a w' q => q.mono fun _ _ _ _ q => q.2)
  exact wpIn_region_any hm (wpAnyC.any _ _ _ _ (by simpa using this))
theorem sa_forkL {listed : Array Bool} {fuel : Nat} (i j : Nat) {o o2 : Oper} (ho : l[i]? = some o) (ho2 : l[j]? = some o2) (hf : twoNow l listed i j = true)
    (h : SO [o] P ro sz l.toArray fr ds M (fun e fr' ds' M' => e = .normal ∧ ds' = ds ∧ (∀ w, Sat M' w → Sat L w) ∧ SA T (listed.setIfInBounds i true) fuel l P ro sz fr' ds M' L Q))
    (h2 : SO [o2] P ro sz l.toArray fr ds M (fun e fr' ds' M' => e = .normal ∧ ds' = ds ∧ (∀ w, Sat M' w → Sat L w) ∧ SA T (listed.setIfInBounds j true) fuel l P ro sz fr' ds M' L Q)) : SA T listed (fuel + 1) l P ro sz fr ds M L Q :=
  sa_fork i j ho ho2 hf (fun tm w n h1 h2 h3 => wpListIn_mono (fun _ _ _ q => q.mono fun e fr ds L ⟨e1, e2, e3, e4⟩ => ⟨e1, e2, e3, _, e3, fun _ h => h, e4⟩) _ _ _ (h tm w n h1 h2 h3))
    (fun tm w n h1 h2' h3 => wpListIn_mono (fun _ _ _ q => q.mono fun e fr ds L ⟨e1, e2, e3, e4⟩ => ⟨e1, e2, e3, _, e3, fun _ h => h, e4⟩) _ _ _ (h2 tm w n h1 h2' h3))
theorem sa_chain0 {listed : Array Bool} {fuel : Nat} (i : Nat) {o : Oper} (ho : l[i]? = some o) (hf : onlyNow l listed i = true)
    (h : SO [o] P ro sz l.toArray fr ds M (fun e fr' ds' M' => e = .normal ∧ ds' = ds ∧ SA T (listed.setIfInBounds i true) fuel l P ro sz fr' ds M' [] Q)) : SA T listed (fuel + 1) l P ro sz fr ds M [] Q :=
  sa_chain i ho hf fun tm w n h1 h2 h3 => wpListIn_mono (fun _ _ _ q => q.mono fun e fr ds L ⟨e1, e2, e3⟩ => ⟨e1, e2, fun _ _ => trivial, [], fun _ _ => trivial, fun _ h => h, e3⟩) _ _ _ (h tm w n h1 h2 h3)
theorem sa_fork0 {listed : Array Bool} {fuel : Nat} (i j : Nat) {o o2 : Oper} (ho : l[i]? = some o) (ho2 : l[j]? = some o2) (hf : twoNow l listed i j = true)
    (h : SO [o] P ro sz l.toArray fr ds M (fun e fr' ds' M' => e = .normal ∧ ds' = ds ∧ SA T (listed.setIfInBounds i true) fuel l P ro sz fr' ds M' [] Q))
    (h2 : SO [o2] P ro sz l.toArray fr ds M (fun e fr' ds' M' => e = .normal ∧ ds' = ds ∧ SA T (listed.setIfInBounds j true) fuel l P ro sz fr' ds M' [] Q)) : SA T listed (fuel + 1) l P ro sz fr ds M [] Q :=
  sa_fork i j ho ho2 hf (fun tm w n h1 h2 h3 => wpListIn_mono (fun _ _ _ q => q.mono fun e fr ds L ⟨e1, e2, e3⟩ => ⟨e1, e2, fun _ _ => trivial, [], fun _ _ => trivial, fun _ h => h, e3⟩) _ _ _ (h tm w n h1 h2 h3))
    (fun tm w n h1 h2' h3 => wpListIn_mono (fun _ _ _ q => q.mono fun e fr ds L ⟨e1, e2, e3⟩ => ⟨e1, e2, fun _ _ => trivial, [], fun _ _ => trivial, fun _ h => h, e3⟩) _ _ _ (h2 tm w n h1 h2' h3))
/-- the rest comes in one order -/
def restNow (l : List Oper) : Array Bool → List Nat → Bool
  | listed, [] => (Region.ready .any l.toArray listed).isEmpty
  | listed, i :: is => (Region.ready .any l.toArray listed == [i]) && restNow l (listed.setIfInBounds i true) is
def pickOps (l : List Oper) : List Nat → List Oper
  | [] => []
  | i :: is => match l[i]? with | some o => o :: pickOps l is | none => pickOps l is
theorem rest_any {F : Fence} {n : Nat} {Q : Exit → Act → World → Prop} {C : World → Prop} : ∀ (T' : List Nat) (fuel : Nat) (listed : Array Bool) (a : Act) (w : World), T'.length ≤ fuel → restNow l listed T' = true → wpListIn F n P l.toArray Q (pickOps l T') a w → (∀ f, F.fn f) → (noneOf T listed → C w) → (∀ t ∈ T', t ∈ T) → (∀ i, i ∈ T' → i < listed.size) →
    wpAnyC F n P .any l.toArray T Q C fuel listed a w
  | [], 0, listed, a, w, _, h, k, _, hC, _, _ => ⟨hC, by simpa [restNow] using h, k⟩
  | [], fuel + 1, listed, a, w, _, h, k, _, hC, _, _ => by
    have hr : Region.ready .any l.toArray listed = [] := by simpa [restNow] using h
    exact ⟨hC, fun _ => k, fun i hi => by rw [hr] at hi; cases hi⟩
  | i :: is, 0, listed, a, w, hl, _, _, _, _, _, _ => by simp at hl
  | i :: is, fuel + 1, listed, a, w, hl, h, k, hfn, hC, hs, hz => by
    simp only [restNow, Bool.and_eq_true, beq_iff_eq] at h
    obtain ⟨hr, h'⟩ := h
    refine ⟨hC, (fun h0 => by rw [hr] at h0; cases h0), fun j hj => ?_⟩
    rw [hr] at hj
    obtain rfl : j = i := by simpa using hj
    have hmem : j ∈ Region.ready .any l.toArray listed := by rw [hr]; simp
    obtain ⟨_, o, ho, _⟩ := mem_ready.1 hmem
    have ho' : l[j]? = some o := by simpa using ho
    have hno : ∀ w', noneOf T (listed.setIfInBounds j true) → C w' := fun w' hN => by
      have := hN j (hs j (by simp))
      have hlt := hz j (by simp)
      simp [hlt] at this
    simp only [pickOps, ho'] at k
    unfold wpOpIn
    simp only [ho]
    unfold wpListIn at k
    split
    · rename_i hw
      rw [if_pos hw] at k
      exact Oper.wpIn_mono (fun a' w' k' => rest_any is fuel _ a' w' (by simpa using hl) h' k' hfn (hno w') (fun t ht => hs t (by simp [ht])) (fun t ht => by simpa using hz t (by simp [ht]))) k
    · rename_i hw
      rw [if_neg hw] at k
      exact ⟨fun _ _ => hfn _, rest_any is fuel _ _ w (by simpa using hl) h' k.2 hfn (hno w) (fun t ht => hs t (by simp [ht])) (fun t ht => by simpa using hz t (by simp [ht]))⟩
theorem sa_rest {listed : Array Bool} {fuel : Nat} {T' : List Oper} (hp : pickOps l T = T') (hf : (Nat.ble T.length fuel && restNow l listed T && T.all (fun t => Nat.blt t listed.size)) = true)
    (h : SO T' P ro sz l.toArray fr ds M (calmQ Q)) : SA T listed fuel l P ro sz fr ds M L Q := by
  intro tm w w0 n h1 h2 h3 h4 h5
  simp only [Bool.and_eq_true, List.all_eq_true] at hf
  exact rest_any (Q := toQ sz w0 (calmQ Q)) T fuel listed ⟨tm, ds⟩ w (Nat.le_of_ble_eq_true hf.1.1) hf.1.2 (by rw [hp]; exact wpListIn_mono (fun _ _ _ q => q.later h5) _ _ _ (h tm w n h1 h2 h3)) (fun _ => trivial) (fun _ => h4) (fun t ht => ht) (fun i hi => by simpa [Nat.blt_eq] using hf.2 i hi)
theorem sa_drop {listed : Array Bool} {fuel : Nat} {L' : List SP} (hl : ∀ w, Sat L' w → Sat L w) (hm : ∀ w, Sat M w → Sat L' w) (h : SA T listed fuel l P ro sz fr ds M L' Q) : SA T listed fuel l P ro sz fr ds M L Q :=
  fun tm w w0 n h1 h2 h3 h4 h5 => wpAnyC.weaken hl _ _ _ _ (h tm w w0 n h1 h2 h3 (hm w h3) h5)
end
end Go.Proofs.YtmhfhfhdblccjaaGreat
/-
  An own logic over the kit's calculus: loops over a row, new rows, append.
-/
namespace Go.Proofs.YtmhfhfhdblccjaaGreat
open Go Go.RowKit
set_option linter.unusedVariables false

instance QE.calm (Q : Post) (K : Fr → List Deferred → List SP → Prop) [h : QE Q .normal K] : QE (calmQ Q) .normal K := ⟨fun fr ds L k => ⟨(fun c e => by cases e), h.out fr ds L k⟩⟩
theorem FSub.int {f g : Fr} {i : Nat} {κ : IntKind} {m n : Int} (h : Fr.get g i = some (.int κ m)) (e : m = n) (k : FSub f g) : FSub ((i, .int κ n) :: f) g := by subst e; exact k.cons h
theorem FSub.bool {f g : Fr} {i : Nat} {m n : Bool} (h : Fr.get g i = some (.bool m)) (e : m = n) (k : FSub f g) : FSub ((i, .bool n) :: f) g := by subst e; exact k.cons h
theorem FSub.trans {f g h : Fr} (a : FSub f g) (b : FSub g h) : FSub f h := fun i v e => b i v (a i v e)
theorem FSub.skip {f g : Fr} {i : Nat} {v : Value} (k : FSub f g) (hi : f.all (fun p => !Nat.beq p.1 i) = true) : FSub f ((i, v) :: g) := fun j u e => by
  rw [Fr.get_cons]
  have : i ≠ j := fun hij => by
    subst hij
    have hmem : ∀ (f : Fr), Fr.get f i = some u → ∃ p ∈ f, p.1 = i := by
      intro f
      induction f with
      | nil => intro e; cases e
      | cons p f ih =>
        intro e
        obtain ⟨a, b⟩ := p
        rw [Fr.get_cons] at e
        by_cases h : a = i
        · exact ⟨(a, b), by simp, h⟩
        · rw [if_neg h] at e; obtain ⟨q, hq, hq2⟩ := ih e; exact ⟨q, by simp [hq], hq2⟩
    obtain ⟨p, hp, hp2⟩ := hmem f e
    have := List.all_eq_true.1 hi p hp
    simp only [hp2, Bool.not_eq_true'] at this
    have h2 := (Nat.beq_refl i)
    simp at this
  rw [if_neg this]; exact k j u e

/-- The post of a round of a loop over a row. -/
class QRange (Q' : Post) (b b1 : outParam Nat) (K : outParam (Fr → List Deferred → List SP → Prop)) (Q : outParam Post) : Prop where
  norm : ∀ fr ds L, K fr ds L → Q' .normal fr ds L
  cont : ∀ fr ds L, K fr ds L → Q' (.exit b1) fr ds L
  brk : ∀ fr ds L, Q .normal fr ds L → Q' (.exit b) fr ds L
  same : ∀ e fr ds L, e ≠ .normal → e ≠ .exit b1 → e ≠ .exit b → Q e fr ds L → Q' e fr ds L
instance QE.range_normal (Q' : Post) (b b1 : Nat) (K : Fr → List Deferred → List SP → Prop) (Q : Post) [h : QRange Q' b b1 K Q] : QE Q' .normal K := ⟨h.norm⟩
instance (priority := high) QE.range_cont (Q' : Post) (b b1 : Nat) (K : Fr → List Deferred → List SP → Prop) (Q : Post) [h : QRange Q' b b1 K Q] : QE Q' (.exit b1) K := ⟨h.cont⟩
instance (priority := high) QE.range_brk (Q' : Post) (b b1 : Nat) (K0 : Fr → List Deferred → List SP → Prop) (Q : Post) (K : Fr → List Deferred → List SP → Prop) [h : QRange Q' b b1 K0 Q] [k : QE Q .normal K] : QE Q' (.exit b) K := ⟨fun fr ds L x => h.brk _ _ _ (k.out fr ds L x)⟩
instance QE.range_ret (Q' : Post) (b b1 : Nat) (K0 : Fr → List Deferred → List SP → Prop) (Q : Post) (K : Fr → List Deferred → List SP → Prop) [h : QRange Q' b b1 K0 Q] [k : QE Q .ret K] : QE Q' .ret K := ⟨fun fr ds L x => h.same _ _ _ _ (by simp) (by simp) (by simp) (k.out fr ds L x)⟩
instance QE.range_goto (Q' : Post) (b b1 i : Nat) (K0 : Fr → List Deferred → List SP → Prop) (Q : Post) (K : Fr → List Deferred → List SP → Prop) [h : QRange Q' b b1 K0 Q] [k : QE Q (.goto i) K] : QE Q' (.goto i) K := ⟨fun fr ds L x => h.same _ _ _ _ (by simp) (by simp) (by simp) (k.out fr ds L x)⟩
instance QE.range_exit (Q' : Post) (b b1 j : Nat) (K0 : Fr → List Deferred → List SP → Prop) (Q : Post) (K : Fr → List Deferred → List SP → Prop) [h : QRange Q' b b1 K0 Q] [n1 : NatNe j b] [n2 : NatNe j b1] [k : QE Q (.exit j) K] : QE Q' (.exit j) K :=
  ⟨fun fr ds L x => h.same _ _ _ _ (by simp) (fun e => by injection e with e; exact n2.out e) (fun e => by injection e with e; exact n1.out e) (k.out fr ds L x)⟩
def rangeQ (b b1 : Nat) (K : Fr → List Deferred → List SP → Prop) (Q : Post) : Post
  | .normal, fr, ds, L => K fr ds L
  | .exit i, fr, ds, L => if i = b1 then K fr ds L else if i = b then Q .normal fr ds L else Q (.exit i) fr ds L
  | e, fr, ds, L => Q e fr ds L
theorem rangeQ.is (b b1 : Nat) (hb : Nat.beq b b1 = false) (K : Fr → List Deferred → List SP → Prop) (Q : Post) : QRange (rangeQ b b1 K Q) b b1 K Q where
  norm _ _ _ h := h
  cont _ _ _ h := by simp only [rangeQ, if_true]; exact h
  brk _ _ _ h := by
    have : b ≠ b1 := fun e => by subst e; simp at hb
    simp only [rangeQ, if_neg this, if_true]; exact h
  same e _ _ _ h1 h2 h3 h := by
    cases e with
    | normal => exact absurd rfl h1
    | exit i => simp only [rangeQ]; rw [if_neg (fun e => h2 (by rw [e])), if_neg (fun e => h3 (by rw [e]))]; exact h
    | _ => exact h

section
variable {P : Program} {ro : Option Nat} {sz : Nat} {fr : Fr} {ds : List Deferred} {L : List SP} {Q : Post}
theorem sw_range {b b1 r1 r2 : Nat} {body : Code} {tC tI tL tN : Nat} {T1 T2 T3 T4 y1 y2 y3 : TypeId} {p1 p2 p3 : String} {a1 a2 a3 : Array Edge} {n : Nat} {τ : Type} (F : Nat → τ → Fr) (M : Nat → τ → List SP) (I : Nat → τ → Prop) (t0 : τ) (h0 : I 0 t0)
    (hi : Fr.get fr tI = some (.int .i64 0)) (hl : Fr.get fr tL = some (.int .i64 (n : Int))) (hn : n ≤ 4611686018427387904) (hf : FSub (F 0 t0) fr) (hm : ∀ w, Sat L w → Sat (M 0 t0) w)
    (hF : ∀ k t, (F k t).all (fun p => !Nat.beq p.1 tI && !Nat.beq p.1 tN && !Nat.beq p.1 tC) = true) (hd : (Nat.blt tC sz && Nat.blt tI sz && Nat.blt tN sz && !Nat.beq b b1 && !Nat.beq tI tC && !Nat.beq tL tC && !Nat.beq tL tI && !Nat.beq tL tN && !Nat.beq tI tN) = true)
    (round : ∀ k t, k < n → I k t → ∀ Q', QRange Q' b b1 (fun f' ds' L' => ds' = ds ∧ ∃ t', I (k + 1) t' ∧ FSub ((tI, .int .i64 (k : Int)) :: (tL, .int .i64 (n : Int)) :: F (k + 1) t') f' ∧ ∀ w, Sat L' w → Sat (M (k + 1) t') w) Q →
      SW body P ro sz ((tI, .int .i64 (k : Int)) :: (tL, .int .i64 (n : Int)) :: F k t) ds (M k t) Q')
    (fin : ∀ t, I n t → Q .normal ((tC, .bool (decide ((n : Int) < (n : Int)))) :: (tI, .int .i64 (n : Int)) :: (tL, .int .i64 (n : Int)) :: F n t) ds (M n t)) :
    SW (.block b (.loop (.seq (.region r1 [⟨some tC, .binOp .lss T1 (.tmp tI) (.tmp tL) T2, y1, p1, a1, none⟩].toArray false) (.seq (.cond (.tmp tC) .skip (.exit b)) (.seq (.block b1 body)
      (.region r2 [⟨some tN, .binOp .add T3 (.tmp tI) (.const (.int .i64 1)) T4, y2, p2, a2, none⟩, ⟨some tI, .move (.tmp tN), y3, p3, a3, none⟩].toArray false)))))) P ro sz fr ds L Q := by
  simp only [Bool.and_eq_true, Bool.not_eq_true'] at hd
  obtain ⟨⟨⟨⟨⟨⟨⟨⟨d1, d2⟩, d3⟩, d4⟩, d5⟩, d6⟩, d7⟩, d8⟩, d9⟩ := hd
  have nb : ∀ {i j : Nat}, Nat.beq i j = false → i ≠ j := fun h e => by subst e; simp at h
  have hF' : ∀ k t i, (i = tI ∨ i = tN ∨ i = tC) → (F k t).all (fun p => !Nat.beq p.1 i) = true := fun k t i hi => by
    refine List.all_eq_true.2 fun p hp => ?_
    have := List.all_eq_true.1 (hF k t) p hp
    simp only [Bool.and_eq_true] at this
    rcases hi with rfl | rfl | rfl
    · exact this.1.1
    · exact this.1.2
    · exact this.2
  refine sw_block ?_
  refine sw_loop (σ := Nat × τ) (fun s => (tI, .int .i64 (s.1 : Int)) :: (tL, .int .i64 (n : Int)) :: F s.1 s.2) (fun s => M s.1 s.2) (fun s => s.1 ≤ n ∧ I s.1 s.2) (fun s => n - s.1) (0, t0) ⟨Nat.zero_le _, h0⟩ (.cons hi (.cons hl hf)) hm ?_
  rintro ⟨k, t⟩ ⟨hk, hI⟩
  simp only at hk hI ⊢
  have g1 : Fr.get ((tI, .int .i64 (k : Int)) :: (tL, .int .i64 (n : Int)) :: F k t) tI = some (.int .i64 (k : Int)) := by rw [Fr.get_cons, if_pos rfl]
  have g2 : Fr.get ((tI, .int .i64 (k : Int)) :: (tL, .int .i64 (n : Int)) :: F k t) tL = some (.int .i64 (n : Int)) := by rw [Fr.get_cons, if_neg (nb d7).symm, Fr.get_cons, if_pos rfl]
  refine sw_seq (sw_region (so_vo (vo_lss g1 g2) d1 (so_nil ?_)))
  show SW _ P ro sz _ ds _ _
  refine sw_seq ?_
  refine sw_cond (t := decide ((k : Int) < (n : Int))) (by rw [Fr.ev, Fr.get_cons, if_pos rfl]) (fun e => ?_) (fun e => ?_)
  · have hlt : k < n := by simpa using e
    refine sw_skip ?_
    show SW _ P ro sz _ ds _ _
    refine sw_seq (sw_block ?_)
    refine sw_frame (f := (tI, .int .i64 (k : Int)) :: (tL, .int .i64 (n : Int)) :: F k t) ?_ ?_
    · refine FSub.skip (FSub.refl _) ?_
      simp only [List.all_cons, Bool.and_eq_true, Bool.not_eq_true']
      exact ⟨d5, d6, hF' k t tC (.inr (.inr rfl))⟩
    refine (round k t hlt hI (rangeQ b b1 _ Q) (rangeQ.is b b1 d4 _ Q)).mono ?_
    have next : ∀ fr' ds' L', (ds' = ds ∧ ∃ t', I (k + 1) t' ∧ FSub ((tI, .int .i64 (k : Int)) :: (tL, .int .i64 (n : Int)) :: F (k + 1) t') fr' ∧ ∀ w, Sat L' w → Sat (M (k + 1) t') w) →
        SW (.region r2 [⟨some tN, .binOp .add T3 (.tmp tI) (.const (.int .i64 1)) T4, y2, p2, a2, none⟩, ⟨some tI, .move (.tmp tN), y3, p3, a3, none⟩].toArray false) P ro sz fr' ds' L' (thenQ (fun f' ds' L' => ds' = ds ∧ ∃ s' : Nat × τ, (s'.1 ≤ n ∧ I s'.1 s'.2) ∧ n - s'.1 < n - k ∧ FSub ((tI, .int .i64 (s'.1 : Int)) :: (tL, .int .i64 (n : Int)) :: F s'.1 s'.2) f' ∧ ∀ w, Sat L' w → Sat (M s'.1 s'.2) w) (blockQ b Q)) := by
      rintro fr' ds' L' ⟨rfl, t', hI', hs, hm'⟩
      have k1 := hs tI _ (by rw [Fr.get_cons, if_pos rfl])
      refine sw_region (so_vo (vo_add (m := k) (n := 1) k1 rfl (by omega)) d3 (so_vo (vo_move (by rw [Fr.ev, Fr.get_cons, if_pos rfl])) d2 (so_nil ⟨rfl, (k + 1, t'), ⟨hlt, hI'⟩, by simp only; omega, ?_, hm'⟩)))
      refine .cons (by rw [Fr.get_cons, if_pos rfl]; rfl) ?_
      refine FSub.skip (FSub.skip (fun i v e => hs i v ?_) ?_) ?_
      · rw [Fr.get_cons]
        by_cases hiI : tI = i
        · exfalso
          subst hiI
          rw [Fr.get_cons, if_neg (nb d7)] at e
          have : FSub (F (k + 1) t') ((tI, undef) :: F (k + 1) t') := FSub.skip (FSub.refl _) (hF' _ _ _ (.inl rfl))
          have h2 := this tI v e
          rw [Fr.get_cons, if_pos rfl] at h2
          have : FSub (F (k + 1) t') ((tI, .nilIface) :: F (k + 1) t') := FSub.skip (FSub.refl _) (hF' _ _ _ (.inl rfl))
          have h3 := this tI v e
          rw [Fr.get_cons, if_pos rfl, ← h2] at h3
          simp [undef] at h3
        · rw [if_neg hiI]; exact e
      · simp only [List.all_cons, Bool.and_eq_true, Bool.not_eq_true']
        exact ⟨d8, hF' _ _ _ (.inr (.inl rfl))⟩
      · simp only [List.all_cons, Bool.and_eq_true, Bool.not_eq_true']
        exact ⟨d7, hF' _ _ _ (.inl rfl)⟩
    intro e fr' ds' L' q
    cases e with
    | normal => exact next fr' ds' L' q
    | exit i =>
      simp only [rangeQ] at q
      simp only [blockQ]
      by_cases h1 : i = b1
      · rw [if_pos h1] at q ⊢; exact next fr' ds' L' q
      · rw [if_neg h1] at q ⊢
        by_cases h2 : i = b
        · rw [if_pos h2] at q; subst h2; simp only [thenQ, blockQ, if_true]; exact q
        · rw [if_neg h2] at q; simp only [thenQ, blockQ, if_neg h2]; exact q
    | goto g => exact q
    | ret => exact q
    | panic c => exact q
    | outgrown => exact q
  · have hge : k = n := by
      have : ¬ k < n := by simpa using e
      omega
    subst hge
    refine sw_exit ?_
    simp only [thenQ, blockQ, if_true]
    have := fin t hI
    exact this
theorem sw_block_seq {i : Nat} {x y : Code} (h : ∀ Q', QBlock Q' i Q → SW (.seq x y) P ro sz fr ds L Q') : SW (.block i (.seq x y)) P ro sz fr ds L Q := sw_block' h
theorem sw_block_region {i j : Nat} {o : Array Oper} {b : Bool} (h : ∀ Q', QBlock Q' i Q → SW (.region j o b) P ro sz fr ds L Q') : SW (.block i (.region j o b)) P ro sz fr ds L Q := sw_block' h
theorem sw_block_cond {i : Nat} {c : Operand} {x y : Code} (h : ∀ Q', QBlock Q' i Q → SW (.cond c x y) P ro sz fr ds L Q') : SW (.block i (.cond c x y)) P ro sz fr ds L Q := sw_block' h
theorem sw_block_skip {i : Nat} (h : ∀ Q', QBlock Q' i Q → SW .skip P ro sz fr ds L Q') : SW (.block i .skip) P ro sz fr ds L Q := sw_block' h
theorem sw_block_block {i j : Nat} {c : Code} (h : ∀ Q', QBlock Q' i Q → SW (.block j c) P ro sz fr ds L Q') : SW (.block i (.block j c)) P ro sz fr ds L Q := sw_block' h
end
end Go.Proofs.YtmhfhfhdblccjaaGreat
/-
  An own logic over the kit's calculus: rows that are made and appended to; min, max; conversions; sets by bits.
-/
namespace Go.Proofs.YtmhfhfhdblccjaaGreat
open Go Go.RowKit
set_option linter.unusedVariables false

/-- Somewhere in L stands A; with X in its place it is K X. -/
class Hole (L : List SP) (A : SP) (K : outParam (SP → List SP)) : Prop where
  out : ∃ L0, L.Perm (A :: L0) ∧ ∀ X, (X :: L0).Perm (K X)
instance (priority := high) Hole.here (A : SP) (L : List SP) : Hole (A :: L) A (fun X => X :: L) := ⟨L, .refl _, fun _ => .refl _⟩
instance (priority := low) Hole.there (B A : SP) (L : List SP) (K : SP → List SP) [h : Hole L A K] : Hole (B :: L) A (fun X => B :: K X) := by
  obtain ⟨L0, p, q⟩ := h.out
  exact ⟨B :: L0, (List.Perm.cons B p).trans (.swap _ _ _), fun X => (List.Perm.swap _ _ _).trans ((q X).cons B)⟩

theorem flat_get {α : Type} (enc : Enc α) : ∀ (ys : List α) (j : Nat) (u : Value), (ys.flatMap enc.cells)[j]? = some u → ∃ q i x, ys[q]? = some x ∧ (enc.cells x)[i]? = some u ∧ j = q * enc.k + i
  | [], j, u, h => by simp at h
  | y :: ys, j, u, h => by
    simp only [List.flatMap_cons] at h
    rcases Nat.lt_or_ge j (enc.cells y).length with hj | hj
    · rw [List.getElem?_append_left hj] at h
      exact ⟨0, j, y, rfl, h, by simp⟩
    · rw [List.getElem?_append_right hj] at h
      obtain ⟨q, i, x, h1, h2, h3⟩ := flat_get enc ys _ u h
      refine ⟨q + 1, i, x, by simpa using h1, h2, ?_⟩
      rw [enc.len] at hj h3
      rw [Nat.succ_mul]; omega
/-- The block of a row is written anew. -/
theorem own_change {T : TypeId} {α : Type} {enc : Enc α} {v : Value} {xs xs' : List α} {w w' : World} {L : List SP} {b c : Nat} {cs cs' : Array Value} (H : Sat (ownSl T enc v xs :: L) w) (hv : v = .slice (some ⟨b, 0, none⟩) xs.length c)
    (hb : w.heap[b]? = some (.cells cs T (0, 0))) (hne : 0 < c)
    (hw : w'.heap[b]? = some (.cells cs' T (0, 0))) (hs : cs'.size = c * enc.k) (hc : xs'.length ≤ c) (hl : xs'.length ≤ 140737488355328) (hg : ∀ j x, xs'[j]? = some x → ∀ i u, (enc.cells x)[i]? = some u → cs'[j * enc.k + i]? = some u)
    (hr : ∀ k, k ≠ b → w'.heap[k]? = w.heap[k]?) : Sat (ownSl T enc (.slice (some ⟨b, 0, none⟩) xs'.length c) xs' :: L) w' := by
  refine H.change fun h1 e l => ?_
  obtain ⟨h0, ⟨a, e1, e2⟩ | ⟨b', c', cs0, e1, g1, g2, g3, g4⟩⟩ := e
  · rw [hv] at e1; injection e1 with _ _ e3; omega
  · rw [hv] at e1
    injection e1 with e1 e2 e3
    injection e1 with e1
    injection e1 with e1
    subst e1; subst e3
    refine ⟨fun k => if k = b then some (.cells cs' T (0, 0)) else none, ⟨hl, .inr ⟨b, c, cs', rfl, by simp, hc, hs, hg⟩⟩, ?_, ?_, ?_⟩
    · intro k o e5
      by_cases hk : k = b
      · subst hk; simp at e5; subst e5; exact hw
      · simp [hk] at e5
    · intro k o e5
      by_cases hk : k = b
      · subst hk; left; rw [g1]; simp
      · simp [hk] at e5
    · intro k o e5 e6
      by_cases hk : k = b
      · subst hk; rw [g1] at e6; cases e6
      · rw [hr k hk]; exact e5
theorem cap_bound (m n : Nat) (h : n < m) : Builtin.nextslicecap m n ≤ 4 * m + 1000 := by
  unfold Builtin.nextslicecap
  split
  · omega
  · split
    · omega
    · have g : ∀ (r c : Nat), c < m → Builtin.growBy m r c ≤ 2 * m + 500 := by
        intro r
        induction r with
        | zero => intro c hc; simp [Builtin.growBy]; omega
        | succ r ih =>
          intro c hc
          simp only [Builtin.growBy]
          rw [if_neg (by omega)]
          by_cases h2 : c + (c + 768) / 4 < m
          · exact ih _ h2
          · cases r with
            | zero => simp [Builtin.growBy]; omega
            | succ r => simp only [Builtin.growBy]; rw [if_pos (by omega)]; omega
      have := g 4 n h
      omega
theorem bytes_bound (a b m n : Nat) (h : n < m) (hm : m ≤ 1000000000) (hb : b ≤ 4096) (ha : a ≤ 4 * m + 1000) : a * b ≤ 281474976710656 := by
  have h1 : a * b ≤ (4 * m + 1000) * b := Nat.mul_le_mul_right _ ha
  have h2 : (4 * m + 1000) * b ≤ 4000001000 * 4096 := Nat.mul_le_mul (by omega) hb
  omega
theorem IsSl.flat {α : Type} {enc : Enc α} {w : World} {v : Value} {ys : List α} (k : IsSl enc (heapOf w) v ys) (hne : ys ≠ []) : ∃ a c, v = .slice (some a) ys.length c ∧ ∀ j u, (ys.flatMap enc.cells)[j]? = some u → w.cell? (a.add j) = some u := by
  obtain ⟨a, c, e1, e2, e3, e4⟩ := k
  obtain ⟨b, off, cs, T, fz, g1, g2, g3⟩ := e4 hne
  subst g1
  refine ⟨_, c, e1, fun j u hu => ?_⟩
  obtain ⟨q, i, x, h1, h2, h3⟩ := flat_get enc ys j u hu
  rw [addr_add, cell_of_block (w := w) g2, h3, ← Nat.add_assoc]
  exact g3 q x h1 i u h2

theorem run_append {P : Program} {T E ty : TypeId} {z : Value} {agg : Bool} {size bytes : Nat} [hT : TyU P T (.slice E)] [hE : TyI P E agg z size bytes] {α : Type} {enc : Enc α} (hk : enc.k = size) (hb : bytes ≤ 4096) {v v2 : Value} {xs ys : List α} {L : List SP} {w : World} (H : Sat (ownSl E enc v xs :: L) w) (hy : IsSl enc (heapOf w) v2 ys) (hz : z.cells.size = size) (hl : xs.length + ys.length ≤ 1000000000) :
    ∃ v' w', (Builtin.append_ #[T, T] ty #[v, v2]).run P w = .ok v' w' ∧ Sat (ownSl E enc v' (xs ++ ys) :: L) w' ∧ Kept w w' := by
  obtain ⟨i0, hi, hz0, hz1, hz2⟩ := hE.info
  subst hk
  obtain ⟨h1, ⟨h0, hh⟩, le⟩ := Holds.head H
  by_cases hne : ys = []
  · subst hne
    obtain ⟨a2, c2, e2, _⟩ := hy
    subst e2
    have hv : ∃ a n c, v = .slice a n c ∧ n ≤ c := by
      rcases hh with ⟨a, e, _⟩ | ⟨b, c, cs, e, _, g2, _⟩
      · exact ⟨a, 0, 0, e, Nat.le_refl _⟩
      · exact ⟨_, _, c, e, g2⟩
    obtain ⟨a, n, c, e, hnc⟩ := hv
    subst e
    refine ⟨.slice a n c, w, ?_, by simpa using H, Kept.refl w⟩
    have hf : ∀ w : World, (Builtin.firstCells i0.size 0 (.slice a2 0 c2)).run P w = .ok #[] w := fun w => by
      cases a2 <;> simp [Builtin.firstCells, loadCells, loadCellsFrom]
    cases a <;> simp [Builtin.append_, run_underlying hT.out, sizeOf, typeInfo, hi, Builtin.lenOf, hnc, hf, storeCells]
  · obtain ⟨a2, c2, e2, hnews⟩ := hy.flat hne
    subst e2
    have hpos : 0 < ys.length := List.length_pos_iff.2 hne
    have hlen : (ys.flatMap enc.cells).length = ys.length * i0.size := by rw [flatMap_len, hz1]
    have hcap : ∀ m n, n < m → m ≤ 1000000000 → Builtin.nextslicecap m n * i0.bytes ≤ 281474976710656 := fun m n h h' => bytes_bound _ _ m n h h' (by omega) (cap_bound m n h)
    have newrow : ∀ (w' : World) (zs : Array Value) (g : Nat), w'.heap = w.heap.push (.cells ((xs ++ ys).flatMap enc.cells ++ zs.toList).toArray E) → (xs ++ ys).length ≤ g → zs.size = (g - (xs ++ ys).length) * enc.k →
        Sat (ownSl E enc (.slice (some ⟨w.heap.size, 0, none⟩) (xs ++ ys).length g) (xs ++ ys) :: L) w' := fun w' zs g hw hg hzs => by
      refine own_new H.tail hw hg ?_ (by simp; omega) (fun j x hx i u hu => ?_)
      · have hmul : (xs ++ ys).length * enc.k + (g - (xs ++ ys).length) * enc.k = g * enc.k := by rw [← Nat.add_mul]; congr 1; omega
        rw [show (((xs ++ ys).flatMap enc.cells ++ zs.toList).toArray).size = (xs ++ ys).length * enc.k + zs.size by
          have hzl : zs.toList.length = zs.size := by simp
          rw [List.size_toArray, List.length_append, flatMap_len, hzl], hzs]; exact hmul
      · rw [List.getElem?_toArray]; exact flatMap_get enc _ _ j x hx i u hu
    rcases hh with ⟨a, e, e3⟩ | ⟨b, c, cs, e, g1, g2, g3, g4⟩
    · subst e; subst e3
      cases a with
      | none =>
        have h := run_append_nil (P := P) w T ty E i0 z hT.out hi hz0 a2 ys.length c2 _ hlen hnews hpos (by simp at hl; omega) (by
          have : ys.length * i0.bytes ≤ 1000000000 * 4096 := Nat.mul_le_mul (by simpa using hl) (by omega)
          omega)
        have hge := grownCap_ge w ys.length 0 E
        refine ⟨_, _, h, ?_, ⟨rfl, rfl, rfl, by simp⟩⟩
        have := newrow (w.drew.alloc (.cells ((ys.flatMap enc.cells).toArray ++ Builtin.zeroCells z.cells (grownCap w ys.length 0 E - ys.length)) E)) (Builtin.zeroCells z.cells (grownCap w ys.length 0 E - ys.length)) (grownCap w ys.length 0 E) (by
          show w.heap.push _ = w.heap.push _; congr 2; apply Array.ext'; simp) (by simpa using hge) (by rw [size_zeroCells, hz]; simp)
        simpa using this
      | some a =>
        have h := run_append_grow (P := P) w T ty E i0 z hT.out hi hz0 a 0 0 [] (by simp) (by simp) a2 ys.length c2 _ hlen hnews (by omega) (by simp at hl ⊢; omega) (by simp at hl; exact hcap _ _ (by omega) (by omega))
        simp only [Nat.zero_add] at h
        have hge := grownCap_ge w ys.length 0 E
        refine ⟨_, _, h, ?_, ⟨rfl, rfl, rfl, by simp⟩⟩
        have := newrow (w.drew.alloc (.cells (([] : List Value).toArray ++ (ys.flatMap enc.cells).toArray ++ Builtin.zeroCells z.cells (grownCap w ys.length 0 E - ys.length)) E)) (Builtin.zeroCells z.cells (grownCap w ys.length 0 E - ys.length)) (grownCap w ys.length 0 E) (by
          show w.heap.push _ = w.heap.push _; congr 2; apply Array.ext'; simp) (by simpa using hge) (by rw [size_zeroCells, hz]; simp)
        simpa using this
    · have hbk : w.heap[b]? = some (.cells cs E (0, 0)) := le _ _ g1
      by_cases hroom : xs.length + ys.length ≤ c
      · have hmul : (xs.length + ys.length) * enc.k ≤ c * enc.k := Nat.mul_le_mul_right _ hroom
        rw [Nat.add_mul] at hmul
        have h := run_append_room (P := P) w T ty E i0 hT.out hi b xs.length c cs hbk a2 ys.length c2 _ hlen hnews (fun u hu => by
          obtain ⟨x, _, hx⟩ := List.mem_flatMap.1 hu; exact enc.one x u hx) hroom (by rw [flatMap_len, hz1, g3]; exact hmul)
        rw [hz1] at h
        subst e
        refine ⟨_, _, h, ?_, ⟨rfl, rfl, rfl, by simp [World.setRow]⟩⟩
        rw [← List.length_append]
        refine own_change H rfl hbk (by omega) (setRow_heap w b cs _ E _ hbk) ?_ (by simpa using hroom) (by simp; omega) (fun j x hx i u hu => ?_) (fun q hq => by simp [World.setRow, Array.getElem?_modify, Ne.symm hq])
        · have hzl : cs.toList.length = cs.size := by simp
          rw [List.size_toArray, List.length_append, List.length_append, List.length_take, List.length_drop, flatMap_len, hzl, g3]; omega
        · have hi' : i < enc.k := by rw [← enc.len x]; exact (List.getElem?_eq_some_iff.1 hu).1
          have hzl : cs.toList.length = cs.size := by simp
          rw [List.getElem?_toArray, splice_get _ _ _ _ (by rw [flatMap_len, hzl, g3]; exact hmul), flatMap_len]
          rcases Nat.lt_or_ge j xs.length with hj | hj
          · rw [List.getElem?_append_left hj] at hx
            have : (j + 1) * enc.k ≤ xs.length * enc.k := Nat.mul_le_mul_right _ hj
            rw [Nat.succ_mul] at this
            rw [if_neg (by omega)]
            simpa using g4 j x hx i u hu
          · rw [List.getElem?_append_right hj] at hx
            have hj2 : j - xs.length < ys.length := (List.getElem?_eq_some_iff.1 hx).1
            have h5 : (j - xs.length + 1) * enc.k ≤ ys.length * enc.k := Nat.mul_le_mul_right _ hj2
            have h6 : j * enc.k = xs.length * enc.k + (j - xs.length) * enc.k := by rw [← Nat.add_mul]; congr 1; omega
            rw [Nat.succ_mul] at h5
            rw [if_pos (by omega)]
            have := flatMap_get enc ys [] (j - xs.length) x hx i u hu
            rw [List.append_nil] at this
            rw [← this]; congr 1; omega
      · have holds : ∀ j u, (xs.flatMap enc.cells)[j]? = some u → w.cell? ((⟨b, 0, none⟩ : Addr).add j) = some u := fun j u hu => by
          obtain ⟨q, i, x, k1, k2, k3⟩ := flat_get enc xs j u hu
          rw [addr_add, cell_of_block hbk, k3, Nat.zero_add]; exact g4 q x k1 i u k2
        have h := run_append_grow (P := P) w T ty E i0 z hT.out hi hz0 ⟨b, 0, none⟩ xs.length c _ (by rw [flatMap_len, hz1]) holds a2 ys.length c2 _ hlen hnews (by omega) (by omega) (hcap _ _ (by omega) (by omega))
        have hge := grownCap_ge w (xs.length + ys.length) c E
        subst e
        refine ⟨_, _, h, ?_, ⟨rfl, rfl, rfl, by simp⟩⟩
        have := newrow (w.drew.alloc (.cells ((xs.flatMap enc.cells).toArray ++ (ys.flatMap enc.cells).toArray ++ Builtin.zeroCells z.cells (grownCap w (xs.length + ys.length) c E - (xs.length + ys.length))) E)) (Builtin.zeroCells z.cells (grownCap w (xs.length + ys.length) c E - (xs.length + ys.length))) (grownCap w (xs.length + ys.length) c E) (by
          show w.heap.push _ = w.heap.push _; congr 2; apply Array.ext'; simp) (by simpa using hge) (by rw [size_zeroCells, hz]; simp)
        simpa using this

/-- zero cells, so many elements -/
theorem zero_get {α : Type} (enc : Enc α) {z : Value} {x0 : α} (hz : z.cells = (enc.cells x0).toArray) (n j : Nat) (hj : j < n) (i : Nat) (u : Value) (hu : (enc.cells x0)[i]? = some u) : (madeCells z.cells (n * enc.k))[j * enc.k + i]? = some u := by
  have hi : i < enc.k := by rw [← enc.len x0]; exact (List.getElem?_eq_some_iff.1 hu).1
  have h5 : (j + 1) * enc.k ≤ n * enc.k := Nat.mul_le_mul_right _ hj
  rw [Nat.succ_mul] at h5
  have hlt : j * enc.k + i < n * enc.k := by omega
  have hs : z.cells.size = enc.k := by rw [hz]; simp [enc.len]
  have hm : (j * enc.k + i) % enc.k = i := by rw [Nat.mul_comm, Nat.mul_add_mod]; exact Nat.mod_eq_of_lt hi
  simp only [madeCells, Array.getElem?_map]
  rw [Array.getElem?_range, if_pos hlt]
  simp only [Option.map_some, hs, hm]
  congr 1
  rw [hz]
  have hl : i < (enc.cells x0).length := by rw [enc.len]; exact hi
  rw [List.getElem?_eq_getElem hl] at hu
  injection hu with hu
  subst hu
  simp [hl]

theorem own_slv {T : TypeId} {α : Type} {enc : Enc α} {v : Value} {xs : List α} {L : List SP} {w : World} (H : Sat (ownSl T enc v xs :: L) w) : ∃ u : SlV, v = u.v := by
  obtain ⟨h1, ⟨h0, hh⟩, le⟩ := Holds.head H
  rcases hh with ⟨a, e, _⟩ | ⟨b, c, cs, e, _⟩ <;> subst e
  · exact ⟨⟨_, _, _, _, rfl⟩, rfl⟩
  · exact ⟨⟨_, _, _, _, rfl⟩, rfl⟩
section
variable {P : Program} {ro : Option Nat} {sz : Nat} {fr : Fr} {ds : List Deferred} {L : List SP} {Q : Post} {ops : Array Oper} {l : List Oper} {d : Nat} {ty : TypeId} {pos : String} {aft : Array Edge}
theorem so_append {x y : Operand} {T E : TypeId} {v v2 z : Value} {agg : Bool} {size bytes : Nat} {α : Type} {enc : Enc α} {xs ys : List α} {K : SP → List SP} (hx : Fr.ev fr x = some v) (hy : Fr.ev fr y = some v2) [hT : TyU P T (.slice E)] [hE : TyI P E agg z size bytes] [ho : Own L v E α enc xs] [hr : RdSl L v2 α enc ys] [hh : Hole L (ownSl E enc v xs) K]
    (hk : (Nat.beq enc.k size && Nat.ble bytes 4096 && Nat.beq z.cells.size size) = true) (hd : Nat.blt d sz = true) (hl : xs.length + ys.length ≤ 1000000000)
    (k : ∀ u : SlV, SO l P ro sz ops ((d, u.v) :: fr) ds (K (ownSl E enc u.v (xs ++ ys))) Q) : SO (⟨some d, .call ⟨.builtin .append, #[x, y], #[T, T]⟩, ty, pos, aft, none⟩ :: l) P ro sz ops fr ds L Q := by
  simp only [Bool.and_eq_true] at hk
  refine so_gen (fun c h => by cases h) (fun v' L' => ∃ u : SlV, v' = u.v ∧ L' = K (ownSl E enc v' (xs ++ ys))) (fun tm w h1 h2 h3 => ?_) hd (fun v' L' ⟨u, e1, e⟩ => by subst e; subst e1; exact k u)
  obtain ⟨L0, p, q⟩ := hh.out
  obtain ⟨v', w', e1, e2, e3⟩ := run_append (P := P) (T := T) (ty := ty) (Nat.eq_of_beq_eq_true hk.1.1) (Nat.le_of_ble_eq_true hk.1.2) (Sat.perm p h3) (hr.at h3) (Nat.eq_of_beq_eq_true hk.2) hl
  obtain ⟨u, eu⟩ := own_slv e2
  exact ⟨v', w', _, by simp [execOp, resolve, invoke, builtin, h2.ev hx, h2.ev hy, e1], ⟨u, eu, rfl⟩, Sat.perm (q _) e2, e3⟩
/-- behind a row that was made for this append alone -/
theorem so_append_new {x y : Operand} {T E T2 : TypeId} {v v2 z : Value} {agg : Bool} {size bytes : Nat} {α : Type} {enc : Enc α} {xs ys : List α} {K : SP → List SP} (hx : Fr.ev fr x = some v) (hy : Fr.ev fr y = some v2) [hT : TyU P T (.slice E)] [hE : TyI P E agg z size bytes] [ho : Own L v E α enc xs] [hh : Hole L (ownSl E enc v xs) K]
    (hk : (Nat.beq enc.k size && Nat.ble bytes 4096 && Nat.beq z.cells.size size) = true) (hd : Nat.blt d sz = true) (hl : xs.length + ys.length ≤ 1000000000)
    (k : ∀ u : SlV, SO l P ro sz ops ((d, u.v) :: fr) ds (K (ownSl E enc u.v (xs ++ ys))) Q) : SO (⟨some d, .call ⟨.builtin .append, #[x, y], #[T, T]⟩, ty, pos, aft, none⟩ :: l) P ro sz ops fr ds (ownSl T2 enc v2 ys :: L) Q :=
  so_append (K := fun X => ownSl T2 enc v2 ys :: K X) hx hy hk hd hl fun v' => so_mem (fun w H => H.tail) (k v')
theorem so_makeSlice {x y : Operand} {T E : TypeId} {z : Value} {m n : Int} {agg : Bool} {size bytes : Nat} {α : Type} {enc : Enc α} (x0 : α) (hx : Fr.ev fr x = some (.int .i64 m)) (hy : Fr.ev fr y = some (.int .i64 n)) [hT : TyU P T (.slice E)] [hE : TyI P E agg z size bytes] (hz : z.cells = (enc.cells x0).toArray)
    (hk : (Nat.beq enc.k size && Nat.ble bytes 4096) = true) (hd : Nat.blt d sz = true) (hm : 0 ≤ m ∧ m ≤ n ∧ n ≤ 1000000000)
    (k : ∀ u : SlV, SO l P ro sz ops ((d, u.v) :: fr) ds (ownSl E enc u.v (List.replicate m.toNat x0) :: L) Q) : SO (⟨some d, .makeSlice T x y, ty, pos, aft, none⟩ :: l) P ro sz ops fr ds L Q := by
  simp only [Bool.and_eq_true] at hk
  refine so_gen (fun c h => by cases h) (fun v' L' => ∃ u : SlV, v' = u.v ∧ L' = ownSl E enc v' (List.replicate m.toNat x0) :: L) (fun tm w h1 h2 h3 => ?_) hd (fun v' L' ⟨u, e1, e⟩ => by subst e; subst e1; exact k u)
  obtain ⟨i0, hi, hz0, hz1, hz2⟩ := hE.info
  have e1 := Nat.eq_of_beq_eq_true hk.1
  have hb : bytes ≤ 4096 := Nat.le_of_ble_eq_true hk.2
  have hbn : (i0.bytes : Int) * n ≤ 281474976710656 := by
    have h6 : (i0.bytes : Int) * n ≤ 4096 * 1000000000 := Int.mul_le_mul (by omega) hm.2.2 (by omega) (by omega)
    omega
  have h := run_make (P := P) w T E i0 z hT.out hi hz0 .i64 .i64 m n hm.1 hm.2.1 hbn (by omega)
  refine ⟨.slice (some ⟨w.heap.size, 0, none⟩) m.toNat n.toNat, w.alloc (.cells (madeCells z.cells (n.toNat * i0.size)) E), _, by simp [execOp, h2.ev hx, h2.ev hy, h], ⟨⟨_, _, _, _, rfl⟩, rfl, rfl⟩, ?_, ⟨rfl, rfl, rfl, by simp⟩⟩
  have hlen : (List.replicate m.toNat x0).length = m.toNat := by simp
  have := own_new (T := E) (enc := enc) (w' := w.alloc (.cells (madeCells z.cells (n.toNat * i0.size)) E)) h3 (xs := List.replicate m.toNat x0) (cs := madeCells z.cells (n.toNat * i0.size)) (c := n.toNat) rfl (by simp; omega) (by rw [size_madeCells, e1, hz1]) (by simp; omega) (fun j x hx i u hu => by
    rw [List.getElem?_replicate] at hx
    split at hx
    · injection hx with hx; subst hx
      rw [hz1, ← e1]; exact zero_get enc hz _ j (by omega) i u hu
    · cases hx)
  rw [hlen] at this
  exact this

/-! ### small built-in functions -/
theorem vo_max2 {x y : Operand} {κ : IntKind} {m n : Int} {ats : Array TypeId} (hx : Fr.ev fr x = some (.int κ m)) (hy : Fr.ev fr y = some (.int κ n)) : VO P ds ⟨some d, .call ⟨.builtin .max, #[x, y], ats⟩, ty, pos, aft, none⟩ fr L (.int κ (max m n)) :=
  ⟨(fun c h => by cases h), fun tm w h2 h3 => by
    have : (if n > m then n else m) = max m n := by omega
    simp [execOp, resolve, invoke, builtin, h2.ev hx, h2.ev hy, Builtin.max_, Builtin.max2]; omega⟩
theorem vo_min2 {x y : Operand} {κ : IntKind} {m n : Int} {ats : Array TypeId} (hx : Fr.ev fr x = some (.int κ m)) (hy : Fr.ev fr y = some (.int κ n)) : VO P ds ⟨some d, .call ⟨.builtin .min, #[x, y], ats⟩, ty, pos, aft, none⟩ fr L (.int κ (min m n)) :=
  ⟨(fun c h => by cases h), fun tm w h2 h3 => by
    simp [execOp, resolve, invoke, builtin, h2.ev hx, h2.ev hy, Builtin.min_, Builtin.min2]; omega⟩
theorem vo_conv {x : Operand} {S D : TypeId} {κ κ' : IntKind} {n : Int} {u : TypeDesc} (hx : Fr.ev fr x = some (.int κ n)) [hs : TyU P S u] [hD : TyU P D (.int κ')] : VO P ds ⟨some d, .convert S D x, ty, pos, aft, none⟩ fr L (.int κ' (κ'.wrap n)) :=
  ⟨(fun c h => by cases h), fun tm w h2 h3 => by simp [execOp, convert, h2.ev hx, run_underlying hs.out, run_underlying hD.out, Conv.intToInt]⟩
theorem vo_conv64 {x : Operand} {S D : TypeId} {κ : IntKind} {n : Int} {u : TypeDesc} (hx : Fr.ev fr x = some (.int κ n)) [hs : TyU P S u] [hD : TyU P D (.int .i64)] (hr : -9223372036854775808 ≤ n ∧ n ≤ 9223372036854775807) : VO P ds ⟨some d, .convert S D x, ty, pos, aft, none⟩ fr L (.int .i64 n) := by
  have := vo_conv (P := P) (ds := ds) (L := L) (d := d) (ty := ty) (pos := pos) (aft := aft) (S := S) (D := D) hx
  rw [wrap_ok hr.1 hr.2] at this; exact this
theorem run_equal_bool {T : TypeId} (h : TyU P T .bool) (a b : Bool) (w : World) : (Op.equal T (.bool a) (.bool b)).run P w = .ok (a == b) w := by
  have hd : ∀ d : Nat, (Op.equalIn (d + 1) T (.bool a) (.bool b)).run P w = .ok (a == b) w := fun d => by
    simp [Op.equalIn, run_underlying h.out]
  simp [Op.equal, Op.maxDepth, hd 9999]
theorem vo_eqb {x y : Operand} {T T' : TypeId} {a b : Bool} (hx : Fr.ev fr x = some (.bool a)) (hy : Fr.ev fr y = some (.bool b)) [h : TyU P T .bool] : VO P ds ⟨some d, .binOp .eql T x y T', ty, pos, aft, none⟩ fr L (.bool (a == b)) :=
  ⟨(fun c h => by cases h), fun tm w h2 h3 => by simp [execOp, h2.ev hx, h2.ev hy, eqGuard, binOp, run_equal_bool h]⟩
theorem vo_neqb {x y : Operand} {T T' : TypeId} {a b : Bool} (hx : Fr.ev fr x = some (.bool a)) (hy : Fr.ev fr y = some (.bool b)) [h : TyU P T .bool] : VO P ds ⟨some d, .binOp .neq T x y T', ty, pos, aft, none⟩ fr L (.bool (!(a == b))) :=
  ⟨(fun c h => by cases h), fun tm w h2 h3 => by simp [execOp, h2.ev hx, h2.ev hy, eqGuard, binOp, run_equal_bool h]⟩
end
end Go.Proofs.YtmhfhfhdblccjaaGreat
/-
  An own logic over the kit's calculus: values that are built of parts, sets by bits, shifts.
-/
namespace Go.Proofs.YtmhfhfhdblccjaaGreat
open Go Go.RowKit
set_option linter.unusedVariables false

/-! ### values of one cell -/
/-- v lies in one cell. -/
class One1 (L : List SP) (v : Value) : Prop where
  out : ∀ h, Holds L h → v.oneCell' = true
instance (L : List SP) (k : IntKind) (n : Int) : One1 L (.int k n) := ⟨fun _ _ => rfl⟩
instance (L : List SP) (b : Bool) : One1 L (.bool b) := ⟨fun _ _ => rfl⟩
instance (L : List SP) (a : Option Addr) : One1 L (.pointer a) := ⟨fun _ _ => rfl⟩
instance (L : List SP) (a : Option Addr) (n c : Nat) : One1 L (.slice a n c) := ⟨fun _ _ => rfl⟩
instance (L : List SP) f (x y : Array Value) : One1 L (.func f x y) := ⟨fun _ _ => rfl⟩
instance (L : List SP) : One1 L .nilFunc := ⟨fun _ _ => rfl⟩
instance (L : List SP) (m : Option Nat) : One1 L (.map m) := ⟨fun _ _ => rfl⟩
instance (L : List SP) (u : SlV) : One1 L u.v := ⟨fun _ _ => by obtain ⟨a, n, c, e⟩ := u.is; rw [e]; rfl⟩
theorem IsSl.one {α : Type} {enc : Enc α} {h : PH} {v : Value} {xs : List α} (k : IsSl enc h v xs) : v.oneCell' = true := by
  obtain ⟨a, c, e, _⟩ := k; subst e; rfl
instance (priority := low) One1.rd (L : List SP) (v : Value) (α : Type) (enc : Enc α) (xs : List α) [h : RdSl L v α enc xs] : One1 L v := ⟨fun g H => (h.out g H).one⟩
theorem one_cells {u : Value} (hu : u.oneCell' = true) : u.cells = #[u] := by cases u <;> first | rfl | (simp [Value.oneCell'] at hu)
/-- The cells of a value. -/
class PC (L : List SP) (v : Value) (cs : outParam (List Value)) : Prop where
  out : ∀ h, Holds L h → v.cells = cs.toArray ∧ ∀ u ∈ cs, u.oneCell' = true
instance (priority := low) PC.one (L : List SP) (v : Value) [h : One1 L v] : PC L v [v] := ⟨fun g H => ⟨one_cells (h.out g H), fun u hu => by simp at hu; subst hu; exact h.out g H⟩⟩
class AllOne (L : List SP) (cs : List Value) : Prop where
  out : ∀ h, Holds L h → ∀ u ∈ cs, u.oneCell' = true
instance (L : List SP) : AllOne L [] := ⟨fun _ _ u hu => by cases hu⟩
instance (L : List SP) (c : Value) (cs : List Value) [h : One1 L c] [t : AllOne L cs] : AllOne L (c :: cs) := ⟨fun g H u hu => by
  rcases List.mem_cons.1 hu with e | e
  · subst e; exact h.out g H
  · exact t.out g H u e⟩
instance PC.agg (L : List SP) (cs : List Value) [h : AllOne L cs] : PC L (.agg cs.toArray) cs := ⟨fun g H => ⟨rfl, h.out g H⟩⟩
instance PC.enc (L : List SP) (α : Type) (enc : Enc α) (x : α) : PC L (enc.val x) (enc.cells x) := ⟨fun g H => ⟨enc.vc x, enc.one x⟩⟩
/-- us stands at the begin of cs, in place of what was there. -/
class LSpl0 (cs us : List Value) (cs' : outParam (List Value)) : Prop where
  out : us.length ≤ cs.length ∧ cs' = us ++ cs.drop us.length
instance (cs : List Value) : LSpl0 cs [] cs := ⟨by simp, by simp⟩
instance (c u : Value) (cs us cs' : List Value) [h : LSpl0 cs us cs'] : LSpl0 (c :: cs) (u :: us) (u :: cs') := ⟨by have := h.out.1; simp; omega, by rw [h.out.2]; simp⟩
class LSpl (cs : List Value) (o : Nat) (us : List Value) (cs' : outParam (List Value)) : Prop where
  out : o + us.length ≤ cs.length ∧ cs' = cs.take o ++ us ++ cs.drop (o + us.length)
instance (cs us cs' : List Value) [h : LSpl0 cs us cs'] : LSpl cs 0 us cs' := ⟨by have := h.out.1; omega, by rw [h.out.2]; simp⟩
instance (c : Value) (o : Nat) (cs us cs' : List Value) [h : LSpl cs o us cs'] : LSpl (c :: cs) (o + 1) us (c :: cs') := ⟨by have := h.out.1; simp; omega, by rw [h.out.2, show o + 1 + us.length = (o + us.length) + 1 by omega]; simp⟩
class LGet (ps : List (Nat × Nat)) (i : Nat) (off size : outParam Nat) : Prop where
  out : ps[i]? = some (off, size)
instance (off size : Nat) (ps : List (Nat × Nat)) : LGet ((off, size) :: ps) 0 off size := ⟨rfl⟩
instance (p : Nat × Nat) (i off size : Nat) (ps : List (Nat × Nat)) [h : LGet ps i off size] : LGet (p :: ps) (i + 1) off size := ⟨by simpa using h.out⟩

theorem foldl_set (us : List Value) : ∀ (n o : Nat) (cs : Array Value), o + n + us.length ≤ cs.size → (us.zipIdx n).foldl (fun (cs : Array Value) (p : Value × Nat) => cs.setIfInBounds (o + p.2) p.1) cs = (cs.toList.take (o + n) ++ us ++ cs.toList.drop (o + n + us.length)).toArray := by
  induction us with
  | nil => intro n o cs h; simp
  | cons u us ih =>
    intro n o cs h
    simp only [List.zipIdx_cons, List.foldl_cons]
    simp only [List.length_cons] at h
    rw [ih (n + 1) o _ (by simp; omega)]
    apply Array.ext'
    simp only [Array.toList_setIfInBounds, List.length_cons]
    rw [show o + (n + 1) = (o + n) + 1 by omega, show o + n + (us.length + 1) = o + n + 1 + us.length by omega]
    rw [List.drop_set_of_lt (by omega)]
    rw [List.take_set, List.take_add_one, List.getElem?_eq_getElem (by simp; omega)]
    have hl : (List.take (o + n) cs.toList).length = o + n := by simp; omega
    rw [List.set_append_right _ _ (by omega), hl]
    simp

/-- Field f of the struct type T begins at off and is an aggregate or none, of a size. -/
class TyG (P : Program) (T : TypeId) (f : Nat) (off : outParam Nat) (agg : outParam Bool) (size : outParam Nat) : Prop where
  out : ∃ fs fld, P.underlying T = some (.struct fs) ∧ fs[f]? = some fld ∧ fld.offset = off ∧ (∀ w, (Go.isAgg fld.type).run P w = .ok agg w) ∧ ∀ w, (Go.sizeOf fld.type).run P w = .ok size w
/-- Struct and array types: where their parts lie, and their zero value. -/
class TyB (P : Program) (T : TypeId) (ps : outParam (List (Nat × Nat))) (zero : outParam (List Value)) : Prop where
  out : ∃ fs, P.underlying T = some (.struct fs) ∧ (∀ w, (fs.mapM fun f => do pure (f.offset, ← Go.sizeOf f.type) : Sem (Array (Nat × Nat))).run P w = .ok ps.toArray w) ∧ ∀ w, ∃ z, (Go.zeroValue T).run P w = .ok z w ∧ z.cells = zero.toArray
class Eqn (a b : Nat) : Prop where
  out : a = b
instance (a : Nat) : Eqn a a := ⟨rfl⟩
inductive Places (P : Program) : List Field → List (Nat × Nat) → Prop
  | nil : Places P [] []
  | cons {f : Field} {fs : List Field} {o k : Nat} {ps : List (Nat × Nat)} (h1 : f.offset = o) (h2 : ∀ w, (Go.sizeOf f.type).run P w = .ok k w) (t : Places P fs ps) : Places P (f :: fs) ((o, k) :: ps)
theorem run_places {P : Program} (w : World) : ∀ (fs : List Field) (ps : List (Nat × Nat)), Places P fs ps → (fs.mapM fun f => do pure (f.offset, ← Go.sizeOf f.type) : Sem (List (Nat × Nat))).run P w = .ok ps w
  | _, _, .nil => by simp
  | _, _, .cons h1 h2 t => by
    have := run_places w _ _ t
    simp only [List.mapM_cons, Sem.run_bind, h2 w, Result.andThen_ok, Sem.run_pure, this, h1]
theorem tyB_mk {P : Program} {T : TypeId} {fs : List Field} {ps : List (Nat × Nat)} {zero : List Value} {z : Value} (h1 : P.underlying T = some (.struct fs.toArray)) (h2 : Places P fs ps) (h3 : ∀ w, (Go.zeroValue T).run P w = .ok z w) (h4 : z.cells = zero.toArray) : TyB P T ps zero :=
  ⟨fs.toArray, h1, fun w => by
    have := run_places w fs ps h2
    rw [List.mapM_toArray]
    simp at this ⊢
    simp [this], fun w => ⟨z, h3 w, h4⟩⟩
/-- The cells of a struct with some parts. -/
class Fil (L : List SP) (ps : List (Nat × Nat)) (zero : List Value) (parts : List (Nat × Value)) (out : outParam (List Value)) : Prop where
  out : ∀ h, Holds L h → Instr.fill (ps.toArray[·]?) zero.toArray parts = some out.toArray
instance (L : List SP) (ps : List (Nat × Nat)) (zero : List Value) : Fil L ps zero [] zero := ⟨fun _ _ => rfl⟩
instance Fil.cons (L : List SP) (ps : List (Nat × Nat)) (zero : List Value) (i : Nat) (v : Value) (parts : List (Nat × Value)) (off size : Nat) (us zero' out : List Value) [g : LGet ps i off size] [c : PC L v us] [s : LSpl zero off us zero'] [e : Eqn us.length size] [t : Fil L ps zero' parts out] : Fil L ps zero ((i, v) :: parts) out := ⟨fun h H => by
  have h1 : ps.toArray[i]? = some (off, size) := by simpa using g.out
  have h2 := (c.out h H).1
  have h3 := s.out
  have h4 : us.length = size := e.out
  rw [Instr.fill, h1]
  simp only [h2]
  rw [if_neg (by simp; omega)]
  have h5 := foldl_set us 0 off zero.toArray (by simp; omega)
  have h6 : us.toArray.zipIdx = (us.zipIdx 0).toArray := by simp
  rw [h6]
  simp only [List.foldl_toArray']
  simp only [Nat.add_zero] at h5
  have h7 := t.out h H
  rw [h3.2] at h7
  simpa [h5] using h7⟩
/-- The cells of a row of parts, one after the other. -/
class Row (L : List SP) (i size : Nat) (parts : List (Nat × Value)) (out : outParam (List Value)) : Prop where
  out : ∀ h, Holds L h → ∃ uss : List (List Value), out = uss.flatten ∧ uss.length = parts.length ∧ (∀ u ∈ uss, u.length = size) ∧ (∀ k, (hk : k < parts.length) → (parts[k]).1 = i + k ∧ ∃ us, uss[k]? = some us ∧ (parts[k]).2.cells = us.toArray)
instance (L : List SP) (i size : Nat) : Row L i size [] [] := ⟨fun _ _ => ⟨[], rfl, rfl, by simp, by simp⟩⟩

section
variable {P : Program} {ro : Option Nat} {sz : Nat} {fr : Fr} {ds : List Deferred} {L : List SP} {Q : Post} {ops : Array Oper} {l : List Oper} {d : Nat} {ty : TypeId} {pos : String} {aft : Array Edge}
/-- The parts' operands have these values. -/
def Fr.evp (fr : Fr) : List (Nat × Operand) → Option (List (Nat × Value))
  | [] => some []
  | (i, x) :: t => match Fr.ev fr x, Fr.evp fr t with
    | some v, some vs => some ((i, v) :: vs)
    | _, _ => none
theorem Agr.evp {fr : Fr} {tm : Array Value} (h : Agr fr tm) : ∀ {ps : List (Nat × Operand)} {vs : List (Nat × Value)}, Fr.evp fr ps = some vs → ps.map (fun p => (p.1, (Act.mk tm ds).eval p.2)) = vs
  | [], vs, e => by simp [Fr.evp] at e; simp [e]
  | (i, x) :: t, vs, e => by
    unfold Fr.evp at e
    split at e
    · rename_i v vs' e1 e2
      injection e with e; subst e
      simp [h.ev e1, Agr.evp h e2]
    · cases e
theorem vo_build {T : TypeId} {pl : List (Nat × Operand)} {vs : List (Nat × Value)} {ps : List (Nat × Nat)} {zero out : List Value} (hp : Fr.evp fr pl = some vs) [hT : TyB P T ps zero] [hf : Fil L ps zero vs out] : VO P ds ⟨some d, .build T pl.toArray, ty, pos, aft, none⟩ fr L (.agg out.toArray) :=
  ⟨(fun c h => by cases h), fun tm w h2 h3 => by
    obtain ⟨fs, e1, e2, e3⟩ := hT.out
    obtain ⟨z, e4, e5⟩ := e3 w
    have e6 := hf.out _ h3
    have e7 := h2.evp (ds := ds) hp
    have e8 : (Array.map (fun x : Nat × Operand => match x with | (i, x) => (i, (Act.mk tm ds).eval x)) pl.toArray) = vs.toArray := by
      rw [← e7]; simp
    simp only [execOp, e8, Instr.build, Sem.run_bind, e4, Result.andThen_ok, run_underlying e1, e2 w, e5, e6, Sem.run_pure]⟩
theorem vo_field {x : Operand} {T : TypeId} {f off : Nat} {cs : List Value} {u : Value} (hx : Fr.ev fr x = some (.agg cs.toArray)) [h : TyG P T f off false 1] (hu : cs[off]? = some u) : VO P ds ⟨some d, .field T x f, ty, pos, aft, none⟩ fr L u :=
  ⟨(fun c h => by cases h), fun tm w h2 h3 => by
    obtain ⟨fs, fld, e1, e2, e3, e4, e5⟩ := h.out
    simp [execOp, h2.ev hx, Instr.field, run_underlying e1, e2, asAgg, part, e4, e3, hu]⟩
theorem vo_field_agg {x : Operand} {T : TypeId} {f off size : Nat} {cs : List Value} (hx : Fr.ev fr x = some (.agg cs.toArray)) [h : TyG P T f off true size] : VO P ds ⟨some d, .field T x f, ty, pos, aft, none⟩ fr L (.agg ((cs.drop off).take size).toArray) :=
  ⟨(fun c h => by cases h), fun tm w h2 h3 => by
    obtain ⟨fs, fld, e1, e2, e3, e4, e5⟩ := h.out
    simp [execOp, h2.ev hx, Instr.field, run_underlying e1, e2, asAgg, part, e4, e3, e5]⟩
end
end Go.Proofs.YtmhfhfhdblccjaaGreat
