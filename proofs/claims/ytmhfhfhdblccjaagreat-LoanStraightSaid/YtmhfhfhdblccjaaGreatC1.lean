/-
  An own logic over the kit's calculus: memory as a list of separate assertions, frames as lists of slots. This text: memory.
-/
import Derived.RangeFuncNested
import Derived.RangeFuncLeaves
import Derived.RangeFuncCalls
import Derived.Shelf.Abstract
import Derived.OrdersIn
import Derived.TacticsIn
import Derived.IntWalk
import Derived.Laws.Sem
import Derived.Laws.Cells
import Derived.Laws.CopyRow
import Derived.Laws.Append
import Derived.Laws.AppendOwn
import Derived.Laws.MakeOwn
import Derived.Laws.Pointers
import Derived.Shelf.SlicesQ.Load
namespace Go.Proofs.YtmhfhfhdblccjaaGreat
open Go Go.RowKit

/-! ### memory -/
abbrev PH := Nat → Option Obj
abbrev SP := PH → Prop
def pts (b : Nat) (o : Obj) : SP := fun h => h b = some o
def PH.le (h h' : PH) : Prop := ∀ b o, h b = some o → h' b = some o
def PH.disj (h h' : PH) : Prop := ∀ b, h b = none ∨ h' b = none
theorem PH.le.refl (h : PH) : h.le h := fun _ _ e => e
theorem PH.le.trans {a b c : PH} (h : a.le b) (k : b.le c) : a.le c := fun x o e => k x o (h x o e)
def PH.join (h h' : PH) : PH := fun b => (h b).or (h' b)
theorem PH.le_join_left (a b : PH) : a.le (a.join b) := fun x o e => by simp [PH.join, e]
theorem PH.le_join_right {a b : PH} (h : a.disj b) : b.le (a.join b) := fun x o e => by
  rcases h x with h | h
  · simp [PH.join, h, e]
  · rw [h] at e; cases e
theorem PH.join_le {a b c : PH} (h : a.le c) (k : b.le c) : (a.join b).le c := fun x o e => by
  unfold PH.join at e
  cases ha : a x with
  | none => rw [ha] at e; exact k x o (by simpa using e)
  | some y => rw [ha] at e; simp at e; subst e; exact h x y ha
theorem PH.disj.symm {a b : PH} (h : a.disj b) : b.disj a := fun x => (h x).symm
theorem PH.disj_join {a b c : PH} (h : a.disj b) (k : a.disj c) : a.disj (b.join c) := fun x => by
  rcases h x with h | h
  · exact .inl h
  · rcases k x with k | k
    · exact .inl k
    · exact .inr (by simp [PH.join, h, k])
theorem PH.disj.of_le {a a' b : PH} (h : a'.disj b) (hl : a.le a') : a.disj b := fun x => by
  cases ha : a x with
  | none => exact .inl rfl
  | some o =>
    rcases h x with h | h
    · rw [hl x o ha] at h; cases h
    · exact .inr h

/-- The assertions hold of parts that are apart; there may be more. -/
def Holds : List SP → PH → Prop
  | [], _ => True
  | A :: L, h => ∃ h1 h2 : PH, A h1 ∧ Holds L h2 ∧ h1.disj h2 ∧ h1.le h ∧ h2.le h
theorem Holds.up {L : List SP} {h h' : PH} (H : Holds L h) (hl : h.le h') : Holds L h' := by
  cases L with
  | nil => trivial
  | cons A L => obtain ⟨a, b, h1, h2, h3, h4, h5⟩ := H; exact ⟨a, b, h1, h2, h3, h4.trans hl, h5.trans hl⟩
theorem Holds.tail {A : SP} {L : List SP} {h : PH} (H : Holds (A :: L) h) : Holds L h := by
  obtain ⟨a, b, _, h2, _, _, h5⟩ := H; exact h2.up h5
theorem Holds.swap {A B : SP} {L : List SP} {h : PH} (H : Holds (A :: B :: L) h) : Holds (B :: A :: L) h := by
  obtain ⟨a, r, ha, ⟨b, l, hb, hl, d, e1, e2⟩, d2, e3, e4⟩ := H
  have dab : a.disj b := (d2.symm.of_le e1).symm
  have dal : a.disj l := (d2.symm.of_le e2).symm
  exact ⟨b, a.join l, hb, ⟨a, l, ha, hl, dal, a.le_join_left l, PH.le_join_right dal⟩, PH.disj_join dab.symm d, e1.trans e4, PH.join_le e3 (e2.trans e4)⟩
theorem Holds.cons_mono {A : SP} {L L' : List SP} {h : PH} (k : ∀ h, Holds L h → Holds L' h) (H : Holds (A :: L) h) : Holds (A :: L') h := by
  obtain ⟨a, b, h1, h2, h3⟩ := H; exact ⟨a, b, h1, k _ h2, h3⟩
theorem Holds.perm {L L' : List SP} (p : L.Perm L') : ∀ h, Holds L h → Holds L' h := by
  induction p with
  | nil => exact fun _ h => h
  | cons A _ ih => exact fun _ H => H.cons_mono ih
  | swap A B L => exact fun _ H => H.swap
  | trans _ _ ih1 ih2 => exact fun h H => ih2 h (ih1 h H)
theorem Holds.suffix (M : List SP) {L : List SP} {h : PH} (H : Holds (M ++ L) h) : Holds L h := by
  induction M generalizing h with
  | nil => exact H
  | cons A M ih => exact ih H.tail
theorem Holds.front {M L : List SP} {h : PH} (H : Holds (M ++ L) h) : Holds M h := by
  induction M generalizing h with
  | nil => trivial
  | cons A M ih => exact H.cons_mono (fun h H => ih H)
/-- the head is replaced -/
theorem Holds.head {A : SP} {L : List SP} {h : PH} (H : Holds (A :: L) h) : ∃ h1 : PH, A h1 ∧ h1.le h := by
  obtain ⟨a, b, h1, _, _, h4, _⟩ := H; exact ⟨a, h1, h4⟩

def heapOf (w : World) : PH := fun b => w.heap[b]?
def Sat (L : List SP) (w : World) : Prop := Holds L (heapOf w)
theorem Sat.tail {A : SP} {L : List SP} {w : World} (H : Sat (A :: L) w) : Sat L w := Holds.tail H
theorem Sat.perm {L L' : List SP} {w : World} (p : L.Perm L') (H : Sat L w) : Sat L' w := Holds.perm p _ H
theorem Sat.of_heap {L : List SP} {w w' : World} (H : Sat L w) (h : w'.heap = w.heap) : Sat L w' := by
  unfold Sat heapOf at *; rw [h]; exact H
theorem Sat.pts_block {b : Nat} {o : Obj} {L : List SP} {w : World} (H : Sat (pts b o :: L) w) : w.heap[b]? = some o := by
  obtain ⟨h1, e, l⟩ := Holds.head H; exact l b o e
theorem lt_of_heap {w : World} {b : Nat} {o : Obj} (h : w.heap[b]? = some o) : b < w.heap.size := (Array.getElem?_eq_some_iff.1 h).1

/-- One block of w' may differ from that of w, which the assertion A speaks of; new blocks. -/
theorem Sat.change {A A' : SP} {L : List SP} {w w' : World} (H : Sat (A :: L) w)
    (hA : ∀ h1 : PH, A h1 → h1.le (heapOf w) → ∃ h1' : PH, A' h1' ∧ h1'.le (heapOf w') ∧
      (∀ b o, h1' b = some o → h1 b ≠ none ∨ w.heap.size ≤ b) ∧ (∀ b o, w.heap[b]? = some o → h1 b = none → w'.heap[b]? = some o)) : Sat (A' :: L) w' := by
  obtain ⟨a, r, ha, hr, d, e1, e2⟩ := H
  obtain ⟨a', ha', l', f1, f2⟩ := hA a ha e1
  refine ⟨a', r, ha', hr, fun b => ?_, l', fun b o e => ?_⟩
  · cases h' : a' b with
    | none => exact .inl rfl
    | some o =>
      refine .inr ?_
      cases hr' : r b with
      | none => rfl
      | some o2 =>
        rcases f1 b o h' with f | f
        · rcases d b with d | d
          · exact absurd d f
          · rw [d] at hr'; cases hr'
        · have := lt_of_heap (w := w) (e2 b o2 hr'); omega
  · refine f2 b o (e2 b o e) ?_
    rcases d b with d | d
    · exact d
    · rw [e] at d; cases d
theorem Sat.alloc {L : List SP} {w w' : World} {o : Obj} (H : Sat L w) (hw : w'.heap = w.heap.push o) : Sat (pts w.heap.size o :: L) w' := by
  refine ⟨fun b => if b = w.heap.size then some o else none, heapOf w, by simp [pts], H, fun b => ?_, fun b o' e => ?_, fun b o' e => ?_⟩
  · by_cases hb : b = w.heap.size
    · right; subst hb; simp [heapOf]
    · left; simp [hb]
  · by_cases hb : b = w.heap.size
    · subst hb; simp at e; subst e; simp [heapOf, hw]
    · simp [hb] at e
  · have hlt : b < w.heap.size := lt_of_heap (w := w) e
    simp only [heapOf, hw, Array.getElem?_push] at *
    rw [if_neg (by omega)]; exact e
theorem Sat.setBlock {b : Nat} {o o' : Obj} {L : List SP} {w w' : World} (H : Sat (pts b o :: L) w) (hb : w'.heap[b]? = some o') (hr : ∀ k, k ≠ b → w'.heap[k]? = w.heap[k]?) : Sat (pts b o' :: L) w' := by
  refine H.change fun h1 e l => ⟨fun k => if k = b then some o' else none, by simp [pts], fun k o2 e2 => ?_, fun k o2 e2 => ?_, fun k o2 e1 e2 => ?_⟩
  · by_cases hk : k = b
    · subst hk; simp at e2; subst e2; exact hb
    · simp [hk] at e2
  · by_cases hk : k = b
    · subst hk; left; rw [show h1 k = some o from e]; simp
    · simp [hk] at e2
  · by_cases hk : k = b
    · subst hk; rw [show h1 k = some o from e] at e2; cases e2
    · rw [hr k hk]; exact e1
/-- what A says is weakened -/
theorem Sat.weaken {A B : SP} {L : List SP} {w : World} (H : Sat (A :: L) w) (h : ∀ k, A k → B k) : Sat (B :: L) w := by
  obtain ⟨a, r, ha, x⟩ := H; exact ⟨a, r, h a ha, x⟩

/-- The streams are as they were; no block has gone. -/
structure Kept (w w' : World) : Prop where
  os : w'.os = w.os
  tape : w'.tape = w.tape
  output : w'.output = w.output
  size : w.heap.size ≤ w'.heap.size
theorem Kept.refl (w : World) : Kept w w := ⟨rfl, rfl, rfl, Nat.le_refl _⟩
theorem Kept.trans {a b c : World} (h : Kept a b) (k : Kept b c) : Kept a c := ⟨k.os.trans h.os, k.tape.trans h.tape, k.output.trans h.output, Nat.le_trans h.size k.size⟩

/-- All that lies below block n lies as in w0: the assertion that carries what a call has found. -/
def rest (w0 : World) : SP := fun h => ∀ b o, w0.heap[b]? = some o → h b = some o
theorem Sat.start (w : World) : Sat [rest w] w := ⟨heapOf w, fun _ => none, fun _ _ e => e, trivial, fun _ => .inr rfl, PH.le.refl _, fun _ _ e => by cases e⟩
theorem Sat.below {w w' : World} {L : List SP} (H : Sat (rest w :: L) w') (k : Kept w w') : Below w.heap.size w w' := by
  obtain ⟨h1, e, l⟩ := Holds.head H
  exact ⟨k.os, k.tape, k.output, k.size, fun b hb => by
    have : w.heap[b]? = some w.heap[b] := by simp [hb]
    rw [this]; exact l _ _ (e _ _ this)⟩

/-! ### items, found by instance -/
/-- cells of type T at block b, none of them frozen -/
def cl (b : Nat) (T : TypeId) (cs : List Value) : SP := pts b (.cells cs.toArray T (0, 0))
/-- Somewhere in L stands the item A; with A' in its place it is L'. -/
class Put (L : List SP) (A : SP) (A' : SP) (L' : outParam (List SP)) : Prop where
  fwd : ∃ L0, L.Perm (A :: L0) ∧ (A' :: L0).Perm L'
instance (priority := high) Put.here (A A' : SP) (L : List SP) : Put (A :: L) A A' (A' :: L) := ⟨L, .refl _, .refl _⟩
instance (priority := low) Put.there (B A A' : SP) (L L' : List SP) [h : Put L A A' L'] : Put (B :: L) A A' (B :: L') := by
  obtain ⟨L0, p, q⟩ := h.fwd
  exact ⟨B :: L0, (List.Perm.cons B p).trans (.swap _ _ _), (List.Perm.swap _ _ _).trans (q.cons B)⟩
/-- The cells of block b. -/
class Cl (L : List SP) (b : Nat) (T : outParam TypeId) (cs : outParam (List Value)) : Prop where
  out : ∃ L0, L.Perm (cl b T cs :: L0)
instance (priority := high) Cl.here (b : Nat) (T : TypeId) (cs : List Value) (L : List SP) : Cl (cl b T cs :: L) b T cs := ⟨L, .refl _⟩
instance (priority := low) Cl.there (B : SP) (L : List SP) (b : Nat) (T : TypeId) (cs : List Value) [h : Cl L b T cs] : Cl (B :: L) b T cs := by
  obtain ⟨L0, p⟩ := h.out
  exact ⟨B :: L0, (List.Perm.cons B p).trans (.swap _ _ _)⟩
/-- They are written. -/
class ClSet (L : List SP) (b : Nat) (cs' : List Value) (L' : outParam (List SP)) : Prop where
  out : ∃ T cs L0, L.Perm (cl b T cs :: L0) ∧ (cl b T cs' :: L0).Perm L'
instance (priority := high) ClSet.here (b : Nat) (T : TypeId) (cs cs' : List Value) (L : List SP) : ClSet (cl b T cs :: L) b cs' (cl b T cs' :: L) := ⟨T, cs, L, .refl _, .refl _⟩
instance (priority := low) ClSet.there (B : SP) (L L' : List SP) (b : Nat) (cs' : List Value) [h : ClSet L b cs' L'] : ClSet (B :: L) b cs' (B :: L') := by
  obtain ⟨T, cs, L0, p, q⟩ := h.out
  exact ⟨T, cs, B :: L0, (List.Perm.cons B p).trans (.swap _ _ _), (List.Perm.swap _ _ _).trans (q.cons B)⟩
/-- L is L0 behind more items. -/
class Suf (L0 L : List SP) : Prop where
  out : ∃ M, L = M ++ L0
instance (priority := high) Suf.here (L : List SP) : Suf L L := ⟨[], rfl⟩
instance (priority := low) Suf.there (A : SP) (L0 L : List SP) [h : Suf L0 L] : Suf L0 (A :: L) := by
  obtain ⟨M, e⟩ := h.out; exact ⟨A :: M, by rw [e]; rfl⟩
theorem Suf.sat {L0 L : List SP} (h : Suf L0 L) {w : World} (H : Sat L w) : Sat L0 w := by
  obtain ⟨M, e⟩ := h.out; subst e; exact Holds.suffix M H
end Go.Proofs.YtmhfhfhdblccjaaGreat
/-
  An own logic over the kit's calculus: frames as lists of slots; the rules of control.
-/
namespace Go.Proofs.YtmhfhfhdblccjaaGreat
open Go Go.RowKit
set_option linter.unusedVariables false

/-! ### frames -/
abbrev Fr := List (Nat × Value)
def Fr.get : Fr → Nat → Option Value
  | [], _ => none
  | (i, v) :: r, j => bif Nat.beq i j then some v else Fr.get r j
def Fr.ev (fr : Fr) : Operand → Option Value
  | .tmp t => Fr.get fr t
  | .const v => some v
  | .func f => some (.func (.func f) #[] #[])
  | .global g => some (.pointer (some ⟨g, 0, none⟩))
def Fr.evs (fr : Fr) : List Operand → Option (List Value)
  | [] => some []
  | x :: r => match Fr.ev fr x, Fr.evs fr r with
    | some v, some vs => some (v :: vs)
    | _, _ => none
def Agr (fr : Fr) (tm : Array Value) : Prop := ∀ i v, Fr.get fr i = some v → tm[i]? = some v
theorem Fr.get_cons (i : Nat) (v : Value) (r : Fr) (j : Nat) : Fr.get ((i, v) :: r) j = if i = j then some v else Fr.get r j := by
  simp only [Fr.get]
  by_cases h : i = j
  · subst h; simp
  · have : Nat.beq i j = false := by
      rw [Bool.eq_false_iff]; intro e; exact h (Nat.eq_of_beq_eq_true e)
    simp [h, this]
theorem Agr.put {fr : Fr} {tm : Array Value} (h : Agr fr tm) {d : Nat} (hd : d < tm.size) (v : Value) : Agr ((d, v) :: fr) (tm.setIfInBounds d v) := fun i u e => by
  rw [Fr.get_cons] at e
  by_cases hi : d = i
  · subst hi; simp at e; subst e; simp [hd]
  · rw [if_neg hi] at e
    rw [Array.getElem?_setIfInBounds_ne hi]; exact h i u e
theorem Agr.ev {fr : Fr} {tm : Array Value} {ds : List Deferred} (h : Agr fr tm) {x : Operand} {v : Value} (e : Fr.ev fr x = some v) : (Act.mk tm ds).eval x = v := by
  cases x with
  | tmp t => simp only [Fr.ev] at e; simp [Act.eval, Array.getD_eq_getD_getElem?, h t v e]
  | const c => simpa [Fr.ev, Act.eval] using e
  | global g => simpa [Fr.ev, Act.eval] using e
  | func f => simpa [Fr.ev, Act.eval] using e
theorem Agr.evs {fr : Fr} {tm : Array Value} {ds : List Deferred} (h : Agr fr tm) : ∀ {xs : List Operand} {vs : List Value}, Fr.evs fr xs = some vs → xs.map (Act.mk tm ds).eval = vs
  | [], _, e => by simp [Fr.evs] at e; simp [e]
  | x :: r, vs, e => by
    simp only [Fr.evs] at e
    cases hx : Fr.ev fr x with
    | none => simp [hx] at e
    | some v =>
      cases hr : Fr.evs fr r with
      | none => simp [hx, hr] at e
      | some us => simp [hx, hr] at e; subst e; simp [h.ev hx, Agr.evs h hr]
def FSub (f g : Fr) : Prop := ∀ i v, Fr.get f i = some v → Fr.get g i = some v
theorem FSub.refl (f : Fr) : FSub f f := fun _ _ e => e
theorem FSub.nil (g : Fr) : FSub [] g := fun _ _ e => by cases e
theorem FSub.cons {f g : Fr} {i : Nat} {v : Value} (h : Fr.get g i = some v) (k : FSub f g) : FSub ((i, v) :: f) g := fun j u e => by
  rw [Fr.get_cons] at e
  by_cases hi : i = j
  · subst hi; simp at e; subst e; exact h
  · rw [if_neg hi] at e; exact k j u e
theorem FSub.agr {f g : Fr} (h : FSub f g) {tm : Array Value} (k : Agr g tm) : Agr f tm := fun i v e => k i v (h i v e)

/-! ### the logic -/
abbrev Post := Exit → Fr → List Deferred → List SP → Prop
def fen (ro : Option Nat) : Fence := { fn := fun _ => True, depth := none, alive := false, round := ro }
theorem fen_fn (ro : Option Nat) (f : FuncId) : (fen ro).fn f := trivial
theorem fen_depth {ro : Option Nat} {p : Prop} (h : (fen ro).depth.isSome = true) : p := by cases h
def toQ (sz : Nat) (w0 : World) (Q : Post) : Exit → Act → World → Prop := fun e a w =>
  ∃ fr L, Q e fr a.defers L ∧ a.tmps.size = sz ∧ Agr fr a.tmps ∧ Sat L w ∧ Kept w0 w
theorem toQ.later {sz : Nat} {w0 w1 : World} {Q : Post} (k : Kept w0 w1) {e : Exit} {a : Act} {w : World} (h : toQ sz w1 Q e a w) : toQ sz w0 Q e a w := by
  obtain ⟨fr, L, q, h1, h2, h3, h4⟩ := h; exact ⟨fr, L, q, h1, h2, h3, k.trans h4⟩
theorem toQ.mono {sz : Nat} {w0 : World} {Q Q' : Post} (h : ∀ e fr ds L, Q e fr ds L → Q' e fr ds L) {e : Exit} {a : Act} {w : World} (k : toQ sz w0 Q e a w) : toQ sz w0 Q' e a w := by
  obtain ⟨fr, L, q, h1⟩ := k; exact ⟨fr, L, h _ _ _ _ q, h1⟩

/-- A piece of code, from a frame and a memory told by lists. -/
def SW (c : Code) (P : Program) (ro : Option Nat) (sz : Nat) (fr : Fr) (ds : List Deferred) (L : List SP) (Q : Post) : Prop :=
  ∀ (tm : Array Value) (w : World) (n : Nat), tm.size = sz → Agr fr tm → Sat L w → c.wpIn (fen ro) n P (toQ sz w Q) ⟨tm, ds⟩ w
/-- The operations of a region, in order. -/
def SO (l : List Oper) (P : Program) (ro : Option Nat) (sz : Nat) (ops : Array Oper) (fr : Fr) (ds : List Deferred) (L : List SP) (Q : Post) : Prop :=
  ∀ (tm : Array Value) (w : World) (n : Nat), tm.size = sz → Agr fr tm → Sat L w → wpListIn (fen ro) n P ops (toQ sz w Q) l ⟨tm, ds⟩ w

section
variable {P : Program} {ro : Option Nat} {sz : Nat} {fr : Fr} {ds : List Deferred} {L : List SP} {Q : Post}

theorem wpListIn_mono {F : Fence} {n : Nat} {ops : Array Oper} {Q Q' : Exit → Act → World → Prop} (hq : ∀ e a w, Q e a w → Q' e a w) : ∀ (l : List Oper) (a : Act) (w : World), wpListIn F n P ops Q l a w → wpListIn F n P ops Q' l a w
  | [], _, _, h => hq _ _ _ h
  | o :: l, a, w, h => by
    unfold wpListIn at *
    split
    · rename_i hw
      rw [if_pos hw] at h
      have h' := Oper.wpIn_mono (K' := wpListIn F n P ops Q' l) (fun a w => wpListIn_mono hq l a w) h
      unfold Oper.wpIn at *
      refine ⟨h'.1, ?_⟩
      have h2 := h'.2
      generalize (o.semAt F.round a.eval).run P w = r at *
      have out : LetsOut Q → LetsOut Q' := fun ⟨a, w, q⟩ => ⟨a, w, hq _ _ _ q⟩
      cases r with
      | ok x w' =>
        cases x <;> simp only [Oper.uponIn] at h2 ⊢ <;>
          first
            | exact h2
            | exact ⟨h2.1, CallsIn.mono h2.2 (fun e w'' he => by cases e <;> first | exact he | exact hq _ _ _ he | exact out he)⟩
            | exact ⟨h2.1, RoundIn.mono h2.2 (fun e w'' he => by cases e <;> first | exact he | exact hq _ _ _ he | exact out he)⟩
      | halt x w' => cases x <;> simp only [Oper.uponIn] at h2 ⊢ <;> first | exact h2 | exact hq _ _ _ h2
    · rename_i hw
      rw [if_neg hw] at h
      exact ⟨h.1, wpListIn_mono hq l _ _ h.2⟩

theorem SW.mono {c : Code} {Q' : Post} (h : SW c P ro sz fr ds L Q) (hq : ∀ e fr ds L, Q e fr ds L → Q' e fr ds L) : SW c P ro sz fr ds L Q' :=
  fun tm w n h1 h2 h3 => wpIn_mono (h tm w n h1 h2 h3) fun _ _ _ k => k.mono hq
theorem sw_frame {c : Code} {f : Fr} (hf : FSub f fr) (h : SW c P ro sz f ds L Q) : SW c P ro sz fr ds L Q :=
  fun tm w n h1 h2 h3 => h tm w n h1 (hf.agr h2) h3
theorem sw_mem {c : Code} {L' : List SP} (hl : ∀ w, Sat L w → Sat L' w) (h : SW c P ro sz fr ds L' Q) : SW c P ro sz fr ds L Q :=
  fun tm w n h1 h2 h3 => h tm w n h1 h2 (hl w h3)
theorem sw_pure {c : Code} {φ : Prop} (hl : ∀ w, Sat L w → φ) (h : φ → SW c P ro sz fr ds L Q) : SW c P ro sz fr ds L Q :=
  fun tm w n h1 h2 h3 => h (hl w h3) tm w n h1 h2 h3
theorem sw_ex {c : Code} {α : Type} {L' : α → List SP} (hl : ∀ w, Sat L w → ∃ x, Sat (L' x) w) (h : ∀ x, SW c P ro sz fr ds (L' x) Q) : SW c P ro sz fr ds L Q :=
  fun tm w n h1 h2 h3 => let ⟨x, hx⟩ := hl w h3; h x tm w n h1 h2 hx
theorem so_mem {ops : Array Oper} {l : List Oper} {L' : List SP} (hl : ∀ w, Sat L w → Sat L' w) (h : SO l P ro sz ops fr ds L' Q) : SO l P ro sz ops fr ds L Q :=
  fun tm w n h1 h2 h3 => h tm w n h1 h2 (hl w h3)
theorem so_pure {ops : Array Oper} {l : List Oper} {φ : Prop} (hl : ∀ w, Sat L w → φ) (h : φ → SO l P ro sz ops fr ds L Q) : SO l P ro sz ops fr ds L Q :=
  fun tm w n h1 h2 h3 => h (hl w h3) tm w n h1 h2 h3
theorem so_ex {ops : Array Oper} {l : List Oper} {α : Type} {L' : α → List SP} (hl : ∀ w, Sat L w → ∃ x, Sat (L' x) w) (h : ∀ x, SO l P ro sz ops fr ds (L' x) Q) : SO l P ro sz ops fr ds L Q :=
  fun tm w n h1 h2 h3 => let ⟨x, hx⟩ := hl w h3; h x tm w n h1 h2 hx

/-! ### control -/
def thenQ (K : Fr → List Deferred → List SP → Prop) (Q : Post) : Post
  | .normal, fr, ds, L => K fr ds L
  | e, fr, ds, L => Q e fr ds L
def blockQ (id : Nat) (Q : Post) : Post
  | .exit i, fr, ds, L => if i = id then Q .normal fr ds L else Q (.exit i) fr ds L
  | e, fr, ds, L => Q e fr ds L
theorem sw_seq {x y : Code} (h : SW x P ro sz fr ds L (thenQ (fun fr ds L => SW y P ro sz fr ds L Q) Q)) : SW (.seq x y) P ro sz fr ds L Q := by
  intro tm w n h1 h2 h3
  refine wpIn_seq (wpIn_mono (h tm w n h1 h2 h3) ?_)
  rintro e a w' ⟨f', L', q, k1, k2, k3, k4⟩
  cases e with
  | normal => exact wpIn_mono ((q : SW y P ro sz f' a.defers L' Q) a.tmps w' n k1 k2 k3) fun _ _ _ k => k.later k4
  | exit id => exact ⟨f', L', q, k1, k2, k3, k4⟩
  | goto l => exact ⟨f', L', q, k1, k2, k3, k4⟩
  | ret => exact ⟨f', L', q, k1, k2, k3, k4⟩
  | panic c => exact ⟨f', L', q, k1, k2, k3, k4⟩
  | outgrown => exact ⟨f', L', q, k1, k2, k3, k4⟩
theorem sw_block {id : Nat} {c : Code} (h : SW c P ro sz fr ds L (blockQ id Q)) : SW (.block id c) P ro sz fr ds L Q := by
  intro tm w n h1 h2 h3
  refine wpIn_block (wpIn_mono (h tm w n h1 h2 h3) ?_)
  rintro e a w' ⟨f', L', q, k1, k2, k3, k4⟩
  cases e with
  | exit i =>
    simp only [blockQ] at q
    simp only [Exit.inBlock]
    split
    · rename_i hi; rw [if_pos hi] at q; exact ⟨f', L', q, k1, k2, k3, k4⟩
    · rename_i hi; rw [if_neg hi] at q; exact ⟨f', L', q, k1, k2, k3, k4⟩
  | _ => exact ⟨f', L', q, k1, k2, k3, k4⟩
theorem sw_skip (h : Q .normal fr ds L) : SW .skip P ro sz fr ds L Q := fun _ w _ h1 h2 h3 => wpIn_skip ⟨fr, L, h, h1, h2, h3, Kept.refl w⟩
theorem sw_label {l : Nat} (h : Q .normal fr ds L) : SW (.label l) P ro sz fr ds L Q := fun _ w _ h1 h2 h3 => wpIn_label ⟨fr, L, h, h1, h2, h3, Kept.refl w⟩
theorem sw_exit {i : Nat} (h : Q (.exit i) fr ds L) : SW (.exit i) P ro sz fr ds L Q := fun _ w _ h1 h2 h3 => wpIn_exit ⟨fr, L, h, h1, h2, h3, Kept.refl w⟩
theorem sw_ret (h : Q .ret fr ds L) : SW .ret P ro sz fr ds L Q := fun _ w _ h1 h2 h3 => wpIn_ret ⟨fr, L, h, h1, h2, h3, Kept.refl w⟩
theorem sw_cond {c : Operand} {x y : Code} {t : Bool} (hc : Fr.ev fr c = some (.bool t)) (ht : t = true → SW x P ro sz fr ds L Q) (hf : t = false → SW y P ro sz fr ds L Q) : SW (.cond c x y) P ro sz fr ds L Q := by
  intro tm w n h1 h2 h3
  refine wpIn_cond_split (h2.ev hc) (fun e => ht e tm w n h1 h2 h3) (fun e => hf e tm w n h1 h2 h3)
theorem sw_true {c : Operand} {x y : Code} {t : Bool} (hc : Fr.ev fr c = some (.bool t)) (e : t = true) (h : SW x P ro sz fr ds L Q) : SW (.cond c x y) P ro sz fr ds L Q :=
  sw_cond hc (fun _ => h) (fun e' => by rw [e] at e'; cases e')
theorem sw_false {c : Operand} {x y : Code} {t : Bool} (hc : Fr.ev fr c = some (.bool t)) (e : t = false) (h : SW y P ro sz fr ds L Q) : SW (.cond c x y) P ro sz fr ds L Q :=
  sw_cond hc (fun e' => by rw [e] at e'; cases e') (fun _ => h)
theorem sw_region {id : Nat} {l : List Oper} (h : SO l P ro sz l.toArray fr ds L Q) : SW (.region id l.toArray false) P ro sz fr ds L Q :=
  fun tm w n h1 h2 h3 => wpIn_region_lit (h tm w n h1 h2 h3)
theorem so_nil {ops : Array Oper} (h : Q .normal fr ds L) : SO [] P ro sz ops fr ds L Q := fun _ w _ h1 h2 h3 => ⟨fr, L, h, h1, h2, h3, Kept.refl w⟩

/-! the posts, step by step -/
theorem q_normal {K : Fr → List Deferred → List SP → Prop} (h : K fr ds L) : thenQ K Q .normal fr ds L := h
theorem q_then_exit {K : Fr → List Deferred → List SP → Prop} {i : Nat} (h : Q (.exit i) fr ds L) : thenQ K Q (.exit i) fr ds L := h
theorem q_then_ret {K : Fr → List Deferred → List SP → Prop} (h : Q .ret fr ds L) : thenQ K Q .ret fr ds L := h
theorem q_block_hit {i : Nat} (h : Q .normal fr ds L) : blockQ i Q (.exit i) fr ds L := by simp only [blockQ, if_true]; exact h
theorem q_block_miss {i j : Nat} (hne : Nat.beq i j = false) (h : Q (.exit i) fr ds L) : blockQ j Q (.exit i) fr ds L := by
  have : i ≠ j := fun e => by subst e; simp at hne
  simp only [blockQ, if_neg this]; exact h
theorem q_block_normal {i : Nat} (h : Q .normal fr ds L) : blockQ i Q .normal fr ds L := h
theorem q_block_ret {i : Nat} (h : Q .ret fr ds L) : blockQ i Q .ret fr ds L := h

/-! ### loops -/
theorem sw_loop {c : Code} {σ : Type} (F : σ → Fr) (M : σ → List SP) (I : σ → Prop) (μ : σ → Nat) (s0 : σ) (h0 : I s0) (hf : FSub (F s0) fr) (hm : ∀ w, Sat L w → Sat (M s0) w)
    (round : ∀ s, I s → SW c P ro sz (F s) ds (M s) (thenQ (fun f' ds' L' => ds' = ds ∧ ∃ s', I s' ∧ μ s' < μ s ∧ FSub (F s') f' ∧ ∀ w, Sat L' w → Sat (M s') w) Q)) : SW (.loop c) P ro sz fr ds L Q := by
  intro tm w n h1 h2 h3 b k cs hro hb hr
  have key : ∀ j s tm w, μ s = j → I s → tm.size = sz → Agr (F s) tm → Sat (M s) w →
      ∃ e a' w', toQ sz w Q e a' w' ∧ ArrivesIn (Machine.fenced P (fen ro)) P (lone (b.atR ⟨tm, ds⟩ (.code c :: .inLoop c :: k)) cs w) b k cs e a' w' := by
    intro j
    induction j using Nat.strongRecOn with
    | _ j ih =>
      intro s tm w hj hI k1 k2 k3
      obtain ⟨e, a₁, w₁, hq, harr⟩ := round s hI tm w n k1 k2 k3 b (.inLoop c :: k) cs hro hb hr
      obtain ⟨f', L', q, g1, g2, g3, g4⟩ := hq
      cases e with
      | normal =>
        obtain ⟨e1, s', i1, i2, i3, i4⟩ := q
        obtain ⟨e₂, a₂, w₂, hq₂, harr₂⟩ := ih (μ s') (hj ▸ i2) s' a₁.tmps w₁ rfl i1 g1 (i3.agr g2) (i4 _ g3)
        have ea : a₁ = ⟨a₁.tmps, ds⟩ := by cases a₁; simp at e1; subst e1; rfl
        refine ⟨e₂, a₂, w₂, hq₂.later g4, .of_steps (StepsIn.trans harr (.one (fenced_calm hb hr rfl) stepR_inLoop)) ?_⟩
        rw [ea]; exact harr₂
      | exit id => exact ⟨_, a₁, w₁, ⟨f', L', q, g1, g2, g3, g4⟩, .pass (x := .inLoop c) rfl (fun _ _ => .inl (by simp)) harr⟩
      | goto l => exact ⟨_, a₁, w₁, ⟨f', L', q, g1, g2, g3, g4⟩, .pass (x := .inLoop c) rfl (fun _ _ => .inl (by simp)) harr⟩
      | ret => exact ⟨_, a₁, w₁, ⟨f', L', q, g1, g2, g3, g4⟩, .pass (x := .inLoop c) rfl (fun _ _ => .inl (by simp)) harr⟩
      | panic ch => exact ⟨_, a₁, w₁, ⟨f', L', q, g1, g2, g3, g4⟩, .pass (x := .inLoop c) rfl (fun _ _ => .inl (by simp)) harr⟩
      | outgrown => exact ⟨_, a₁, w₁, ⟨f', L', q, g1, g2, g3, g4⟩, .pass (x := .inLoop c) rfl (fun _ _ => .inl (by simp)) harr⟩
  obtain ⟨e, a', w', hq, harr⟩ := key _ s0 tm w rfl h0 h1 (hf.agr h2) (hm _ h3)
  exact ⟨e, a', w', hq, .of_steps (.one (fenced_calm hb hr rfl) stepR_loop) harr⟩

/-! ### the posts behind variables -/
class QE (Q : Post) (e : Exit) (K : outParam (Fr → List Deferred → List SP → Prop)) : Prop where
  out : ∀ fr ds L, K fr ds L → Q e fr ds L
class QThen (Q' : Post) (K : outParam (Fr → List Deferred → List SP → Prop)) (Q : outParam Post) : Prop where
  norm : ∀ fr ds L, K fr ds L → Q' .normal fr ds L
  same : ∀ e fr ds L, e ≠ .normal → Q e fr ds L → Q' e fr ds L
class QBlock (Q' : Post) (i : outParam Nat) (Q : outParam Post) : Prop where
  norm : ∀ fr ds L, Q .normal fr ds L → Q' .normal fr ds L
  hit : ∀ fr ds L, Q .normal fr ds L → Q' (.exit i) fr ds L
  same : ∀ e fr ds L, e ≠ .normal → e ≠ .exit i → Q e fr ds L → Q' e fr ds L
class NatNe (i j : Nat) : Prop where
  out : i ≠ j
instance (n : Nat) : NatNe 0 (n + 1) := ⟨by omega⟩
instance (n : Nat) : NatNe (n + 1) 0 := ⟨by omega⟩
instance (m n : Nat) [h : NatNe m n] : NatNe (m + 1) (n + 1) := ⟨by have := h.out; omega⟩
instance QE.then_normal (Q' : Post) (K : Fr → List Deferred → List SP → Prop) (Q : Post) [h : QThen Q' K Q] : QE Q' .normal K := ⟨h.norm⟩
instance QE.then_exit (Q' : Post) (K0 : Fr → List Deferred → List SP → Prop) (Q : Post) (i : Nat) (K : Fr → List Deferred → List SP → Prop) [h : QThen Q' K0 Q] [k : QE Q (.exit i) K] : QE Q' (.exit i) K := ⟨fun fr ds L x => h.same _ _ _ _ (by simp) (k.out fr ds L x)⟩
instance QE.then_ret (Q' : Post) (K0 : Fr → List Deferred → List SP → Prop) (Q : Post) (K : Fr → List Deferred → List SP → Prop) [h : QThen Q' K0 Q] [k : QE Q .ret K] : QE Q' .ret K := ⟨fun fr ds L x => h.same _ _ _ _ (by simp) (k.out fr ds L x)⟩
instance QE.then_goto (Q' : Post) (K0 : Fr → List Deferred → List SP → Prop) (Q : Post) (i : Nat) (K : Fr → List Deferred → List SP → Prop) [h : QThen Q' K0 Q] [k : QE Q (.goto i) K] : QE Q' (.goto i) K := ⟨fun fr ds L x => h.same _ _ _ _ (by simp) (k.out fr ds L x)⟩
instance QE.block_normal (Q' : Post) (i : Nat) (Q : Post) (K : Fr → List Deferred → List SP → Prop) [h : QBlock Q' i Q] [k : QE Q .normal K] : QE Q' .normal K := ⟨fun fr ds L x => h.norm _ _ _ (k.out fr ds L x)⟩
instance (priority := high) QE.block_hit (Q' : Post) (i : Nat) (Q : Post) (K : Fr → List Deferred → List SP → Prop) [h : QBlock Q' i Q] [k : QE Q .normal K] : QE Q' (.exit i) K := ⟨fun fr ds L x => h.hit _ _ _ (k.out fr ds L x)⟩
instance QE.block_miss (Q' : Post) (i j : Nat) (Q : Post) (K : Fr → List Deferred → List SP → Prop) [h : QBlock Q' i Q] [hne : NatNe j i] [k : QE Q (.exit j) K] : QE Q' (.exit j) K :=
  ⟨fun fr ds L x => h.same _ _ _ _ (by simp) (fun e => by injection e with e; exact hne.out e) (k.out fr ds L x)⟩
instance QE.block_ret (Q' : Post) (i : Nat) (Q : Post) (K : Fr → List Deferred → List SP → Prop) [h : QBlock Q' i Q] [k : QE Q .ret K] : QE Q' .ret K := ⟨fun fr ds L x => h.same _ _ _ _ (by simp) (by simp) (k.out fr ds L x)⟩
theorem q_go {e : Exit} {K : Fr → List Deferred → List SP → Prop} [h : QE Q e K] (k : K fr ds L) : Q e fr ds L := h.out _ _ _ k
theorem sw_seq' {x y : Code} (h : ∀ Q', QThen Q' (fun fr ds L => SW y P ro sz fr ds L Q) Q → SW x P ro sz fr ds L Q') : SW (.seq x y) P ro sz fr ds L Q :=
  sw_seq (h _ ⟨fun _ _ _ h => h, fun e _ _ _ hne h => by cases e <;> first | exact h | exact absurd rfl hne⟩)
theorem sw_block' {i : Nat} {c : Code} (h : ∀ Q', QBlock Q' i Q → SW c P ro sz fr ds L Q') : SW (.block i c) P ro sz fr ds L Q :=
  sw_block (h _ ⟨fun _ _ _ h => h, fun _ _ _ h => by simp only [blockQ, if_true]; exact h, fun e _ _ _ hne hne2 h => by
    cases e with
    | exit j => simp only [blockQ]; rw [if_neg (fun e => hne2 (by rw [e]))]; exact h
    | _ => exact h⟩)
theorem sw_loop' {c : Code} {σ : Type} (F : σ → Fr) (M : σ → List SP) (I : σ → Prop) (μ : σ → Nat) (s0 : σ) (h0 : I s0) (hf : FSub (F s0) fr) (hm : ∀ w, Sat L w → Sat (M s0) w)
    (round : ∀ s, I s → ∀ Q', QThen Q' (fun f' ds' L' => ds' = ds ∧ ∃ s', I s' ∧ μ s' < μ s ∧ FSub (F s') f' ∧ ∀ w, Sat L' w → Sat (M s') w) Q → SW c P ro sz (F s) ds (M s) Q') : SW (.loop c) P ro sz fr ds L Q :=
  sw_loop F M I μ s0 h0 hf hm fun s hs => round s hs _ ⟨fun _ _ _ h => h, fun e _ _ _ hne h => by cases e <;> first | exact h | exact absurd rfl hne⟩
end

/-! ### functions -/
/-- What a call of function f comes to, from whatever world L holds of. -/
def FnC (P : Program) (f : Nat) (args : List Value) (L : List SP) (R : Value → List SP → Prop) : Prop :=
  ∀ w, Sat L w → Calls P f args.toArray w fun e w' => ∃ v L', e = .returned v ∧ R v L' ∧ Sat L' w' ∧ Kept w w'
theorem FnC.mono {P : Program} {f : Nat} {args : List Value} {L : List SP} {R R' : Value → List SP → Prop} (h : FnC P f args L R) (k : ∀ v L', R v L' → R' v L') : FnC P f args L R' :=
  fun w hw => (h w hw).mono fun _ _ ⟨v, L', e, r, x⟩ => ⟨v, L', e, k _ _ r, x⟩
theorem FnC.mem {P : Program} {f : Nat} {args : List Value} {L L' : List SP} {R : Value → List SP → Prop} (hl : ∀ w, Sat L w → Sat L' w) (h : FnC P f args L' R) : FnC P f args L R :=
  fun w hw => h w (hl w hw)
theorem FnC.pure {P : Program} {f : Nat} {args : List Value} {L : List SP} {R : Value → List SP → Prop} {φ : Prop} (hl : ∀ w, Sat L w → φ) (h : φ → FnC P f args L R) : FnC P f args L R :=
  fun w hw => h (hl w hw) w hw
/-- The function is there. -/
class Ent (P : Program) (f : Nat) : Prop where
  out : ∀ args w, (callFunc f args).run P w = .ok (.enter f args) w
/-- The marks of loops over functions that have been left. -/
inductive Marks : List Deferred → List SP → List SP → Prop
  | nil (L : List SP) : Marks [] L L
  | cons (r : Nat) (args : Array Value) (ds : List Deferred) (L L1 L2 : List SP) : Put L (pts r (.deferred (some []))) (pts r (.deferred none)) L1 → Marks ds L1 L2 → Marks (⟨.collected r, args⟩ :: ds) L L2
/-- The results. -/
def ResV (P : Program) (fn : Func) (fr : Fr) (L : List SP) (v : Value) : Prop := ∀ tm w, Agr fr tm → Sat L w → (results fn tm).run P w = .ok v w
def bodyQ (P : Program) (fn : Func) (R : Value → List SP → Prop) : Post
  | .normal, fr, ds, L | .ret, fr, ds, L => ∃ v L1 L2, Marks ds L L1 ∧ ResV P fn fr L1 v ∧ (∀ w, Sat L1 w → Sat L2 w) ∧ R v L2
  | _, _, _, _ => False
def retQ (P : Program) (fn : Func) (R : Value → List SP → Prop) (fr : Fr) (ds : List Deferred) (L : List SP) : Prop := bodyQ P fn R .ret fr ds L
instance (P : Program) (fn : Func) (R : Value → List SP → Prop) : QE (bodyQ P fn R) .ret (retQ P fn R) := ⟨fun _ _ _ h => h⟩
instance (P : Program) (fn : Func) (R : Value → List SP → Prop) : QE (bodyQ P fn R) .normal (retQ P fn R) := ⟨fun _ _ _ h => h⟩
theorem marks_run {P : Program} {fn : Func} {tm : Array Value} {R : Ending → World → Prop} {n : Nat} {L1 : List SP} {v : Value} (hv : ∀ w, Sat L1 w → (results fn tm).run P w = .ok v w) :
    ∀ (ds : List Deferred) (L : List SP), Marks ds L L1 → ∀ w, Sat L w → (∀ w', Sat L1 w' → Kept w w' → R (.returned v) w') → LeavesInM (fen none) n P fn tm R ds .returning w := by
  intro ds L hm
  induction hm with
  | nil L =>
    intro w hw hR
    exact ⟨_, hv w hw, hR w hw (Kept.refl w)⟩
  | cons r args ds L La Lb hp _ ih =>
    intro w hw hR
    obtain ⟨L0, p, q⟩ := hp.fwd
    have hs := Sat.perm p hw
    have hb := hs.pts_block
    refine ⟨by simp, .inl ⟨r, _, rfl, run_takeDeferred hb, ih hv _ ?_ fun w' h1 h2 => hR w' h1 ?_⟩⟩
    · refine Sat.perm q (hs.setBlock ?_ fun k hk => ?_)
      · exact World.putObj_heap_same (lt_of_heap hb)
      · exact World.putObj_heap_other hk
    · exact Kept.trans (b := w.putObj r (.deferred none)) ⟨rfl, rfl, rfl, by simp [World.putObj]⟩ h2
theorem fn_intro {P : Program} {f : Nat} {fn : Func} {c : Code} {args : List Value} {L : List SP} {R : Value → List SP → Prop} (hf : P.funcs[f]? = some fn) (hb : fn.body = some c) (hn : args.length ≤ fn.ntmps)
    (h : SW c P none fn.ntmps ((List.range args.length).zip args) [] L (bodyQ P fn R)) : FnC P f args L R := by
  intro w hw
  refine callsIn_wide (n := 0).1 (callsIn_of_wp_marks hf hb trivial ?_)
  refine wpIn_mono (h _ w 0 ?_ ?_ hw) ?_
  · simp; omega
  · intro i v e
    have key : ∀ (l : List Value) (k : Nat), Fr.get ((List.range' k l.length).zip l) i = some v → k ≤ i ∧ l[i - k]? = some v := by
      intro l
      induction l with
      | nil => intro k e; simp [Fr.get] at e
      | cons a l ih =>
        intro k e
        simp only [List.length_cons, List.range'_succ, List.zip_cons_cons, Fr.get_cons] at e
        by_cases hk : k = i
        · subst hk; simpa using e
        · rw [if_neg hk] at e
          obtain ⟨h1, h2⟩ := ih (k + 1) e
          refine ⟨by omega, ?_⟩
          rw [show i - k = (i - (k + 1)) + 1 by omega]; simpa using h2
    rw [List.range_eq_range'] at e
    obtain ⟨_, h2⟩ := key args 0 e
    simp only [Nat.sub_zero] at h2
    rw [Array.getElem?_append_left]
    · simpa using h2
    · have := (List.getElem?_eq_some_iff.1 h2).1; simpa using this
  · rintro e a w' ⟨f', L', q, k1, k2, k3, k4⟩
    have fin : ∀ v L1 L2, Marks a.defers L' L1 → ResV P fn f' L1 v → (∀ w, Sat L1 w → Sat L2 w) → R v L2 →
        LeavesInM (fen none) 0 P fn a.tmps (fun e w' => ∃ v L', e = .returned v ∧ R v L' ∧ Sat L' w' ∧ Kept w w') a.defers .returning w' := fun v L1 L2 m r s t =>
      marks_run (fun w hw => r a.tmps w k2 hw) _ _ m w' k3 fun w2 h1 h2 => ⟨v, L2, rfl, t, s _ h1, k4.trans h2⟩
    cases e with
    | normal => obtain ⟨v, L1, L2, m, r, s, t⟩ := q; exact fin v L1 L2 m r s t
    | ret => obtain ⟨v, L1, L2, m, r, s, t⟩ := q; exact fin v L1 L2 m r s t
    | exit i => exact q.elim
    | goto i => exact q.elim
    | panic c => exact q.elim
    | outgrown => exact q.elim
/-- L' is L with some items left out. -/
class Less (L L' : List SP) : Prop where
  out : ∀ w, Sat L w → Sat L' w
instance (priority := high) Less.refl (L : List SP) : Less L L := ⟨fun _ h => h⟩
theorem holds_cons_mono {A : SP} {L L' : List SP} (k : ∀ h, Holds L h → Holds L' h) : ∀ h, Holds (A :: L) h → Holds (A :: L') h := fun _ H => H.cons_mono k
theorem ret1 {P : Program} {fn : Func} {t : Nat} (hr : fn.results = #[.tmp t]) {fr : Fr} {L : List SP} {v : Value} (hv : Fr.get fr t = some v) : ResV P fn fr L v := fun tm w h _ => by
  rw [results_tmp hr]; simp [Array.getD_eq_getD_getElem?, h t v hv]
theorem ret2 {P : Program} {fn : Func} {t u : Nat} (hr : fn.results = #[.tmp t, .tmp u]) {fr : Fr} {L : List SP} {v x : Value} (hv : Fr.get fr t = some v) (hx : Fr.get fr u = some x) : ResV P fn fr L (.tuple #[v, x]) := fun tm w h _ => by
  rw [results_tmp2 hr]; simp [Array.getD_eq_getD_getElem?, h t v hv, h u x hx]
theorem ret0 {P : Program} {fn : Func} (hr : fn.results = #[]) {fr : Fr} {L : List SP} : ResV P fn fr L (.tuple #[]) := fun tm w _ _ => results_none hr tm P w
end Go.Proofs.YtmhfhfhdblccjaaGreat
/-
  An own logic over the kit's calculus: the rules of plain operations (numbers, tests, variables in memory).
-/
namespace Go.Proofs.YtmhfhfhdblccjaaGreat
open Go Go.RowKit
set_option linter.unusedVariables false

section
variable {P : Program} {ro : Option Nat} {sz : Nat} {fr : Fr} {ds : List Deferred} {L : List SP} {Q : Post} {ops : Array Oper} {l : List Oper} {d : Nat} {ty : TypeId} {pos : String} {aft : Array Edge}

/-! ### one operation -/
theorem so_gen {op : Op} (hdf : ∀ c, op ≠ .defer c)
    (R : Value → List SP → Prop)
    (hrun : ∀ tm w, tm.size = sz → Agr fr tm → Sat L w → ∃ v w' L', (execOp (Act.mk tm ds).eval ⟨some d, op, ty, pos, aft, none⟩).run P w = .ok (.value v) w' ∧ R v L' ∧ Sat L' w' ∧ Kept w w')
    (hd : Nat.blt d sz = true) (k : ∀ v L', R v L' → SO l P ro sz ops ((d, v) :: fr) ds L' Q) : SO (⟨some d, op, ty, pos, aft, none⟩ :: l) P ro sz ops fr ds L Q := by
  intro tm w n h1 h2 h3
  have hd' : d < sz := by simpa [Nat.blt_eq] using hd
  obtain ⟨v, w', L', e, r, s, kp⟩ := hrun tm w h1 h2 h3
  have e' : (Oper.semAt (fen ro).round (Act.mk tm ds).eval ⟨some d, op, ty, pos, aft, none⟩).run P w = .ok (.value v) w' := by
    rw [Oper.semAt_eq _ _ _ hdf]; exact e
  unfold wpListIn
  rw [if_pos (by simp [Region.wanted])]
  refine ⟨fun _ _ => trivial, ?_⟩
  rw [e', Oper.uponIn_value]
  have := k v L' r (tm.setIfInBounds d v) w' n (by simp [h1]) (h2.put (by omega) v) s
  exact wpListIn_mono (fun _ _ _ q => q.later kp) _ _ _ this
theorem so_gen0 {op : Op} (hdf : ∀ c, op ≠ .defer c)
    (R : List SP → Prop)
    (hrun : ∀ tm w, tm.size = sz → Agr fr tm → Sat L w → ∃ w' L', (execOp (Act.mk tm ds).eval ⟨none, op, ty, pos, aft, none⟩).run P w = .ok .skip w' ∧ R L' ∧ Sat L' w' ∧ Kept w w')
    (k : ∀ L', R L' → SO l P ro sz ops fr ds L' Q) : SO (⟨none, op, ty, pos, aft, none⟩ :: l) P ro sz ops fr ds L Q := by
  intro tm w n h1 h2 h3
  obtain ⟨w', L', e, r, s, kp⟩ := hrun tm w h1 h2 h3
  have e' : (Oper.semAt (fen ro).round (Act.mk tm ds).eval ⟨none, op, ty, pos, aft, none⟩).run P w = .ok .skip w' := by
    rw [Oper.semAt_eq _ _ _ hdf]; exact e
  unfold wpListIn
  rw [if_pos (by simp [Region.wanted])]
  refine ⟨fun _ _ => trivial, ?_⟩
  rw [e', Oper.uponIn_skip]
  exact wpListIn_mono (fun _ _ _ q => q.later kp) _ _ _ (k L' r tm w' n h1 h2 s)
theorem so_gen0v {op : Op} (hdf : ∀ c, op ≠ .defer c)
    (R : List SP → Prop)
    (hrun : ∀ tm w, tm.size = sz → Agr fr tm → Sat L w → ∃ v w' L', (execOp (Act.mk tm ds).eval ⟨none, op, ty, pos, aft, none⟩).run P w = .ok (.value v) w' ∧ R L' ∧ Sat L' w' ∧ Kept w w')
    (k : ∀ L', R L' → SO l P ro sz ops fr ds L' Q) : SO (⟨none, op, ty, pos, aft, none⟩ :: l) P ro sz ops fr ds L Q := by
  intro tm w n h1 h2 h3
  obtain ⟨v, w', L', e, r, s, kp⟩ := hrun tm w h1 h2 h3
  have e' : (Oper.semAt (fen ro).round (Act.mk tm ds).eval ⟨none, op, ty, pos, aft, none⟩).run P w = .ok (.value v) w' := by
    rw [Oper.semAt_eq _ _ _ hdf]; exact e
  unfold wpListIn
  rw [if_pos (by simp [Region.wanted])]
  refine ⟨fun _ _ => trivial, ?_⟩
  rw [e', Oper.uponIn_value]
  exact wpListIn_mono (fun _ _ _ q => q.later kp) _ _ _ (k L' r tm w' n h1 h2 s)
/-- a value that leaves the memory alone -/
def VO (P : Program) (ds : List Deferred) (o : Oper) (fr : Fr) (L : List SP) (v : Value) : Prop :=
  (∀ c, o.op ≠ .defer c) ∧ ∀ tm w, Agr fr tm → Sat L w → (execOp (Act.mk tm ds).eval o).run P w = .ok (.value v) w
theorem so_vo {op : Op} {v : Value} (h : VO P ds ⟨some d, op, ty, pos, aft, none⟩ fr L v) (hd : Nat.blt d sz = true) (k : SO l P ro sz ops ((d, v) :: fr) ds L Q) : SO (⟨some d, op, ty, pos, aft, none⟩ :: l) P ro sz ops fr ds L Q :=
  so_gen h.1 (fun u L' => u = v ∧ L' = L) (fun tm w _ h2 h3 => ⟨v, w, L, h.2 tm w h2 h3, ⟨rfl, rfl⟩, h3, Kept.refl w⟩) hd (fun _ _ ⟨e1, e2⟩ => by subst e1; subst e2; exact k)

/-! ### guards -/
theorem so_on {dst : Option Nat} {op : Op} {j t : Nat} {b want : Bool} (ht : ((ops[j]?).bind (·.dst)) = some t) (hb : Fr.get fr t = some (.bool b)) (e : b = want)
    (k : SO (⟨dst, op, ty, pos, aft, none⟩ :: l) P ro sz ops fr ds L Q) : SO (⟨dst, op, ty, pos, aft, some (j, want)⟩ :: l) P ro sz ops fr ds L Q := by
  intro tm w n h1 h2 h3
  have h := k tm w n h1 h2 h3
  unfold wpListIn at h ⊢
  rw [if_pos (by simp [Region.wanted])] at h
  rw [if_pos (by simp [Region.wanted, yielded, ht, h2 t _ hb, e])]
  exact h
theorem so_off {dst : Nat} {op : Op} {j t : Nat} {b want : Bool} (ht : ((ops[j]?).bind (·.dst)) = some t) (hb : Fr.get fr t = some (.bool b)) (e : b = !want) (hd : Nat.blt dst sz = true)
    (k : SO l P ro sz ops ((dst, undef) :: fr) ds L Q) : SO (⟨some dst, op, ty, pos, aft, some (j, want)⟩ :: l) P ro sz ops fr ds L Q := by
  intro tm w n h1 h2 h3
  have hd' : dst < sz := by simpa [Nat.blt_eq] using hd
  unfold wpListIn
  rw [if_neg (by simp [Region.wanted, yielded, ht, h2 t _ hb, e])]
  exact ⟨fun _ _ => trivial, k (tm.setIfInBounds dst undef) w n (by simp [h1]) (h2.put (by omega) _) h3⟩
/-- a guard that is not computed, as the one before it was off -/
theorem so_off_undef {dst : Nat} {op : Op} {j t : Nat} {want : Bool} (ht : ((ops[j]?).bind (·.dst)) = some t) (hb : Fr.get fr t = some undef) (hd : Nat.blt dst sz = true)
    (k : SO l P ro sz ops ((dst, undef) :: fr) ds L Q) : SO (⟨some dst, op, ty, pos, aft, some (j, want)⟩ :: l) P ro sz ops fr ds L Q := by
  intro tm w n h1 h2 h3
  have hd' : dst < sz := by simpa [Nat.blt_eq] using hd
  unfold wpListIn
  rw [if_neg (by simp [Region.wanted, yielded, ht, h2 t _ hb, undef])]
  exact ⟨fun _ _ => trivial, k (tm.setIfInBounds dst undef) w n (by simp [h1]) (h2.put (by omega) _) h3⟩
/-- on both ways, by a test -/
theorem so_split {b : Bool} {l' : List Oper} (ht : b = true → SO l' P ro sz ops fr ds L Q) (hf : b = false → SO l' P ro sz ops fr ds L Q) : SO l' P ro sz ops fr ds L Q := by
  cases b
  · exact hf rfl
  · exact ht rfl

/-! ### copies -/
theorem vo_move {x : Operand} {v : Value} (hx : Fr.ev fr x = some v) : VO P ds ⟨some d, .move x, ty, pos, aft, none⟩ fr L (v) :=
  ⟨(fun c h => by cases h), fun tm w h2 h3 => by simp [execOp, h2.ev hx]⟩
theorem vo_assign {x : Operand} {v : Value} (hx : Fr.ev fr x = some v) : VO P ds ⟨some d, .assign x, ty, pos, aft, none⟩ fr L (v) :=
  ⟨(fun c h => by cases h), fun tm w h2 h3 => by simp [execOp, h2.ev hx]⟩
theorem vo_pick_t {c x y : Operand} {b : Bool} {v : Value} (hc : Fr.ev fr c = some (.bool b)) (e : b = true) (hx : Fr.ev fr x = some v) : VO P ds ⟨some d, .pick c x y, ty, pos, aft, none⟩ fr L (v) :=
  ⟨(fun c h => by cases h), fun tm w h2 h3 => by simp [execOp, h2.ev hc, h2.ev hx, asBool, e]⟩
theorem vo_pick_f {c x y : Operand} {b : Bool} {v : Value} (hc : Fr.ev fr c = some (.bool b)) (e : b = false) (hx : Fr.ev fr y = some v) : VO P ds ⟨some d, .pick c x y, ty, pos, aft, none⟩ fr L (v) :=
  ⟨(fun c h => by cases h), fun tm w h2 h3 => by simp [execOp, h2.ev hc, h2.ev hx, asBool, e]⟩
theorem vo_extract {x : Operand} {vs : Array Value} {i : Nat} {v : Value} (hx : Fr.ev fr x = some (.tuple vs)) (hi : vs[i]? = some v) : VO P ds ⟨some d, .extract x i, ty, pos, aft, none⟩ fr L (v) :=
  ⟨(fun c h => by cases h), fun tm w h2 h3 => by simp [execOp, h2.ev hx, Instr.extract, hi]⟩
theorem vo_makeFunc {g : Nat} {caps : List Operand} {vs : List Value} (hc : Fr.evs fr caps = some vs) : VO P ds ⟨some d, .makeFunc (.func g) #[] caps.toArray, ty, pos, aft, none⟩ fr L (.func (.func g) #[] vs.toArray) :=
  ⟨(fun c h => by cases h), fun tm w h2 h3 => by simp [execOp, Instr.makeFunc, h2.evs (ds := ds) hc]⟩
theorem vo_nilCheck_ptr {x : Operand} {a : Addr} (hx : Fr.ev fr x = some (.pointer (some a))) : VO P ds ⟨some d, .nilCheck x, ty, pos, aft, none⟩ fr L (.pointer (some a)) :=
  ⟨(fun c h => by cases h), fun tm w h2 h3 => by simp [execOp, h2.ev hx]⟩
theorem vo_nilCheck_func {x : Operand} {g : Nat} {f c : Array Value} (hx : Fr.ev fr x = some (.func (.func g) f c)) : VO P ds ⟨some d, .nilCheck x, ty, pos, aft, none⟩ fr L (.func (.func g) f c) :=
  ⟨(fun c h => by cases h), fun tm w h2 h3 => by simp [execOp, h2.ev hx]⟩
/-! ### numbers -/
theorem beq_dec (m n : Int) : (m == n) = decide (m = n) := by by_cases h : m = n <;> simp [h]

theorem wrap_ok {n : Int} (h1 : -9223372036854775808 ≤ n) (h2 : n ≤ 9223372036854775807) : IntKind.i64.wrap n = n := IntWalk.i64_in _ (by omega)
theorem vo_add {x y : Operand} {T T' : TypeId} {m n : Int} (hx : Fr.ev fr x = some (.int .i64 m)) (hy : Fr.ev fr y = some (.int .i64 n)) (hr : -9223372036854775808 ≤ m + n ∧ m + n ≤ 9223372036854775807) : VO P ds ⟨some d, .binOp .add T x y T', ty, pos, aft, none⟩ fr L (.int .i64 (m + n)) :=
  ⟨(fun c h => by cases h), fun tm w h2 h3 => by simp [execOp, h2.ev hx, h2.ev hy, eqGuard, binOp, Op.intArith, wrap_ok hr.1 hr.2]⟩
theorem vo_sub {x y : Operand} {T T' : TypeId} {m n : Int} (hx : Fr.ev fr x = some (.int .i64 m)) (hy : Fr.ev fr y = some (.int .i64 n)) (hr : -9223372036854775808 ≤ m - n ∧ m - n ≤ 9223372036854775807) : VO P ds ⟨some d, .binOp .sub T x y T', ty, pos, aft, none⟩ fr L (.int .i64 (m - n)) :=
  ⟨(fun c h => by cases h), fun tm w h2 h3 => by simp [execOp, h2.ev hx, h2.ev hy, eqGuard, binOp, Op.intArith, wrap_ok hr.1 hr.2]⟩
theorem vo_mul {x y : Operand} {T T' : TypeId} {m n : Int} (hx : Fr.ev fr x = some (.int .i64 m)) (hy : Fr.ev fr y = some (.int .i64 n)) (hr : -9223372036854775808 ≤ m * n ∧ m * n ≤ 9223372036854775807) : VO P ds ⟨some d, .binOp .mul T x y T', ty, pos, aft, none⟩ fr L (.int .i64 (m * n)) :=
  ⟨(fun c h => by cases h), fun tm w h2 h3 => by simp [execOp, h2.ev hx, h2.ev hy, eqGuard, binOp, Op.intArith, wrap_ok hr.1 hr.2]⟩
/-- whatever the kind, wrapped -/
theorem vo_addw {x y : Operand} {T T' : TypeId} {κ : IntKind} {m n : Int} (hx : Fr.ev fr x = some (.int κ m)) (hy : Fr.ev fr y = some (.int κ n)) : VO P ds ⟨some d, .binOp .add T x y T', ty, pos, aft, none⟩ fr L (.int κ (κ.wrap (m + n))) :=
  ⟨(fun c h => by cases h), fun tm w h2 h3 => by simp [execOp, h2.ev hx, h2.ev hy, eqGuard, binOp, Op.intArith]⟩
theorem vo_mulw {x y : Operand} {T T' : TypeId} {κ : IntKind} {m n : Int} (hx : Fr.ev fr x = some (.int κ m)) (hy : Fr.ev fr y = some (.int κ n)) : VO P ds ⟨some d, .binOp .mul T x y T', ty, pos, aft, none⟩ fr L (.int κ (κ.wrap (m * n))) :=
  ⟨(fun c h => by cases h), fun tm w h2 h3 => by simp [execOp, h2.ev hx, h2.ev hy, eqGuard, binOp, Op.intArith]⟩
theorem vo_quo {x y : Operand} {T T' : TypeId} {m n : Int} (hx : Fr.ev fr x = some (.int .i64 m)) (hy : Fr.ev fr y = some (.int .i64 n)) (hr : 0 ≤ m ∧ m ≤ 9223372036854775807 ∧ 0 < n) : VO P ds ⟨some d, .binOp .quo T x y T', ty, pos, aft, none⟩ fr L (.int .i64 (m / n)) :=
  ⟨(fun c h => by cases h), fun tm w h2 h3 => by
    have h0 : 0 ≤ m / n := Int.ediv_nonneg hr.1 (by omega)
    have h1 : m / n ≤ m := Int.ediv_le_self n hr.1
    have hne : n ≠ 0 := by omega
    simp [execOp, h2.ev hx, h2.ev hy, eqGuard, binOp, Op.intDiv, hne, Int.tdiv_eq_ediv_of_nonneg hr.1, wrap_ok (n := m / n) (by omega) (by omega)]⟩
theorem vo_rem {x y : Operand} {T T' : TypeId} {m n : Int} (hx : Fr.ev fr x = some (.int .i64 m)) (hy : Fr.ev fr y = some (.int .i64 n)) (hr : 0 ≤ m ∧ 0 < n) : VO P ds ⟨some d, .binOp .rem T x y T', ty, pos, aft, none⟩ fr L (.int .i64 (m % n)) :=
  ⟨(fun c h => by cases h), fun tm w h2 h3 => by
    have hne : n ≠ 0 := by omega
    simp [execOp, h2.ev hx, h2.ev hy, eqGuard, binOp, Op.intDiv, hne, Int.tmod_eq_emod_of_nonneg hr.1]⟩
theorem vo_lss {x y : Operand} {T T' : TypeId} {κ : IntKind} {m n : Int} (hx : Fr.ev fr x = some (.int κ m)) (hy : Fr.ev fr y = some (.int κ n)) : VO P ds ⟨some d, .binOp .lss T x y T', ty, pos, aft, none⟩ fr L (.bool (decide (m < n))) :=
  ⟨(fun c h => by cases h), fun tm w h2 h3 => by simp [execOp, h2.ev hx, h2.ev hy, eqGuard, binOp, Op.intCmp]⟩
theorem vo_leq {x y : Operand} {T T' : TypeId} {κ : IntKind} {m n : Int} (hx : Fr.ev fr x = some (.int κ m)) (hy : Fr.ev fr y = some (.int κ n)) : VO P ds ⟨some d, .binOp .leq T x y T', ty, pos, aft, none⟩ fr L (.bool (decide (m ≤ n))) :=
  ⟨(fun c h => by cases h), fun tm w h2 h3 => by simp [execOp, h2.ev hx, h2.ev hy, eqGuard, binOp, Op.intCmp]⟩
theorem vo_gtr {x y : Operand} {T T' : TypeId} {κ : IntKind} {m n : Int} (hx : Fr.ev fr x = some (.int κ m)) (hy : Fr.ev fr y = some (.int κ n)) : VO P ds ⟨some d, .binOp .gtr T x y T', ty, pos, aft, none⟩ fr L (.bool (decide (n < m))) :=
  ⟨(fun c h => by cases h), fun tm w h2 h3 => by simp [execOp, h2.ev hx, h2.ev hy, eqGuard, binOp, Op.intCmp]⟩
theorem vo_geq {x y : Operand} {T T' : TypeId} {κ : IntKind} {m n : Int} (hx : Fr.ev fr x = some (.int κ m)) (hy : Fr.ev fr y = some (.int κ n)) : VO P ds ⟨some d, .binOp .geq T x y T', ty, pos, aft, none⟩ fr L (.bool (decide (n ≤ m))) :=
  ⟨(fun c h => by cases h), fun tm w h2 h3 => by simp [execOp, h2.ev hx, h2.ev hy, eqGuard, binOp, Op.intCmp]⟩
theorem vo_eql {x y : Operand} {T T' : TypeId} {κ : IntKind} {m n : Int} (hx : Fr.ev fr x = some (.int κ m)) (hy : Fr.ev fr y = some (.int κ n)) : VO P ds ⟨some d, .binOp .eql T x y T', ty, pos, aft, none⟩ fr L (.bool (decide (m = n))) :=
  ⟨(fun c h => by cases h), fun tm w h2 h3 => by simp [execOp, h2.ev hx, h2.ev hy, eqGuard, binOp, Op.intCmp, beq_dec]⟩
theorem vo_neq {x y : Operand} {T T' : TypeId} {κ : IntKind} {m n : Int} (hx : Fr.ev fr x = some (.int κ m)) (hy : Fr.ev fr y = some (.int κ n)) : VO P ds ⟨some d, .binOp .neq T x y T', ty, pos, aft, none⟩ fr L (.bool (decide (m ≠ n))) :=
  ⟨(fun c h => by cases h), fun tm w h2 h3 => by simp [execOp, h2.ev hx, h2.ev hy, eqGuard, binOp, Op.intCmp, bne, beq_dec]⟩
theorem vo_neg {x : Operand} {T : TypeId} {n : Int} (hx : Fr.ev fr x = some (.int .i64 n)) (hr : -9223372036854775807 ≤ n ∧ n ≤ 9223372036854775808) : VO P ds ⟨some d, .unOp .neg T x, ty, pos, aft, none⟩ fr L (.int .i64 (-n)) :=
  ⟨(fun c h => by cases h), fun tm w h2 h3 => by simp [execOp, h2.ev hx, Op.unary, Op.intArith, wrap_ok (n := -n) (by omega) (by omega)]⟩
theorem vo_not {x : Operand} {T : TypeId} {b : Bool} (hx : Fr.ev fr x = some (.bool b)) : VO P ds ⟨some d, .unOp .not T x, ty, pos, aft, none⟩ fr L (.bool (!b)) :=
  ⟨(fun c h => by cases h), fun tm w h2 h3 => by simp [execOp, h2.ev hx, Op.unary]⟩
end
end Go.Proofs.YtmhfhfhdblccjaaGreat
/-
  An own logic over the kit's calculus: variables in memory, slices.
-/
namespace Go.Proofs.YtmhfhfhdblccjaaGreat
open Go Go.RowKit
set_option linter.unusedVariables false

/-! ### what a type is -/
class TyU (P : Program) (T : TypeId) (u : outParam TypeDesc) : Prop where
  out : P.underlying T = some u
class TyI (P : Program) (T : TypeId) (agg : outParam Bool) (z : outParam Value) (size bytes : outParam Nat) : Prop where
  agg : ∀ w, (isAgg T).run P w = .ok agg w
  info : ∃ i, P.info? T = some i ∧ i.zero = some z ∧ i.size = size ∧ i.bytes = bytes
theorem TyI.sizeOf {P : Program} {T : TypeId} {agg : Bool} {z : Value} {size bytes : Nat} (h : TyI P T agg z size bytes) (w : World) : (Go.sizeOf T).run P w = .ok size w := by
  obtain ⟨i, h1, h2, h3, h4⟩ := h.info
  simp [Go.sizeOf, typeInfo, h1, h3]
theorem TyI.zeroValue {P : Program} {T : TypeId} {agg : Bool} {z : Value} {size bytes : Nat} (h : TyI P T agg z size bytes) (w : World) : (Go.zeroValue T).run P w = .ok z w := by
  obtain ⟨i, h1, h2, h3, h4⟩ := h.info
  simp [Go.zeroValue, typeInfo, h1, h2]
/-- Field f of the struct type T begins at off and is of type ft. -/
class TyF (P : Program) (T : TypeId) (f : Nat) (off : outParam Nat) : Prop where
  out : ∃ fs fld, P.underlying T = some (.struct fs) ∧ fs[f]? = some fld ∧ fld.offset = off ∧ ∃ k, k ≠ 0 ∧ ∀ w, (Go.sizeOf fld.type).run P w = .ok k w

/-- How the elements of a slice lie in cells. -/
class Enc (α : Type) where
  k : Nat
  cells : α → List Value
  val : α → Value
  len : ∀ x, (cells x).length = k
  one : ∀ x, ∀ u ∈ cells x, u.oneCell' = true
  vc : ∀ x, (val x).cells = (cells x).toArray
  pos : 0 < k
instance encInt : Enc Int where
  k := 1
  cells x := [.int .i64 x]
  val x := .int .i64 x
  len _ := rfl
  one _ u h := by simp at h; subst h; rfl
  vc _ := rfl
  pos := by decide
instance encBool : Enc Bool where
  k := 1
  cells x := [.bool x]
  val x := .bool x
  len _ := rfl
  one _ u h := by simp at h; subst h; rfl
  vc _ := rfl
  pos := by decide
/-- A byte. -/
instance encU8 : Enc UInt8 where
  k := 1
  cells x := [.int .u8 x.toNat]
  val x := .int .u8 x.toNat
  len _ := rfl
  one _ u h := by simp at h; subst h; rfl
  vc _ := rfl
  pos := by decide
/-- A slice's value, as an element. -/
structure SlV where
  v : Value
  is : ∃ a n c, v = .slice a n c
instance encSl : Enc SlV where
  k := 1
  cells x := [x.v]
  val x := x.v
  len _ := rfl
  one x u h := by simp at h; subst h; obtain ⟨a, n, c, e⟩ := x.is; rw [e]; rfl
  vc x := by obtain ⟨a, n, c, e⟩ := x.is; simp [e, Value.cells]
  pos := by decide

/-! ### slices that are read -/
def IsSl {α : Type} (enc : Enc α) (h : PH) (v : Value) (xs : List α) : Prop :=
  ∃ a c, v = .slice a xs.length c ∧ xs.length ≤ c ∧ xs.length ≤ 140737488355328 ∧
    (xs ≠ [] → ∃ b off cs T fz, a = some ⟨b, off, none⟩ ∧ h b = some (.cells cs T fz) ∧ ∀ j x, xs[j]? = some x → ∀ i u, (enc.cells x)[i]? = some u → cs[off + j * enc.k + i]? = some u)
theorem IsSl.up {α : Type} {enc : Enc α} {h h' : PH} {v : Value} {xs : List α} (k : IsSl enc h v xs) (l : h.le h') : IsSl enc h' v xs := by
  obtain ⟨a, c, h1, h2, h3, h4⟩ := k
  refine ⟨a, c, h1, h2, h3, fun hne => ?_⟩
  obtain ⟨b, off, cs, T, fz, g1, g2, g3⟩ := h4 hne
  exact ⟨b, off, cs, T, fz, g1, l _ _ g2, g3⟩
/-- The slice v reads as xs. -/
class RdSl (L : List SP) (v : Value) (α : outParam Type) (enc : outParam (Enc α)) (xs : outParam (List α)) : Prop where
  out : ∀ h, Holds L h → IsSl enc h v xs
instance (priority := low) RdSl.there (A : SP) (L : List SP) (v : Value) (α : Type) (enc : Enc α) (xs : List α) [k : RdSl L v α enc xs] : RdSl (A :: L) v α enc xs := ⟨fun _ H => k.out _ H.tail⟩
theorem RdSl.up {L0 L : List SP} {v : Value} {α : Type} {enc : Enc α} {xs : List α} (k : RdSl L0 v α enc xs) (s : Suf L0 L) : RdSl L v α enc xs := by
  obtain ⟨M, e⟩ := s.out; subst e; exact ⟨fun _ H => k.out _ (Holds.suffix M H)⟩
theorem RdSl.at {L : List SP} {v : Value} {α : Type} {enc : Enc α} {xs : List α} (k : RdSl L v α enc xs) {w : World} (H : Sat L w) : IsSl enc (heapOf w) v xs := k.out _ H
theorem RdSl.len {L : List SP} {v : Value} {α : Type} {enc : Enc α} {xs : List α} (k : RdSl L v α enc xs) (w : World) (H : Sat L w) : xs.length ≤ 140737488355328 := by
  obtain ⟨a, c, h1, h2, h3, h4⟩ := k.at H; exact h3
instance RdSl.nil (L : List SP) : RdSl L (.slice none 0 0) Int encInt [] := ⟨fun _ _ => ⟨none, 0, rfl, Nat.le_refl _, by simp, fun h => absurd rfl h⟩⟩

/-! ### slices that are the call's own -/
def ownSl (T : TypeId) {α : Type} (enc : Enc α) (v : Value) (xs : List α) : SP := fun h =>
  xs.length ≤ 140737488355328 ∧ ((∃ a, v = .slice a 0 0 ∧ xs = []) ∨
    ∃ b c cs, v = .slice (some ⟨b, 0, none⟩) xs.length c ∧ h b = some (.cells cs T (0, 0)) ∧ xs.length ≤ c ∧ cs.size = c * enc.k ∧ ∀ j x, xs[j]? = some x → ∀ i u, (enc.cells x)[i]? = some u → cs[j * enc.k + i]? = some u)
theorem ownSl.isSl {T : TypeId} {α : Type} {enc : Enc α} {v : Value} {xs : List α} {h : PH} (k : ownSl T enc v xs h) : IsSl enc h v xs := by
  obtain ⟨h0, ⟨a, e, rfl⟩ | ⟨b, c, cs, e, h1, h2, h3, h4⟩⟩ := k
  · exact ⟨a, 0, e, Nat.le_refl _, by simp, fun h => absurd rfl h⟩
  · exact ⟨some ⟨b, 0, none⟩, c, e, h2, h0, fun _ => ⟨b, 0, cs, T, _, rfl, h1, fun j x hx i u hu => by simpa using h4 j x hx i u hu⟩⟩
instance (priority := high) RdSl.own (T : TypeId) (α : Type) (enc : Enc α) (v : Value) (xs : List α) (L : List SP) : RdSl (ownSl T enc v xs :: L) v α enc xs :=
  ⟨fun _ H => by obtain ⟨h1, k, l⟩ := H.head; exact k.isSl.up l⟩
theorem sat_own_nil (T : TypeId) {α : Type} (enc : Enc α) (a : Option Addr) {L : List SP} {w : World} (H : Sat L w) : Sat (ownSl T enc (.slice a 0 0) [] :: L) w :=
  ⟨fun _ => none, heapOf w, ⟨by simp, .inl ⟨a, rfl, rfl⟩⟩, H, fun _ => .inl rfl, (fun _ _ e => by cases e), PH.le.refl _⟩
/-- The item ownSl T enc v xs of L. -/
class Own (L : List SP) (v : Value) (T : outParam TypeId) (α : outParam Type) (enc : outParam (Enc α)) (xs : outParam (List α)) : Prop where
  out : ∃ L0, L.Perm (ownSl T enc v xs :: L0)
instance (priority := high) Own.here (T : TypeId) (α : Type) (enc : Enc α) (v : Value) (xs : List α) (L : List SP) : Own (ownSl T enc v xs :: L) v T α enc xs := ⟨L, .refl _⟩
instance (priority := low) Own.there (A : SP) (L : List SP) (v : Value) (T : TypeId) (α : Type) (enc : Enc α) (xs : List α) [h : Own L v T α enc xs] : Own (A :: L) v T α enc xs := by
  obtain ⟨L0, p⟩ := h.out
  exact ⟨A :: L0, (List.Perm.cons A p).trans (.swap _ _ _)⟩
/-- The address of cell o of element j of the slice v (k cells an element). -/
def elt (k : Nat) (v : Value) (j o : Nat) : Value := match v with
  | .slice (some a) _ _ => .pointer (some ⟨a.block, a.off + j * k + o, none⟩)
  | _ => undef
theorem IsSl.elt {α : Type} {enc : Enc α} {h : PH} {v : Value} {xs : List α} (k : IsSl enc h v xs) {j : Nat} {x : α} (hx : xs[j]? = some x) :
    ∃ b off cs T fz c, v = .slice (some ⟨b, off, none⟩) xs.length c ∧ h b = some (.cells cs T fz) ∧ ∀ i u, (enc.cells x)[i]? = some u → cs[off + j * enc.k + i]? = some u := by
  obtain ⟨a, c, h1, h2, h3, h4⟩ := k
  have hne : xs ≠ [] := fun e => by subst e; simp at hx
  obtain ⟨b, off, cs, T, fz, g1, g2, g3⟩ := h4 hne
  exact ⟨b, off, cs, T, fz, c, by rw [h1, g1], g2, g3 j x hx⟩
class LSet (cs : List Value) (o : Nat) (u : Value) (cs' : outParam (List Value)) : Prop where
  out : o < cs.length ∧ cs' = cs.set o u
instance LSet.zero (c u : Value) (cs : List Value) : LSet (c :: cs) 0 u (u :: cs) := ⟨by simp, rfl⟩
instance LSet.succ (c u : Value) (o : Nat) (cs cs' : List Value) [h : LSet cs o u cs'] : LSet (c :: cs) (o + 1) u (c :: cs') := ⟨by have := h.out.1; simp; omega, by rw [h.out.2]; rfl⟩

theorem cell_of_block {w : World} {b : Nat} {cs : Array Value} {T : TypeId} {fz : Nat × Nat} (h : w.heap[b]? = some (.cells cs T fz)) (o : Nat) : w.cell? ⟨b, o, none⟩ = cs[o]? := by
  simp [World.cell?, h]
theorem frozen_of_block {w : World} {b : Nat} {cs : Array Value} {T : TypeId} (h : w.heap[b]? = some (.cells cs T (0, 0))) (o : Nat) : w.frozen? ⟨b, o, none⟩ = false := by
  simp [World.frozen?, h]
theorem run_loadVar1 {P : Program} {w : World} {T : TypeId} (ha : (isAgg T).run P w = .ok false w) {a : Addr} {u : Value} (hc : w.cell? a = some u) : (loadVar T a).run P w = .ok u w := by
  simp [loadVar, ha, hc]
theorem run_loadVarN {P : Program} {w : World} {T : TypeId} {k : Nat} (ha : (isAgg T).run P w = .ok true w) (hk : (sizeOf T).run P w = .ok k w) {b off : Nat} {cs : List Value} (hl : cs.length = k) (hc : ∀ j u, cs[j]? = some u → w.cell? ⟨b, off + j, none⟩ = some u) :
    (loadVar T ⟨b, off, none⟩).run P w = .ok (.agg cs.toArray) w := by
  have h := run_loadCells_list (P := P) w ⟨b, off, none⟩ cs (fun j u e => by
    have : (⟨b, off, none⟩ : Addr).add j = ⟨b, off + j, none⟩ := by unfold Addr.add; split <;> simp_all
    rw [this]; exact hc j u e)
  rw [hl] at h
  simp [loadVar, ha, hk, h]
theorem addr_add (b off j : Nat) : (⟨b, off, none⟩ : Addr).add j = ⟨b, off + j, none⟩ := by unfold Addr.add; split <;> simp_all
theorem set_kept (w : World) (a : Addr) (u : Value) : Kept w (w.setCell a u) := ⟨rfl, rfl, rfl, by simp [World.setCell]⟩
theorem alloc_kept (w : World) (o : Obj) : Kept w (w.alloc o) := ⟨rfl, rfl, rfl, by simp⟩
theorem setCell_heap (w : World) (b o : Nat) (u : Value) (cs : Array Value) (T : TypeId) (fz : Nat × Nat) (h : w.heap[b]? = some (.cells cs T fz)) : (w.setCell ⟨b, o, none⟩ u).heap[b]? = some (.cells (cs.setIfInBounds o u) T fz) := by
  have hlt := lt_of_heap h
  simp only [World.setCell, Array.getElem?_modify, if_true, h]
  simp
theorem run_storeVar1 {P : Program} {w : World} {T : TypeId} (hk : (sizeOf T).run P w = .ok 1 w) {b o : Nat} {cs : Array Value} {E : TypeId} (hb : w.heap[b]? = some (.cells cs E (0, 0))) (ho : o < cs.size) {u : Value} (hu : u.oneCell' = true) :
    (storeVar T ⟨b, o, none⟩ u).run P w = .ok () (w.setCell ⟨b, o, none⟩ u) := by
  have hcs : u.cells = #[u] := by cases u <;> first | rfl | (simp [Value.oneCell'] at hu)
  have hs : (store ⟨b, o, none⟩ u).run P w = .ok () (w.setCell ⟨b, o, none⟩ u) := by
    rw [run_store P w _ u _ hu, cell_of_block hb, frozen_of_block hb]
    simp [ho]
  have e0 : (⟨b, o, none⟩ : Addr).add 0 = ⟨b, o, none⟩ := rfl
  simp [storeVar, hk, hcs, storeCells, e0, hs]
/-- a store of any size -/
theorem run_storeVarN {P : Program} {w : World} {T : TypeId} {vs : List Value} (hk : (sizeOf T).run P w = .ok vs.length w) {b o : Nat} {cs : Array Value} {E : TypeId} (hb : w.heap[b]? = some (.cells cs E (0, 0))) (ho : o + vs.length ≤ cs.size)
    {u : Value} (hu : u.cells = vs.toArray) (h1 : ∀ x ∈ vs, x.oneCell' = true) :
    (storeVar T ⟨b, o, none⟩ u).run P w = .ok () (w.setRow b (cs.toList.take o ++ vs ++ cs.toList.drop (o + vs.length)).toArray) := by
  have h := run_storeCells_at P b o E vs 0 cs w hb (by simpa using ho) h1
  simp only [Nat.add_zero] at h
  simp [storeVar, hk, hu, h]

section
variable {P : Program} {ro : Option Nat} {sz : Nat} {fr : Fr} {ds : List Deferred} {L : List SP} {Q : Post} {ops : Array Oper} {l : List Oper} {d : Nat} {ty : TypeId} {pos : String} {aft : Array Edge}

theorem Cl.block {b : Nat} {T : TypeId} {cs : List Value} (h : Cl L b T cs) {w : World} (H : Sat L w) : w.heap[b]? = some (.cells cs.toArray T (0, 0)) := by
  obtain ⟨L0, p⟩ := h.out; exact (Sat.perm p H).pts_block

/-! ### variables in memory -/
theorem vo_fieldAddr {x : Operand} {S f b off : Nat} (hx : Fr.ev fr x = some (.pointer (some ⟨b, 0, none⟩))) [h : TyF P S f off] : VO P ds ⟨some d, .fieldAddr S x f, ty, pos, aft, none⟩ fr L (.pointer (some ⟨b, off, none⟩)) :=
  ⟨(fun c h => by cases h), fun tm w h2 h3 => by
    obtain ⟨fs, fld, e1, e2, e3, n, e4, e5⟩ := h.out
    simp [execOp, h2.ev hx, Instr.fieldAt, run_underlying e1, e2, Instr.sureAddr, fieldPlace, e5, e4, e3, addr_add]⟩
theorem vo_fieldAddr' {x : Operand} {S f b o off : Nat} (hx : Fr.ev fr x = some (.pointer (some ⟨b, o, none⟩))) [h : TyF P S f off] : VO P ds ⟨some d, .fieldAddr S x f, ty, pos, aft, none⟩ fr L (.pointer (some ⟨b, o + off, none⟩)) :=
  ⟨(fun c h => by cases h), fun tm w h2 h3 => by
    obtain ⟨fs, fld, e1, e2, e3, n, e4, e5⟩ := h.out
    simp [execOp, h2.ev hx, Instr.fieldAt, run_underlying e1, e2, Instr.sureAddr, fieldPlace, e5, e4, e3, addr_add]⟩
theorem vo_load {x : Operand} {T b o : Nat} {z u : Value} {size bytes E : Nat} {cs : List Value} (hx : Fr.ev fr x = some (.pointer (some ⟨b, o, none⟩))) [ht : TyI P T false z size bytes] [hc : Cl L b E cs] (hu : cs[o]? = some u) : VO P ds ⟨some d, .load T x, ty, pos, aft, none⟩ fr L (u) :=
  ⟨(fun c h => by cases h), fun tm w h2 h3 => by
    have hb := hc.block h3
    have := run_loadVar1 (P := P) (ht.agg w) (a := ⟨b, o, none⟩) (u := u) (by rw [cell_of_block hb]; simpa using hu)
    simp [execOp, h2.ev hx, Instr.loadAt, Instr.sureAddr, this]⟩
theorem vo_load_all {x : Operand} {T b : Nat} {z : Value} {size bytes E : Nat} {cs : List Value} (hx : Fr.ev fr x = some (.pointer (some ⟨b, 0, none⟩))) [ht : TyI P T true z size bytes] [hc : Cl L b E cs] (hu : Nat.beq cs.length size = true) : VO P ds ⟨some d, .load T x, ty, pos, aft, none⟩ fr L (.agg cs.toArray) :=
  ⟨(fun c h => by cases h), fun tm w h2 h3 => by
    have hb := hc.block h3
    have := run_loadVarN (P := P) (ht.agg w) (ht.sizeOf w) (b := b) (off := 0) (cs := cs) (Nat.eq_of_beq_eq_true hu) (fun j u e => by rw [cell_of_block hb]; simpa using e)
    simp [execOp, h2.ev hx, Instr.loadAt, Instr.sureAddr, this]⟩
theorem vo_load_part {x : Operand} {T b o : Nat} {z : Value} {size bytes E : Nat} {cs : List Value} (hx : Fr.ev fr x = some (.pointer (some ⟨b, o, none⟩))) [ht : TyI P T true z size bytes] [hc : Cl L b E cs] (hu : Nat.ble (o + size) cs.length = true) : VO P ds ⟨some d, .load T x, ty, pos, aft, none⟩ fr L (.agg ((cs.drop o).take size).toArray) :=
  ⟨(fun c h => by cases h), fun tm w h2 h3 => by
    have hb := hc.block h3
    have hu' : o + size ≤ cs.length := Nat.le_of_ble_eq_true hu
    have := run_loadVarN (P := P) (ht.agg w) (ht.sizeOf w) (b := b) (off := o) (cs := (cs.drop o).take size) (by simp; omega) (fun j u e => by
      rw [cell_of_block hb]
      rw [List.getElem?_take] at e
      split at e
      · simpa using e
      · cases e)
    simp [execOp, h2.ev hx, Instr.loadAt, Instr.sureAddr, this]⟩
theorem ClSet.run {b : Nat} {cs' : List Value} {L' : List SP} (h : ClSet L b cs' L') {w w' : World} (H : Sat L w) (hw : ∀ T cs, w.heap[b]? = some (.cells cs T (0, 0)) → w'.heap[b]? = some (.cells cs'.toArray T (0, 0)))
    (hr : ∀ k, k ≠ b → w'.heap[k]? = w.heap[k]?) : Sat L' w' := by
  obtain ⟨T, cs, L0, p, q⟩ := h.out
  have hs := Sat.perm p H
  exact Sat.perm q (hs.setBlock (hw T _ hs.pts_block) hr)
theorem so_store {x y : Operand} {T b o : Nat} {z u : Value} {bytes E : Nat} {agg : Bool} {cs cs' : List Value} {L' : List SP} (hx : Fr.ev fr x = some (.pointer (some ⟨b, o, none⟩))) (hy : Fr.ev fr y = some u) (hu : u.oneCell' = true) [ht : TyI P T agg z 1 bytes] [hc : Cl L b E cs] [hs : LSet cs o u cs'] [hl : ClSet L b cs' L']
    (k : SO l P ro sz ops fr ds L' Q) : SO (⟨none, .store T x y, ty, pos, aft, none⟩ :: l) P ro sz ops fr ds L Q :=
  so_gen0 (fun c h => by cases h) (fun M => M = L') (fun tm w h1 h2 h3 => by
    have hb := hc.block h3
    refine ⟨w.setCell ⟨b, o, none⟩ u, L', ?_, rfl, hl.run h3 (fun T' cs1 e => ?_) (fun k hk => Below.heap_setCell _ _ _ _ hk), set_kept _ _ _⟩
    · have := run_storeVar1 (P := P) (ht.sizeOf w) hb (by simpa using hs.out.1) hu
      simp [execOp, h2.ev hx, h2.ev hy, Instr.storeAt, Instr.sureAddr, this]
    · rw [setCell_heap w b o u _ _ _ e]
      rw [hb] at e; injection e with e; injection e with e1 e2; subst e1; subst e2
      simp [hs.out.2]) (fun _ e => by subst e; exact k)
/-- the whole variable -/
theorem so_store_all {x y : Operand} {T b : Nat} {z u : Value} {size bytes E : Nat} {agg : Bool} {cs cs' : List Value} {L' : List SP} (hx : Fr.ev fr x = some (.pointer (some ⟨b, 0, none⟩))) (hy : Fr.ev fr y = some (.agg cs'.toArray)) (hu : cs'.all (·.oneCell') = true) [ht : TyI P T agg z size bytes] (hl1 : Nat.beq cs'.length size = true) [hc : Cl L b E cs] (hl2 : Nat.beq cs.length size = true) [hl : ClSet L b cs' L']
    (k : SO l P ro sz ops fr ds L' Q) : SO (⟨none, .store T x y, ty, pos, aft, none⟩ :: l) P ro sz ops fr ds L Q :=
  so_gen0 (fun c h => by cases h) (fun M => M = L') (fun tm w h1 h2 h3 => by
    have hb := hc.block h3
    have e1 := Nat.eq_of_beq_eq_true hl1
    have e2 := Nat.eq_of_beq_eq_true hl2
    have hst := run_storeVarN (P := P) (T := T) (vs := cs') (by rw [e1]; exact ht.sizeOf w) hb (o := 0) (by simp; omega) (u := .agg cs'.toArray) (by simp [Value.cells]) (by simpa using hu)
    have hrow : ([] ++ cs' ++ (cs.toArray.toList.drop (0 + cs'.length))).toArray = cs'.toArray := by
      rw [List.drop_of_length_le (by simp; omega)]; simp
    simp only [List.take_zero] at hst
    rw [hrow] at hst
    refine ⟨_, L', (by simp [execOp, h2.ev hx, h2.ev hy, Instr.storeAt, Instr.sureAddr, hst]; rfl), rfl, hl.run h3 (fun T' cs1 e => ?_) (fun k hk => ?_), ?_⟩
    · exact setRow_heap w b cs1 _ T' _ e
    · simp [World.setRow, Array.getElem?_modify, Ne.symm hk]
    · exact ⟨rfl, rfl, rfl, by simp [World.setRow]⟩) (fun _ e => by subst e; exact k)
theorem so_box {x : Operand} {E : Nat} {u : Value} {cs : List Value} (hx : Fr.ev fr x = some u) (hu : u.cells = cs.toArray) (hd : Nat.blt d sz = true)
    (k : ∀ b, SO l P ro sz ops ((d, .pointer (some ⟨b, 0, none⟩)) :: fr) ds (cl b E cs :: L) Q) : SO (⟨some d, .box E x, ty, pos, aft, none⟩ :: l) P ro sz ops fr ds L Q :=
  so_gen (fun c h => by cases h) (fun v L' => ∃ b, v = .pointer (some ⟨b, 0, none⟩) ∧ L' = cl b E cs :: L) (fun tm w h1 h2 h3 =>
    ⟨_, w.alloc (.cells u.cells E), _, by simp [execOp, h2.ev hx, Instr.box, newVar, newRow], ⟨w.heap.size, rfl, rfl⟩, by rw [hu]; exact h3.alloc rfl, alloc_kept w _⟩) hd
    (fun v L' ⟨b, e1, e2⟩ => by subst e1; subst e2; exact k b)
theorem so_alloc {E : Nat} {z : Value} {agg : Bool} {size bytes : Nat} {cs : List Value} [ht : TyI P E agg z size bytes] (hu : z.cells = cs.toArray) (hd : Nat.blt d sz = true)
    (k : ∀ b, SO l P ro sz ops ((d, .pointer (some ⟨b, 0, none⟩)) :: fr) ds (cl b E cs :: L) Q) : SO (⟨some d, .alloc E, ty, pos, aft, none⟩ :: l) P ro sz ops fr ds L Q :=
  so_gen (fun c h => by cases h) (fun v L' => ∃ b, v = .pointer (some ⟨b, 0, none⟩) ∧ L' = cl b E cs :: L) (fun tm w h1 h2 h3 =>
    ⟨_, w.alloc (.cells z.cells E), _, by simp [execOp, Instr.alloc, newVar, newRow, ht.zeroValue], ⟨w.heap.size, rfl, rfl⟩, by rw [hu]; exact h3.alloc rfl, alloc_kept w _⟩) hd
    (fun v L' ⟨b, e1, e2⟩ => by subst e1; subst e2; exact k b)

/-! ### calls -/
theorem so_call {x : Operand} {aops : List Operand} {ats : Array TypeId} {g : Nat} {fst cap : Array Value} {vs : List Value} {R : Value → List SP → Prop} (hx : Fr.ev fr x = some (.func (.func g) fst cap)) (ha : Fr.evs fr aops = some vs) [he : Ent P g] (hd : Nat.blt d sz = true)
    (hc : FnC P g (fst.toList ++ vs ++ cap.toList) L R) (k : ∀ v L', R v L' → SO l P ro sz ops ((d, v) :: fr) ds L' Q) : SO (⟨some d, .call ⟨.value x, aops.toArray, ats⟩, ty, pos, aft, none⟩ :: l) P ro sz ops fr ds L Q := by
  intro tm w n h1 h2 h3
  have hd' : d < sz := by simpa [Nat.blt_eq] using hd
  have hargs : (fst ++ (aops.toArray.map (Act.mk tm ds).eval)) ++ cap = (fst.toList ++ vs ++ cap.toList).toArray := by
    rw [List.map_toArray, h2.evs (ds := ds) ha]; simp
  have e' : (Oper.semAt (fen ro).round (Act.mk tm ds).eval ⟨some d, .call ⟨.value x, aops.toArray, ats⟩, ty, pos, aft, none⟩).run P w = .ok (.enter g (fst.toList ++ vs ++ cap.toList).toArray) w := by
    rw [Oper.semAt_eq _ _ _ (fun c h => by cases h)]
    have hr : (resolve (Act.mk tm ds).eval ⟨.value x, aops.toArray, ats⟩ ty).run P w = .ok ⟨.fn (.func g) cap, fst ++ aops.toArray.map (Act.mk tm ds).eval⟩ w := by
      simp only [resolve, h2.ev hx, Deferred.ofValue]; rfl
    simp only [execOp, Sem.run_bind, hr, Result.andThen_ok, invoke, hargs, he.out]
  unfold wpListIn
  rw [if_pos (by simp [Region.wanted])]
  refine ⟨fun _ _ => trivial, ?_⟩
  rw [e', Oper.uponIn_enter]
  refine ⟨fun h => fen_depth h, ?_⟩
  have h := callsIn_wide (n := n - 1).2 (hc w h3)
  have h' : CallsIn (fen ro) (n - 1) P g (fst.toList ++ vs ++ cap.toList).toArray w fun e w' => ∃ v L', e = .returned v ∧ R v L' ∧ Sat L' w' ∧ Kept w w' := h
  refine h'.mono ?_
  rintro e w' ⟨v, L', rfl, r, s, kp⟩
  have := k v L' r (tm.setIfInBounds d v) w' n (by simp [h1]) (h2.put (by omega) v) s
  exact wpListIn_mono (fun _ _ _ q => q.later kp) _ _ _ this
theorem so_call0 {x : Operand} {aops : List Operand} {ats : Array TypeId} {g : Nat} {fst cap : Array Value} {vs : List Value} {R : Value → List SP → Prop} (hx : Fr.ev fr x = some (.func (.func g) fst cap)) (ha : Fr.evs fr aops = some vs) [he : Ent P g]
    (hc : FnC P g (fst.toList ++ vs ++ cap.toList) L R) (k : ∀ v L', R v L' → SO l P ro sz ops fr ds L' Q) : SO (⟨none, .call ⟨.value x, aops.toArray, ats⟩, ty, pos, aft, none⟩ :: l) P ro sz ops fr ds L Q := by
  intro tm w n h1 h2 h3
  have hargs : (fst ++ (aops.toArray.map (Act.mk tm ds).eval)) ++ cap = (fst.toList ++ vs ++ cap.toList).toArray := by
    rw [List.map_toArray, h2.evs (ds := ds) ha]; simp
  have e' : (Oper.semAt (fen ro).round (Act.mk tm ds).eval ⟨none, .call ⟨.value x, aops.toArray, ats⟩, ty, pos, aft, none⟩).run P w = .ok (.enter g (fst.toList ++ vs ++ cap.toList).toArray) w := by
    rw [Oper.semAt_eq _ _ _ (fun c h => by cases h)]
    have hr : (resolve (Act.mk tm ds).eval ⟨.value x, aops.toArray, ats⟩ ty).run P w = .ok ⟨.fn (.func g) cap, fst ++ aops.toArray.map (Act.mk tm ds).eval⟩ w := by
      simp only [resolve, h2.ev hx, Deferred.ofValue]; rfl
    simp only [execOp, Sem.run_bind, hr, Result.andThen_ok, invoke, hargs, he.out]
  unfold wpListIn
  rw [if_pos (by simp [Region.wanted])]
  refine ⟨fun _ _ => trivial, ?_⟩
  rw [e', Oper.uponIn_enter]
  refine ⟨fun h => fen_depth h, ?_⟩
  have h := callsIn_wide (n := n - 1).2 (hc w h3)
  have h' : CallsIn (fen ro) (n - 1) P g (fst.toList ++ vs ++ cap.toList).toArray w fun e w' => ∃ v L', e = .returned v ∧ R v L' ∧ Sat L' w' ∧ Kept w w' := h
  refine h'.mono ?_
  rintro e w' ⟨v, L', rfl, r, s, kp⟩
  exact wpListIn_mono (fun _ _ _ q => q.later kp) _ _ _ (k v L' r tm w' n h1 h2 s)
end
end Go.Proofs.YtmhfhfhdblccjaaGreat
/-
  An own logic over the kit's calculus: operations on slices.
-/
namespace Go.Proofs.YtmhfhfhdblccjaaGreat
open Go Go.RowKit
set_option linter.unusedVariables false

theorem TyI.info_eq {P : Program} {T : TypeId} {agg : Bool} {z : Value} {size bytes : Nat} (h : TyI P T agg z size bytes) : ∃ i, P.info? T = some i ∧ i.zero = some z ∧ i.size = size ∧ i.bytes = bytes := h.info
theorem Own.sat {L : List SP} {v : Value} {T : TypeId} {α : Type} {enc : Enc α} {xs : List α} (h : Own L v T α enc xs) {w : World} (H : Sat L w) : ∃ h1 : PH, ownSl T enc v xs h1 ∧ h1.le (heapOf w) := by
  obtain ⟨L0, p⟩ := h.out; exact (Holds.perm p _ H).head
theorem splice_get (cs vs : List Value) (o i : Nat) (h : o + vs.length ≤ cs.length) : (cs.take o ++ vs ++ cs.drop (o + vs.length))[i]? = if o ≤ i ∧ i < o + vs.length then vs[i - o]? else cs[i]? := by
  have hl : (cs.take o).length = o := by simp; omega
  rcases Nat.lt_or_ge i o with h1 | h1
  · rw [if_neg (by omega), List.append_assoc, List.getElem?_append_left (by omega), List.getElem?_take, if_pos h1]
  · rcases Nat.lt_or_ge i (o + vs.length) with h2 | h2
    · rw [if_pos ⟨h1, h2⟩, List.append_assoc, List.getElem?_append_right (by omega), hl, List.getElem?_append_left (by omega)]
    · rw [if_neg (by omega), List.getElem?_append_right (by simp; omega), List.getElem?_drop]
      congr 1; simp; omega
theorem elem_range {j i k q r : Nat} (hq : q < k) (hr : r < k) (e : j * k + q = i * k + r) : j = i ∧ q = r := by
  have h1 : (j * k + q) / k = j := by rw [Nat.mul_comm, Nat.mul_add_div (by omega)]; simp [Nat.div_eq_of_lt hq]
  have h2 : (i * k + r) / k = i := by rw [Nat.mul_comm, Nat.mul_add_div (by omega)]; simp [Nat.div_eq_of_lt hr]
  have h3 : j = i := by rw [← h1, e, h2]
  subst h3
  exact ⟨rfl, by omega⟩
/-- element j becomes x' -/
theorem own_set {T : TypeId} {α : Type} {enc : Enc α} {v : Value} {xs : List α} {w : World} {L : List SP} {j : Nat} {x' : α} {b c : Nat} {cs cs' : Array Value} (H : Sat (ownSl T enc v xs :: L) w) (hv : v = .slice (some ⟨b, 0, none⟩) xs.length c) {w' : World}
    (hb : w.heap[b]? = some (.cells cs T (0, 0)))
    (hw : w'.heap[b]? = some (.cells cs' T (0, 0))) (hs : cs'.size = cs.size) (hg : ∀ i, cs'[i]? = if j * enc.k ≤ i ∧ i < j * enc.k + enc.k then (enc.cells x')[i - j * enc.k]? else cs[i]?)
    (hr : ∀ k, k ≠ b → w'.heap[k]? = w.heap[k]?) (hj : j < xs.length) : Sat (ownSl T enc v (xs.set j x') :: L) w' := by
  refine H.change fun h1 e l => ?_
  obtain ⟨h0, ⟨a, e1, e2⟩ | ⟨b', c', cs0, e1, g1, g2, g3, g4⟩⟩ := e
  · subst e2; simp at hj
  · rw [hv] at e1
    injection e1 with e1 e2 e3
    injection e1 with e1
    injection e1 with e1
    subst e1; subst e3
    have e4 : cs0 = cs := by
      have := l _ _ g1
      unfold heapOf at this
      rw [hb] at this; injection this with this; injection this with this; exact this.symm
    subst e4
    refine ⟨fun k => if k = b then some (.cells cs' T (0, 0)) else none, ⟨by simpa using h0, .inr ⟨b, c, cs', by simpa using hv, by simp, by simpa using g2, hs.trans g3, ?_⟩⟩, ?_, ?_, ?_⟩
    · intro i x hx q u hu
      have hq : q < enc.k := by rw [← enc.len x]; exact (List.getElem?_eq_some_iff.1 hu).1
      rw [hg]
      by_cases hi : i = j
      · subst hi
        rw [List.getElem?_set_self hj] at hx
        injection hx with hx; subst hx
        rw [if_pos (by omega), Nat.add_sub_cancel_left]; exact hu
      · rw [List.getElem?_set_ne (Ne.symm hi)] at hx
        rw [if_neg ?_]
        · exact g4 i x hx q u hu
        · intro ⟨h5, h6⟩
          have := elem_range (j := i) (i := j) (q := q) (r := i * enc.k + q - j * enc.k) (k := enc.k) hq (by omega) (by omega)
          exact hi this.1
    · intro k o e5
      by_cases hk : k = b
      · subst hk; simp at e5; subst e5; exact hw
      · simp [hk] at e5
    · intro k o e5
      by_cases hk : k = b
      · subst hk; left; rw [g1]; simp
      · simp [hk] at e5
    · intro k o e5 e6
      by_cases hk : k = b
      · subst hk; rw [g1] at e6; cases e6
      · rw [hr k hk]; exact e5

section
variable {P : Program} {ro : Option Nat} {sz : Nat} {fr : Fr} {ds : List Deferred} {L : List SP} {Q : Post} {ops : Array Oper} {l : List Oper} {d : Nat} {ty : TypeId} {pos : String} {aft : Array Edge}

theorem vo_indexAddr {x y : Operand} {T E : TypeId} {v z : Value} {m : Int} {agg : Bool} {size bytes : Nat} {α : Type} {enc : Enc α} {xs : List α} (hx : Fr.ev fr x = some v) (hy : Fr.ev fr y = some (.int .i64 m)) [hT : TyU P T (.slice E)] [hE : TyI P E agg z size bytes] [hr : RdSl L v α enc xs] (hk : Nat.beq enc.k size = true)
    (hm : 0 ≤ m ∧ m < xs.length) : VO P ds ⟨some d, .indexAddr T x y, ty, pos, aft, none⟩ fr L (elt size v m.toNat 0) :=
  ⟨(fun c h => by cases h), fun tm w h2 h3 => by
    obtain ⟨x0, hx0⟩ : ∃ x, xs[m.toNat]? = some x := ⟨xs[m.toNat]'(by omega), List.getElem?_eq_getElem _⟩
    obtain ⟨b, off, cs, TT, fz, c, e1, e2, e3⟩ := (hr.at h3).elt hx0
    subst e1
    simp [execOp, h2.ev hx, h2.ev hy, Instr.indexAt, asIntOf, run_underlying hT.out, hm.1, hm.2, hE.sizeOf, addr_add, elt]⟩
theorem vo_fieldAddr_elt {x : Operand} {S f off : Nat} {kk : Nat} {v : Value} {j : Nat} {α : Type} {enc : Enc α} {xs : List α} {x0 : α} (hx : Fr.ev fr x = some (elt kk v j 0)) [hr : RdSl L v α enc xs] (hj : xs[j]? = some x0) [h : TyF P S f off] : VO P ds ⟨some d, .fieldAddr S x f, ty, pos, aft, none⟩ fr L (elt kk v j off) :=
  ⟨(fun c h => by cases h), fun tm w h2 h3 => by
    obtain ⟨b, o2, cs, TT, fz, c, g1, g2, g3⟩ := (hr.at h3).elt hj
    subst g1
    obtain ⟨fs, fld, e1, e2, e3, n, e4, e5⟩ := h.out
    simp [execOp, h2.ev hx, elt, Instr.fieldAt, run_underlying e1, e2, Instr.sureAddr, fieldPlace, e5, e4, e3, addr_add]⟩
theorem vo_fieldAddr_elt' {x : Operand} {S f off : Nat} {kk : Nat} {v : Value} {j o : Nat} {α : Type} {enc : Enc α} {xs : List α} {x0 : α} (hx : Fr.ev fr x = some (elt kk v j o)) [hr : RdSl L v α enc xs] (hj : xs[j]? = some x0) [h : TyF P S f off] : VO P ds ⟨some d, .fieldAddr S x f, ty, pos, aft, none⟩ fr L (elt kk v j (o + off)) :=
  ⟨(fun c h => by cases h), fun tm w h2 h3 => by
    obtain ⟨b, o2, cs, TT, fz, c, g1, g2, g3⟩ := (hr.at h3).elt hj
    subst g1
    obtain ⟨fs, fld, e1, e2, e3, n, e4, e5⟩ := h.out
    simp [execOp, h2.ev hx, elt, Instr.fieldAt, run_underlying e1, e2, Instr.sureAddr, fieldPlace, e5, e4, e3, addr_add, Nat.add_assoc]⟩
/-- a cell of an element -/
theorem vo_load_elt {x : Operand} {T : TypeId} {kk : Nat} {v z u : Value} {j o size bytes : Nat} {α : Type} {enc : Enc α} {xs : List α} {x0 : α} (hx : Fr.ev fr x = some (elt kk v j o)) [ht : TyI P T false z size bytes] [hr : RdSl L v α enc xs] (hk : Nat.beq enc.k kk = true) (hj : xs[j]? = some x0) (hu : (enc.cells x0)[o]? = some u) : VO P ds ⟨some d, .load T x, ty, pos, aft, none⟩ fr L (u) :=
  ⟨(fun c h => by cases h), fun tm w h2 h3 => by
    obtain ⟨b, o2, cs, TT, fz, c, g1, g2, g3⟩ := (hr.at h3).elt hj
    subst g1
    have hk' := Nat.eq_of_beq_eq_true hk
    subst hk'
    have := run_loadVar1 (P := P) (ht.agg w) (a := ⟨b, o2 + j * enc.k + o, none⟩) (u := u) (by rw [cell_of_block g2]; exact g3 o u hu)
    simp [execOp, h2.ev hx, elt, Instr.loadAt, Instr.sureAddr, this]⟩
/-- a whole element of several cells, or a part of it -/
theorem vo_load_elt_agg {x : Operand} {T : TypeId} {kk : Nat} {v z : Value} {j o size bytes : Nat} {α : Type} {enc : Enc α} {xs : List α} {x0 : α} {cs0 : List Value} (hx : Fr.ev fr x = some (elt kk v j o)) [ht : TyI P T true z size bytes] [hr : RdSl L v α enc xs] (hk : Nat.beq enc.k kk = true) (hj : xs[j]? = some x0) (hu : ((enc.cells x0).drop o).take size = cs0) (hs : Nat.ble (o + size) kk = true) : VO P ds ⟨some d, .load T x, ty, pos, aft, none⟩ fr L (.agg cs0.toArray) :=
  ⟨(fun c h => by cases h), fun tm w h2 h3 => by
    obtain ⟨b, o2, cs, TT, fz, c, g1, g2, g3⟩ := (hr.at h3).elt hj
    subst g1
    have hk' := Nat.eq_of_beq_eq_true hk
    subst hk'
    have hs' : o + size ≤ enc.k := Nat.le_of_ble_eq_true hs
    have hl := enc.len x0
    have := run_loadVarN (P := P) (ht.agg w) (ht.sizeOf w) (b := b) (off := o2 + j * enc.k + o) (cs := cs0) (by subst hu; simp; omega) (fun q u e => by
      rw [cell_of_block g2, Nat.add_assoc]
      refine g3 (o + q) u ?_
      subst hu
      rw [List.getElem?_take] at e
      split at e
      · simpa using e
      · cases e)
    simp [execOp, h2.ev hx, elt, Instr.loadAt, Instr.sureAddr, this]⟩
/-- an element is written: the cells that are stored at o are those of x' where it differs -/
theorem so_store_elt {x y : Operand} {T : TypeId} {kk : Nat} {v u z : Value} {j o bytes : Nat} {agg : Bool} {α : Type} {enc : Enc α} {xs : List α} {x0 : α} {E : TypeId} {us : List Value} {L' : List SP} (x' : α) (hx : Fr.ev fr x = some (elt kk v j o)) (hy : Fr.ev fr y = some u) (hus : u.cells = us.toArray) [ht : TyI P T agg z us.length bytes] [ho : Own L v E α enc xs] (hk : Nat.beq enc.k kk = true) (hj : xs[j]? = some x0)
    (hx' : enc.cells x' = (enc.cells x0).take o ++ us ++ (enc.cells x0).drop (o + us.length)) (hul' : Nat.ble (o + us.length) enc.k = true) [hl : Put L (ownSl E enc v xs) (ownSl E enc v (xs.set j x')) L']
    (k : SO l P ro sz ops fr ds L' Q) : SO (⟨none, .store T x y, ty, pos, aft, none⟩ :: l) P ro sz ops fr ds L Q :=
  so_gen0 (fun c h => by cases h) (fun M => M = L') (fun tm w h1 h2 h3 => by
    have hk' := Nat.eq_of_beq_eq_true hk
    subst hk'
    obtain ⟨L0, p, pq⟩ := hl.fwd
    have hs := Sat.perm p h3
    obtain ⟨h1', ⟨g0, ⟨a, e1, e2⟩ | ⟨b, c, cs, e1, g1, g2, g3, g4⟩⟩, le⟩ := Holds.head hs
    · subst e2; simp at hj
    have hb : w.heap[b]? = some (.cells cs E (0, 0)) := le _ _ g1
    have hjl := (List.getElem?_eq_some_iff.1 hj).1
    have hlen := enc.len x'
    have hlen0 := enc.len x0
    have hul : o + us.length ≤ enc.k := Nat.le_of_ble_eq_true hul'
    have hle : (j + 1) * enc.k ≤ c * enc.k := Nat.mul_le_mul_right _ (by omega)
    rw [Nat.succ_mul] at hle
    have hst := run_storeVarN (P := P) (T := T) (vs := us) (ht.sizeOf w) hb (o := j * enc.k + o) (by rw [g3]; omega) (u := u) hus (fun q hq => enc.one x' q (by rw [hx']; simp [hq]))
    obtain ⟨arr, harr⟩ : ∃ arr, arr = (cs.toList.take (j * enc.k + o) ++ us ++ cs.toList.drop (j * enc.k + o + us.length)).toArray := ⟨_, rfl⟩
    rw [← harr] at hst
    refine ⟨w.setRow b arr, L', (by subst e1; simp [execOp, h2.ev hx, h2.ev hy, elt, Instr.storeAt, Instr.sureAddr, hst]), rfl, ?_, ?_⟩
    · refine Sat.perm pq (own_set hs e1 hb (setRow_heap w b cs _ E _ hb) (by subst harr; simp [g3]; omega) (fun i => ?_) (fun q hq => ?_) hjl)
      · have h5 := splice_get cs.toList us (j * enc.k + o) i (by simp [g3]; omega)
        rw [harr, List.getElem?_toArray, h5, hx']
        by_cases hi : j * enc.k ≤ i ∧ i < j * enc.k + enc.k
        · rw [if_pos hi, splice_get _ _ _ _ (by rw [hlen0]; exact hul)]
          by_cases h6 : j * enc.k + o ≤ i ∧ i < j * enc.k + o + us.length
          · rw [if_pos h6, if_pos (by omega)]; congr 1; omega
          · rw [if_neg h6, if_neg (by omega)]
            have : (enc.cells x0)[i - j * enc.k]? = some ((enc.cells x0)[i - j * enc.k]'(by omega)) := List.getElem?_eq_getElem _
            have h7 := g4 j x0 hj _ _ this
            rw [this, ← h7, show j * enc.k + (i - j * enc.k) = i by omega]; simp
        · rw [if_neg hi, if_neg (by omega)]; simp
      · simp [World.setRow, Array.getElem?_modify, Ne.symm hq]
    · exact ⟨rfl, rfl, rfl, by simp [World.setRow]⟩) (fun _ e => by subst e; exact k)

theorem vo_len {x : Operand} {T E : TypeId} {v : Value} {α : Type} {enc : Enc α} {xs : List α} (hx : Fr.ev fr x = some v) [hT : TyU P T (.slice E)] [hr : RdSl L v α enc xs] : VO P ds ⟨some d, .call ⟨.builtin .len, #[x], #[T]⟩, ty, pos, aft, none⟩ fr L (.int .i64 xs.length) :=
  ⟨(fun c h => by cases h), fun tm w h2 h3 => by
    obtain ⟨a, c, e1, _⟩ := hr.at h3
    subst e1
    simp [execOp, resolve, invoke, builtin, Builtin.len_, h2.ev hx, run_underlying hT.out, goInt]⟩
/-- the slice of a slice -/
def subsl (k : Nat) (v : Value) (lo hi : Nat) : Value := match v with
  | .slice a _ c => .slice (if c = lo then a else a.map (·.add (lo * k))) (hi - lo) (c - lo)
  | _ => undef
theorem IsSl.sub {α : Type} {enc : Enc α} {h : PH} {v : Value} {xs : List α} (k : IsSl enc h v xs) {lo hi : Nat} (h1 : lo ≤ hi) (h2 : hi ≤ xs.length) : IsSl enc h (subsl enc.k v lo hi) ((xs.take hi).drop lo) := by
  obtain ⟨a, c, e1, e2, e3, e4⟩ := k
  subst e1
  refine ⟨if c = lo then a else a.map (·.add (lo * enc.k)), c - lo, ?_, ?_, ?_, fun hne => ?_⟩
  · simp only [subsl, List.length_drop, List.length_take]; rw [Nat.min_eq_left h2]
  · simp; omega
  · simp; omega
  · have hlt : lo < hi := by
      rcases Nat.lt_or_ge lo hi with h | h
      · exact h
      · exfalso; apply hne; apply List.eq_nil_of_length_eq_zero; simp; omega
    have hne' : xs ≠ [] := fun e => by subst e; simp at h2; omega
    obtain ⟨b, off, cs, T, fz, g1, g2, g3⟩ := e4 hne'
    subst g1
    refine ⟨b, off + lo * enc.k, cs, T, fz, ?_, g2, fun j x hx i u hu => ?_⟩
    · rw [if_neg (by omega)]; simp [addr_add]
    · have : xs[lo + j]? = some x := by
        rw [List.getElem?_drop, List.getElem?_take] at hx
        split at hx
        · exact hx
        · cases hx
      have := g3 (lo + j) x this i u hu
      rw [Nat.add_mul] at this
      rw [show off + lo * enc.k + j * enc.k + i = off + (lo * enc.k + j * enc.k) + i by omega]
      exact this
theorem RdSl.sub {v : Value} {α : Type} {enc : Enc α} {xs : List α} (k : RdSl L v α enc xs) {lo hi : Nat} (h1 : lo ≤ hi) (h2 : hi ≤ xs.length) : RdSl L (subsl enc.k v lo hi) α enc ((xs.take hi).drop lo) := ⟨fun h H => (k.out h H).sub h1 h2⟩
theorem run_slice_vals {T E : TypeId} {v z : Value} {agg : Bool} {size bytes : Nat} [hT : TyU P T (.slice E)] [hE : TyI P E agg z size bytes] {α : Type} {enc : Enc α} {h : PH} {xs : List α} (k : IsSl enc h v xs) (hk : enc.k = size) (lo hi : Option Value) (m n : Int) (hlo : lo = some (.int .i64 m) ∨ lo = none ∧ m = 0) (hhi : hi = some (.int .i64 n) ∨ hi = none ∧ n = xs.length) (h0 : 0 ≤ m) (hmn : m ≤ n) (hn : n ≤ xs.length) (w : World) :
    (Instr.sliceAt T v lo hi none).run P w = .ok (subsl size v m.toNat n.toNat) w := by
  obtain ⟨a, c, e1, e2, e3, e4⟩ := k
  subst e1
  have hnc : n ≤ (c : Int) := by omega
  have hn0 : 0 ≤ n := by omega
  have hmn' : m ≤ (n.toNat : Int) := by omega
  have hb : (Instr.sliceBounds true xs.length c lo hi none).run P w = .ok (m.toNat, n.toNat, c) w := by
    rcases hlo with rfl | ⟨rfl, rfl⟩ <;> rcases hhi with rfl | ⟨rfl, rfl⟩ <;>
      simp_all [Instr.sliceBounds, Instr.sliceBound, asIntOf]
  simp only [Instr.sliceAt, Instr.slice, Sem.run_bind, run_underlying hT.out, Result.andThen_ok, hb, hE.sizeOf, subsl]
  rfl
theorem vo_slice {x y y' : Operand} {T E : TypeId} {v z : Value} {m n : Int} {agg : Bool} {size bytes : Nat} {α : Type} {enc : Enc α} {xs : List α} (hx : Fr.ev fr x = some v) (hy : Fr.ev fr y = some (.int .i64 m)) (hy' : Fr.ev fr y' = some (.int .i64 n)) [hT : TyU P T (.slice E)] [hE : TyI P E agg z size bytes] [hr : RdSl L v α enc xs] (hk : Nat.beq enc.k size = true)
    (hm : 0 ≤ m ∧ m ≤ n ∧ n ≤ xs.length) : VO P ds ⟨some d, .slice T x (some y) (some y') none, ty, pos, aft, none⟩ fr L (subsl size v m.toNat n.toNat) :=
  ⟨(fun c h => by cases h), fun tm w h2 h3 => by
    have := run_slice_vals (P := P) (hr.at h3) (Nat.eq_of_beq_eq_true hk) (some (.int .i64 m)) (some (.int .i64 n)) m n (.inl rfl) (.inl rfl) hm.1 hm.2.1 hm.2.2 w (T := T)
    simp [execOp, h2.ev hx, h2.ev hy, h2.ev hy', this]⟩
theorem vo_slice_from {x y : Operand} {T E : TypeId} {v z : Value} {m : Int} {agg : Bool} {size bytes : Nat} {α : Type} {enc : Enc α} {xs : List α} (hx : Fr.ev fr x = some v) (hy : Fr.ev fr y = some (.int .i64 m)) [hT : TyU P T (.slice E)] [hE : TyI P E agg z size bytes] [hr : RdSl L v α enc xs] (hk : Nat.beq enc.k size = true)
    (hm : 0 ≤ m ∧ m ≤ xs.length) : VO P ds ⟨some d, .slice T x (some y) none none, ty, pos, aft, none⟩ fr L (subsl size v m.toNat xs.length) :=
  ⟨(fun c h => by cases h), fun tm w h2 h3 => by
    have := run_slice_vals (P := P) (hr.at h3) (Nat.eq_of_beq_eq_true hk) (some (.int .i64 m)) none m xs.length (.inl rfl) (.inr ⟨rfl, rfl⟩) hm.1 hm.2 (Int.le_refl _) w (T := T)
    simp at this
    simp [execOp, h2.ev hx, h2.ev hy, this]⟩
theorem vo_slice_to {x y : Operand} {T E : TypeId} {v z : Value} {n : Int} {agg : Bool} {size bytes : Nat} {α : Type} {enc : Enc α} {xs : List α} (hx : Fr.ev fr x = some v) (hy : Fr.ev fr y = some (.int .i64 n)) [hT : TyU P T (.slice E)] [hE : TyI P E agg z size bytes] [hr : RdSl L v α enc xs] (hk : Nat.beq enc.k size = true)
    (hm : 0 ≤ n ∧ n ≤ xs.length) : VO P ds ⟨some d, .slice T x none (some y) none, ty, pos, aft, none⟩ fr L (subsl size v 0 n.toNat) :=
  ⟨(fun c h => by cases h), fun tm w h2 h3 => by
    have := run_slice_vals (P := P) (hr.at h3) (Nat.eq_of_beq_eq_true hk) none (some (.int .i64 n)) 0 n (.inr ⟨rfl, rfl⟩) (.inl rfl) (Int.le_refl _) hm.1 hm.2 w (T := T)
    simp at this
    simp [execOp, h2.ev hx, h2.ev hy, this]⟩
/-! ### new rows -/
theorem own_new {T : TypeId} {α : Type} {enc : Enc α} {w w' : World} {L : List SP} (H : Sat L w) {xs : List α} {cs : Array Value} {c : Nat} (hw : w'.heap = w.heap.push (.cells cs T (0, 0))) (hc : xs.length ≤ c) (hs : cs.size = c * enc.k) (hl : xs.length ≤ 140737488355328)
    (hx : ∀ j x, xs[j]? = some x → ∀ i u, (enc.cells x)[i]? = some u → cs[j * enc.k + i]? = some u) : Sat (ownSl T enc (.slice (some ⟨w.heap.size, 0, none⟩) xs.length c) xs :: L) w' := by
  have h := H.alloc hw
  exact h.weaken fun k e => ⟨hl, .inr ⟨w.heap.size, c, cs, rfl, e, hc, hs, hx⟩⟩
theorem flatMap_get {α : Type} (enc : Enc α) : ∀ (xs : List α) (rest : List Value) (j : Nat) (x : α), xs[j]? = some x → ∀ i u, (enc.cells x)[i]? = some u → (xs.flatMap enc.cells ++ rest)[j * enc.k + i]? = some u
  | [], _, j, x, h, _, _, _ => by simp at h
  | y :: ys, rest, 0, x, h, i, u, hu => by
    simp at h; subst h
    simp only [List.flatMap_cons, Nat.zero_mul, Nat.zero_add, List.append_assoc]
    rw [List.getElem?_append_left (List.getElem?_eq_some_iff.1 hu).1]; exact hu
  | y :: ys, rest, j + 1, x, h, i, u, hu => by
    simp at h
    simp only [List.flatMap_cons, List.append_assoc, Nat.succ_mul]
    rw [List.getElem?_append_right (by rw [enc.len]; omega), enc.len, show j * enc.k + enc.k + i - enc.k = j * enc.k + i by omega]
    exact flatMap_get enc ys rest j x h i u hu
theorem flatMap_len {α : Type} (enc : Enc α) : ∀ (xs : List α), (xs.flatMap enc.cells).length = xs.length * enc.k
  | [] => by simp
  | y :: ys => by simp [flatMap_len enc ys, enc.len, Nat.succ_mul]; omega
end
end Go.Proofs.YtmhfhfhdblccjaaGreat
/-
  An own logic over the kit's calculus: how a function's contract begins.
-/
namespace Go.Proofs.YtmhfhfhdblccjaaGreat
open Go Go.RowKit
set_option linter.unusedVariables false
class ZipF (args : List Value) (fr : outParam Fr) : Prop where
  out : (List.range args.length).zip args = fr
instance : ZipF [] [] := ⟨rfl⟩
instance (a : Value) : ZipF [a] [(0, a)] := ⟨rfl⟩
instance (a b : Value) : ZipF [a, b] [(0, a), (1, b)] := ⟨rfl⟩
instance (a b c : Value) : ZipF [a, b, c] [(0, a), (1, b), (2, c)] := ⟨rfl⟩
instance (a b c d : Value) : ZipF [a, b, c, d] [(0, a), (1, b), (2, c), (3, d)] := ⟨rfl⟩
instance (a b c d e : Value) : ZipF [a, b, c, d, e] [(0, a), (1, b), (2, c), (3, d), (4, e)] := ⟨rfl⟩
instance (a b c d e f : Value) : ZipF [a, b, c, d, e, f] [(0, a), (1, b), (2, c), (3, d), (4, e), (5, f)] := ⟨rfl⟩
instance (a b c d e f g : Value) : ZipF [a, b, c, d, e, f, g] [(0, a), (1, b), (2, c), (3, d), (4, e), (5, f), (6, g)] := ⟨rfl⟩
instance (a b c d e f g h : Value) : ZipF [a, b, c, d, e, f, g, h] [(0, a), (1, b), (2, c), (3, d), (4, e), (5, f), (6, g), (7, h)] := ⟨rfl⟩
theorem fn_start {P : Program} {f : Nat} {fn : Func} {c : Code} {args : List Value} {L : List SP} {R : Value → List SP → Prop} {fr : Fr} {sz : Nat} (hf : P.funcs[f]? = some fn) (hb : fn.body = some c) (hsz : fn.ntmps = sz) (hn : Nat.ble args.length sz = true) [z : ZipF args fr]
    (h : SW c P none sz fr [] L (bodyQ P fn R)) : FnC P f args L R := by
  subst hsz
  exact fn_intro hf hb (Nat.le_of_ble_eq_true hn) (by rw [z.out]; exact h)
theorem rq1 {P : Program} {fn : Func} {R : Value → List SP → Prop} {fr : Fr} {L L2 : List SP} {t : Nat} {v : Value} (hr : fn.results = #[.tmp t]) (hv : Fr.get fr t = some v) (h : R v L2) (hl : Less L L2) : retQ P fn R fr [] L := ⟨v, L, L2, .nil L, ret1 hr hv, hl.out, h⟩
theorem rq2 {P : Program} {fn : Func} {R : Value → List SP → Prop} {fr : Fr} {L L2 : List SP} {t u : Nat} {v x : Value} (hr : fn.results = #[.tmp t, .tmp u]) (hv : Fr.get fr t = some v) (hx : Fr.get fr u = some x) (h : R (.tuple #[v, x]) L2) (hl : Less L L2) : retQ P fn R fr [] L := ⟨_, L, L2, .nil L, ret2 hr hv hx, hl.out, h⟩
theorem rq0 {P : Program} {fn : Func} {R : Value → List SP → Prop} {fr : Fr} {L L2 : List SP} (hr : fn.results = #[]) (h : R (.tuple #[]) L2) (hl : Less L L2) : retQ P fn R fr [] L := ⟨_, L, L2, .nil L, ret0 hr, hl.out, h⟩
instance (priority := low) Less.skip (A : SP) (L L' : List SP) [h : Less L L'] : Less (A :: L) L' := ⟨fun w H => h.out w H.tail⟩
class HLess (L L' : List SP) : Prop where
  out : ∀ h, Holds L h → Holds L' h
instance (priority := high) HLess.refl (L : List SP) : HLess L L := ⟨fun _ h => h⟩
instance HLess.same (A : SP) (L L' : List SP) [h : HLess L L'] : HLess (A :: L) (A :: L') := ⟨fun _ H => H.cons_mono h.out⟩
instance (priority := low) HLess.skip (A : SP) (L L' : List SP) [h : HLess L L'] : HLess (A :: L) L' := ⟨fun k H => h.out k H.tail⟩
instance (priority := low) Less.of_holds (L L' : List SP) [h : HLess L L'] : Less L L' := ⟨fun w H => h.out _ H⟩
theorem HLess.sat {L L' : List SP} (h : HLess L L') (w : World) (H : Sat L w) : Sat L' w := h.out _ H

end Go.Proofs.YtmhfhfhdblccjaaGreat
