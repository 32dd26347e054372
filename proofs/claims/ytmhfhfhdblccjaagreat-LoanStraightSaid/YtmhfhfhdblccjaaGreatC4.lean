/-
  An own logic over the kit's calculus: maps.
-/
import Derived.Test.YtmhfhfhdblccjaaGreatC3
namespace Go.Proofs.YtmhfhfhdblccjaaGreat
set_option linter.unusedSimpArgs false
open Go Go.RowKit
set_option linter.unusedVariables false

/-- Keys that the machine compares at once. -/
class KeyT (P : Program) (K : TypeId) (κ : outParam Type) [DecidableEq κ] (key : outParam (κ → Value)) : Prop where
  out : ∃ desc, P.underlying K = some desc ∧ (∀ a b, Instr.sameNow desc (key a) (key b) = some (decide (a = b))) ∧ (∀ n a, Instr.sameBits (n + 1) (key a) (key a) = true) ∧ ∀ (w : World) (b : Bool) (n : Nat) (a : κ), (Instr.checkKey b (n + 1) K (key a)).run P w = .ok () w
abbrev keyInt (n : Int) : Value := .int .i64 n
instance (P : Program) (K : TypeId) [h : TyU P K (.int .i64)] : KeyT P K Int keyInt := ⟨_, h.out, fun a b => by simp [Instr.sameNow, keyInt, beq_dec], fun n a => by simp [Instr.sameBits, keyInt], fun w b n a => by simp [Instr.checkKey, run_underlying h.out, keyInt]⟩
section
variable {κ β : Type} [DecidableEq κ] (key : κ → Value) (val : β → Value)
def ents (l : List (κ × β × Nat)) : Array MapEntry := (l.map fun x => (⟨key x.1, val x.2.1, x.2.2⟩ : MapEntry)).toArray
def lkE (l : List (κ × β × Nat)) (k : κ) : Option β := (l.find? fun x => decide (k = x.1)).map (·.2.1)
/-- The map at block r. -/
def mapI (r : Nat) (m : κ → Option β) : SP := fun h => ∃ (l : List (κ × β × Nat)) (clock : Nat), h r = some (.map (ents key val l) clock) ∧ ∀ k, lkE l k = m k
def upd (m : κ → Option β) (k : κ) (v : β) : κ → Option β := fun x => if x = k then some v else m x
end
section
variable {P : Program} {K : TypeId} {κ β : Type} [DecidableEq κ] {key : κ → Value} {val : β → Value}
theorem run_findNow {desc : TypeDesc} (h : ∀ a b, Instr.sameNow desc (key a) (key b) = some (decide (a = b))) (k : κ) : ∀ (l : List (κ × β × Nat)) (i : Nat),
    Instr.findNow desc (key k) (l.map fun x => (⟨key x.1, val x.2.1, x.2.2⟩ : MapEntry)) i = some ((l.findIdx? fun x => decide (k = x.1)).bind fun j => (l[j]?).map fun x => (i + j, val x.2.1))
  | [], i => by simp [Instr.findNow]
  | x :: l, i => by
    simp only [List.map_cons, Instr.findNow, h]
    by_cases e : k = x.1
    · simp [e, List.findIdx?_cons]
    · have ih := run_findNow h k l (i + 1)
      simp only [decide_eq_false e]
      rw [ih]
      simp only [List.findIdx?_cons, decide_eq_false e]
      cases h5 : l.findIdx? (fun x => decide (k = x.1)) with
      | none => simp
      | some j => simp [Nat.add_assoc, Nat.add_comm 1 j]
theorem run_findKey [hk : KeyT P K κ key] (k : κ) (l : List (κ × β × Nat)) (w : World) : (Instr.findKey K (key k) (ents key val l).toList).run P w = .ok ((l.findIdx? fun x => decide (k = x.1)).bind fun j => (l[j]?).map fun x => (j, val x.2.1)) w := by
  obtain ⟨desc, h1, h2, h3, h4⟩ := hk.out
  have := run_findNow (val := val) h2 k l 0
  simp only [ents, Instr.findKey, Sem.run_bind, run_underlying h1, Result.andThen_ok, this]
  simp
theorem find_idx {α γ : Type} (p : α → Bool) (g : α → γ) : ∀ l : List α, (l.find? p).map g = (l.findIdx? p).bind fun j => (l[j]?).map g
  | [] => rfl
  | x :: l => by
    by_cases e : p x = true
    · simp [e, List.findIdx?_cons]
    · have e' : p x = false := by simpa using e
      simp only [List.find?_cons, List.findIdx?_cons, e']
      rw [find_idx p g l]
      cases l.findIdx? p <;> simp
class MapIn (L : List SP) (r : Nat) (κ β : outParam Type) (dk : outParam (DecidableEq κ)) (key : outParam (κ → Value)) (val : outParam (β → Value)) (m : outParam (κ → Option β)) (K : outParam (SP → List SP)) : Prop where
  out : Hole L (@mapI κ β dk key val r m) K
instance (priority := high) MapIn.here (r : Nat) (κ β : Type) (dk : DecidableEq κ) (key : κ → Value) (val : β → Value) (m : κ → Option β) (L : List SP) : MapIn (@mapI κ β dk key val r m :: L) r κ β dk key val m (fun X => X :: L) := ⟨inferInstance⟩
instance (priority := low) MapIn.there (B : SP) (L : List SP) (r : Nat) (κ β : Type) (dk : DecidableEq κ) (key : κ → Value) (val : β → Value) (m : κ → Option β) (K : SP → List SP) [h : MapIn L r κ β dk key val m K] : MapIn (B :: L) r κ β dk key val m (fun X => B :: K X) := ⟨@Hole.there _ _ _ _ h.out⟩
theorem mapI_out {L : List SP} {r : Nat} {m : κ → Option β} {w : World} (H : Sat (mapI key val r m :: L) w) : ∃ (l : List (κ × β × Nat)) (clock : Nat), w.heap[r]? = some (.map (ents key val l) clock) ∧ ∀ k, lkE l k = m k := by
  obtain ⟨h1, ⟨l, c, e1, e2⟩, le⟩ := Holds.head H
  exact ⟨l, c, le _ _ e1, e2⟩
theorem run_getObj' {w : World} {r : Nat} {es : Array MapEntry} {c : Nat} (h : w.heap[r]? = some (.map es c)) : (getObj r).run P w = .ok (.map es c) w := by simp [getObj, Sem.run, h]
end
section
variable {P : Program} {ro : Option Nat} {sz : Nat} {fr : Fr} {ds : List Deferred} {L : List SP} {Q : Post} {ops : Array Oper} {l : List Oper} {d : Nat} {ty : TypeId} {pos : String} {aft : Array Edge}
theorem run_lookup {T KT ET : TypeId} {κ β : Type} {dk : DecidableEq κ} {key : κ → Value} {val : β → Value} {m : κ → Option β} {K : SP → List SP} {z0 : β} {r : Nat} {k : κ} {agg : Bool} {z : Value} {size bytes : Nat} [hT : TyU P T (.map KT ET)] [hK : KeyT P KT κ key] [hE : TyI P ET agg z size bytes] [hm : MapIn L r κ β dk key val m K] (hz : val z0 = z) {w : World} (H : Sat L w) (ok : Bool) :
    (Instr.lookup T (.map (some r)) (key k) ok).run P w = .ok (if ok then .tuple #[val ((m k).getD z0), .bool (m k).isSome] else val ((m k).getD z0)) w := by
  obtain ⟨L0, p, _⟩ := hm.out.out
  obtain ⟨l, c, e1, e2⟩ := mapI_out (Sat.perm p H)
  obtain ⟨desc, h1, h2, h3, h4⟩ := hK.out
  have hf := run_findKey (P := P) (K := KT) (val := val) k l w
  have he : (l.findIdx? fun x => decide (k = x.1)).bind (fun j => (l[j]?).map fun x => x.2.1) = m k := by
    rw [← e2 k]; unfold lkE; rw [find_idx]
  have hck : ∀ b, (Instr.checkKey b 10000 KT (key k)).run P w = .ok () w := fun b => h4 w b 9999 k
  simp only [Instr.lookup, Sem.run_bind, run_underlying hT.out, Result.andThen_ok, Sem.run_pure, run_getObj' e1, hck, hf]
  cases h5 : l.findIdx? (fun x => decide (k = x.1)) with
  | none =>
    rw [h5] at he
    simp only [Option.bind_none] at he
    simp [hE.zeroValue, ← he, hz]
  | some j =>
    rw [h5] at he
    simp only [Option.bind_some] at he
    cases h6 : l[j]? with
    | none => rw [List.findIdx?_eq_some_iff_getElem] at h5; obtain ⟨h7, _⟩ := h5; rw [List.getElem?_eq_getElem h7] at h6; cases h6
    | some x =>
      rw [h6] at he
      simp at he
      simp [← he, h6]
theorem vo_lookup {x y : Operand} {T KT ET : TypeId} {κ β : Type} {dk : DecidableEq κ} {key : κ → Value} {val : β → Value} {m : κ → Option β} {K : SP → List SP} {z0 : β} {r : Nat} {k : κ} {agg : Bool} {z : Value} {size bytes : Nat} (hx : Fr.ev fr x = some (.map (some r))) [hT : TyU P T (.map KT ET)] [hK : KeyT P KT κ key] [hE : TyI P ET agg z size bytes] [hm : MapIn L r κ β dk key val m K] (hy : Fr.ev fr y = some (key k)) (hz : val z0 = z) : VO P ds ⟨some d, .lookup T x y false, ty, pos, aft, none⟩ fr L (val ((m k).getD z0)) :=
  ⟨(fun c h => by cases h), fun tm w h2 h3 => by
    have := run_lookup (P := P) (T := T) (k := k) (r := r) (z0 := z0) hz h3 false
    simp [execOp, h2.ev hx, h2.ev hy, this]⟩
theorem vo_lookup_ok {x y : Operand} {T KT ET : TypeId} {κ β : Type} {dk : DecidableEq κ} {key : κ → Value} {val : β → Value} {m : κ → Option β} {K : SP → List SP} {z0 : β} {r : Nat} {k : κ} {agg : Bool} {z : Value} {size bytes : Nat} (hx : Fr.ev fr x = some (.map (some r))) [hT : TyU P T (.map KT ET)] [hK : KeyT P KT κ key] [hE : TyI P ET agg z size bytes] [hm : MapIn L r κ β dk key val m K] (hy : Fr.ev fr y = some (key k)) (hz : val z0 = z) : VO P ds ⟨some d, .lookup T x y true, ty, pos, aft, none⟩ fr L (.tuple #[val ((m k).getD z0), .bool (m k).isSome]) :=
  ⟨(fun c h => by cases h), fun tm w h2 h3 => by
    have := run_lookup (P := P) (T := T) (k := k) (r := r) (z0 := z0) hz h3 true
    simp [execOp, h2.ev hx, h2.ev hy, this]⟩
theorem lkE_set {κ β : Type} [DecidableEq κ] (k : κ) (v : β) : ∀ (l : List (κ × β × Nat)) (j : Nat) (x : κ × β × Nat), l.findIdx? (fun x => decide (k = x.1)) = some j → l[j]? = some x → ∀ q, lkE (l.set j (k, v, x.2.2)) q = upd (lkE l) k v q
  | [], j, x, h, _, _ => by simp at h
  | y :: l, j, x, h, hx, q => by
    simp only [List.findIdx?_cons] at h
    by_cases e : k = y.1
    · rw [if_pos (decide_eq_true e)] at h
      injection h with h; subst h
      simp only [List.set_cons_zero, lkE, upd, List.find?_cons]
      by_cases e2 : q = k
      · subst e2; simp
      · rw [decide_eq_false e2, if_neg e2, ← e, decide_eq_false e2]
    · rw [if_neg (by simpa using e)] at h
      cases h5 : l.findIdx? (fun x => decide (k = x.1)) with
      | none => rw [h5] at h; simp at h
      | some i =>
        rw [h5] at h
        simp at h
        subst h
        have ih := lkE_set k v l i x h5 (by simpa using hx) q
        simp only [List.set_cons_succ, lkE, upd, List.find?_cons] at ih ⊢
        by_cases e2 : q = y.1
        · rw [decide_eq_true e2]
          have : ¬ q = k := fun e3 => e (e3 ▸ e2)
          simp [this]
        · rw [decide_eq_false e2]; exact ih
theorem lkE_push {κ β : Type} [DecidableEq κ] (k : κ) (v : β) (b : Nat) (l : List (κ × β × Nat)) (h : l.findIdx? (fun x => decide (k = x.1)) = none) (q : κ) : lkE (l ++ [(k, v, b)]) q = upd (lkE l) k v q := by
  unfold lkE upd
  rw [List.find?_append]
  by_cases e : q = k
  · subst e
    have : l.find? (fun x => decide (q = x.1)) = none := by
      rw [List.findIdx?_eq_none_iff] at h
      rw [List.find?_eq_none]; intro x hx; simpa using h x hx
    simp [this]
  · rw [if_neg e]
    have e1 : [(k, v, b)].find? (fun x => decide (q = x.1)) = none := by simp [e]
    rw [e1, Option.or_none]
theorem run_setObj' {w : World} {r : Nat} {es es' : Array MapEntry} {c c' : Nat} (h : w.heap[r]? = some (.map es c)) : ∃ w', (setObj r (.map es' c')).run P w = .ok () w' ∧ w'.heap[r]? = some (.map es' c') ∧ (∀ k, k ≠ r → w'.heap[k]? = w.heap[k]?) ∧ Kept w w' := by
  refine ⟨{ w with heap := w.heap.setIfInBounds r (.map es' c') }, by simp [setObj, Sem.run, h], ?_, ?_, ⟨rfl, rfl, rfl, by simp⟩⟩
  · have := lt_of_heap h; simp [this]
  · intro k hk; simp [Array.getElem?_setIfInBounds, Ne.symm hk]
theorem ents_modify {κ β : Type} (key : κ → Value) (val : β → Value) (l : List (κ × β × Nat)) (j : Nat) (k : κ) (v : β) (x : κ × β × Nat) (hx : l[j]? = some x) : (ents key val l).modify j (fun e => { e with key := key k, val := val v }) = ents key val (l.set j (k, v, x.2.2)) := by
  apply Array.ext'
  apply List.ext_getElem?
  intro i
  simp only [ents, Array.toList_modify, List.getElem?_modify, List.getElem?_map, List.getElem?_set]
  by_cases e : j = i
  · subst e
    have hlt := (List.getElem?_eq_some_iff.1 hx).1
    have hx' : l[j] = x := by rw [List.getElem?_eq_getElem hlt] at hx; injection hx
    simp [hlt, hx']
  · simp [e]
theorem run_mapUpdate {T KT ET : TypeId} {κ β : Type} {dk : DecidableEq κ} {key : κ → Value} {val : β → Value} {m : κ → Option β} {r : Nat} {k : κ} {v : β} [hT : TyU P T (.map KT ET)] [hK : KeyT P KT κ key] {w : World} (H : Sat (mapI key val r m :: L) w) :
    ∃ w', (Instr.mapUpdate T (.map (some r)) (key k) (val v)).run P w = .ok () w' ∧ Sat (mapI key val r (upd m k v) :: L) w' ∧ Kept w w' := by
  obtain ⟨l, c, e1, e2⟩ := mapI_out H
  obtain ⟨desc, h1, h2, h3, h4⟩ := hK.out
  have hf := run_findKey (P := P) (K := KT) (val := val) k l w
  have hck : ∀ b, (Instr.checkKey b 10000 KT (key k)).run P w = .ok () w := fun b => h4 w b 9999 k
  have fin : ∀ (l' : List (κ × β × Nat)) (c' : Nat), (∀ q, lkE l' q = upd m k v q) → ∀ w', w'.heap[r]? = some (.map (ents key val l') c') → (∀ k, k ≠ r → w'.heap[k]? = w.heap[k]?) → Sat (mapI key val r (upd m k v) :: L) w' := fun l' c' hl w' g1 g2 => by
    refine H.change fun h0 e le => ?_
    obtain ⟨l0, c0, f1, f2⟩ := e
    refine ⟨fun b => if b = r then some (.map (ents key val l') c') else none, ⟨l', c', by simp, hl⟩, fun b o g => ?_, fun b o g => ?_, fun b o g g' => ?_⟩
    · by_cases hb : b = r
      · subst hb; simp at g; subst g; exact g1
      · simp [hb] at g
    · by_cases hb : b = r
      · subst hb; left; rw [f1]; simp
      · simp [hb] at g
    · by_cases hb : b = r
      · subst hb; rw [f1] at g'; cases g'
      · rw [g2 b hb]; exact g
  cases h5 : l.findIdx? (fun x => decide (k = x.1)) with
  | none =>
    obtain ⟨w', g1, g2, g3, g4⟩ := run_setObj' (P := P) (es' := ents key val (l ++ [(k, v, c)])) (c' := c + 1) e1
    refine ⟨w', ?_, fin _ _ (fun q => by rw [lkE_push k v c l h5 q]; unfold upd; rw [e2]) w' g2 g3, g4⟩
    have e3 : (ents key val l).push { key := key k, val := val v, born := c } = ents key val (l ++ [(k, v, c)]) := by simp [ents]
    simp only [Instr.mapUpdate, Sem.run_bind, run_underlying hT.out, Result.andThen_ok, run_getObj' e1, hck, hf, h5, Option.bind_none, e3, g1]
  | some j =>
    have hj : ∃ x, l[j]? = some x ∧ x.1 = k := by
      rw [List.findIdx?_eq_some_iff_getElem] at h5
      obtain ⟨h7, h8, _⟩ := h5
      exact ⟨l[j], List.getElem?_eq_getElem h7, by simpa using (of_decide_eq_true h8).symm⟩
    obtain ⟨x, hx, hxk⟩ := hj
    obtain ⟨w', g1, g2, g3, g4⟩ := run_setObj' (P := P) (es' := ents key val (l.set j (k, v, x.2.2))) (c' := c) e1
    refine ⟨w', ?_, fin _ _ (fun q => by rw [lkE_set k v l j x h5 hx q]; unfold upd; rw [e2]) w' g2 g3, g4⟩
    have e3 := ents_modify key val l j k v x hx
    have e4 : (ents key val l)[j]? = some ⟨key x.1, val x.2.1, x.2.2⟩ := by simp [ents, hx]
    have e5 : (Instr.keyThatStays (key k) (key k)).run P w = .ok (key k) w := by simp [Instr.keyThatStays, h3 9999 k]
    simp only [Instr.mapUpdate, Sem.run_bind, run_underlying hT.out, Result.andThen_ok, run_getObj' e1, hck, hf, h5, Option.bind_some, hx, Option.map_some, e4, Option.getD_some, hxk, e5, e3, g1]
theorem so_mapUpdate {x y z : Operand} {T KT ET : TypeId} {κ β : Type} {dk : DecidableEq κ} {key : κ → Value} {val : β → Value} {m : κ → Option β} {K : SP → List SP} {r : Nat} {k : κ} {v : β} (hx : Fr.ev fr x = some (.map (some r))) [hT : TyU P T (.map KT ET)] [hK : KeyT P KT κ key] [hm : MapIn L r κ β dk key val m K] (hy : Fr.ev fr y = some (key k)) (hz : Fr.ev fr z = some (val v))
    (kk : SO l P ro sz ops fr ds (K (mapI key val r (upd m k v))) Q) : SO (⟨none, .mapUpdate T x y z, ty, pos, aft, none⟩ :: l) P ro sz ops fr ds L Q :=
  so_gen0 (fun c h => by cases h) (fun M => M = K (mapI key val r (upd m k v))) (fun tm w h1 h2 h3 => by
    obtain ⟨L0, p, q⟩ := hm.out.out
    obtain ⟨w', e1, e2, e3⟩ := run_mapUpdate (P := P) (T := T) (KT := KT) (ET := ET) (k := k) (v := v) (Sat.perm p h3)
    exact ⟨w', _, by simp [execOp, h2.ev hx, h2.ev hy, h2.ev hz, e1], rfl, Sat.perm (q _) e2, e3⟩) (fun _ e => by subst e; exact kk)
theorem so_insert {x y z : Operand} {T KT ET : TypeId} {κ β : Type} {dk : DecidableEq κ} {key : κ → Value} {val : β → Value} {m : κ → Option β} {K : SP → List SP} {r : Nat} {k : κ} {v : β} (hx : Fr.ev fr x = some (.map (some r))) [hT : TyU P T (.map KT ET)] [hK : KeyT P KT κ key] [hm : MapIn L r κ β dk key val m K] (hy : Fr.ev fr y = some (key k)) (hz : Fr.ev fr z = some (val v))
    (kk : SO l P ro sz ops fr ds (K (mapI key val r (upd m k v))) Q) : SO (⟨none, .insert T x y z, ty, pos, aft, none⟩ :: l) P ro sz ops fr ds L Q :=
  so_gen0 (fun c h => by cases h) (fun M => M = K (mapI key val r (upd m k v))) (fun tm w h1 h2 h3 => by
    obtain ⟨L0, p, q⟩ := hm.out.out
    obtain ⟨w', e1, e2, e3⟩ := run_mapUpdate (P := P) (T := T) (KT := KT) (ET := ET) (k := k) (v := v) (Sat.perm p h3)
    exact ⟨w', _, by simp [execOp, h2.ev hx, h2.ev hy, h2.ev hz, e1], rfl, Sat.perm (q _) e2, e3⟩) (fun _ e => by subst e; exact kk)
theorem so_makeMap {T : TypeId} {κ β : Type} [DecidableEq κ] (key : κ → Value) (val : β → Value) (hd : Nat.blt d sz = true)
    (k : ∀ r, SO l P ro sz ops ((d, .map (some r)) :: fr) ds (mapI key val r (fun _ => none) :: L) Q) : SO (⟨some d, .makeMap T none, ty, pos, aft, none⟩ :: l) P ro sz ops fr ds L Q :=
  so_gen (fun c h => by cases h) (fun v L' => ∃ r, v = .map (some r) ∧ L' = mapI key val r (fun _ => none) :: L) (fun tm w h1 h2 h3 =>
    ⟨.map (some w.heap.size), { w with heap := w.heap.push (.map #[] 0) }, _, by simp [execOp, Instr.makeMap, newObj, Sem.run], ⟨w.heap.size, rfl, rfl⟩, (Sat.alloc (o := .map #[] 0) h3 rfl).weaken fun h e => ⟨[], 0, e, fun _ => rfl⟩, ⟨rfl, rfl, rfl, by simp⟩⟩) hd
    (fun v L' ⟨r, e1, e2⟩ => by subst e1; subst e2; exact k r)
end
end Go.Proofs.YtmhfhfhdblccjaaGreat
/-
  Small closing steps, each kept once.
-/
namespace Go.Proofs.YtmhfhfhdblccjaaGreat
open Go Go.RowKit
theorem fsA {a b : Fr} (h : FSub a b := by (repeat' (first | exact FSub.nil _ | (refine FSub.cons rfl ?_) | (refine FSub.int rfl ?_ ?_; · (first | omega | (dsimp only; omega)))))) : FSub a b := h
theorem decA {p : Prop} (h : p := by (first | assumption | (simp only [Bool.not_true, Bool.not_false, Bool.not_eq_true', Bool.not_eq_false', decide_eq_true_eq, decide_eq_false_iff_not]; first | assumption | omega))) : p := h
theorem lenA {p : Prop} (h : p := by (first | omega | (simp only [List.length_append, List.length_cons, List.length_nil, List.length_replicate, List.length_take, List.length_drop, List.length_set, List.length_map, List.length_flatten]; omega))) : p := h
theorem voA {P : Program} {ds : List Deferred} {o : Oper} {fr : Fr} {L : List SP} {v : Value} (h : VO P ds o fr L v := by first | exact vo_move rfl | exact vo_assign rfl | exact vo_lss rfl rfl | exact vo_eql rfl rfl | exact vo_neq rfl rfl | (refine vo_add rfl rfl ?_; omega) | (refine vo_sub rfl rfl ?_; omega) | (refine vo_indexAddr_nat rfl rfl rfl ?_; (exact lenA)) | (refine vo_indexAddr rfl rfl rfl ?_; (exact lenA)) | (refine vo_load_at rfl ?_; (exact lenA)) | (apply vo_load_elt rfl rfl; (· assumption); (· rfl); done) | exact vo_load rfl rfl | exact vo_len rfl | exact vo_fieldAddr rfl | exact vo_not rfl | exact vo_geq rfl rfl | exact vo_gtr rfl rfl | exact vo_leq rfl rfl | exact vo_extractL rfl rfl | exact vo_extract rfl rfl | exact vo_makeFunc rfl | exact vo_makeFunc1 rfl rfl | exact vo_nilCheck_ptr rfl | exact vo_nilCheck_func rfl | (apply vo_fieldAddr_elt rfl; assumption; done) | exact vo_pick_t rfl rfl rfl | exact vo_pick_f rfl rfl rfl | (refine vo_pick_t rfl ?_ rfl; (exact decA)) | (refine vo_pick_f rfl ?_ rfl; (exact decA)) | exact vo_load_all rfl rfl | (apply vo_load_elt_agg rfl rfl; (· assumption); (· rfl); (· rfl); done) | exact vo_fieldAddr' rfl | (apply vo_fieldAddr_elt' rfl; assumption; done) | exact vo_load_part rfl rfl | (refine vo_slice rfl rfl rfl rfl ?_; omega) | (refine vo_slice_from rfl rfl rfl ?_; omega) | (refine vo_slice_to rfl rfl rfl ?_; omega) | (refine vo_mul rfl rfl ?_; omega) | (refine vo_quo rfl rfl ?_; omega) | (refine vo_rem rfl rfl ?_; omega) | (refine vo_neg rfl ?_; omega) | (refine vo_conv64 rfl ?_; omega) | exact vo_conv rfl | exact vo_max2 rfl rfl | exact vo_min2 rfl rfl | exact vo_build rfl | exact vo_eqb rfl rfl | exact vo_neqb rfl rfl | exact vo_field rfl rfl | exact vo_field_agg rfl | exact vo_xor rfl rfl | (apply vo_and_is rfl rfl; assumption; done) | (apply vo_or_is rfl rfl; assumption; done) | (apply vo_andNot_is rfl rfl; assumption; done) | (apply vo_shl_is rfl rfl; (· assumption); (· constructor; (· omega); (· show _ ≤ ((64 : Nat) : Int); omega)); done) | (apply vo_shr_is rfl rfl; (· assumption); (· constructor; (· omega); (· show _ ≤ ((64 : Nat) : Int); omega)); done) | exact vo_and rfl rfl | exact vo_or rfl rfl | exact vo_andNot rfl rfl | (refine vo_shr rfl rfl ?_; decide) | (refine vo_shl rfl rfl ?_; decide) | (refine vo_shr rfl rfl ⟨?_, ?_⟩; (· omega); (· show _ ≤ ((64 : Nat) : Int); omega)) | (refine vo_shl rfl rfl ⟨?_, ?_⟩; (· omega); (· show _ ≤ ((64 : Nat) : Int); omega)) | exact vo_addw rfl rfl | exact vo_mulw rfl rfl | exact vo_eql_nil rfl rfl | exact vo_lookup rfl rfl rfl | exact vo_lookup_ok rfl rfl rfl | (refine vo_index_str rfl rfl ?_; (show _ ∧ _ < ((256 : Nat) : Int)); omega) | exact vo_cap rfl | (refine vo_indexAddr_arr rfl rfl ?_; omega) | (apply vo_load_is rfl; (· assumption); done) | exact vo_eql_2 rfl rfl | exact vo_neq_2 rfl rfl | (apply vo_load_desk rfl; (· assumption); done) | (apply vo_eql_arr rfl rfl; (· assumption); (· assumption); done) | (apply vo_indexAddr_hdi rfl rfl; (· assumption); (· omega); done) | fail) : VO P ds o fr L v := h
/-- one step of a walk that leaves one goal and names nothing -/
theorem go1 {A G : Prop} (k : A) (h : A → G := by
    first
    | exact sw_skip
    | exact sw_label
    | exact sw_exit
    | exact sw_ret
    | exact so_store rfl rfl rfl
    | exact so_store1 rfl rfl
    | exact so_store_set rfl rfl rfl
    | exact so_store_row1 rfl rfl rfl lenA
    | exact so_store_elt1 rfl rfl rfl lenA
    | exact so_store_all (u := .nilFunc) rfl rfl rfl rfl rfl
    | exact so_store_allA rfl rfl rfl rfl
    | exact so_mapUpdate rfl rfl rfl
    | exact so_insert rfl rfl rfl
    | exact so_on rfl rfl rfl
    | exact so_off rfl rfl rfl rfl
    | exact so_off_undef rfl rfl rfl
    | exact so_on rfl rfl decA
    | exact so_off rfl rfl decA rfl
    | exact sw_true rfl rfl
    | exact sw_false rfl rfl
    | exact sw_true rfl decA
    | exact sw_false rfl decA
    | fail) : G := h k
theorem goQ {A G : Prop} (k : A) (h : A → G := by
    first
    | exact sw_seq'
    | exact sw_block_seq
    | exact sw_block_region
    | exact sw_block_cond
    | exact sw_block_skip
    | exact sw_block_block
    | exact sw_scope
    | fail) : G := h k
theorem goB {A G : Prop} (k : A) (h : A → G := by
    first
    | exact so_box1 rfl rfl
    | exact so_allocA rfl
    | exact so_alloc rfl rfl
    | fail) : G := h k
theorem goU {A G : Prop} (k : A) (h : A → G := by
    first
    | (refine so_makeSlice0 rfl rfl rfl rfl ?_; omega)
    | (refine so_makeSlice' rfl rfl rfl rfl ?_; omega)
    | exact so_append_new rfl rfl rfl rfl lenA
    | exact so_append rfl rfl rfl rfl lenA
    | exact so_buildSlice0 rfl rfl
    | exact so_buildSlice rfl rfl rfl rfl
    | fail) : G := h k
theorem goM {A G : Prop} (k : A) (h : A → G := by
    first
    | exact so_makeMap keyInt keyInt rfl
    | fail) : G := h k
theorem go2 {A B G : Prop} (a : A) (b : B) (h : A → B → G := by
    first
    | exact so_guard rfl rfl rfl
    | exact sw_cond rfl
    | fail) : G := h a b
end Go.Proofs.YtmhfhfhdblccjaaGreat
/-
  What the checking package's sack of numbers does.
-/
namespace Go.Proofs.YtmhfhfhdblccjaaGreat
open Go Go.RowKit
set_option maxHeartbeats 4000000
set_option linter.unusedVariables false
set_option linter.unusedSimpArgs false
set_option maxRecDepth 20000
/-- A sack at block b over the bytes of a row; no more than n numbers have been taken. -/
def sack (b : Nat) (g : Value) (n : Nat) : SP := fun h => ∃ t m : Int, 0 ≤ t ∧ t ≤ n ∧ cl b 85 [g, .int .i64 t, .int .u32 m] h
theorem sack_open {L : List SP} {b n : Nat} {g : Value} {w : World} (H : Sat (sack b g n :: L) w) : ∃ t m : Int, 0 ≤ t ∧ t ≤ n ∧ Sat (cl b 85 [g, .int .i64 t, .int .u32 m] :: L) w := by
  obtain ⟨h1, h2, ⟨t, m, e1, e2, e3⟩, r1, r2, r3, r4⟩ := H
  exact ⟨t, m, e1, e2, h1, h2, e3, r1, r2, r3, r4⟩
theorem sack_close {L : List SP} {b n : Nat} {g : Value} {t m : Int} (h1 : 0 ≤ t) (h2 : t ≤ n) : Less (cl b 85 [g, .int .i64 t, .int .u32 m] :: L) (sack b g n :: L) := ⟨fun w H => H.weaken fun h e => ⟨t, m, h1, h2, e⟩⟩
theorem FnC.sack {f b n : Nat} {args : List Value} {L : List SP} {R : Value → List SP → Prop} {g : Value} (k : ∀ t m : Int, 0 ≤ t → t ≤ n → FnC Tryz.prog f args (cl b 85 [g, .int .i64 t, .int .u32 m] :: L) R) : FnC Tryz.prog f args (Proofs.YtmhfhfhdblccjaaGreat.sack b g n :: L) R := fun w H => by
  obtain ⟨t, m, h1, h2, H'⟩ := sack_open H
  exact k t m h1 h2 w H'
theorem get_some {α : Type} {xs : List α} {k : Nat} (h : k < xs.length) : ∃ x, xs[k]? = some x := ⟨xs[k], List.getElem?_eq_getElem _⟩
attribute [local irreducible] SW SO FnC retQ SA VO

theorem Fill_ok (L : List SP) (u : SlV) (g : List UInt8) [r : RdSl L u.v UInt8 encU8 g] : FnC Tryz.prog 8 [u.v] L (fun v M => ∃ b, v = .pointer (some ⟨b, 0, none⟩) ∧ M = sack b u.v 0 :: L) := by
  refine FnC.pure r.len fun hlen => ?_
  refine fn_start (sz := 10) Tryz.func8 rfl rfl rfl ?_
  repeat' (first
    | (apply so_vo; (· exact voA); (· rfl))
    | refine so_nil ?_
    | refine q_go ?_
    | refine sw_region ?_
    | (refine goQ ?_; intro _ _)
    | refine go1 ?_
    | (refine goU ?_; intro nu)
    | (refine goB ?_; intro nb)
    | (refine goM ?_; intro nm)
    | (refine go2 ?_ ?_ <;> intro h <;> (try simp only [Bool.not_true, Bool.not_false, decide_eq_true_eq, decide_eq_false_iff_not, Bool.not_eq_true', Bool.not_eq_false', ne_eq, Decidable.not_not, Int.not_lt, Int.not_le, not_false_eq_true] at h))
    | fail)
  apply rq1 rfl rfl
  · exact ⟨_, rfl, rfl⟩
  · exact sack_close (by omega) (by omega)
theorem and_range {κ : IntKind} (a : BitVec κ.bits) (m : Int) (hκ : κ = .u32) (h0 : 0 ≤ m) (hm : m < 4294967296) : 0 ≤ κ.wrap ((a &&& BitVec.ofInt κ.bits m).toNat : Int) ∧ κ.wrap ((a &&& BitVec.ofInt κ.bits m).toNat : Int) ≤ m := by
  subst hκ
  have h1 : ((a &&& BitVec.ofInt IntKind.u32.bits m).toNat : Int) ≤ m := by
    have h3 : (a &&& BitVec.ofInt IntKind.u32.bits m).toNat ≤ (BitVec.ofInt IntKind.u32.bits m).toNat := by
      rw [BitVec.toNat_and]; exact Nat.and_le_right
    have h4 : ((BitVec.ofInt IntKind.u32.bits m).toNat : Int) = m := by
      rw [BitVec.toNat_ofInt]
      have : (2 ^ IntKind.u32.bits : Nat) = 4294967296 := by decide
      rw [this]; omega
    omega
  have h2 : IntKind.u32.wrap ((a &&& BitVec.ofInt IntKind.u32.bits m).toNat : Int) = ((a &&& BitVec.ofInt IntKind.u32.bits m).toNat : Int) := IntWalk.u32_in _ (by omega)
  rw [h2]; omega
theorem handful_ok (L : List SP) (b n : Nat) (u : SlV) (g : List UInt8) [r : RdSl L u.v UInt8 encU8 g] (hn : n < 1000000000000) : FnC Tryz.prog 62 [.pointer (some ⟨b, 0, none⟩)] (sack b u.v n :: L) (fun v M => ∃ x : Int, 0 ≤ x ∧ x ≤ 65535 ∧ v = .int .i64 x ∧ M = sack b u.v (n + 1) :: L) := by
  refine FnC.sack fun t m h1 h2 => FnC.pure (fun w H => r.len w H.tail) fun hlen => ?_
  refine fn_start (sz := 72) Tryz.func62 rfl rfl rfl ?_
  repeat' (first
    | (apply so_vo; (· exact voA); (· rfl))
    | refine so_nil ?_
    | refine q_go ?_
    | refine sw_region ?_
    | (refine goQ ?_; intro _ _)
    | refine go1 ?_
    | (refine goU ?_; intro nu)
    | (refine goB ?_; intro nb)
    | (refine goM ?_; intro nm)
    | fail)
  refine sw_mid (σ := Int) (fun _ => [(0, .pointer (some ⟨b, 0, none⟩)), (2, .int .i64 0)]) (fun m => cl b 85 [u.v, .int .i64 t, .int .u32 m] :: L) (fun _ => True) (fun _ _ _ _ h1 h2 h => sw_frame h1 (sw_mem h2 h)) (fun Q' hq => ?_) (fun m _ => ?_)
  · repeat' (first
      | (apply so_vo; (· exact voA); (· rfl))
      | refine so_nil ?_
      | refine q_go ?_
      | refine sw_region ?_
      | (refine goQ ?_; intro _ _)
      | refine go1 ?_
      | (refine goU ?_; intro nu)
      | (refine goB ?_; intro nb)
      | (refine goM ?_; intro nm)
      | (refine go2 ?_ ?_ <;> intro h <;> (try simp only [Bool.not_true, Bool.not_false, decide_eq_true_eq, decide_eq_false_iff_not, Bool.not_eq_true', Bool.not_eq_false', ne_eq, Decidable.not_not, Int.not_lt, Int.not_le, not_false_eq_true] at h))
      | fail)
    · have h3 := Int.emod_nonneg t (b := (g.length : Int)) (by omega)
      have h4 := Int.emod_lt_of_pos t (b := (g.length : Int)) h
      obtain ⟨x, hx⟩ := get_some (xs := g) (k := (t % (g.length : Int)).toNat) (by omega)
      refine sa_start [20, 21, 22] mixed (by kernel_rfl) ?_
      apply sa_stat 0 rfl (by kernel_rfl) rfl
      · (exact voA)
      apply sa_stat 1 rfl (by kernel_rfl) rfl
      · (exact voA)
      apply sa_stat 2 rfl (by kernel_rfl) rfl
      · (exact voA)
      apply sa_stat 3 rfl (by kernel_rfl) rfl
      · (exact voA)
      apply sa_stat 4 rfl (by kernel_rfl) rfl
      · (exact voA)
      apply sa_stat 5 rfl (by kernel_rfl) rfl
      · (exact voA)
      apply sa_stat 6 rfl (by kernel_rfl) rfl
      · (exact voA)
      apply sa_stat 7 rfl (by kernel_rfl) rfl
      · (exact voA)
      apply sa_stat 8 rfl (by kernel_rfl) rfl
      · (exact voA)
      apply sa_stat 9 rfl (by kernel_rfl) rfl
      · (exact voA)
      apply sa_stat 10 rfl (by kernel_rfl) rfl
      · (exact voA)
      apply sa_stat 11 rfl (by kernel_rfl) rfl
      · (exact voA)
      apply sa_stat 12 rfl (by kernel_rfl) rfl
      · (exact voA)
      apply sa_stat 13 rfl (by kernel_rfl) rfl
      · (exact voA)
      apply sa_stat 14 rfl (by kernel_rfl) rfl
      · (exact voA)
      apply sa_stat 15 rfl (by kernel_rfl) rfl
      · (exact voA)
      apply sa_stat 16 rfl (by kernel_rfl) rfl
      · (exact voA)
      apply sa_stat 17 rfl (by kernel_rfl) rfl
      · (exact voA)
      apply sa_stat 18 rfl (by kernel_rfl) rfl
      · (exact voA)
      apply sa_stat 19 rfl (by kernel_rfl) rfl
      · (exact voA)
      refine sa_rest (T' := [_, _, _]) rfl (by kernel_rfl) ?_
      repeat' (first
        | (apply so_vo; (· exact voA); (· rfl))
        | refine so_nil ?_
        | refine q_go ?_
        | refine sw_region ?_
        | (refine goQ ?_; intro _ _)
        | refine go1 ?_
        | (refine goU ?_; intro nu)
        | (refine goB ?_; intro nb)
        | (refine goM ?_; intro nm)
        | (refine go2 ?_ ?_ <;> intro h <;> (try simp only [Bool.not_true, Bool.not_false, decide_eq_true_eq, decide_eq_false_iff_not, Bool.not_eq_true', Bool.not_eq_false', ne_eq, Decidable.not_not, Int.not_lt, Int.not_le, not_false_eq_true] at h))
        | fail)
      refine ⟨rfl, _, trivial, ?_, fun _ h => h⟩
      (exact fsA)
    · refine ⟨rfl, m, trivial, ?_, fun _ h => h⟩
      (exact fsA)
  repeat' (first
    | (apply so_vo; (· exact voA); (· rfl))
    | refine so_nil ?_
    | refine q_go ?_
    | refine sw_region ?_
    | (refine goQ ?_; intro _ _)
    | refine go1 ?_
    | (refine goU ?_; intro nu)
    | (refine goB ?_; intro nb)
    | (refine goM ?_; intro nm)
    | (refine go2 ?_ ?_ <;> intro h <;> (try simp only [Bool.not_true, Bool.not_false, decide_eq_true_eq, decide_eq_false_iff_not, Bool.not_eq_true', Bool.not_eq_false', ne_eq, Decidable.not_not, Int.not_lt, Int.not_le, not_false_eq_true] at h))
    | fail)
  refine sa_start [] mixed (by kernel_rfl) ?_
  apply sa_stat 0 rfl (by kernel_rfl) rfl
  · (exact voA)
  apply sa_stat 1 rfl (by kernel_rfl) rfl
  · (exact voA)
  apply sa_stat 2 rfl (by kernel_rfl) rfl
  · (exact voA)
  apply sa_stat 3 rfl (by kernel_rfl) rfl
  · (exact voA)
  apply sa_stat 4 rfl (by kernel_rfl) rfl
  · (exact voA)
  apply sa_stat 5 rfl (by kernel_rfl) rfl
  · (exact voA)
  apply sa_stat 6 rfl (by kernel_rfl) rfl
  · (exact voA)
  apply sa_stat 7 rfl (by kernel_rfl) rfl
  · (exact voA)
  apply sa_stat 8 rfl (by kernel_rfl) rfl
  · (exact voA)
  apply sa_stat 9 rfl (by kernel_rfl) rfl
  · (exact voA)
  refine sa_rest (T' := []) rfl (by kernel_rfl) ?_
  repeat' (first
    | (apply so_vo; (· exact voA); (· rfl))
    | refine so_nil ?_
    | refine q_go ?_
    | refine sw_region ?_
    | (refine goQ ?_; intro _ _)
    | refine go1 ?_
    | (refine goU ?_; intro nu)
    | (refine goB ?_; intro nb)
    | (refine goM ?_; intro nm)
    | fail)
  refine sw_mid (σ := Int) (fun _ => [(0, .pointer (some ⟨b, 0, none⟩)), (2, .int .i64 0)]) (fun m => cl b 85 [u.v, .int .i64 (t + 1), .int .u32 m] :: L) (fun _ => True) (fun _ _ _ _ h1 h2 h => sw_frame h1 (sw_mem h2 h)) (fun Q' hq => ?_) (fun m _ => ?_)
  · repeat' (first
      | (apply so_vo; (· exact voA); (· rfl))
      | refine so_nil ?_
      | refine q_go ?_
      | refine sw_region ?_
      | (refine goQ ?_; intro _ _)
      | refine go1 ?_
      | (refine goU ?_; intro nu)
      | (refine goB ?_; intro nb)
      | (refine goM ?_; intro nm)
      | (refine go2 ?_ ?_ <;> intro h <;> (try simp only [Bool.not_true, Bool.not_false, decide_eq_true_eq, decide_eq_false_iff_not, Bool.not_eq_true', Bool.not_eq_false', ne_eq, Decidable.not_not, Int.not_lt, Int.not_le, not_false_eq_true] at h))
      | fail)
    · refine ⟨rfl, _, trivial, ?_, fun _ h => h⟩
      (exact fsA)
    · refine ⟨rfl, m, trivial, ?_, fun _ h => h⟩
      (exact fsA)
  repeat' (first
    | (apply so_vo; (· exact voA); (· rfl))
    | refine so_nil ?_
    | refine q_go ?_
    | refine sw_region ?_
    | (refine goQ ?_; intro _ _)
    | refine go1 ?_
    | (refine goU ?_; intro nu)
    | (refine goB ?_; intro nb)
    | (refine goM ?_; intro nm)
    | (refine go2 ?_ ?_ <;> intro h <;> (try simp only [Bool.not_true, Bool.not_false, decide_eq_true_eq, decide_eq_false_iff_not, Bool.not_eq_true', Bool.not_eq_false', ne_eq, Decidable.not_not, Int.not_lt, Int.not_le, not_false_eq_true] at h))
    | fail)
  refine sa_start [13] mixed (by kernel_rfl) ?_
  apply sa_stat 0 rfl (by kernel_rfl) rfl
  · (exact voA)
  apply sa_stat 1 rfl (by kernel_rfl) rfl
  · (exact voA)
  apply sa_stat 2 rfl (by kernel_rfl) rfl
  · (exact voA)
  apply sa_stat 3 rfl (by kernel_rfl) rfl
  · (exact voA)
  apply sa_stat 4 rfl (by kernel_rfl) rfl
  · (exact voA)
  apply sa_stat 5 rfl (by kernel_rfl) rfl
  · (exact voA)
  apply sa_stat 6 rfl (by kernel_rfl) rfl
  · (exact voA)
  apply sa_stat 7 rfl (by kernel_rfl) rfl
  · (exact voA)
  apply sa_stat 8 rfl (by kernel_rfl) rfl
  · (exact voA)
  apply sa_stat 9 rfl (by kernel_rfl) rfl
  · (exact voA)
  apply sa_stat 10 rfl (by kernel_rfl) rfl
  · (exact voA)
  apply sa_stat 11 rfl (by kernel_rfl) rfl
  · (exact voA)
  apply sa_stat 12 rfl (by kernel_rfl) rfl
  · (exact voA)
  refine sa_rest (T' := [_]) rfl (by kernel_rfl) ?_
  repeat' (first
    | (apply so_vo; (· exact voA); (· rfl))
    | refine so_nil ?_
    | refine q_go ?_
    | refine sw_region ?_
    | (refine goQ ?_; intro _ _)
    | refine go1 ?_
    | (refine goU ?_; intro nu)
    | (refine goB ?_; intro nb)
    | (refine goM ?_; intro nm)
    | (refine go2 ?_ ?_ <;> intro h <;> (try simp only [Bool.not_true, Bool.not_false, decide_eq_true_eq, decide_eq_false_iff_not, Bool.not_eq_true', Bool.not_eq_false', ne_eq, Decidable.not_not, Int.not_lt, Int.not_le, not_false_eq_true] at h))
    | fail)
  apply rq1 rfl rfl
  · have hr := and_range (κ := .u32) (BitVec.ofInt IntKind.u32.bits ((IntKind.u32.wrap ((BitVec.ofInt IntKind.u32.bits m ^^^ BitVec.ofInt IntKind.u32.bits (m / 2 ^ Int.toNat 15)).toNat : Int)) / 2 ^ Int.toNat 8)) 65535 rfl (by decide) (by decide)
    refine ⟨_, ?_, ?_, rfl, rfl⟩
    · rw [wrap_ok (by omega) (by omega)]; exact hr.1
    · rw [wrap_ok (by omega) (by omega)]; exact hr.2
  · exact sack_close (by omega) (by omega)
theorem Below_ok (L : List SP) (K : SP → List SP) (b n : Nat) (k : Int) (u : SlV) (g : List UInt8) [hh : Hole L (sack b u.v n) K] [r : RdO L (sack b u.v n) u.v UInt8 encU8 g] (hn : n < 1000000000000) (hk : -9223372036854775808 ≤ k ∧ k ≤ 9223372036854775807) : FnC Tryz.prog 18 [.pointer (some ⟨b, 0, none⟩), .int .i64 k] L (fun v M => ∃ x : Int, 0 ≤ x ∧ x < max 1 k ∧ v = .int .i64 x ∧ M = K (sack b u.v (n + 1))) := by
  refine FnC.mono (FnC.hole (A := sack b u.v n) (R := fun v B => (∃ x : Int, 0 ≤ x ∧ x < max 1 k ∧ v = .int .i64 x) ∧ B = sack b u.v (n + 1)) fun L0 p => ?_) (by rintro v M ⟨B, ⟨⟨x, h⟩, rfl⟩, rfl⟩; exact ⟨x, h.1, h.2.1, h.2.2, rfl⟩)
  have r0 := r.rd p
  refine fn_start (sz := 10) Tryz.func18 rfl rfl rfl ?_
  repeat' (first
    | (apply so_vo; (· exact voA); (· rfl))
    | refine so_nil ?_
    | refine q_go ?_
    | refine sw_region ?_
    | (refine goQ ?_; intro _ _)
    | refine go1 ?_
    | (refine goU ?_; intro nu)
    | (refine goB ?_; intro nb)
    | (refine goM ?_; intro nm)
    | (refine go2 ?_ ?_ <;> intro h <;> (try simp only [Bool.not_true, Bool.not_false, decide_eq_true_eq, decide_eq_false_iff_not, Bool.not_eq_true', Bool.not_eq_false', ne_eq, Decidable.not_not, Int.not_lt, Int.not_le, not_false_eq_true] at h))
    | fail)
  refine so_call rfl rfl rfl (handful_ok L0 b n u g hn) ?_
  rintro _ _ ⟨x, h1, h2, rfl, rfl⟩
  have h3 := Int.emod_nonneg x (b := max 1 k) (by omega)
  have h4 := Int.emod_lt_of_pos x (b := max 1 k) (by omega)
  repeat' (first
    | (apply so_vo; (· exact voA); (· rfl))
    | refine so_nil ?_
    | refine q_go ?_
    | refine sw_region ?_
    | (refine goQ ?_; intro _ _)
    | refine go1 ?_
    | (refine goU ?_; intro nu)
    | (refine goB ?_; intro nb)
    | (refine goM ?_; intro nm)
    | (refine go2 ?_ ?_ <;> intro h <;> (try simp only [Bool.not_true, Bool.not_false, decide_eq_true_eq, decide_eq_false_iff_not, Bool.not_eq_true', Bool.not_eq_false', ne_eq, Decidable.not_not, Int.not_lt, Int.not_le, not_false_eq_true] at h))
    | fail)
  apply rq1 rfl rfl
  · exact ⟨_, ⟨⟨_, h3, h4, rfl⟩, rfl⟩, rfl⟩
  · infer_instance
theorem Among_ok (L : List SP) (K : SP → List SP) (b n : Nat) (lo hi : Int) (u : SlV) (g : List UInt8) [hh : Hole L (sack b u.v n) K] [r : RdO L (sack b u.v n) u.v UInt8 encU8 g] (hn : n < 1000000000000) (hk : -1000000000000 ≤ lo ∧ lo ≤ 1000000000000 ∧ -1000000000000 ≤ hi ∧ hi ≤ 1000000000000) : FnC Tryz.prog 22 [.pointer (some ⟨b, 0, none⟩), .int .i64 lo, .int .i64 hi] L (fun v M => ∃ x : Int, lo ≤ x ∧ x ≤ max lo hi ∧ v = .int .i64 x ∧ M = K (sack b u.v (n + 1))) := by
  refine FnC.mono (FnC.hole (A := sack b u.v n) (R := fun v B => (∃ x : Int, lo ≤ x ∧ x ≤ max lo hi ∧ v = .int .i64 x) ∧ B = sack b u.v (n + 1)) fun L0 p => ?_) (by rintro v M ⟨B, ⟨⟨x, h⟩, rfl⟩, rfl⟩; exact ⟨x, h.1, h.2.1, h.2.2, rfl⟩)
  have r0 := r.rd p
  refine fn_start (sz := 15) Tryz.func22 rfl rfl rfl ?_
  repeat' (first
    | (apply so_vo; (· exact voA); (· rfl))
    | refine so_nil ?_
    | refine q_go ?_
    | refine sw_region ?_
    | (refine goQ ?_; intro _ _)
    | refine go1 ?_
    | (refine goU ?_; intro nu)
    | (refine goB ?_; intro nb)
    | (refine goM ?_; intro nm)
    | (refine go2 ?_ ?_ <;> intro h <;> (try simp only [Bool.not_true, Bool.not_false, decide_eq_true_eq, decide_eq_false_iff_not, Bool.not_eq_true', Bool.not_eq_false', ne_eq, Decidable.not_not, Int.not_lt, Int.not_le, not_false_eq_true] at h))
    | fail)
  refine so_call rfl rfl rfl (Below_ok _ _ b n _ u g hn (by omega)) ?_
  rintro _ _ ⟨x, h1, h2, rfl, rfl⟩
  repeat' (first
    | (apply so_vo; (· exact voA); (· rfl))
    | refine so_nil ?_
    | refine q_go ?_
    | refine sw_region ?_
    | (refine goQ ?_; intro _ _)
    | refine go1 ?_
    | (refine goU ?_; intro nu)
    | (refine goB ?_; intro nb)
    | (refine goM ?_; intro nm)
    | (refine go2 ?_ ?_ <;> intro h <;> (try simp only [Bool.not_true, Bool.not_false, decide_eq_true_eq, decide_eq_false_iff_not, Bool.not_eq_true', Bool.not_eq_false', ne_eq, Decidable.not_not, Int.not_lt, Int.not_le, not_false_eq_true] at h))
    | fail)
  apply rq1 rfl rfl
  · exact ⟨_, ⟨⟨_, by omega, by omega, rfl⟩, rfl⟩, rfl⟩
  · infer_instance
theorem Rare_ok (L : List SP) (K : SP → List SP) (b n : Nat) (k : Int) (u : SlV) (g : List UInt8) [hh : Hole L (sack b u.v n) K] [r : RdO L (sack b u.v n) u.v UInt8 encU8 g] (hn : n < 1000000000000) (hk : -9223372036854775808 ≤ k ∧ k ≤ 9223372036854775807) : FnC Tryz.prog 45 [.pointer (some ⟨b, 0, none⟩), .int .i64 k] L (fun v M => ∃ x : Int, v = .bool (decide (x = 0)) ∧ M = K (sack b u.v (n + 1))) := by
  refine FnC.mono (FnC.hole (A := sack b u.v n) (R := fun v B => (∃ x : Int, v = .bool (decide (x = 0))) ∧ B = sack b u.v (n + 1)) fun L0 p => ?_) (by rintro v M ⟨B, ⟨⟨x, h⟩, rfl⟩, rfl⟩; exact ⟨x, h, rfl⟩)
  have r0 := r.rd p
  refine fn_start (sz := 9) Tryz.func45 rfl rfl rfl ?_
  repeat' (first
    | (apply so_vo; (· exact voA); (· rfl))
    | refine so_nil ?_
    | refine q_go ?_
    | refine sw_region ?_
    | (refine goQ ?_; intro _ _)
    | refine go1 ?_
    | (refine goU ?_; intro nu)
    | (refine goB ?_; intro nb)
    | (refine goM ?_; intro nm)
    | (refine go2 ?_ ?_ <;> intro h <;> (try simp only [Bool.not_true, Bool.not_false, decide_eq_true_eq, decide_eq_false_iff_not, Bool.not_eq_true', Bool.not_eq_false', ne_eq, Decidable.not_not, Int.not_lt, Int.not_le, not_false_eq_true] at h))
    | fail)
  refine so_call rfl rfl rfl (Below_ok _ _ b n _ u g hn (by omega)) ?_
  rintro _ _ ⟨x, h1, h2, rfl, rfl⟩
  repeat' (first
    | (apply so_vo; (· exact voA); (· rfl))
    | refine so_nil ?_
    | refine q_go ?_
    | refine sw_region ?_
    | (refine goQ ?_; intro _ _)
    | refine go1 ?_
    | (refine goU ?_; intro nu)
    | (refine goB ?_; intro nb)
    | (refine goM ?_; intro nm)
    | (refine go2 ?_ ?_ <;> intro h <;> (try simp only [Bool.not_true, Bool.not_false, decide_eq_true_eq, decide_eq_false_iff_not, Bool.not_eq_true', Bool.not_eq_false', ne_eq, Decidable.not_not, Int.not_lt, Int.not_le, not_false_eq_true] at h))
    | fail)
  apply rq1 rfl rfl
  · exact ⟨_, ⟨⟨_, rfl⟩, rfl⟩, rfl⟩
  · infer_instance
end Go.Proofs.YtmhfhfhdblccjaaGreat
/-
  What the checking package's copies and comparisons do.
-/
namespace Go.Proofs.YtmhfhfhdblccjaaGreat
open Go Go.RowKit
set_option maxHeartbeats 4000000
set_option linter.unusedVariables false
set_option linter.unusedSimpArgs false
set_option maxRecDepth 20000
theorem take_snoc {α : Type} {xs : List α} {k : Nat} {x : α} (h : xs[k]? = some x) : xs.take (k + 1) = xs.take k ++ [x] := by
  rw [List.take_add_one, h]; rfl
theorem take_eq_snoc {α : Type} [DecidableEq α] {xs ys : List α} {k : Nat} {x y : α} (hx : xs[k]? = some x) (hy : ys[k]? = some y) : xs.take (k + 1) = ys.take (k + 1) ↔ xs.take k = ys.take k ∧ x = y := by
  rw [take_snoc hx, take_snoc hy]
  refine ⟨fun h => ?_, fun ⟨h1, h2⟩ => by rw [h1, h2]⟩
  have h1 := congrArg List.dropLast h
  simp only [List.dropLast_concat] at h1
  have h2 := congrArg List.getLast? h
  simp only [List.getLast?_concat] at h2
  exact ⟨h1, by injection h2⟩
theorem take_ne {α : Type} {xs ys : List α} {k : Nat} (h : xs.take k ≠ ys.take k) : xs ≠ ys := fun e => h (by rw [e])
attribute [local irreducible] SW SO FnC retQ SA VO

theorem Dup_int (L : List SP) (u : SlV) (xs : List Int) [r : RdSl L u.v Int encInt xs] (hn : xs.length ≤ 100000000) : FnC Tryz.prog 16 [u.v] L (fun v M => ∃ u' : SlV, v = u'.v ∧ M = ownSl 3 encInt u'.v xs :: L) := by
  refine fn_start (sz := 8) Tryz.func16 rfl rfl rfl ?_
  repeat' (first
    | (apply so_vo; (· exact voA); (· rfl))
    | refine so_nil ?_
    | refine q_go ?_
    | refine sw_region ?_
    | (refine goQ ?_; intro _ _)
    | refine go1 ?_
    | (refine goU ?_; intro nu)
    | (refine goB ?_; intro nb)
    | (refine goM ?_; intro nm)
    | (refine go2 ?_ ?_ <;> intro h <;> (try simp only [Bool.not_true, Bool.not_false, decide_eq_true_eq, decide_eq_false_iff_not, Bool.not_eq_true', Bool.not_eq_false', ne_eq, Decidable.not_not, Int.not_lt, Int.not_le, not_false_eq_true] at h))
    | fail)
  apply rq1 rfl rfl
  · exact ⟨_, rfl, rfl⟩
  · (first | infer_instance | exact ⟨fun _ H => H⟩)
theorem Equal_int (L : List SP) (u1 u2 : SlV) (xs ys : List Int) [r : RdSl L u1.v Int encInt xs] [r2 : RdSl L u2.v Int encInt ys] : FnC Tryz.prog 78 [u1.v, u2.v] L (fun v M => v = .bool (decide (xs = ys)) ∧ M = L) := by
  refine FnC.pure r.len fun hlen => FnC.pure r2.len fun hlen2 => ?_
  refine fn_start (sz := 26) Tryz.func78 rfl rfl rfl ?_
  repeat' (first
    | (apply so_vo; (· exact voA); (· rfl))
    | refine so_nil ?_
    | refine q_go ?_
    | refine sw_region ?_
    | (refine goQ ?_; intro _ _)
    | refine go1 ?_
    | (refine goU ?_; intro nu)
    | (refine goB ?_; intro nb)
    | (refine goM ?_; intro nm)
    | (refine go2 ?_ ?_ <;> intro h <;> (try simp only [Bool.not_true, Bool.not_false, decide_eq_true_eq, decide_eq_false_iff_not, Bool.not_eq_true', Bool.not_eq_false', ne_eq, Decidable.not_not, Int.not_lt, Int.not_le, not_false_eq_true] at h))
    | fail)
  · apply rq1 rfl rfl
    · exact ⟨by rw [decide_eq_false]; intro e; subst e; exact h rfl, rfl⟩
    · (first | infer_instance | exact ⟨fun _ H => H⟩)
  · refine sw_range (τ := Unit) (fun k _ => [(0, u1.v), (1, u2.v)]) (fun _ _ => L) (fun k _ => xs.take k = ys.take k) () rfl (by rfl) (by rfl) (by omega) (by (exact fsA)) (fun _ h => h) (fun _ _ => by rfl) (by rfl) (fun k t hlt hI _ _ => ?_) (fun t hI => ?_)
    · obtain ⟨x, hx⟩ := get_some hlt
      obtain ⟨y, hy⟩ := get_some (xs := ys) (k := k) (by omega)
      have h3 := take_eq_snoc hx hy
      repeat' (first
        | (apply so_vo; (· exact voA); (· rfl))
        | refine so_nil ?_
        | refine q_go ?_
        | refine sw_region ?_
        | (refine goQ ?_; intro _ _)
        | refine go1 ?_
        | (refine goU ?_; intro nu)
        | (refine goB ?_; intro nb)
        | (refine goM ?_; intro nm)
        | (refine go2 ?_ ?_ <;> intro h <;> (try simp only [Bool.not_true, Bool.not_false, decide_eq_true_eq, decide_eq_false_iff_not, Bool.not_eq_true', Bool.not_eq_false', ne_eq, Decidable.not_not, Int.not_lt, Int.not_le, not_false_eq_true] at h))
        | fail)
      refine sa_start [] mixed (by kernel_rfl) ?_
      apply sa_stat 0 rfl (by kernel_rfl) rfl
      · (exact voA)
      apply sa_stat 1 rfl (by kernel_rfl) rfl
      · (exact voA)
      apply sa_stat 2 rfl (by kernel_rfl) rfl
      · (exact voA)
      apply sa_stat 3 rfl (by kernel_rfl) rfl
      · (exact voA)
      apply sa_stat 4 rfl (by kernel_rfl) rfl
      · (exact voA)
      apply sa_stat 5 rfl (by kernel_rfl) rfl
      · (exact voA)
      apply sa_stat 6 rfl (by kernel_rfl) rfl
      · (exact voA)
      apply sa_stat 7 rfl (by kernel_rfl) rfl
      · (exact voA)
      apply sa_stat 8 rfl (by kernel_rfl) rfl
      · (exact voA)
      refine sa_rest (T' := []) rfl (by kernel_rfl) ?_
      repeat' (first
        | (apply so_vo; (· exact voA); (· rfl))
        | refine so_nil ?_
        | refine q_go ?_
        | refine sw_region ?_
        | (refine goQ ?_; intro _ _)
        | refine go1 ?_
        | (refine goU ?_; intro nu)
        | (refine goB ?_; intro nb)
        | (refine goM ?_; intro nm)
        | (refine go2 ?_ ?_ <;> intro h <;> (try simp only [Bool.not_true, Bool.not_false, decide_eq_true_eq, decide_eq_false_iff_not, Bool.not_eq_true', Bool.not_eq_false', ne_eq, Decidable.not_not, Int.not_lt, Int.not_le, not_false_eq_true] at h))
        | fail)
      · apply rq1 rfl rfl
        · exact ⟨by rw [decide_eq_false]; exact take_ne (k := k + 1) (fun e => h (h3.1 e).2), rfl⟩
        · (first | infer_instance | exact ⟨fun _ H => H⟩)
      · refine ⟨rfl, (), h3.2 ⟨hI, h⟩, ?_, ?_⟩
        · (exact fsA)
        · (first | exact fun _ h => h | exact HLess.sat inferInstance)
    · repeat' (first
        | (apply so_vo; (· exact voA); (· rfl))
        | refine so_nil ?_
        | refine q_go ?_
        | refine sw_region ?_
        | (refine goQ ?_; intro _ _)
        | refine go1 ?_
        | (refine goU ?_; intro nu)
        | (refine goB ?_; intro nb)
        | (refine goM ?_; intro nm)
        | (refine go2 ?_ ?_ <;> intro h <;> (try simp only [Bool.not_true, Bool.not_false, decide_eq_true_eq, decide_eq_false_iff_not, Bool.not_eq_true', Bool.not_eq_false', ne_eq, Decidable.not_not, Int.not_lt, Int.not_le, not_false_eq_true] at h))
        | fail)
      apply rq1 rfl rfl
      · exact ⟨by rw [decide_eq_true]; rw [List.take_of_length_le (Nat.le_refl _), List.take_of_length_le (by omega)] at hI; exact hI, rfl⟩
      · (first | infer_instance | exact ⟨fun _ H => H⟩)
theorem Eq_int (L : List SP) (u1 u2 : SlV) (xs ys : List Int) [r : RdSl L u1.v Int encInt xs] [r2 : RdSl L u2.v Int encInt ys] : FnC Tryz.prog 37 [u1.v, u2.v] L (fun v M => v = .bool (decide (xs = ys)) ∧ M = L) := by
  refine fn_start (sz := 8) Tryz.func37 rfl rfl rfl ?_
  repeat' (first
    | (apply so_vo; (· exact voA); (· rfl))
    | refine so_nil ?_
    | refine q_go ?_
    | refine sw_region ?_
    | (refine goQ ?_; intro _ _)
    | refine go1 ?_
    | (refine goU ?_; intro nu)
    | (refine goB ?_; intro nb)
    | (refine goM ?_; intro nm)
    | (refine go2 ?_ ?_ <;> intro h <;> (try simp only [Bool.not_true, Bool.not_false, decide_eq_true_eq, decide_eq_false_iff_not, Bool.not_eq_true', Bool.not_eq_false', ne_eq, Decidable.not_not, Int.not_lt, Int.not_le, not_false_eq_true] at h))
    | fail)
  refine so_call rfl rfl rfl (Equal_int L u1 u2 xs ys) ?_
  rintro _ _ ⟨rfl, rfl⟩
  repeat' (first
    | (apply so_vo; (· exact voA); (· rfl))
    | refine so_nil ?_
    | refine q_go ?_
    | refine sw_region ?_
    | (refine goQ ?_; intro _ _)
    | refine go1 ?_
    | (refine goU ?_; intro nu)
    | (refine goB ?_; intro nb)
    | (refine goM ?_; intro nm)
    | (refine go2 ?_ ?_ <;> intro h <;> (try simp only [Bool.not_true, Bool.not_false, decide_eq_true_eq, decide_eq_false_iff_not, Bool.not_eq_true', Bool.not_eq_false', ne_eq, Decidable.not_not, Int.not_lt, Int.not_le, not_false_eq_true] at h))
    | fail)
  apply rq1 rfl rfl
  · exact ⟨rfl, rfl⟩
  · (first | infer_instance | exact ⟨fun _ H => H⟩)
theorem take_set_snoc {α : Type} {xs : List α} {k : Nat} (h : k < xs.length) (x : α) : (xs.set k x).take (k + 1) = xs.take k ++ [x] := by
  rw [List.take_add_one, List.getElem?_set_self h, List.take_set, List.set_eq_of_length_le (by simp; omega)]; rfl
theorem atx_snoc {α : Type} {xss : List (List α)} {k : Nat} (h : k < xss.length) : xss.take (k + 1) = xss.take k ++ [atx xss k] := take_snoc (atx_get h)
theorem DupRows_int (L : List SP) (u : SlV) (us : List SlV) (xss : List (List Int)) [r : RdSl L u.v SlV encSl us] [rm : RdM L us Int encInt xss] (hn : xss.length ≤ 100000000) (hr : ∀ xs ∈ xss, xs.length ≤ 100000000) : FnC Tryz.prog 27 [u.v] L (fun v M => ∃ (u' : SlV) (us' : List SlV), v = u'.v ∧ us'.length = xss.length ∧ M = ownSl 28 encSl u'.v us' :: rows 3 encInt us' xss :: L) := by
  refine FnC.pure rm.len fun hlen => ?_
  refine fn_start (sz := 23) Tryz.func27 rfl rfl rfl ?_
  repeat' (first
    | (apply so_vo; (· exact voA); (· rfl))
    | refine so_nil ?_
    | refine q_go ?_
    | refine sw_region ?_
    | (refine goQ ?_; intro _ _)
    | refine go1 ?_
    | (refine goU ?_; intro nu)
    | (refine goB ?_; intro nb)
    | (refine goM ?_; intro nm)
    | (refine go2 ?_ ?_ <;> intro h <;> (try simp only [Bool.not_true, Bool.not_false, decide_eq_true_eq, decide_eq_false_iff_not, Bool.not_eq_true', Bool.not_eq_false', ne_eq, Decidable.not_not, Int.not_lt, Int.not_le, not_false_eq_true] at h))
    | fail)
  refine sw_mem (L' := ownSl 28 encSl nu.v (List.replicate us.length nilS) :: rows 3 encInt [] [] :: L) (fun w H => Holds.cons_mono (fun _ h => rows_nil h) H) ?_
  refine sw_range (τ := List SlV) (fun k _ => [(0, u.v), (3, nu.v), (9, u.v)]) (fun k us1 => ownSl 28 encSl nu.v us1 :: rows 3 encInt (us1.take k) (xss.take k) :: L) (fun k us1 => us1.length = us.length) _ (by simp) (by rfl) (by rfl) (by omega) (by (exact fsA)) (fun _ h => h) (fun _ _ => by rfl) (by rfl) (fun k t hlt hI _ _ => ?_) (fun t hI => ?_)
  · rename_i us1
    have h1 := atx_get (xss := xss) (i := k) (by omega)
    repeat' (first
      | (apply so_vo; (· exact voA); (· rfl))
      | refine so_nil ?_
      | refine q_go ?_
      | refine sw_region ?_
      | (refine goQ ?_; intro _ _)
      | refine go1 ?_
      | (refine goU ?_; intro nu)
      | (refine goB ?_; intro nb)
      | (refine goM ?_; intro nm)
      | (refine go2 ?_ ?_ <;> intro h <;> (try simp only [Bool.not_true, Bool.not_false, decide_eq_true_eq, decide_eq_false_iff_not, Bool.not_eq_true', Bool.not_eq_false', ne_eq, Decidable.not_not, Int.not_lt, Int.not_le, not_false_eq_true] at h))
      | fail)
    refine so_call rfl rfl rfl (Dup_int _ (at' us k) _ (hr _ (List.mem_of_getElem? h1))) ?_
    rintro _ _ ⟨u2, rfl, rfl⟩
    repeat' (first
      | (apply so_vo; (· exact voA); (· rfl))
      | refine so_nil ?_
      | refine q_go ?_
      | refine sw_region ?_
      | (refine goQ ?_; intro _ _)
      | refine go1 ?_
      | (refine goU ?_; intro nu)
      | (refine goB ?_; intro nb)
      | (refine goM ?_; intro nm)
      | (refine go2 ?_ ?_ <;> intro h <;> (try simp only [Bool.not_true, Bool.not_false, decide_eq_true_eq, decide_eq_false_iff_not, Bool.not_eq_true', Bool.not_eq_false', ne_eq, Decidable.not_not, Int.not_lt, Int.not_le, not_false_eq_true] at h))
      | fail)
    refine ⟨rfl, t.set k u2, by simp [hI], ?_, fun w H => ?_⟩
    · (exact fsA)
    · rw [take_set_snoc (by omega), atx_snoc (by omega)]
      exact Holds.cons_mono (fun _ h => rows_push h) (Holds.swap H)
  · repeat' (first
      | (apply so_vo; (· exact voA); (· rfl))
      | refine so_nil ?_
      | refine q_go ?_
      | refine sw_region ?_
      | (refine goQ ?_; intro _ _)
      | refine go1 ?_
      | (refine goU ?_; intro nu)
      | (refine goB ?_; intro nb)
      | (refine goM ?_; intro nm)
      | (refine go2 ?_ ?_ <;> intro h <;> (try simp only [Bool.not_true, Bool.not_false, decide_eq_true_eq, decide_eq_false_iff_not, Bool.not_eq_true', Bool.not_eq_false', ne_eq, Decidable.not_not, Int.not_lt, Int.not_le, not_false_eq_true] at h))
      | fail)
    have e1 : t.take us.length = t := List.take_of_length_le (by omega)
    have e2 : xss.take us.length = xss := List.take_of_length_le (by omega)
    simp only [e1, e2]
    apply rq1 rfl rfl
    · exact ⟨nu, t, rfl, by omega, rfl⟩
    · (first | infer_instance | exact ⟨fun _ H => H⟩)
theorem EqRows_int (L : List SP) (u1 u2 : SlV) (us1 us2 : List SlV) (xss yss : List (List Int)) [r1 : RdSl L u1.v SlV encSl us1] [m1 : RdM L us1 Int encInt xss] [r2 : RdSl L u2.v SlV encSl us2] [m2 : RdM L us2 Int encInt yss] : FnC Tryz.prog 38 [u1.v, u2.v] L (fun v M => v = .bool (decide (xss = yss)) ∧ M = L) := by
  refine FnC.pure r1.len fun hlen => FnC.pure r2.len fun hlen2 => FnC.pure m1.len fun hm1 => FnC.pure m2.len fun hm2 => ?_
  refine fn_start (sz := 27) Tryz.func38 rfl rfl rfl ?_
  repeat' (first
    | (apply so_vo; (· exact voA); (· rfl))
    | refine so_nil ?_
    | refine q_go ?_
    | refine sw_region ?_
    | (refine goQ ?_; intro _ _)
    | refine go1 ?_
    | (refine goU ?_; intro nu)
    | (refine goB ?_; intro nb)
    | (refine goM ?_; intro nm)
    | (refine go2 ?_ ?_ <;> intro h <;> (try simp only [Bool.not_true, Bool.not_false, decide_eq_true_eq, decide_eq_false_iff_not, Bool.not_eq_true', Bool.not_eq_false', ne_eq, Decidable.not_not, Int.not_lt, Int.not_le, not_false_eq_true] at h))
    | fail)
  · apply rq1 rfl rfl
    · exact ⟨by rw [decide_eq_false]; intro e; subst e; exact h (by omega), rfl⟩
    · (first | infer_instance | exact ⟨fun _ H => H⟩)
  · refine sw_range (τ := Unit) (fun k _ => [(0, u1.v), (1, u2.v), (12, u1.v)]) (fun _ _ => L) (fun k _ => xss.take k = yss.take k) () rfl (by rfl) (by rfl) (by omega) (by (exact fsA)) (fun _ h => h) (fun _ _ => by rfl) (by rfl) (fun k t hlt hI _ _ => ?_) (fun t hI => ?_)
    · have h3 := take_eq_snoc (atx_get (xss := xss) (i := k) (by omega)) (atx_get (xss := yss) (i := k) (by omega))
      repeat' (first
        | (apply so_vo; (· exact voA); (· rfl))
        | refine so_nil ?_
        | refine q_go ?_
        | refine sw_region ?_
        | (refine goQ ?_; intro _ _)
        | refine go1 ?_
        | (refine goU ?_; intro nu)
        | (refine goB ?_; intro nb)
        | (refine goM ?_; intro nm)
        | (refine go2 ?_ ?_ <;> intro h <;> (try simp only [Bool.not_true, Bool.not_false, decide_eq_true_eq, decide_eq_false_iff_not, Bool.not_eq_true', Bool.not_eq_false', ne_eq, Decidable.not_not, Int.not_lt, Int.not_le, not_false_eq_true] at h))
        | fail)
      refine so_call rfl rfl rfl (Equal_int _ (at' us1 k) (at' us2 k) _ _) ?_
      rintro _ _ ⟨rfl, rfl⟩
      repeat' (first
        | (apply so_vo; (· exact voA); (· rfl))
        | refine so_nil ?_
        | refine q_go ?_
        | refine sw_region ?_
        | (refine goQ ?_; intro _ _)
        | refine go1 ?_
        | (refine goU ?_; intro nu)
        | (refine goB ?_; intro nb)
        | (refine goM ?_; intro nm)
        | (refine go2 ?_ ?_ <;> intro h <;> (try simp only [Bool.not_true, Bool.not_false, decide_eq_true_eq, decide_eq_false_iff_not, Bool.not_eq_true', Bool.not_eq_false', ne_eq, Decidable.not_not, Int.not_lt, Int.not_le, not_false_eq_true] at h))
        | fail)
      · apply rq1 rfl rfl
        · exact ⟨by rw [decide_eq_false]; exact take_ne (k := k + 1) (fun e => by simp [(h3.1 e).2] at h), rfl⟩
        · (first | infer_instance | exact ⟨fun _ H => H⟩)
      · refine ⟨rfl, (), h3.2 ⟨hI, by simpa using h⟩, ?_, ?_⟩
        · (exact fsA)
        · (first | exact fun _ h => h | exact HLess.sat inferInstance)
    · repeat' (first
        | (apply so_vo; (· exact voA); (· rfl))
        | refine so_nil ?_
        | refine q_go ?_
        | refine sw_region ?_
        | (refine goQ ?_; intro _ _)
        | refine go1 ?_
        | (refine goU ?_; intro nu)
        | (refine goB ?_; intro nb)
        | (refine goM ?_; intro nm)
        | (refine go2 ?_ ?_ <;> intro h <;> (try simp only [Bool.not_true, Bool.not_false, decide_eq_true_eq, decide_eq_false_iff_not, Bool.not_eq_true', Bool.not_eq_false', ne_eq, Decidable.not_not, Int.not_lt, Int.not_le, not_false_eq_true] at h))
        | fail)
      apply rq1 rfl rfl
      · exact ⟨by rw [decide_eq_true]; rw [List.take_of_length_le (by omega), List.take_of_length_le (by omega)] at hI; exact hI, rfl⟩
      · (first | infer_instance | exact ⟨fun _ H => H⟩)
end Go.Proofs.YtmhfhfhdblccjaaGreat
/-
  What the library's searches by a test do, and loan's every.
-/
namespace Go.Proofs.YtmhfhfhdblccjaaGreat
open Go Go.RowKit
set_option maxHeartbeats 4000000
set_option linter.unusedVariables false
set_option linter.unusedSimpArgs false
set_option maxRecDepth 20000
theorem Cl.up {L0 L : List SP} {b : Nat} {T : TypeId} {cs : List Value} (h : Cl L0 b T cs) (s : Suf L0 L) : Cl L b T cs := by
  obtain ⟨M, e⟩ := s.out; subst e
  induction M with
  | nil => exact h
  | cons A M ih => exact @Cl.there _ _ _ _ _ (ih ⟨M, rfl⟩)
theorem RdM.up {L0 L : List SP} {us : List SlV} {α : Type} {enc : Enc α} {xss : List (List α)} (k : RdM L0 us α enc xss) (s : Suf L0 L) : RdM L us α enc xss := by
  obtain ⟨M, e⟩ := s.out; subst e; exact ⟨fun _ H => k.out _ (Holds.suffix M H)⟩
theorem Suf.trans {A B C : List SP} (h : Suf A B) (k : Suf B C) : Suf A C := by
  obtain ⟨M, rfl⟩ := h.out; obtain ⟨N, rfl⟩ := k.out; exact ⟨N ++ M, by simp⟩
theorem Suf.mk' (M L : List SP) : Suf L (M ++ L) := ⟨M, rfl⟩
/-- fv is a function that tells p i of element i, whatever else there is in memory, and leaves it so. -/
def PredC (P : Program) (fv : Value) (L : List SP) {β : Type} (val : β → Value) (xs : List β) (p : Nat → Bool) : Prop :=
  ∃ g fst cap, fv = .func (.func g) fst cap ∧ Ent P g ∧ ∀ L', Suf L L' → ∀ i x, xs[i]? = some x → FnC P g (fst.toList ++ [val x] ++ cap.toList) L' (fun v M => v = .bool (p i) ∧ M = L')
theorem PredC.up {P : Program} {fv : Value} {L L2 : List SP} {β : Type} {val : β → Value} {xs : List β} {p : Nat → Bool} (h : PredC P fv L val xs p) (s : Suf L L2) : PredC P fv L2 val xs p := by
  obtain ⟨g, fst, cap, e, he, hf⟩ := h
  exact ⟨g, fst, cap, e, he, fun L' s' => hf L' (s.trans s')⟩
def idx (n : Nat) (p : Nat → Bool) : Int := match (List.range n).find? p with | some i => i | none => -1
theorem find_range (p : Nat → Bool) : ∀ n, (∀ i, i < n → p i = false) → (List.range n).find? p = none := fun n h => by
  rw [List.find?_eq_none]; intro i hi; simp [h i (List.mem_range.1 hi)]
theorem idx_none {n : Nat} {p : Nat → Bool} (h : ∀ i, i < n → p i = false) : idx n p = -1 := by unfold idx; rw [find_range p n h]
theorem idx_some {n k : Nat} {p : Nat → Bool} (hk : k < n) (h : ∀ i, i < k → p i = false) (hp : p k = true) : idx n p = k := by
  have : (List.range n).find? p = some k := by
    rw [List.find?_range_eq_some]
    exact ⟨hp, by simpa using hk, fun j hj => by simp [h j hj]⟩
  unfold idx; rw [this]
theorem idx_any (n : Nat) (p : Nat → Bool) : decide (0 ≤ idx n p) = (List.range n).any p := by
  by_cases h : ∃ i, i < n ∧ p i = true
  · have h1 : (List.range n).any p = true := by rw [List.any_eq_true]; obtain ⟨i, h1, h2⟩ := h; exact ⟨i, List.mem_range.2 h1, h2⟩
    rw [h1]; unfold idx
    cases h3 : (List.range n).find? p with
    | none => rw [List.find?_eq_none] at h3; obtain ⟨i, h1, h2⟩ := h; exact absurd h2 (h3 i (List.mem_range.2 h1))
    | some i => simp
  · have h1 : ∀ i, i < n → p i = false := fun i hi => by
      cases hp : p i with
      | false => rfl
      | true => exact absurd ⟨i, hi, hp⟩ h
    rw [idx_none h1]
    have : (List.range n).any p = false := by rw [List.any_eq_false]; intro i hi; simp [h1 i (List.mem_range.1 hi)]
    rw [this]; rfl
theorem upto_succ {p : Nat → Bool} {k : Nat} (h : ∀ i, i < k → p i = false) (hk : p k = false) : ∀ i, i < k + 1 → p i = false := fun i hi => by
  rcases Nat.lt_or_ge i k with h1 | h1
  · exact h i h1
  · rw [show i = k by omega]; exact hk
theorem not_any (n : Nat) (p : Nat → Bool) : (!(List.range n).any fun i => !p i) = (List.range n).all p := by
  rw [List.all_eq_not_any_not]
/-- tests of elements -/
theorem any_range {α : Type} (xs : List α) (p : Nat → Bool) (q : α → Bool) (h : ∀ i x, xs[i]? = some x → p i = q x) : (List.range xs.length).any p = xs.any q := by
  rw [Bool.eq_iff_iff, List.any_eq_true, List.any_eq_true]
  constructor
  · rintro ⟨i, h1, h2⟩
    have hi := List.mem_range.1 h1
    exact ⟨xs[i], List.getElem_mem hi, by rw [← h i _ (List.getElem?_eq_getElem hi)]; exact h2⟩
  · rintro ⟨x, h1, h2⟩
    obtain ⟨i, hi, e⟩ := List.getElem_of_mem h1
    exact ⟨i, List.mem_range.2 hi, by rw [h i x (by rw [← e]; exact List.getElem?_eq_getElem hi)]; exact h2⟩
theorem all_range {α : Type} (xs : List α) (p : Nat → Bool) (q : α → Bool) (h : ∀ i x, xs[i]? = some x → p i = q x) : (List.range xs.length).all p = xs.all q := by
  rw [List.all_eq_not_any_not, List.all_eq_not_any_not, any_range xs (fun i => !p i) (fun x => !q x) (fun i x hx => by rw [h i x hx])]
attribute [local irreducible] SW SO FnC retQ SA VO

theorem IndexFunc_int (L : List SP) (u : SlV) (fv : Value) (xs : List (Int)) (p : Nat → Bool) [r : RdSl L u.v (Int) encInt xs] (hf : PredC Tryz.prog fv L encInt.val xs p) : FnC Tryz.prog 19 [u.v, fv] L (fun v M => v = .int .i64 (idx xs.length p) ∧ M = L) := by
  refine FnC.pure r.len fun hlen => ?_
  obtain ⟨g, fst, cap, rfl, he, hf⟩ := hf
  refine fn_start (sz := 19) Tryz.func19 rfl rfl rfl ?_
  repeat' (first
    | (apply so_vo; (· exact voA); (· rfl))
    | refine so_nil ?_
    | refine q_go ?_
    | refine sw_region ?_
    | (refine goQ ?_; intro _ _)
    | refine go1 ?_
    | (refine goU ?_; intro nu)
    | (refine goB ?_; intro nb)
    | (refine goM ?_; intro nm)
    | (refine go2 ?_ ?_ <;> intro h <;> (try simp only [Bool.not_true, Bool.not_false, decide_eq_true_eq, decide_eq_false_iff_not, Bool.not_eq_true', Bool.not_eq_false', ne_eq, Decidable.not_not, Int.not_lt, Int.not_le, not_false_eq_true] at h))
    | fail)
  refine sw_range (τ := Unit) (fun k _ => [(0, u.v), (1, .func (.func g) fst cap)]) (fun _ _ => L) (fun k _ => ∀ i, i < k → p i = false) () (fun i h => by omega) (by rfl) (by rfl) (by omega) (by (exact fsA)) (fun _ h => h) (fun _ _ => by rfl) (by rfl) (fun k t hlt hI _ _ => ?_) (fun t hI => ?_)
  · obtain ⟨x, hx⟩ := get_some hlt 
    repeat' (first
      | (apply so_vo; (· exact voA); (· rfl))
      | refine so_nil ?_
      | refine q_go ?_
      | refine sw_region ?_
      | (refine goQ ?_; intro _ _)
      | refine go1 ?_
      | (refine goU ?_; intro nu)
      | (refine goB ?_; intro nb)
      | (refine goM ?_; intro nm)
      | (refine go2 ?_ ?_ <;> intro h <;> (try simp only [Bool.not_true, Bool.not_false, decide_eq_true_eq, decide_eq_false_iff_not, Bool.not_eq_true', Bool.not_eq_false', ne_eq, Decidable.not_not, Int.not_lt, Int.not_le, not_false_eq_true] at h))
      | fail)
    refine so_call rfl rfl rfl (hf L inferInstance k _ hx) ?_
    rintro _ _ ⟨rfl, rfl⟩
    repeat' (first
      | (apply so_vo; (· exact voA); (· rfl))
      | refine so_nil ?_
      | refine q_go ?_
      | refine sw_region ?_
      | (refine goQ ?_; intro _ _)
      | refine go1 ?_
      | (refine goU ?_; intro nu)
      | (refine goB ?_; intro nb)
      | (refine goM ?_; intro nm)
      | (refine go2 ?_ ?_ <;> intro h <;> (try simp only [Bool.not_true, Bool.not_false, decide_eq_true_eq, decide_eq_false_iff_not, Bool.not_eq_true', Bool.not_eq_false', ne_eq, Decidable.not_not, Int.not_lt, Int.not_le, not_false_eq_true] at h))
      | fail)
    · apply rq1 rfl rfl
      · exact ⟨by rw [idx_some hlt hI h], rfl⟩
      · (first | infer_instance | exact ⟨fun _ H => H⟩)
    · refine ⟨rfl, (), upto_succ hI h, ?_, ?_⟩
      · (exact fsA)
      · (first | exact fun _ h => h | exact HLess.sat inferInstance)
  · repeat' (first
      | (apply so_vo; (· exact voA); (· rfl))
      | refine so_nil ?_
      | refine q_go ?_
      | refine sw_region ?_
      | (refine goQ ?_; intro _ _)
      | refine go1 ?_
      | (refine goU ?_; intro nu)
      | (refine goB ?_; intro nb)
      | (refine goM ?_; intro nm)
      | (refine go2 ?_ ?_ <;> intro h <;> (try simp only [Bool.not_true, Bool.not_false, decide_eq_true_eq, decide_eq_false_iff_not, Bool.not_eq_true', Bool.not_eq_false', ne_eq, Decidable.not_not, Int.not_lt, Int.not_le, not_false_eq_true] at h))
      | fail)
    apply rq1 rfl rfl
    · exact ⟨by rw [idx_none hI], rfl⟩
    · (first | infer_instance | exact ⟨fun _ H => H⟩)
theorem ContainsFunc_int (L : List SP) (u : SlV) (fv : Value) (xs : List (Int)) (p : Nat → Bool) [r : RdSl L u.v (Int) encInt xs] (hf : PredC Tryz.prog fv L encInt.val xs p) : FnC Tryz.prog 93 [u.v, fv] L (fun v M => v = .bool ((List.range xs.length).any p) ∧ M = L) := by
  have hf' := hf
  obtain ⟨g, fst, cap, rfl, he, _⟩ := hf'
  refine fn_start (sz := 9) Tryz.func93 rfl rfl rfl ?_
  repeat' (first
    | (apply so_vo; (· exact voA); (· rfl))
    | refine so_nil ?_
    | refine q_go ?_
    | refine sw_region ?_
    | (refine goQ ?_; intro _ _)
    | refine go1 ?_
    | (refine goU ?_; intro nu)
    | (refine goB ?_; intro nb)
    | (refine goM ?_; intro nm)
    | (refine go2 ?_ ?_ <;> intro h <;> (try simp only [Bool.not_true, Bool.not_false, decide_eq_true_eq, decide_eq_false_iff_not, Bool.not_eq_true', Bool.not_eq_false', ne_eq, Decidable.not_not, Int.not_lt, Int.not_le, not_false_eq_true] at h))
    | fail)
  refine so_call rfl rfl rfl (IndexFunc_int L u _ xs p hf) ?_
  rintro _ _ ⟨rfl, rfl⟩
  repeat' (first
    | (apply so_vo; (· exact voA); (· rfl))
    | refine so_nil ?_
    | refine q_go ?_
    | refine sw_region ?_
    | (refine goQ ?_; intro _ _)
    | refine go1 ?_
    | (refine goU ?_; intro nu)
    | (refine goB ?_; intro nb)
    | (refine goM ?_; intro nm)
    | (refine go2 ?_ ?_ <;> intro h <;> (try simp only [Bool.not_true, Bool.not_false, decide_eq_true_eq, decide_eq_false_iff_not, Bool.not_eq_true', Bool.not_eq_false', ne_eq, Decidable.not_not, Int.not_lt, Int.not_le, not_false_eq_true] at h))
    | fail)
  apply rq1 rfl rfl
  · exact ⟨by rw [idx_any], rfl⟩
  · (first | infer_instance | exact ⟨fun _ H => H⟩)
theorem IndexFunc_ints (L : List SP) (u : SlV) (fv : Value) (xs : List (SlV)) (p : Nat → Bool) [r : RdSl L u.v (SlV) encSl xs] (hf : PredC Tryz.prog fv L encSl.val xs p) : FnC Tryz.prog 63 [u.v, fv] L (fun v M => v = .int .i64 (idx xs.length p) ∧ M = L) := by
  refine FnC.pure r.len fun hlen => ?_
  obtain ⟨g, fst, cap, rfl, he, hf⟩ := hf
  refine fn_start (sz := 19) Tryz.func63 rfl rfl rfl ?_
  repeat' (first
    | (apply so_vo; (· exact voA); (· rfl))
    | refine so_nil ?_
    | refine q_go ?_
    | refine sw_region ?_
    | (refine goQ ?_; intro _ _)
    | refine go1 ?_
    | (refine goU ?_; intro nu)
    | (refine goB ?_; intro nb)
    | (refine goM ?_; intro nm)
    | (refine go2 ?_ ?_ <;> intro h <;> (try simp only [Bool.not_true, Bool.not_false, decide_eq_true_eq, decide_eq_false_iff_not, Bool.not_eq_true', Bool.not_eq_false', ne_eq, Decidable.not_not, Int.not_lt, Int.not_le, not_false_eq_true] at h))
    | fail)
  refine sw_range (τ := Unit) (fun k _ => [(0, u.v), (1, .func (.func g) fst cap)]) (fun _ _ => L) (fun k _ => ∀ i, i < k → p i = false) () (fun i h => by omega) (by rfl) (by rfl) (by omega) (by (exact fsA)) (fun _ h => h) (fun _ _ => by rfl) (by rfl) (fun k t hlt hI _ _ => ?_) (fun t hI => ?_)
  · have hx := at_get hlt
    repeat' (first
      | (apply so_vo; (· exact voA); (· rfl))
      | refine so_nil ?_
      | refine q_go ?_
      | refine sw_region ?_
      | (refine goQ ?_; intro _ _)
      | refine go1 ?_
      | (refine goU ?_; intro nu)
      | (refine goB ?_; intro nb)
      | (refine goM ?_; intro nm)
      | (refine go2 ?_ ?_ <;> intro h <;> (try simp only [Bool.not_true, Bool.not_false, decide_eq_true_eq, decide_eq_false_iff_not, Bool.not_eq_true', Bool.not_eq_false', ne_eq, Decidable.not_not, Int.not_lt, Int.not_le, not_false_eq_true] at h))
      | fail)
    refine so_call rfl rfl rfl (hf L inferInstance k _ hx) ?_
    rintro _ _ ⟨rfl, rfl⟩
    repeat' (first
      | (apply so_vo; (· exact voA); (· rfl))
      | refine so_nil ?_
      | refine q_go ?_
      | refine sw_region ?_
      | (refine goQ ?_; intro _ _)
      | refine go1 ?_
      | (refine goU ?_; intro nu)
      | (refine goB ?_; intro nb)
      | (refine goM ?_; intro nm)
      | (refine go2 ?_ ?_ <;> intro h <;> (try simp only [Bool.not_true, Bool.not_false, decide_eq_true_eq, decide_eq_false_iff_not, Bool.not_eq_true', Bool.not_eq_false', ne_eq, Decidable.not_not, Int.not_lt, Int.not_le, not_false_eq_true] at h))
      | fail)
    · apply rq1 rfl rfl
      · exact ⟨by rw [idx_some hlt hI h], rfl⟩
      · (first | infer_instance | exact ⟨fun _ H => H⟩)
    · refine ⟨rfl, (), upto_succ hI h, ?_, ?_⟩
      · (exact fsA)
      · (first | exact fun _ h => h | exact HLess.sat inferInstance)
  · repeat' (first
      | (apply so_vo; (· exact voA); (· rfl))
      | refine so_nil ?_
      | refine q_go ?_
      | refine sw_region ?_
      | (refine goQ ?_; intro _ _)
      | refine go1 ?_
      | (refine goU ?_; intro nu)
      | (refine goB ?_; intro nb)
      | (refine goM ?_; intro nm)
      | (refine go2 ?_ ?_ <;> intro h <;> (try simp only [Bool.not_true, Bool.not_false, decide_eq_true_eq, decide_eq_false_iff_not, Bool.not_eq_true', Bool.not_eq_false', ne_eq, Decidable.not_not, Int.not_lt, Int.not_le, not_false_eq_true] at h))
      | fail)
    apply rq1 rfl rfl
    · exact ⟨by rw [idx_none hI], rfl⟩
    · (first | infer_instance | exact ⟨fun _ H => H⟩)
theorem ContainsFunc_ints (L : List SP) (u : SlV) (fv : Value) (xs : List (SlV)) (p : Nat → Bool) [r : RdSl L u.v (SlV) encSl xs] (hf : PredC Tryz.prog fv L encSl.val xs p) : FnC Tryz.prog 96 [u.v, fv] L (fun v M => v = .bool ((List.range xs.length).any p) ∧ M = L) := by
  have hf' := hf
  obtain ⟨g, fst, cap, rfl, he, _⟩ := hf'
  refine fn_start (sz := 9) Tryz.func96 rfl rfl rfl ?_
  repeat' (first
    | (apply so_vo; (· exact voA); (· rfl))
    | refine so_nil ?_
    | refine q_go ?_
    | refine sw_region ?_
    | (refine goQ ?_; intro _ _)
    | refine go1 ?_
    | (refine goU ?_; intro nu)
    | (refine goB ?_; intro nb)
    | (refine goM ?_; intro nm)
    | (refine go2 ?_ ?_ <;> intro h <;> (try simp only [Bool.not_true, Bool.not_false, decide_eq_true_eq, decide_eq_false_iff_not, Bool.not_eq_true', Bool.not_eq_false', ne_eq, Decidable.not_not, Int.not_lt, Int.not_le, not_false_eq_true] at h))
    | fail)
  refine so_call rfl rfl rfl (IndexFunc_ints L u _ xs p hf) ?_
  rintro _ _ ⟨rfl, rfl⟩
  repeat' (first
    | (apply so_vo; (· exact voA); (· rfl))
    | refine so_nil ?_
    | refine q_go ?_
    | refine sw_region ?_
    | (refine goQ ?_; intro _ _)
    | refine go1 ?_
    | (refine goU ?_; intro nu)
    | (refine goB ?_; intro nb)
    | (refine goM ?_; intro nm)
    | (refine go2 ?_ ?_ <;> intro h <;> (try simp only [Bool.not_true, Bool.not_false, decide_eq_true_eq, decide_eq_false_iff_not, Bool.not_eq_true', Bool.not_eq_false', ne_eq, Decidable.not_not, Int.not_lt, Int.not_le, not_false_eq_true] at h))
    | fail)
  apply rq1 rfl rfl
  · exact ⟨by rw [idx_any], rfl⟩
  · (first | infer_instance | exact ⟨fun _ H => H⟩)
theorem IndexFunc_staddle_loan_Promise (L : List SP) (u : SlV) (fv : Value) (xs : List (Int×Int×Int)) (p : Nat → Bool) [r : RdSl L u.v (Int×Int×Int) enc3 xs] (hf : PredC Tryz.prog fv L enc3.val xs p) : FnC Tryz.prog 129 [u.v, fv] L (fun v M => v = .int .i64 (idx xs.length p) ∧ M = L) := by
  refine FnC.pure r.len fun hlen => ?_
  obtain ⟨g, fst, cap, rfl, he, hf⟩ := hf
  refine fn_start (sz := 19) Tryz.func129 rfl rfl rfl ?_
  repeat' (first
    | (apply so_vo; (· exact voA); (· rfl))
    | refine so_nil ?_
    | refine q_go ?_
    | refine sw_region ?_
    | (refine goQ ?_; intro _ _)
    | refine go1 ?_
    | (refine goU ?_; intro nu)
    | (refine goB ?_; intro nb)
    | (refine goM ?_; intro nm)
    | (refine go2 ?_ ?_ <;> intro h <;> (try simp only [Bool.not_true, Bool.not_false, decide_eq_true_eq, decide_eq_false_iff_not, Bool.not_eq_true', Bool.not_eq_false', ne_eq, Decidable.not_not, Int.not_lt, Int.not_le, not_false_eq_true] at h))
    | fail)
  refine sw_range (τ := Unit) (fun k _ => [(0, u.v), (1, .func (.func g) fst cap)]) (fun _ _ => L) (fun k _ => ∀ i, i < k → p i = false) () (fun i h => by omega) (by rfl) (by rfl) (by omega) (by (exact fsA)) (fun _ h => h) (fun _ _ => by rfl) (by rfl) (fun k t hlt hI _ _ => ?_) (fun t hI => ?_)
  · obtain ⟨x, hx⟩ := get_some hlt 
    repeat' (first
      | (apply so_vo; (· exact voA); (· rfl))
      | refine so_nil ?_
      | refine q_go ?_
      | refine sw_region ?_
      | (refine goQ ?_; intro _ _)
      | refine go1 ?_
      | (refine goU ?_; intro nu)
      | (refine goB ?_; intro nb)
      | (refine goM ?_; intro nm)
      | (refine go2 ?_ ?_ <;> intro h <;> (try simp only [Bool.not_true, Bool.not_false, decide_eq_true_eq, decide_eq_false_iff_not, Bool.not_eq_true', Bool.not_eq_false', ne_eq, Decidable.not_not, Int.not_lt, Int.not_le, not_false_eq_true] at h))
      | fail)
    refine so_call rfl rfl rfl (hf L inferInstance k _ hx) ?_
    rintro _ _ ⟨rfl, rfl⟩
    repeat' (first
      | (apply so_vo; (· exact voA); (· rfl))
      | refine so_nil ?_
      | refine q_go ?_
      | refine sw_region ?_
      | (refine goQ ?_; intro _ _)
      | refine go1 ?_
      | (refine goU ?_; intro nu)
      | (refine goB ?_; intro nb)
      | (refine goM ?_; intro nm)
      | (refine go2 ?_ ?_ <;> intro h <;> (try simp only [Bool.not_true, Bool.not_false, decide_eq_true_eq, decide_eq_false_iff_not, Bool.not_eq_true', Bool.not_eq_false', ne_eq, Decidable.not_not, Int.not_lt, Int.not_le, not_false_eq_true] at h))
      | fail)
    · apply rq1 rfl rfl
      · exact ⟨by rw [idx_some hlt hI h], rfl⟩
      · (first | infer_instance | exact ⟨fun _ H => H⟩)
    · refine ⟨rfl, (), upto_succ hI h, ?_, ?_⟩
      · (exact fsA)
      · (first | exact fun _ h => h | exact HLess.sat inferInstance)
  · repeat' (first
      | (apply so_vo; (· exact voA); (· rfl))
      | refine so_nil ?_
      | refine q_go ?_
      | refine sw_region ?_
      | (refine goQ ?_; intro _ _)
      | refine go1 ?_
      | (refine goU ?_; intro nu)
      | (refine goB ?_; intro nb)
      | (refine goM ?_; intro nm)
      | (refine go2 ?_ ?_ <;> intro h <;> (try simp only [Bool.not_true, Bool.not_false, decide_eq_true_eq, decide_eq_false_iff_not, Bool.not_eq_true', Bool.not_eq_false', ne_eq, Decidable.not_not, Int.not_lt, Int.not_le, not_false_eq_true] at h))
      | fail)
    apply rq1 rfl rfl
    · exact ⟨by rw [idx_none hI], rfl⟩
    · (first | infer_instance | exact ⟨fun _ H => H⟩)
theorem ContainsFunc_staddle_loan_Promise (L : List SP) (u : SlV) (fv : Value) (xs : List (Int×Int×Int)) (p : Nat → Bool) [r : RdSl L u.v (Int×Int×Int) enc3 xs] (hf : PredC Tryz.prog fv L enc3.val xs p) : FnC Tryz.prog 91 [u.v, fv] L (fun v M => v = .bool ((List.range xs.length).any p) ∧ M = L) := by
  have hf' := hf
  obtain ⟨g, fst, cap, rfl, he, _⟩ := hf'
  refine fn_start (sz := 9) Tryz.func91 rfl rfl rfl ?_
  repeat' (first
    | (apply so_vo; (· exact voA); (· rfl))
    | refine so_nil ?_
    | refine q_go ?_
    | refine sw_region ?_
    | (refine goQ ?_; intro _ _)
    | refine go1 ?_
    | (refine goU ?_; intro nu)
    | (refine goB ?_; intro nb)
    | (refine goM ?_; intro nm)
    | (refine go2 ?_ ?_ <;> intro h <;> (try simp only [Bool.not_true, Bool.not_false, decide_eq_true_eq, decide_eq_false_iff_not, Bool.not_eq_true', Bool.not_eq_false', ne_eq, Decidable.not_not, Int.not_lt, Int.not_le, not_false_eq_true] at h))
    | fail)
  refine so_call rfl rfl rfl (IndexFunc_staddle_loan_Promise L u _ xs p hf) ?_
  rintro _ _ ⟨rfl, rfl⟩
  repeat' (first
    | (apply so_vo; (· exact voA); (· rfl))
    | refine so_nil ?_
    | refine q_go ?_
    | refine sw_region ?_
    | (refine goQ ?_; intro _ _)
    | refine go1 ?_
    | (refine goU ?_; intro nu)
    | (refine goB ?_; intro nb)
    | (refine goM ?_; intro nm)
    | (refine go2 ?_ ?_ <;> intro h <;> (try simp only [Bool.not_true, Bool.not_false, decide_eq_true_eq, decide_eq_false_iff_not, Bool.not_eq_true', Bool.not_eq_false', ne_eq, Decidable.not_not, Int.not_lt, Int.not_le, not_false_eq_true] at h))
    | fail)
  apply rq1 rfl rfl
  · exact ⟨by rw [idx_any], rfl⟩
  · (first | infer_instance | exact ⟨fun _ H => H⟩)
theorem IndexFunc_staddle_loan_Loan (L : List SP) (u : SlV) (fv : Value) (xs : List (Int×Int×Int)) (p : Nat → Bool) [r : RdSl L u.v (Int×Int×Int) enc3 xs] (hf : PredC Tryz.prog fv L enc3.val xs p) : FnC Tryz.prog 149 [u.v, fv] L (fun v M => v = .int .i64 (idx xs.length p) ∧ M = L) := by
  refine FnC.pure r.len fun hlen => ?_
  obtain ⟨g, fst, cap, rfl, he, hf⟩ := hf
  refine fn_start (sz := 19) Tryz.func149 rfl rfl rfl ?_
  repeat' (first
    | (apply so_vo; (· exact voA); (· rfl))
    | refine so_nil ?_
    | refine q_go ?_
    | refine sw_region ?_
    | (refine goQ ?_; intro _ _)
    | refine go1 ?_
    | (refine goU ?_; intro nu)
    | (refine goB ?_; intro nb)
    | (refine goM ?_; intro nm)
    | (refine go2 ?_ ?_ <;> intro h <;> (try simp only [Bool.not_true, Bool.not_false, decide_eq_true_eq, decide_eq_false_iff_not, Bool.not_eq_true', Bool.not_eq_false', ne_eq, Decidable.not_not, Int.not_lt, Int.not_le, not_false_eq_true] at h))
    | fail)
  refine sw_range (τ := Unit) (fun k _ => [(0, u.v), (1, .func (.func g) fst cap)]) (fun _ _ => L) (fun k _ => ∀ i, i < k → p i = false) () (fun i h => by omega) (by rfl) (by rfl) (by omega) (by (exact fsA)) (fun _ h => h) (fun _ _ => by rfl) (by rfl) (fun k t hlt hI _ _ => ?_) (fun t hI => ?_)
  · obtain ⟨x, hx⟩ := get_some hlt 
    repeat' (first
      | (apply so_vo; (· exact voA); (· rfl))
      | refine so_nil ?_
      | refine q_go ?_
      | refine sw_region ?_
      | (refine goQ ?_; intro _ _)
      | refine go1 ?_
      | (refine goU ?_; intro nu)
      | (refine goB ?_; intro nb)
      | (refine goM ?_; intro nm)
      | (refine go2 ?_ ?_ <;> intro h <;> (try simp only [Bool.not_true, Bool.not_false, decide_eq_true_eq, decide_eq_false_iff_not, Bool.not_eq_true', Bool.not_eq_false', ne_eq, Decidable.not_not, Int.not_lt, Int.not_le, not_false_eq_true] at h))
      | fail)
    refine so_call rfl rfl rfl (hf L inferInstance k _ hx) ?_
    rintro _ _ ⟨rfl, rfl⟩
    repeat' (first
      | (apply so_vo; (· exact voA); (· rfl))
      | refine so_nil ?_
      | refine q_go ?_
      | refine sw_region ?_
      | (refine goQ ?_; intro _ _)
      | refine go1 ?_
      | (refine goU ?_; intro nu)
      | (refine goB ?_; intro nb)
      | (refine goM ?_; intro nm)
      | (refine go2 ?_ ?_ <;> intro h <;> (try simp only [Bool.not_true, Bool.not_false, decide_eq_true_eq, decide_eq_false_iff_not, Bool.not_eq_true', Bool.not_eq_false', ne_eq, Decidable.not_not, Int.not_lt, Int.not_le, not_false_eq_true] at h))
      | fail)
    · apply rq1 rfl rfl
      · exact ⟨by rw [idx_some hlt hI h], rfl⟩
      · (first | infer_instance | exact ⟨fun _ H => H⟩)
    · refine ⟨rfl, (), upto_succ hI h, ?_, ?_⟩
      · (exact fsA)
      · (first | exact fun _ h => h | exact HLess.sat inferInstance)
  · repeat' (first
      | (apply so_vo; (· exact voA); (· rfl))
      | refine so_nil ?_
      | refine q_go ?_
      | refine sw_region ?_
      | (refine goQ ?_; intro _ _)
      | refine go1 ?_
      | (refine goU ?_; intro nu)
      | (refine goB ?_; intro nb)
      | (refine goM ?_; intro nm)
      | (refine go2 ?_ ?_ <;> intro h <;> (try simp only [Bool.not_true, Bool.not_false, decide_eq_true_eq, decide_eq_false_iff_not, Bool.not_eq_true', Bool.not_eq_false', ne_eq, Decidable.not_not, Int.not_lt, Int.not_le, not_false_eq_true] at h))
      | fail)
    apply rq1 rfl rfl
    · exact ⟨by rw [idx_none hI], rfl⟩
    · (first | infer_instance | exact ⟨fun _ H => H⟩)
theorem ContainsFunc_staddle_loan_Loan (L : List SP) (u : SlV) (fv : Value) (xs : List (Int×Int×Int)) (p : Nat → Bool) [r : RdSl L u.v (Int×Int×Int) enc3 xs] (hf : PredC Tryz.prog fv L enc3.val xs p) : FnC Tryz.prog 133 [u.v, fv] L (fun v M => v = .bool ((List.range xs.length).any p) ∧ M = L) := by
  have hf' := hf
  obtain ⟨g, fst, cap, rfl, he, _⟩ := hf'
  refine fn_start (sz := 9) Tryz.func133 rfl rfl rfl ?_
  repeat' (first
    | (apply so_vo; (· exact voA); (· rfl))
    | refine so_nil ?_
    | refine q_go ?_
    | refine sw_region ?_
    | (refine goQ ?_; intro _ _)
    | refine go1 ?_
    | (refine goU ?_; intro nu)
    | (refine goB ?_; intro nb)
    | (refine goM ?_; intro nm)
    | (refine go2 ?_ ?_ <;> intro h <;> (try simp only [Bool.not_true, Bool.not_false, decide_eq_true_eq, decide_eq_false_iff_not, Bool.not_eq_true', Bool.not_eq_false', ne_eq, Decidable.not_not, Int.not_lt, Int.not_le, not_false_eq_true] at h))
    | fail)
  refine so_call rfl rfl rfl (IndexFunc_staddle_loan_Loan L u _ xs p hf) ?_
  rintro _ _ ⟨rfl, rfl⟩
  repeat' (first
    | (apply so_vo; (· exact voA); (· rfl))
    | refine so_nil ?_
    | refine q_go ?_
    | refine sw_region ?_
    | (refine goQ ?_; intro _ _)
    | refine go1 ?_
    | (refine goU ?_; intro nu)
    | (refine goB ?_; intro nb)
    | (refine goM ?_; intro nm)
    | (refine go2 ?_ ?_ <;> intro h <;> (try simp only [Bool.not_true, Bool.not_false, decide_eq_true_eq, decide_eq_false_iff_not, Bool.not_eq_true', Bool.not_eq_false', ne_eq, Decidable.not_not, Int.not_lt, Int.not_le, not_false_eq_true] at h))
    | fail)
  apply rq1 rfl rfl
  · exact ⟨by rw [idx_any], rfl⟩
  · (first | infer_instance | exact ⟨fun _ H => H⟩)
theorem IndexFunc_staddle_loan_Payment (L : List SP) (u : SlV) (fv : Value) (xs : List (Int×Int×Int)) (p : Nat → Bool) [r : RdSl L u.v (Int×Int×Int) enc3 xs] (hf : PredC Tryz.prog fv L enc3.val xs p) : FnC Tryz.prog 150 [u.v, fv] L (fun v M => v = .int .i64 (idx xs.length p) ∧ M = L) := by
  refine FnC.pure r.len fun hlen => ?_
  obtain ⟨g, fst, cap, rfl, he, hf⟩ := hf
  refine fn_start (sz := 19) Tryz.func150 rfl rfl rfl ?_
  repeat' (first
    | (apply so_vo; (· exact voA); (· rfl))
    | refine so_nil ?_
    | refine q_go ?_
    | refine sw_region ?_
    | (refine goQ ?_; intro _ _)
    | refine go1 ?_
    | (refine goU ?_; intro nu)
    | (refine goB ?_; intro nb)
    | (refine goM ?_; intro nm)
    | (refine go2 ?_ ?_ <;> intro h <;> (try simp only [Bool.not_true, Bool.not_false, decide_eq_true_eq, decide_eq_false_iff_not, Bool.not_eq_true', Bool.not_eq_false', ne_eq, Decidable.not_not, Int.not_lt, Int.not_le, not_false_eq_true] at h))
    | fail)
  refine sw_range (τ := Unit) (fun k _ => [(0, u.v), (1, .func (.func g) fst cap)]) (fun _ _ => L) (fun k _ => ∀ i, i < k → p i = false) () (fun i h => by omega) (by rfl) (by rfl) (by omega) (by (exact fsA)) (fun _ h => h) (fun _ _ => by rfl) (by rfl) (fun k t hlt hI _ _ => ?_) (fun t hI => ?_)
  · obtain ⟨x, hx⟩ := get_some hlt 
    repeat' (first
      | (apply so_vo; (· exact voA); (· rfl))
      | refine so_nil ?_
      | refine q_go ?_
      | refine sw_region ?_
      | (refine goQ ?_; intro _ _)
      | refine go1 ?_
      | (refine goU ?_; intro nu)
      | (refine goB ?_; intro nb)
      | (refine goM ?_; intro nm)
      | (refine go2 ?_ ?_ <;> intro h <;> (try simp only [Bool.not_true, Bool.not_false, decide_eq_true_eq, decide_eq_false_iff_not, Bool.not_eq_true', Bool.not_eq_false', ne_eq, Decidable.not_not, Int.not_lt, Int.not_le, not_false_eq_true] at h))
      | fail)
    refine so_call rfl rfl rfl (hf L inferInstance k _ hx) ?_
    rintro _ _ ⟨rfl, rfl⟩
    repeat' (first
      | (apply so_vo; (· exact voA); (· rfl))
      | refine so_nil ?_
      | refine q_go ?_
      | refine sw_region ?_
      | (refine goQ ?_; intro _ _)
      | refine go1 ?_
      | (refine goU ?_; intro nu)
      | (refine goB ?_; intro nb)
      | (refine goM ?_; intro nm)
      | (refine go2 ?_ ?_ <;> intro h <;> (try simp only [Bool.not_true, Bool.not_false, decide_eq_true_eq, decide_eq_false_iff_not, Bool.not_eq_true', Bool.not_eq_false', ne_eq, Decidable.not_not, Int.not_lt, Int.not_le, not_false_eq_true] at h))
      | fail)
    · apply rq1 rfl rfl
      · exact ⟨by rw [idx_some hlt hI h], rfl⟩
      · (first | infer_instance | exact ⟨fun _ H => H⟩)
    · refine ⟨rfl, (), upto_succ hI h, ?_, ?_⟩
      · (exact fsA)
      · (first | exact fun _ h => h | exact HLess.sat inferInstance)
  · repeat' (first
      | (apply so_vo; (· exact voA); (· rfl))
      | refine so_nil ?_
      | refine q_go ?_
      | refine sw_region ?_
      | (refine goQ ?_; intro _ _)
      | refine go1 ?_
      | (refine goU ?_; intro nu)
      | (refine goB ?_; intro nb)
      | (refine goM ?_; intro nm)
      | (refine go2 ?_ ?_ <;> intro h <;> (try simp only [Bool.not_true, Bool.not_false, decide_eq_true_eq, decide_eq_false_iff_not, Bool.not_eq_true', Bool.not_eq_false', ne_eq, Decidable.not_not, Int.not_lt, Int.not_le, not_false_eq_true] at h))
      | fail)
    apply rq1 rfl rfl
    · exact ⟨by rw [idx_none hI], rfl⟩
    · (first | infer_instance | exact ⟨fun _ H => H⟩)
theorem ContainsFunc_staddle_loan_Payment (L : List SP) (u : SlV) (fv : Value) (xs : List (Int×Int×Int)) (p : Nat → Bool) [r : RdSl L u.v (Int×Int×Int) enc3 xs] (hf : PredC Tryz.prog fv L enc3.val xs p) : FnC Tryz.prog 135 [u.v, fv] L (fun v M => v = .bool ((List.range xs.length).any p) ∧ M = L) := by
  have hf' := hf
  obtain ⟨g, fst, cap, rfl, he, _⟩ := hf'
  refine fn_start (sz := 9) Tryz.func135 rfl rfl rfl ?_
  repeat' (first
    | (apply so_vo; (· exact voA); (· rfl))
    | refine so_nil ?_
    | refine q_go ?_
    | refine sw_region ?_
    | (refine goQ ?_; intro _ _)
    | refine go1 ?_
    | (refine goU ?_; intro nu)
    | (refine goB ?_; intro nb)
    | (refine goM ?_; intro nm)
    | (refine go2 ?_ ?_ <;> intro h <;> (try simp only [Bool.not_true, Bool.not_false, decide_eq_true_eq, decide_eq_false_iff_not, Bool.not_eq_true', Bool.not_eq_false', ne_eq, Decidable.not_not, Int.not_lt, Int.not_le, not_false_eq_true] at h))
    | fail)
  refine so_call rfl rfl rfl (IndexFunc_staddle_loan_Payment L u _ xs p hf) ?_
  rintro _ _ ⟨rfl, rfl⟩
  repeat' (first
    | (apply so_vo; (· exact voA); (· rfl))
    | refine so_nil ?_
    | refine q_go ?_
    | refine sw_region ?_
    | (refine goQ ?_; intro _ _)
    | refine go1 ?_
    | (refine goU ?_; intro nu)
    | (refine goB ?_; intro nb)
    | (refine goM ?_; intro nm)
    | (refine go2 ?_ ?_ <;> intro h <;> (try simp only [Bool.not_true, Bool.not_false, decide_eq_true_eq, decide_eq_false_iff_not, Bool.not_eq_true', Bool.not_eq_false', ne_eq, Decidable.not_not, Int.not_lt, Int.not_le, not_false_eq_true] at h))
    | fail)
  apply rq1 rfl rfl
  · exact ⟨by rw [idx_any], rfl⟩
  · (first | infer_instance | exact ⟨fun _ H => H⟩)
end Go.Proofs.YtmhfhfhdblccjaaGreat
