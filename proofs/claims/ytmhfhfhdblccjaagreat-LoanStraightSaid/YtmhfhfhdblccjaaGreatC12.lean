/-
  Payments that are booked, loans that are paid, debts of a ledger.
-/
import Derived.Test.YtmhfhfhdblccjaaGreatC11
import Derived.Test.YtmhfhfhdblccjaaGreatC9
import Derived.Test.YtmhfhfhdblccjaaGreatC6
import Derived.Test.YtmhfhfhdblccjaaGreatC10
namespace Go.Proofs.YtmhfhfhdblccjaaGreat
open Go Go.RowKit
set_option linter.unusedVariables false
set_option linter.unusedSimpArgs false
set_option maxRecDepth 100000
set_option maxHeartbeats 4000000
theorem arr_eq (xs ys : List Int) (h1 : xs.length = 10) (h2 : ys.length = 10) (w : World) : (Op.equalIn 10000 130 (.agg (xs.map keyInt).toArray) (.agg (ys.map keyInt).toArray)).run Tryz.prog w = .ok (decide (xs = ys)) w := by
  have hf := Tryz.underlying130
  have hi : Tryz.prog.underlying 3 = some (.int .i64) := Tryz.underlying3
  have hp : ∀ (zs : List Int) (i : Nat) (w : World), zs.length = 10 → i < 10 → (part 3 (zs.map keyInt).toArray i).run Tryz.prog w = .ok (keyInt (zs.getD i 0)) w := fun zs i w hz hi => by simp [part, Tryz.isAgg3, List.getD, show i < zs.length by omega]
  rw [show (10000 : Nat) = 9999 + 1 from rfl]
  unfold Op.equalIn
  simp only [Sem.run_bind, run_underlying hf, Result.andThen_ok, Tryz.sizeOf3]
  rw [Std.Legacy.Range.forIn_eq_forIn_range']
  have key : ∀ (m k : Nat), k + m ≤ 10 → (forIn (List.range' k m) ((none : Option Bool), ()) (fun i (__s : Option Bool × Unit) => do
            let __do_lift ← part 3 (List.map keyInt xs).toArray (i * 1)
            let __do_lift_1 ← part 3 (List.map keyInt ys).toArray (i * 1)
            let __do_lift ← Op.equalIn 9999 3 __do_lift __do_lift_1
            if (!__do_lift) = true then pure (ForInStep.done (some false, ())) else pure (ForInStep.yield (none, ()))) : Sem (Option Bool × Unit)).run Tryz.prog w = .ok (@ite _ (∀ i, k ≤ i → i < k + m → xs.getD i 0 = ys.getD i 0) (Classical.propDecidable _) none (some false), ()) w := by
    intro m
    induction m with
    | zero => intro k _; rw [if_pos (fun i h1 h2 => by omega)]; simp
    | succ m ih =>
      intro k hk
      rw [List.range'_succ, List.forIn_cons]
      simp only [Sem.run_bind, Nat.mul_one]
      rw [hp xs k w h1 (by omega)]
      simp only [Result.andThen_ok]
      rw [hp ys k w h2 (by omega)]
      simp only [Result.andThen_ok]
      rw [show (9999 : Nat) = 9998 + 1 from rfl, run_equalIn_int w 9998 3 .i64 .i64 _ _ hi]
      simp only [Result.andThen_ok]
      by_cases e : xs.getD k 0 = ys.getD k 0
      · have ih' := ih (k + 1) (by omega)
        simp only [Nat.mul_one] at ih'
        have eb : (xs.getD k 0 == ys.getD k 0) = true := by rw [e]; exact beq_self_eq_true _
        rw [eb, if_neg (by decide)]
        simp only [Sem.run_pure, Result.andThen_ok]
        rw [show (9998 + 1 : Nat) = 9999 from rfl, ih']
        by_cases h5 : ∀ i, k + 1 ≤ i → i < k + 1 + m → xs.getD i 0 = ys.getD i 0
        · rw [if_pos h5, if_pos (fun i g1 g2 => by
            rcases Nat.lt_or_ge k i with g | g
            · exact h5 i g (by omega)
            · rw [show i = k by omega]; exact e)]
        · rw [if_neg h5, if_neg (fun g => h5 (fun i g1 g2 => g i (by omega) (by omega)))]
      · have eb : (xs.getD k 0 == ys.getD k 0) = false := beq_eq_false_iff_ne.2 e
        rw [eb, if_pos (by decide), if_neg (fun g => e (g k (Nat.le_refl _) (by omega)))]
        simp
  have hk := key 10 0 (by omega)
  have hr : List.range' 0 10 = List.range' (Std.Legacy.Range.start [:10]) (Std.Legacy.Range.size [:10]) (Std.Legacy.Range.step [:10]) := rfl
  rw [← hr, hk]
  simp only [Result.andThen_ok]
  by_cases e : xs = ys
  · subst e; rw [if_pos (fun _ _ _ => rfl)]; simp
  · rw [if_neg (fun g => e (List.ext_getElem? fun i => by
      rcases Nat.lt_or_ge i 10 with h | h
      · have := g i (Nat.zero_le _) (by omega)
        rw [getD_get (xs := xs) (by omega), getD_get (xs := ys) (by omega), this]
      · rw [List.getElem?_eq_none (by omega), List.getElem?_eq_none (by omega)]))]
    simp [e]
section
variable {P : Program} {ro : Option Nat} {sz : Nat} {fr : Fr} {ds : List Deferred} {L : List SP} {Q : Post} {ops : Array Oper} {l : List Oper} {d : Nat} {ty : TypeId} {pos : String} {aft : Array Edge}
theorem vo_load_desk {x : Operand} {T b E : Nat} {z : Value} {bytes : Nat} {le : Led} {v : LedV} {bk : List Int} (hx : Fr.ev fr x = some (.pointer (some ⟨b, 7, none⟩))) [ht : TyI P T true z 10 bytes] [hc : Cl L b E (deskC le v bk)] (hl : bk.length = 10) : VO P ds ⟨some d, .load T x, ty, pos, aft, none⟩ fr L (.agg (bk.map keyInt).toArray) := by
  have h := vo_load_part (P := P) (L := L) (ds := ds) (d := d) (ty := ty) (pos := pos) (aft := aft) (T := T) (cs := deskC le v bk) (size := 10) hx (show Nat.ble (7 + 10) (deskC le v bk).length = true by simp [hl])
  have e : ((deskC le v bk).drop 7).take 10 = bk.map keyInt := by
    show (bk.map keyInt).take 10 = _
    rw [List.take_of_length_le (by simp [hl])]
  rwa [e] at h
theorem vo_eql_arr {x y : Operand} {T' : TypeId} {xs ys : List Int} (hx : Fr.ev fr x = some (.agg (xs.map keyInt).toArray)) (hy : Fr.ev fr y = some (.agg (ys.map keyInt).toArray)) (h1 : xs.length = 10) (h2 : ys.length = 10) : VO Tryz.prog ds ⟨some d, .binOp .eql 130 x y T', ty, pos, aft, none⟩ fr L (.bool (decide (xs = ys))) :=
  ⟨(fun c h => by cases h), fun tm w h3 h4 => by
    simp only [execOp, h3.ev hx, h3.ev hy, Sem.run_bind, run_eqGuard_agg w .eql 130 x y _ _ Tryz.eqGuardType130, Result.andThen_ok, run_eql_struct]
    rw [arr_eq xs ys h1 h2]; rfl⟩
end
theorem ret3 {P : Program} {fn : Func} {t u s : Nat} (hr : fn.results = #[.tmp t, .tmp u, .tmp s]) {fr : Fr} {L : List SP} {v x y : Value} (hv : Fr.get fr t = some v) (hx : Fr.get fr u = some x) (hy : Fr.get fr s = some y) : ResV P fn fr L (.tuple #[v, x, y]) := fun tm w h _ => by
  simp [results, hr, Array.getD_eq_getD_getElem?, h t v hv, h u x hx, h s y hy]
theorem rq3 {P : Program} {fn : Func} {R : Value → List SP → Prop} {fr : Fr} {L L2 : List SP} {t u s : Nat} {v x y : Value} (hr : fn.results = #[.tmp t, .tmp u, .tmp s]) (hv : Fr.get fr t = some v) (hx : Fr.get fr u = some x) (hy : Fr.get fr s = some y) (h : R (.tuple #[v, x, y]) L2) (hl : Less L L2) : retQ P fn R fr [] L := ⟨_, L, L2, .nil L, ret3 hr hv hx hy, hl.out, h⟩
theorem owes_rng {l : Led} (h : OkL l) (who y : Int) : 0 ≤ owesM l who y ∧ owesM l who y ≤ 54000 := by
  have h1 := left_bd h (untilM_ok h y) y (orderM l fun i => decide ((ln l i).1 = who))
  have h2 := order_len h fun i => decide ((ln l i).1 = who)
  unfold owesM leftM
  omega
attribute [local irreducible] SW SO FnC retQ SA VO
theorem known_ok (L : List SP) (v : LedV) (l : Led) [k : RdL L v l] (hk : OkL l) (i : Nat) (hi : i < l.loans.length) : FnC Tryz.prog 102 [.agg (ledC l v).toArray, .int .i64 i] L (fun r M => ∃ bd, r = .tuple #[.pointer (some ⟨bd, 0, none⟩), .int .i64 0] ∧ M = cl bd 132 (deskC l v zeros) :: L) := by
  refine fn_start (sz := 23) Tryz.func102 rfl rfl rfl ?_
  repeat' (first
    | (apply so_vo; (· exact voA); (· rfl))
    | refine so_nil ?_
    | refine q_go ?_
    | refine sw_region ?_
    | (refine goQ ?_; intro _ _)
    | refine go1 ?_
    | (refine go2 ?_ ?_ <;> intro h <;> (try simp only [Bool.not_true, Bool.not_false, decide_eq_true_eq, decide_eq_false_iff_not, Bool.not_eq_true', Bool.not_eq_false', ne_eq, Decidable.not_not, Int.not_lt, Int.not_le, not_false_eq_true] at h))
    | fail)
  first
    | (refine goU ?_; intro b2)
    | (refine goB ?_; intro b2)
    | (refine goM ?_; intro b2)
  repeat' (first
    | (apply so_vo; (· exact voA); (· rfl))
    | refine so_nil ?_
    | refine q_go ?_
    | refine sw_region ?_
    | (refine goQ ?_; intro _ _)
    | refine go1 ?_
    | (refine go2 ?_ ?_ <;> intro h <;> (try simp only [Bool.not_true, Bool.not_false, decide_eq_true_eq, decide_eq_false_iff_not, Bool.not_eq_true', Bool.not_eq_false', ne_eq, Decidable.not_not, Int.not_lt, Int.not_le, not_false_eq_true] at h))
    | fail)
  refine so_call rfl rfl rfl (opened_ok _ v l hk) ?_
  rintro _ _ ⟨bd, rfl, rfl⟩
  repeat' (first
    | (apply so_vo; (· exact voA); (· rfl))
    | refine so_nil ?_
    | refine q_go ?_
    | refine sw_region ?_
    | (refine goQ ?_; intro _ _)
    | refine go1 ?_
    | (refine goU ?_; intro nu)
    | (refine goB ?_; intro nb)
    | (refine goM ?_; intro nm)
    | (refine go2 ?_ ?_ <;> intro h <;> (try simp only [Bool.not_true, Bool.not_false, decide_eq_true_eq, decide_eq_false_iff_not, Bool.not_eq_true', Bool.not_eq_false', ne_eq, Decidable.not_not, Int.not_lt, Int.not_le, not_false_eq_true] at h))
    | fail)
  refine so_call rfl rfl rfl (loan_ok _ v l hk i) ?_
  rintro _ _ ⟨rfl, rfl⟩
  rw [decide_eq_true (show 0 ≤ (i : Int) ∧ (i : Int) ≤ (l.loans.length : Int) - 1 by omega)]
  repeat' (first
    | (apply so_vo; (· exact voA); (· rfl))
    | refine so_nil ?_
    | refine q_go ?_
    | refine sw_region ?_
    | (refine goQ ?_; intro _ _)
    | refine go1 ?_
    | (refine goU ?_; intro nu)
    | (refine goB ?_; intro nb)
    | (refine goM ?_; intro nm)
    | (refine go2 ?_ ?_ <;> intro h <;> (try simp only [Bool.not_true, Bool.not_false, decide_eq_true_eq, decide_eq_false_iff_not, Bool.not_eq_true', Bool.not_eq_false', ne_eq, Decidable.not_not, Int.not_lt, Int.not_le, not_false_eq_true] at h))
    | fail)
  apply rq2 rfl rfl rfl
  · exact ⟨bd, rfl, rfl⟩
  · (first | infer_instance | exact ⟨fun _ H => H⟩)
theorem Booked_ok (L : List SP) (v : LedV) (l : Led) [k : RdL L v l] (hk : OkL l) (i : Nat) (hi : i < l.pays.length) : FnC Tryz.prog 64 [.agg (ledC l v).toArray, .int .i64 i] L (fun r M => ∃ u : SlV, r = .tuple #[u.v, .int .i64 (bookedM l i).over, .int .i64 0] ∧ M = ownSl 105 enc2 u.v (bookedM l i).parts :: L) := by
  have hnp := hk.np
  have hpay : ∀ p ∈ l.pays, 0 ≤ p.2.2 ∧ p.2.2 ≤ 500 := fun p hp => by have := hk.pay p hp; omega
  refine fn_start (sz := 53) Tryz.func64 rfl rfl rfl ?_
  repeat' (first
    | (apply so_vo; (· exact voA); (· rfl))
    | refine so_nil ?_
    | refine q_go ?_
    | refine sw_region ?_
    | (refine goQ ?_; intro _ _)
    | refine go1 ?_
    | (refine go2 ?_ ?_ <;> intro h <;> (try simp only [Bool.not_true, Bool.not_false, decide_eq_true_eq, decide_eq_false_iff_not, Bool.not_eq_true', Bool.not_eq_false', ne_eq, Decidable.not_not, Int.not_lt, Int.not_le, not_false_eq_true] at h))
    | fail)
  first
    | (refine goU ?_; intro b2)
    | (refine goB ?_; intro b2)
    | (refine goM ?_; intro b2)
  repeat' (first
    | (apply so_vo; (· exact voA); (· rfl))
    | refine so_nil ?_
    | refine q_go ?_
    | refine sw_region ?_
    | (refine goQ ?_; intro _ _)
    | refine go1 ?_
    | (refine go2 ?_ ?_ <;> intro h <;> (try simp only [Bool.not_true, Bool.not_false, decide_eq_true_eq, decide_eq_false_iff_not, Bool.not_eq_true', Bool.not_eq_false', ne_eq, Decidable.not_not, Int.not_lt, Int.not_le, not_false_eq_true] at h))
    | fail)
  refine so_call rfl rfl rfl (opened_ok _ v l hk) ?_
  rintro _ _ ⟨bd, rfl, rfl⟩
  repeat' (first
    | (apply so_vo; (· exact voA); (· rfl))
    | refine so_nil ?_
    | refine q_go ?_
    | refine sw_region ?_
    | (refine goQ ?_; intro _ _)
    | refine go1 ?_
    | (refine goU ?_; intro nu)
    | (refine goB ?_; intro nb)
    | (refine goM ?_; intro nm)
    | (refine go2 ?_ ?_ <;> intro h <;> (try simp only [Bool.not_true, Bool.not_false, decide_eq_true_eq, decide_eq_false_iff_not, Bool.not_eq_true', Bool.not_eq_false', ne_eq, Decidable.not_not, Int.not_lt, Int.not_le, not_false_eq_true] at h))
    | fail)
  refine so_call rfl rfl rfl (in_ok _ i 0 _) ?_
  rintro _ _ ⟨rfl, rfl⟩
  rw [decide_eq_true (show 0 ≤ (i : Int) ∧ (i : Int) ≤ (l.pays.length : Int) - 1 by omega)]
  have hsub : ∀ M : List SP, RdL M v l → RdSl M (subsl 3 v.up.v 0 ((i : Nat) : Int).toNat) P3 enc3 (l.pays.take i) := fun M hM => by
    have := RdSl.sub (L := M) (v := v.up.v) (enc := enc3) (xs := l.pays) inferInstance (lo := 0) (hi := i) (by omega) (by omega)
    rw [List.drop_zero] at this
    exact this
  haveI := hsub (cl bd 132 (deskC l v zeros) :: cl b2 74 (ledC l v) :: L) inferInstance
  repeat' (first
    | (apply so_vo; (· exact voA); (· rfl))
    | refine so_nil ?_
    | refine q_go ?_
    | refine sw_region ?_
    | (refine goQ ?_; intro _ _)
    | refine go1 ?_
    | (refine goU ?_; intro nu)
    | (refine goB ?_; intro nb)
    | (refine goM ?_; intro nm)
    | (refine go2 ?_ ?_ <;> intro h <;> (try simp only [Bool.not_true, Bool.not_false, decide_eq_true_eq, decide_eq_false_iff_not, Bool.not_eq_true', Bool.not_eq_false', ne_eq, Decidable.not_not, Int.not_lt, Int.not_le, not_false_eq_true] at h))
    | fail)
  have hti : (l.pays.take i).length ≤ 12 := by simp; omega
  refine sw_range (τ := Unit) (fun _ _ => [(1, .int .i64 i), (2, .pointer (some ⟨b2, 0, none⟩)), (7, .pointer (some ⟨bd, 0, none⟩)), (31, subsl 3 v.up.v 0 ((i : Nat) : Int).toNat)]) (fun k _ => cl bd 132 (deskC l v (bookA l ((l.pays.take i).take k))) :: cl b2 74 (ledC l v) :: L) (fun _ _ => True) () trivial (by rfl) (by rfl) (by omega) (by (exact fsA)) (fun _ h => h) (fun _ _ => by rfl) (by rfl) (fun ka ta hlta hIa _ _ => ?_) (fun ta hIa => ?_)
  · haveI := hsub (cl bd 132 (deskC l v (bookA l ((l.pays.take i).take ka))) :: cl b2 74 (ledC l v) :: L) inferInstance
    obtain ⟨p, hp⟩ := get_some hlta
    have hpm := hpay p (List.mem_of_mem_take (List.mem_of_getElem? hp))
    have hok := bookA_ok hk ((l.pays.take i).take ka) zeros (OkBk.zero hk) (fun p hp => hpay p (List.mem_of_mem_take (List.mem_of_mem_take hp)))
    have hnext : bookA l ((l.pays.take i).take (ka + 1)) = (bookM l (bookA l ((l.pays.take i).take ka)) p).bk := by unfold bookA; rw [take_snoc hp, List.foldl_append]; rfl
    repeat' (first
      | (apply so_vo; (· exact voA); (· rfl))
      | refine so_nil ?_
      | refine q_go ?_
      | refine sw_region ?_
      | (refine goQ ?_; intro _ _)
      | refine go1 ?_
      | (refine goU ?_; intro nu)
      | (refine goB ?_; intro nb)
      | (refine goM ?_; intro nm)
      | (refine go2 ?_ ?_ <;> intro h <;> (try simp only [Bool.not_true, Bool.not_false, decide_eq_true_eq, decide_eq_false_iff_not, Bool.not_eq_true', Bool.not_eq_false', ne_eq, Decidable.not_not, Int.not_lt, Int.not_le, not_false_eq_true] at h))
      | fail)
    refine so_call rfl rfl rfl (FnC.perm (.swap _ _ _) (book_ok0 _ bd v l _ p hk hok hpm)) ?_
    rintro _ _ ⟨u, rfl, rfl⟩
    repeat' (first
      | (apply so_vo; (· exact voA); (· rfl))
      | refine so_nil ?_
      | refine q_go ?_
      | refine sw_region ?_
      | (refine goQ ?_; intro _ _)
      | refine go1 ?_
      | (refine goU ?_; intro nu)
      | (refine goB ?_; intro nb)
      | (refine goM ?_; intro nm)
      | (refine go2 ?_ ?_ <;> intro h <;> (try simp only [Bool.not_true, Bool.not_false, decide_eq_true_eq, decide_eq_false_iff_not, Bool.not_eq_true', Bool.not_eq_false', ne_eq, Decidable.not_not, Int.not_lt, Int.not_le, not_false_eq_true] at h))
      | fail)
    rw [← hnext]
    refine ⟨rfl, (), trivial, ?_, ?_⟩
    · (exact fsA)
    · (first | exact fun _ h => h | exact HLess.sat inferInstance)
  · rw [List.take_of_length_le (Nat.le_refl _)]
    obtain ⟨p, hp⟩ := get_some hi
    have hpm := hpay p (List.mem_of_getElem? hp)
    have hok := bookA_ok hk (l.pays.take i) zeros (OkBk.zero hk) (fun p hp => hpay p (List.mem_of_mem_take hp))
    have e : bookM l (bookA l (l.pays.take i)) p = bookedM l i := by unfold bookedM; rw [getD_of hp]
    repeat' (first
      | (apply so_vo; (· exact voA); (· rfl))
      | refine so_nil ?_
      | refine q_go ?_
      | refine sw_region ?_
      | (refine goQ ?_; intro _ _)
      | refine go1 ?_
      | (refine goU ?_; intro nu)
      | (refine goB ?_; intro nb)
      | (refine goM ?_; intro nm)
      | (refine go2 ?_ ?_ <;> intro h <;> (try simp only [Bool.not_true, Bool.not_false, decide_eq_true_eq, decide_eq_false_iff_not, Bool.not_eq_true', Bool.not_eq_false', ne_eq, Decidable.not_not, Int.not_lt, Int.not_le, not_false_eq_true] at h))
      | fail)
    refine so_call rfl rfl rfl (book_ok0 _ bd v l _ p hk hok hpm) ?_
    rintro _ _ ⟨u, rfl, rfl⟩
    repeat' (first
      | (apply so_vo; (· exact voA); (· rfl))
      | refine so_nil ?_
      | refine q_go ?_
      | refine sw_region ?_
      | (refine goQ ?_; intro _ _)
      | refine go1 ?_
      | (refine goU ?_; intro nu)
      | (refine goB ?_; intro nb)
      | (refine goM ?_; intro nm)
      | (refine go2 ?_ ?_ <;> intro h <;> (try simp only [Bool.not_true, Bool.not_false, decide_eq_true_eq, decide_eq_false_iff_not, Bool.not_eq_true', Bool.not_eq_false', ne_eq, Decidable.not_not, Int.not_lt, Int.not_le, not_false_eq_true] at h))
      | fail)
    apply rq3 rfl rfl rfl rfl
    · rw [e]
      exact ⟨u, rfl, rfl⟩
    · rw [e]; infer_instance
theorem Paid_ok (L : List SP) (v : LedV) (l : Led) [k : RdL L v l] (hk : OkL l) (i : Nat) (hi : i < l.loans.length) : FnC Tryz.prog 67 [.agg (ledC l v).toArray, .int .i64 i] L (fun r M => r = .tuple #[.int .i64 (paidM l i).1, .int .i64 (paidM l i).2] ∧ M = L) := by
  have h3 := hk.years
  have hnl := hk.nl
  have hln := hk.ln hi
  have h2 := ln_get hi
  refine fn_start (sz := 69) Tryz.func67 rfl rfl rfl ?_
  repeat' (first
    | (apply so_vo; (· exact voA); (· rfl))
    | refine so_nil ?_
    | refine q_go ?_
    | refine sw_region ?_
    | (refine goQ ?_; intro _ _)
    | refine go1 ?_
    | (refine go2 ?_ ?_ <;> intro h <;> (try simp only [Bool.not_true, Bool.not_false, decide_eq_true_eq, decide_eq_false_iff_not, Bool.not_eq_true', Bool.not_eq_false', ne_eq, Decidable.not_not, Int.not_lt, Int.not_le, not_false_eq_true] at h))
    | fail)
  first
    | (refine goU ?_; intro b2)
    | (refine goB ?_; intro b2)
    | (refine goM ?_; intro b2)
  repeat' (first
    | (apply so_vo; (· exact voA); (· rfl))
    | refine so_nil ?_
    | refine q_go ?_
    | refine sw_region ?_
    | (refine goQ ?_; intro _ _)
    | refine go1 ?_
    | (refine go2 ?_ ?_ <;> intro h <;> (try simp only [Bool.not_true, Bool.not_false, decide_eq_true_eq, decide_eq_false_iff_not, Bool.not_eq_true', Bool.not_eq_false', ne_eq, Decidable.not_not, Int.not_lt, Int.not_le, not_false_eq_true] at h))
    | fail)
  refine so_call rfl rfl rfl (known_ok _ v l hk i hi) ?_
  rintro _ _ ⟨bd, rfl, rfl⟩
  repeat' (first
    | (apply so_vo; (· exact voA); (· rfl))
    | refine so_nil ?_
    | refine q_go ?_
    | refine sw_region ?_
    | (refine goQ ?_; intro _ _)
    | refine go1 ?_
    | (refine go2 ?_ ?_ <;> intro h <;> (try simp only [Bool.not_true, Bool.not_false, decide_eq_true_eq, decide_eq_false_iff_not, Bool.not_eq_true', Bool.not_eq_false', ne_eq, Decidable.not_not, Int.not_lt, Int.not_le, not_false_eq_true] at h))
    | fail)
  first
    | (refine goU ?_; intro b8)
    | (refine goB ?_; intro b8)
    | (refine goM ?_; intro b8)
  repeat' (first
    | (apply so_vo; (· exact voA); (· rfl))
    | refine so_nil ?_
    | refine q_go ?_
    | refine sw_region ?_
    | (refine goQ ?_; intro _ _)
    | refine go1 ?_
    | (refine go2 ?_ ?_ <;> intro h <;> (try simp only [Bool.not_true, Bool.not_false, decide_eq_true_eq, decide_eq_false_iff_not, Bool.not_eq_true', Bool.not_eq_false', ne_eq, Decidable.not_not, Int.not_lt, Int.not_le, not_false_eq_true] at h))
    | fail)
  refine so_mem (L' := cl b8 132 (deskC l v zeros) :: cl bd 132 (deskC l v zeros) :: cl b2 74 (ledC l v) :: L) (fun w H => H) ?_
  refine so_call rfl rfl rfl (until_ok _ b8 v l zeros (l.years - 1) hk (OkBk.zero hk)) ?_
  rintro _ _ ⟨rfl, rfl⟩
  have hlast := untilM_ok hk (l.years - 1)
  have hll := hlast.len
  rw [show bookK l zeros (l.years - 1) l.pays = untilM l (l.years - 1) from rfl]
  repeat' (first
    | (apply so_vo; (· exact voA); (· rfl))
    | refine so_nil ?_
    | refine q_go ?_
    | refine sw_region ?_
    | (refine goQ ?_; intro _ _)
    | refine go1 ?_
    | (refine goU ?_; intro nu)
    | (refine goB ?_; intro nb)
    | (refine goM ?_; intro nm)
    | (refine go2 ?_ ?_ <;> intro h <;> (try simp only [Bool.not_true, Bool.not_false, decide_eq_true_eq, decide_eq_false_iff_not, Bool.not_eq_true', Bool.not_eq_false', ne_eq, Decidable.not_not, Int.not_lt, Int.not_le, not_false_eq_true] at h))
    | fail)
  refine sw_block' (fun _ _ => ?_)
  refine sw_loop' (σ := Nat × Int) (fun s => [(1, .int .i64 i), (2, .pointer (some ⟨b2, 0, none⟩)), (8, .pointer (some ⟨b8, 0, none⟩)), (9, .int .i64 s.2)]) (fun _ => cl b8 132 (deskC l v (untilM l (l.years - 1))) :: cl bd 132 (deskC l v zeros) :: cl b2 74 (ledC l v) :: L) (fun s => paidFrom l i (untilM l (l.years - 1)) s.1 s.2 = paidM l i ∧ l.years - s.2 < s.1 ∧ 0 ≤ s.2 ∧ s.2 ≤ 1000) (fun s => s.1) (10, (ln l i).2.1) ⟨rfl, by simp only; omega, by simp only; omega, by simp only; omega⟩ (by (exact fsA)) (fun _ h => h) (fun s hs _ _ => ?_)
  obtain ⟨n, y⟩ := s
  obtain ⟨g1, g2, g3, g4⟩ := hs
  simp only at g1 g2 g3 g4 ⊢
  by_cases h0 : y < l.years
  · obtain ⟨m, rfl⟩ : ∃ m, n = m + 1 := ⟨n - 1, by omega⟩
    rw [paidFrom, if_pos h0] at g1
    have hbk := untilM_ok hk y
    have hbl := hbk.len
    have hget := desk_get l v (untilM l y) (i := i) (by omega)
    repeat' (first
      | (apply so_vo; (· exact voA); (· rfl))
      | refine so_nil ?_
      | refine q_go ?_
      | refine sw_region ?_
      | (refine goQ ?_; intro _ _)
      | refine go1 ?_
      | (refine go2 ?_ ?_ <;> intro h <;> (try simp only [Bool.not_true, Bool.not_false, decide_eq_true_eq, decide_eq_false_iff_not, Bool.not_eq_true', Bool.not_eq_false', ne_eq, Decidable.not_not, Int.not_lt, Int.not_le, not_false_eq_true] at h))
      | fail)
    first
      | (refine goU ?_; intro bn)
      | (refine goB ?_; intro bn)
      | (refine goM ?_; intro bn)
    repeat' (first
      | (apply so_vo; (· exact voA); (· rfl))
      | refine so_nil ?_
      | refine q_go ?_
      | refine sw_region ?_
      | (refine goQ ?_; intro _ _)
      | refine go1 ?_
      | (refine go2 ?_ ?_ <;> intro h <;> (try simp only [Bool.not_true, Bool.not_false, decide_eq_true_eq, decide_eq_false_iff_not, Bool.not_eq_true', Bool.not_eq_false', ne_eq, Decidable.not_not, Int.not_lt, Int.not_le, not_false_eq_true] at h))
      | fail)
    refine so_mem (L' := cl bn 132 (deskC l v zeros) :: cl b8 132 (deskC l v (untilM l (l.years - 1))) :: cl bd 132 (deskC l v zeros) :: cl b2 74 (ledC l v) :: L) (fun w H => H) ?_
    refine so_call rfl rfl rfl (until_ok _ bn v l zeros y hk (OkBk.zero hk)) ?_
    rintro _ _ ⟨rfl, rfl⟩
    rw [show bookK l zeros y l.pays = untilM l y from rfl]
    repeat' (first
      | (apply so_vo; (· exact voA); (· rfl))
      | refine so_nil ?_
      | refine q_go ?_
      | refine sw_region ?_
      | (refine goQ ?_; intro _ _)
      | refine go1 ?_
      | (refine goU ?_; intro nu)
      | (refine goB ?_; intro nb)
      | (refine goM ?_; intro nm)
      | (refine go2 ?_ ?_ <;> intro h <;> (try simp only [Bool.not_true, Bool.not_false, decide_eq_true_eq, decide_eq_false_iff_not, Bool.not_eq_true', Bool.not_eq_false', ne_eq, Decidable.not_not, Int.not_lt, Int.not_le, not_false_eq_true] at h))
      | fail)
    refine sa_start [] mixed (by kernel_rfl) ?_
    apply sa_stat 0 rfl (by kernel_rfl) rfl
    · (exact voA)
    apply sa_stat 1 rfl (by kernel_rfl) rfl
    · (exact voA)
    apply sa_stat 2 rfl (by kernel_rfl) rfl
    · (exact voA)
    apply sa_stat 3 rfl (by kernel_rfl) rfl
    · (exact voA)
    apply sa_stat 4 rfl (by kernel_rfl) rfl
    · (exact voA)
    apply sa_stat 5 rfl (by kernel_rfl) rfl
    · (exact voA)
    apply sa_stat 6 rfl (by kernel_rfl) rfl
    · (exact voA)
    apply sa_stat 7 rfl (by kernel_rfl) rfl
    · (exact voA)
    apply sa_stat 8 rfl (by kernel_rfl) rfl
    · (exact voA)
    apply sa_stat 9 rfl (by kernel_rfl) rfl
    · (exact voA)
    apply sa_stat 10 rfl (by kernel_rfl) rfl
    · (exact voA)
    refine sa_chainL 11 rfl (by kernel_rfl) ?_
    (refine so_call rfl rfl rfl (asked_ok _ v l hk i hi) ?_; rintro _ _ ⟨rfl, rfl⟩)
    repeat' (first
      | (apply so_vo; (· exact voA); (· rfl))
      | refine so_nil ?_
      | refine q_go ?_
      | refine sw_region ?_
      | (refine goQ ?_; intro _ _)
      | refine go1 ?_
      | (refine goU ?_; intro nu)
      | (refine goB ?_; intro nb)
      | (refine goM ?_; intro nm)
      | (refine go2 ?_ ?_ <;> intro h <;> (try simp only [Bool.not_true, Bool.not_false, decide_eq_true_eq, decide_eq_false_iff_not, Bool.not_eq_true', Bool.not_eq_false', ne_eq, Decidable.not_not, Int.not_lt, Int.not_le, not_false_eq_true] at h))
      | fail)
    refine ⟨rfl, rfl, HLess.sat inferInstance, ?_⟩
    apply sa_stat 12 rfl (by kernel_rfl) rfl
    · (exact voA)
    refine sa_rest (T' := []) rfl (by kernel_rfl) ?_
    by_cases h5 : (untilM l y).getD i 0 = askedM l i
    · rw [if_pos h5] at g1
      repeat' (first
        | (apply so_vo; (· exact voA); (· rfl))
        | refine so_nil ?_
        | refine q_go ?_
        | refine sw_region ?_
        | (refine goQ ?_; intro _ _)
        | refine go1 ?_
        | (refine goU ?_; intro nu)
        | (refine goB ?_; intro nb)
        | (refine goM ?_; intro nm)
        | (refine go2 ?_ ?_ <;> intro h <;> (try simp only [Bool.not_true, Bool.not_false, decide_eq_true_eq, decide_eq_false_iff_not, Bool.not_eq_true', Bool.not_eq_false', ne_eq, Decidable.not_not, Int.not_lt, Int.not_le, not_false_eq_true] at h))
        | fail)
      apply rq2 rfl rfl rfl
      · exact ⟨by rw [← g1], rfl⟩
      · (first | infer_instance | exact ⟨fun _ H => H⟩)
    · rw [if_neg h5] at g1
      repeat' (first
        | (apply so_vo; (· exact voA); (· rfl))
        | refine so_nil ?_
        | refine q_go ?_
        | refine sw_region ?_
        | (refine goQ ?_; intro _ _)
        | refine go1 ?_
        | (refine goU ?_; intro nu)
        | (refine goB ?_; intro nb)
        | (refine goM ?_; intro nm)
        | (refine go2 ?_ ?_ <;> intro h <;> (try simp only [Bool.not_true, Bool.not_false, decide_eq_true_eq, decide_eq_false_iff_not, Bool.not_eq_true', Bool.not_eq_false', ne_eq, Decidable.not_not, Int.not_lt, Int.not_le, not_false_eq_true] at h))
        | fail)
      refine sa_start [] mixed (by kernel_rfl) ?_
      apply sa_stat 0 rfl (by kernel_rfl) rfl
      · (exact voA)
      apply sa_stat 1 rfl (by kernel_rfl) rfl
      · (exact voA)
      apply sa_stat 2 rfl (by kernel_rfl) rfl
      · (exact voA)
      apply sa_stat 3 rfl (by kernel_rfl) rfl
      · (exact voA)
      apply sa_stat 4 rfl (by kernel_rfl) rfl
      · (exact voA)
      apply sa_stat 5 rfl (by kernel_rfl) rfl
      · (exact voA)
      apply sa_stat 6 rfl (by kernel_rfl) rfl
      · (exact voA)
      apply sa_stat 7 rfl (by kernel_rfl) rfl
      · (exact voA)
      apply sa_stat 8 rfl (by kernel_rfl) rfl
      · (exact voA)
      refine sa_rest (T' := []) rfl (by kernel_rfl) ?_
      by_cases h6 : untilM l y = untilM l (l.years - 1)
      · rw [if_pos h6] at g1
        repeat' (first
          | (apply so_vo; (· exact voA); (· rfl))
          | refine so_nil ?_
          | refine q_go ?_
          | refine sw_region ?_
          | (refine goQ ?_; intro _ _)
          | refine go1 ?_
          | (refine goU ?_; intro nu)
          | (refine goB ?_; intro nb)
          | (refine goM ?_; intro nm)
          | (refine go2 ?_ ?_ <;> intro h <;> (try simp only [Bool.not_true, Bool.not_false, decide_eq_true_eq, decide_eq_false_iff_not, Bool.not_eq_true', Bool.not_eq_false', ne_eq, Decidable.not_not, Int.not_lt, Int.not_le, not_false_eq_true] at h))
          | fail)
        apply rq2 rfl rfl rfl
        · exact ⟨by rw [← g1], rfl⟩
        · (first | infer_instance | exact ⟨fun _ H => H⟩)
      · rw [if_neg h6] at g1
        repeat' (first
          | (apply so_vo; (· exact voA); (· rfl))
          | refine so_nil ?_
          | refine q_go ?_
          | refine sw_region ?_
          | (refine goQ ?_; intro _ _)
          | refine go1 ?_
          | (refine goU ?_; intro nu)
          | (refine goB ?_; intro nb)
          | (refine goM ?_; intro nm)
          | (refine go2 ?_ ?_ <;> intro h <;> (try simp only [Bool.not_true, Bool.not_false, decide_eq_true_eq, decide_eq_false_iff_not, Bool.not_eq_true', Bool.not_eq_false', ne_eq, Decidable.not_not, Int.not_lt, Int.not_le, not_false_eq_true] at h))
          | fail)
        refine ⟨rfl, (m, y + 1), ⟨g1, by simp only; omega, by simp only; omega, by simp only; omega⟩, by simp only; omega, ?_, ?_⟩
        · (exact fsA)
        · (first | exact fun _ h => h | exact HLess.sat inferInstance)
  · have g5 : paidM l i = (0, 6) := by
      rw [← g1]
      cases n with
      | zero => rfl
      | succ m => rw [paidFrom, if_neg h0]
    repeat' (first
      | (apply so_vo; (· exact voA); (· rfl))
      | refine so_nil ?_
      | refine q_go ?_
      | refine sw_region ?_
      | (refine goQ ?_; intro _ _)
      | refine go1 ?_
      | (refine goU ?_; intro nu)
      | (refine goB ?_; intro nb)
      | (refine goM ?_; intro nm)
      | (refine go2 ?_ ?_ <;> intro h <;> (try simp only [Bool.not_true, Bool.not_false, decide_eq_true_eq, decide_eq_false_iff_not, Bool.not_eq_true', Bool.not_eq_false', ne_eq, Decidable.not_not, Int.not_lt, Int.not_le, not_false_eq_true] at h))
      | fail)
    apply rq2 rfl rfl rfl
    · exact ⟨by rw [g5], rfl⟩
    · (first | infer_instance | exact ⟨fun _ H => H⟩)
end Go.Proofs.YtmhfhfhdblccjaaGreat
/-
  The debts of a ledger.
-/
namespace Go.Proofs.YtmhfhfhdblccjaaGreat
open Go Go.RowKit
set_option linter.unusedVariables false
set_option linter.unusedSimpArgs false
set_option maxRecDepth 100000
set_option maxHeartbeats 4000000
theorem owed_take {l : Led} {k : Nat} (h : k < l.folk.toNat) : (owed0 l).take (k + 1) = (owed0 l).take k ++ [owedRow l k] := by
  refine take_snoc ?_
  unfold owed0
  rw [List.getElem?_map, List.getElem?_range h]; rfl
theorem OkL.folkN {l : Led} (h : OkL l) : (l.folk.toNat : Int) = l.folk := by have := h.folk; omega
theorem owed0_sq {l : Led} (h : OkL l) : Sq l.folk.toNat 0 54000 (owed0 l) := by
  refine ⟨owed0_len l, fun a ha => by rw [owed0_at l ha, owedRow_len], fun a b => ?_⟩
  rcases Nat.lt_or_ge a l.folk.toNat with ha | ha
  · rw [owed0_at l ha, owedRow_getD]
    have := owes_rng h a (l.years - 1)
    split <;> omega
  · have : atx (owed0 l) a = [] := by unfold atx; rw [List.getElem?_eq_none (by rw [owed0_len]; exact ha)]; rfl
    rw [this]; simp
theorem owed_sq {l : Led} (h : OkL l) : ∀ k, k ≤ l.proms.length → Sq l.folk.toNat 0 (54000 + 500 * k) ((l.proms.take k).foldl owedStep (owed0 l))
  | 0, _ => by simpa using owed0_sq h
  | k + 1, hk => by
    have ih := owed_sq h k (by omega)
    have hx := List.getElem?_eq_getElem (show k < l.proms.length by omega)
    have hp := h.prom _ (List.mem_of_getElem? hx)
    rw [take_snoc hx, List.foldl_append]
    simp only [List.foldl_cons, List.foldl_nil]
    obtain ⟨D, hD⟩ : ∃ D, D = (l.proms.take k).foldl owedStep (owed0 l) := ⟨_, rfl⟩
    rw [← hD] at ih ⊢
    have hr : 0 ≤ dv D (l.proms[k]).1 (l.proms[k]).2.1 ∧ dv D (l.proms[k]).1 (l.proms[k]).2.1 ≤ 54000 + 500 * (k : Int) := ih.rng _ _
    have h2 : Sq l.folk.toNat 0 (54000 + 500 * ((k + 1 : Nat) : Int)) D := ⟨ih.len, ih.sq, fun a b => by have := ih.rng a b; omega⟩
    unfold owedStep
    exact h2.setv (Int.le_refl _) ⟨by omega, by omega⟩
attribute [local irreducible] SW SO FnC retQ SA VO
theorem Owed_ok (L : List SP) (v : LedV) (l : Led) [k : RdL L v l] (hk : OkL l) : FnC Tryz.prog 44 [.agg (ledC l v).toArray] L (matR L 0 (owedM l)) := by
  have hf := hk.folk
  have hfn := hk.folkN
  have h3 := hk.years
  have hnq := hk.nq
  refine fn_start (sz := 68) Tryz.func44 rfl rfl rfl ?_
  repeat' (first
    | (apply so_vo; (· exact voA); (· rfl))
    | refine so_nil ?_
    | refine q_go ?_
    | refine sw_region ?_
    | (refine goQ ?_; intro _ _)
    | refine go1 ?_
    | (refine go2 ?_ ?_ <;> intro h <;> (try simp only [Bool.not_true, Bool.not_false, decide_eq_true_eq, decide_eq_false_iff_not, Bool.not_eq_true', Bool.not_eq_false', ne_eq, Decidable.not_not, Int.not_lt, Int.not_le, not_false_eq_true] at h))
    | fail)
  first
    | (refine goU ?_; intro b1)
    | (refine goB ?_; intro b1)
    | (refine goM ?_; intro b1)
  repeat' (first
    | (apply so_vo; (· exact voA); (· rfl))
    | refine so_nil ?_
    | refine q_go ?_
    | refine sw_region ?_
    | (refine goQ ?_; intro _ _)
    | refine go1 ?_
    | (refine go2 ?_ ?_ <;> intro h <;> (try simp only [Bool.not_true, Bool.not_false, decide_eq_true_eq, decide_eq_false_iff_not, Bool.not_eq_true', Bool.not_eq_false', ne_eq, Decidable.not_not, Int.not_lt, Int.not_le, not_false_eq_true] at h))
    | fail)
  refine so_call rfl rfl rfl (Check_ok _ v l hk) ?_
  rintro _ _ ⟨rfl, rfl⟩
  repeat' (first
    | (apply so_vo; (· exact voA); (· rfl))
    | refine so_nil ?_
    | refine q_go ?_
    | refine sw_region ?_
    | (refine goQ ?_; intro _ _)
    | refine go1 ?_
    | (refine go2 ?_ ?_ <;> intro h <;> (try simp only [Bool.not_true, Bool.not_false, decide_eq_true_eq, decide_eq_false_iff_not, Bool.not_eq_true', Bool.not_eq_false', ne_eq, Decidable.not_not, Int.not_lt, Int.not_le, not_false_eq_true] at h))
    | fail)
  first
    | (refine goU ?_; intro uo)
    | (refine goB ?_; intro uo)
    | (refine goM ?_; intro uo)
  repeat' (first
    | (apply so_vo; (· exact voA); (· rfl))
    | refine so_nil ?_
    | refine q_go ?_
    | refine sw_region ?_
    | (refine goQ ?_; intro _ _)
    | refine go1 ?_
    | (refine go2 ?_ ?_ <;> intro h <;> (try simp only [Bool.not_true, Bool.not_false, decide_eq_true_eq, decide_eq_false_iff_not, Bool.not_eq_true', Bool.not_eq_false', ne_eq, Decidable.not_not, Int.not_lt, Int.not_le, not_false_eq_true] at h))
    | fail)
  simp only [List.length_replicate]
  have hrl : (List.replicate l.folk.toNat nilS).length = l.folk.toNat := by simp
  refine sw_mem (L' := ownSl 28 encSl uo.v (List.replicate l.folk.toNat nilS) :: rows 3 encInt [] [] :: cl b1 74 (ledC l v) :: L) (fun w H => Holds.cons_mono (fun _ h => rows_nil h) H) ?_
  refine sw_range (τ := List SlV) (fun _ _ => [(1, .pointer (some ⟨b1, 0, none⟩)), (5, uo.v), (17, uo.v)]) (fun k us => ownSl 28 encSl uo.v us :: rows 3 encInt (us.take k) ((owed0 l).take k) :: cl b1 74 (ledC l v) :: L) (fun k us => us.length = l.folk.toNat) (List.replicate l.folk.toNat nilS) (by simp) (by rfl) (by rfl) (by omega) (by (exact fsA)) (fun _ h => h) (fun _ _ => by rfl) (by rfl) (fun ka ta hlta hIa _ _ => ?_) (fun ta hIa => ?_)
  · rename_i us
    have hka : ka < l.folk.toNat := by omega
    have hrow := owed_take (l := l) hka
    have hfin : ∀ (u : SlV) (w : World), Sat (ownSl 3 encInt u.v (owedRow l ka) :: ownSl 28 encSl uo.v (ta.set ka u) :: rows 3 encInt (ta.take ka) ((owed0 l).take ka) :: cl b1 74 (ledC l v) :: L) w → Sat (ownSl 28 encSl uo.v (ta.set ka u) :: rows 3 encInt ((ta.set ka u).take (ka + 1)) ((owed0 l).take (ka + 1)) :: cl b1 74 (ledC l v) :: L) w := fun u w H => by
      rw [hrow, take_set_snoc (by omega)]
      exact Holds.cons_mono (fun _ h => rows_push h) (Holds.swap H)
    repeat' (first
      | (apply so_vo; (· exact voA); (· rfl))
      | refine so_nil ?_
      | refine q_go ?_
      | refine sw_region ?_
      | (refine goQ ?_; intro _ _)
      | refine go1 ?_
      | (refine go2 ?_ ?_ <;> intro h <;> (try simp only [Bool.not_true, Bool.not_false, decide_eq_true_eq, decide_eq_false_iff_not, Bool.not_eq_true', Bool.not_eq_false', ne_eq, Decidable.not_not, Int.not_lt, Int.not_le, not_false_eq_true] at h))
      | fail)
    first
      | (refine goU ?_; intro ur)
      | (refine goB ?_; intro ur)
      | (refine goM ?_; intro ur)
    repeat' (first
      | (apply so_vo; (· exact voA); (· rfl))
      | refine so_nil ?_
      | refine q_go ?_
      | refine sw_region ?_
      | (refine goQ ?_; intro _ _)
      | refine go1 ?_
      | (refine go2 ?_ ?_ <;> intro h <;> (try simp only [Bool.not_true, Bool.not_false, decide_eq_true_eq, decide_eq_false_iff_not, Bool.not_eq_true', Bool.not_eq_false', ne_eq, Decidable.not_not, Int.not_lt, Int.not_le, not_false_eq_true] at h))
      | fail)
    refine so_call rfl rfl rfl (farmer_ok _ v l hk ka) ?_
    rintro _ _ ⟨rfl, rfl⟩
    by_cases h0 : 1 ≤ ka
    · rw [decide_eq_true (show 1 ≤ (ka : Int) ∧ (ka : Int) ≤ l.folk - 1 by omega)]
      have hre : owedRow l ka = (List.replicate l.folk.toNat 0).set 0 (owesM l ka (l.years - 1)) := by unfold owedRow; rw [if_pos h0]
      have hg : (ta.set ka ur)[ka]? = some ur := List.getElem?_set_self (by omega)
      have hrl2 : (List.replicate l.folk.toNat (0 : Int)).length = l.folk.toNat := by simp
      repeat' (first
        | (apply so_vo; (· exact voA); (· rfl))
        | refine so_nil ?_
        | refine q_go ?_
        | refine sw_region ?_
        | (refine goQ ?_; intro _ _)
        | refine go1 ?_
        | (refine goU ?_; intro nu)
        | (refine goB ?_; intro nb)
        | (refine goM ?_; intro nm)
        | (refine go2 ?_ ?_ <;> intro h <;> (try simp only [Bool.not_true, Bool.not_false, decide_eq_true_eq, decide_eq_false_iff_not, Bool.not_eq_true', Bool.not_eq_false', ne_eq, Decidable.not_not, Int.not_lt, Int.not_le, not_false_eq_true] at h))
        | fail)
      have hu : ur = at' (ta.set ka ur) ka := (at_eq hg).symm
      refine sw_mem (L' := ownSl 3 encInt (at' (ta.set ka ur) ka).v (List.replicate l.folk.toNat (0 : Int)) :: ownSl 28 encSl uo.v (ta.set ka ur) :: rows 3 encInt (ta.take ka) ((owed0 l).take ka) :: cl b1 74 (ledC l v) :: L) (fun w H => by rw [← hu]; exact H) ?_
      refine sw_pure (φ := Hdr (at' (ta.set ka ur) ka).v (List.replicate l.folk.toNat (0 : Int)).length) (fun w H => RdSl.hdr (enc := encInt) (xs := List.replicate l.folk.toNat (0 : Int)) inferInstance w H (fun e => by have := congrArg List.length e; simp at this; omega)) fun hh => ?_
      refine sa_startC [] (L1 := ownSl 28 encSl uo.v (ta.set ka ur) :: rows 3 encInt (ta.take ka) ((owed0 l).take ka) :: cl b1 74 (ledC l v) :: L) (fun w H => H.tail) mixed (by kernel_rfl) ?_
      apply sa_stat 0 rfl (by kernel_rfl) rfl
      · (exact voA)
      apply sa_stat 1 rfl (by kernel_rfl) rfl
      · (exact voA)
      apply sa_stat 2 rfl (by kernel_rfl) rfl
      · (exact voA)
      apply sa_stat 3 rfl (by kernel_rfl) rfl
      · (exact voA)
      apply sa_stat 4 rfl (by kernel_rfl) rfl
      · (exact voA)
      apply sa_stat 5 rfl (by kernel_rfl) rfl
      · (exact voA)
      apply sa_stat 6 rfl (by kernel_rfl) rfl
      · (exact voA)
      apply sa_stat 7 rfl (by kernel_rfl) rfl
      · (exact voA)
      apply sa_stat 8 rfl (by kernel_rfl) rfl
      · (exact voA)
      refine sa_chainL 9 rfl (by kernel_rfl) ?_
      (refine so_call rfl rfl rfl (Owes_ok _ v l ka (l.years - 1) hk (by omega) (by omega)) ?_; rintro _ _ ⟨rfl, rfl⟩)
      repeat' (first
        | (apply so_vo; (· exact voA); (· rfl))
        | refine so_nil ?_
        | refine q_go ?_
        | refine sw_region ?_
        | (refine goQ ?_; intro _ _)
        | refine go1 ?_
        | (refine goU ?_; intro nu)
        | (refine goB ?_; intro nb)
        | (refine goM ?_; intro nm)
        | (refine go2 ?_ ?_ <;> intro h <;> (try simp only [Bool.not_true, Bool.not_false, decide_eq_true_eq, decide_eq_false_iff_not, Bool.not_eq_true', Bool.not_eq_false', ne_eq, Decidable.not_not, Int.not_lt, Int.not_le, not_false_eq_true] at h))
        | fail)
      refine ⟨rfl, rfl, HLess.sat inferInstance, ?_⟩
      apply sa_stat 10 rfl (by kernel_rfl) rfl
      · (exact voA)
      apply sa_stat 11 rfl (by kernel_rfl) rfl
      · (exact voA)
      apply sa_stat 12 rfl (by kernel_rfl) rfl
      · (exact voA)
      apply sa_stat 13 rfl (by kernel_rfl) rfl
      · (exact voA)
      refine sa_chainL 14 rfl (by kernel_rfl) ?_
      repeat' (first
        | (apply so_vo; (· exact voA); (· rfl))
        | refine so_nil ?_
        | refine q_go ?_
        | refine sw_region ?_
        | (refine goQ ?_; intro _ _)
        | refine go1 ?_
        | (refine goU ?_; intro nu)
        | (refine goB ?_; intro nb)
        | (refine goM ?_; intro nm)
        | (refine go2 ?_ ?_ <;> intro h <;> (try simp only [Bool.not_true, Bool.not_false, decide_eq_true_eq, decide_eq_false_iff_not, Bool.not_eq_true', Bool.not_eq_false', ne_eq, Decidable.not_not, Int.not_lt, Int.not_le, not_false_eq_true] at h))
        | fail)
      refine ⟨rfl, rfl, HLess.sat inferInstance, ?_⟩
      refine sa_rest (T' := []) rfl (by kernel_rfl) ?_
      repeat' (first
        | (apply so_vo; (· exact voA); (· rfl))
        | refine so_nil ?_
        | refine q_go ?_
        | refine sw_region ?_
        | (refine goQ ?_; intro _ _)
        | refine go1 ?_
        | (refine goU ?_; intro nu)
        | (refine goB ?_; intro nb)
        | (refine goM ?_; intro nm)
        | (refine go2 ?_ ?_ <;> intro h <;> (try simp only [Bool.not_true, Bool.not_false, decide_eq_true_eq, decide_eq_false_iff_not, Bool.not_eq_true', Bool.not_eq_false', ne_eq, Decidable.not_not, Int.not_lt, Int.not_le, not_false_eq_true] at h))
        | fail)
      (refine ⟨rfl, ta.set ka ur, by simp [hIa], ?_, fun w H => hfin ur w (by rw [hre]; rw [← hu] at H; exact H)⟩; (exact fsA))
    · rw [decide_eq_false (show ¬ (1 ≤ (ka : Int) ∧ (ka : Int) ≤ l.folk - 1) by omega)]
      have hre : owedRow l ka = List.replicate l.folk.toNat 0 := by unfold owedRow; rw [if_neg h0]
      repeat' (first
        | (apply so_vo; (· exact voA); (· rfl))
        | refine so_nil ?_
        | refine q_go ?_
        | refine sw_region ?_
        | (refine goQ ?_; intro _ _)
        | refine go1 ?_
        | (refine goU ?_; intro nu)
        | (refine goB ?_; intro nb)
        | (refine goM ?_; intro nm)
        | (refine go2 ?_ ?_ <;> intro h <;> (try simp only [Bool.not_true, Bool.not_false, decide_eq_true_eq, decide_eq_false_iff_not, Bool.not_eq_true', Bool.not_eq_false', ne_eq, Decidable.not_not, Int.not_lt, Int.not_le, not_false_eq_true] at h))
        | fail)
      refine ⟨rfl, ta.set ka ur, by simp [hIa], ?_, fun w H => ?_⟩
      · (exact fsA)
      · exact hfin ur w (by rw [hre]; exact H)
  · rename_i us
    have e1 : ta.take l.folk.toNat = ta := List.take_of_length_le (by omega)
    have e2 : (owed0 l).take l.folk.toNat = owed0 l := List.take_of_length_le (by rw [owed0_len]; omega)
    rw [e1, e2]
    repeat' (first
      | (apply so_vo; (· exact voA); (· rfl))
      | refine so_nil ?_
      | refine q_go ?_
      | refine sw_region ?_
      | (refine goQ ?_; intro _ _)
      | refine go1 ?_
      | (refine goU ?_; intro nu)
      | (refine goB ?_; intro nb)
      | (refine goM ?_; intro nm)
      | (refine go2 ?_ ?_ <;> intro h <;> (try simp only [Bool.not_true, Bool.not_false, decide_eq_true_eq, decide_eq_false_iff_not, Bool.not_eq_true', Bool.not_eq_false', ne_eq, Decidable.not_not, Int.not_lt, Int.not_le, not_false_eq_true] at h))
      | fail)
    refine sw_range (τ := Unit) (fun _ _ => [(5, uo.v), (47, v.uq.v)]) (fun k _ => ownSl 28 encSl uo.v ta :: rows 3 encInt ta ((l.proms.take k).foldl owedStep (owed0 l)) :: cl b1 74 (ledC l v) :: L) (fun _ _ => True) () trivial (by rfl) (by rfl) (by omega) (by (exact fsA)) (fun _ h => h) (fun _ _ => by rfl) (by rfl) (fun k t hlt hI _ _ => ?_) (fun t hI => ?_)
    · obtain ⟨p, hp⟩ := get_some hlt
      have hpp := hk.prom p (List.mem_of_getElem? hp)
      have hs := owed_sq hk k (by omega)
      obtain ⟨D, hD⟩ : ∃ D, D = (l.proms.take k).foldl owedStep (owed0 l) := ⟨_, rfl⟩
      have hnext : (l.proms.take (k + 1)).foldl owedStep (owed0 l) = owedStep D p := by rw [take_snoc hp, List.foldl_append, ← hD]; rfl
      rw [← hD] at hs
      simp only [← hD]
      have hsl := hs.len
      have hsr := hs.sq p.1.toNat (by omega)
      have hv : (atx D p.1.toNat)[p.2.1.toNat]? = some (dv D p.1 p.2.1) := getD_get (by omega)
      have hr : 0 ≤ dv D p.1 p.2.1 ∧ dv D p.1 p.2.1 ≤ 54000 + 500 * (k : Int) := hs.rng _ _
      repeat' (first
        | (apply so_vo; (· exact voA); (· rfl))
        | refine so_nil ?_
        | refine q_go ?_
        | refine sw_region ?_
        | (refine goQ ?_; intro _ _)
        | refine go1 ?_
        | (refine goU ?_; intro nu)
        | (refine goB ?_; intro nb)
        | (refine goM ?_; intro nm)
        | (refine go2 ?_ ?_ <;> intro h <;> (try simp only [Bool.not_true, Bool.not_false, decide_eq_true_eq, decide_eq_false_iff_not, Bool.not_eq_true', Bool.not_eq_false', ne_eq, Decidable.not_not, Int.not_lt, Int.not_le, not_false_eq_true] at h))
        | fail)
      refine sa_start [12, 13] mixed (by kernel_rfl) ?_
      apply sa_stat 0 rfl (by kernel_rfl) rfl
      · (exact voA)
      apply sa_stat 1 rfl (by kernel_rfl) rfl
      · (exact voA)
      apply sa_stat 2 rfl (by kernel_rfl) rfl
      · (exact voA)
      apply sa_stat 3 rfl (by kernel_rfl) rfl
      · (exact voA)
      apply sa_stat 4 rfl (by kernel_rfl) rfl
      · (exact voA)
      apply sa_stat 5 rfl (by kernel_rfl) rfl
      · (exact voA)
      apply sa_stat 6 rfl (by kernel_rfl) rfl
      · (exact voA)
      apply sa_stat 7 rfl (by kernel_rfl) rfl
      · (exact voA)
      apply sa_stat 8 rfl (by kernel_rfl) rfl
      · (exact voA)
      apply sa_stat 9 rfl (by kernel_rfl) rfl
      · (exact voA)
      apply sa_stat 10 rfl (by kernel_rfl) rfl
      · (exact voA)
      apply sa_stat 11 rfl (by kernel_rfl) rfl
      · (exact voA)
      refine sa_rest (T' := [_, _]) rfl (by kernel_rfl) ?_
      repeat' (first
        | (apply so_vo; (· exact voA); (· rfl))
        | refine so_nil ?_
        | refine q_go ?_
        | refine sw_region ?_
        | (refine goQ ?_; intro _ _)
        | refine go1 ?_
        | (refine goU ?_; intro nu)
        | (refine goB ?_; intro nb)
        | (refine goM ?_; intro nm)
        | (refine go2 ?_ ?_ <;> intro h <;> (try simp only [Bool.not_true, Bool.not_false, decide_eq_true_eq, decide_eq_false_iff_not, Bool.not_eq_true', Bool.not_eq_false', ne_eq, Decidable.not_not, Int.not_lt, Int.not_le, not_false_eq_true] at h))
        | fail)
      refine ⟨rfl, (), trivial, ?_, fun w H => by rw [hnext, show owedStep D p = D.set p.1.toNat ((atx D p.1.toNat).set p.2.1.toNat (dv D p.1 p.2.1 + p.2.2)) from rfl]; exact (HLess.sat inferInstance) w H⟩
      (exact fsA)
    · rw [List.take_of_length_le (Nat.le_refl _)]
      have e3 : (l.proms.foldl owedStep (owed0 l)) = owedM l := rfl
      rw [e3]
      have hs := owed_sq hk l.proms.length (Nat.le_refl _)
      rw [List.take_length, e3] at hs
      repeat' (first
        | (apply so_vo; (· exact voA); (· rfl))
        | refine so_nil ?_
        | refine q_go ?_
        | refine sw_region ?_
        | (refine goQ ?_; intro _ _)
        | refine go1 ?_
        | (refine goU ?_; intro nu)
        | (refine goB ?_; intro nb)
        | (refine goM ?_; intro nm)
        | (refine go2 ?_ ?_ <;> intro h <;> (try simp only [Bool.not_true, Bool.not_false, decide_eq_true_eq, decide_eq_false_iff_not, Bool.not_eq_true', Bool.not_eq_false', ne_eq, Decidable.not_not, Int.not_lt, Int.not_le, not_false_eq_true] at h))
        | fail)
      apply rq2 rfl rfl rfl
      · exact ⟨uo, ta, rfl, by rw [hs.len]; exact hIa, rfl⟩
      · (first | infer_instance | exact ⟨fun _ H => H⟩)
end Go.Proofs.YtmhfhfhdblccjaaGreat
/-
  The examples of the chapter in plain terms.
-/
namespace Go.Proofs.YtmhfhfhdblccjaaGreat
set_option linter.unusedVariables false
set_option maxRecDepth 100000
def led3 : Led := ⟨4, 3, [0], [], [(1, 0, 40), (1, 1, 15), (2, 0, 20)], [(1, 1, 50), (2, 1, 30)], [(2, 1, 11), (3, 2, 5), (0, 3, 7)]⟩
def d3 : List (List Int) := [[0, 0, 0, 7], [11, 0, 0, 0], [0, 11, 0, 0], [0, 0, 5, 0]]
theorem led3_ok : OkL led3 := ⟨by decide, by decide, by decide, by decide, by decide, by decide, by decide, by decide, by decide, by decide, fun i hi => by have h0 : i = 0 := (by simp [led3] at hi; omega); subst h0; decide⟩
theorem booked3 : bookedM led3 0 = ⟨[44, 6, 0, 0, 0, 0, 0, 0, 0, 0], [(0, 44), (1, 6)], 0⟩ := by rfl
theorem overdue3 : overdueM led3 1 1 = 11 := by decide +kernel
theorem owed3 : owedM led3 = d3 := by decide +kernel
theorem paid3 : paidM led3 0 = (1, 0) := by decide +kernel
theorem check3 : checkD d3 = 0 := by decide +kernel
theorem net3 : netM d3 = [4, 0, -6, 2] := by decide +kernel
theorem cancelE3 : cancelE d3 [0, 3, 2, 1] = 0 := by decide +kernel
theorem cancel3 : cancelM d3 [0, 3, 2, 1] = [[0, 0, 0, 2], [6, 0, 0, 0], [0, 6, 0, 0], [0, 0, 0, 0]] := by decide +kernel
theorem showsE3 : showsE d3 [[0, 2, 3]] = 0 := by decide +kernel
theorem showsN3 : showsN d3 [[0, 2, 3]] = 2 := by decide +kernel
theorem fewest3 {x : List (Int × Int × Int)} (h : settleR d3 x) : x.length = 2 := by
  have ho : openN (netF d3) 4 = 3 := by decide +kernel
  have hok : ∀ p ∈ x, 0 ≤ p.1 ∧ p.1 < (d3.length : Int) ∧ 0 ≤ p.2.1 ∧ p.2.1 < (d3.length : Int) := fun p hp => by have := h.1.ok p hp; exact ⟨this.1, this.2.1, this.2.2.1, this.2.2.2.1⟩
  obtain ⟨P, hP, hl⟩ := settle_part 4 x (netF d3) hok h.1.is
  have h2 := hP.two (allS_lt _ _) (fun k hk => by rw [bit_all] at hk; simp at hk; exact hk.2)
  rw [many_all, ho] at h2
  have h3 := h.2.1 [(2, 0, 4), (2, 3, 2)] (by decide) (by decide +kernel)
  simp only [List.length_cons, List.length_nil] at h3
  omega
end Go.Proofs.YtmhfhfhdblccjaaGreat
/-
  An own logic over the kit's calculus: structs with slices that are stored.
-/
namespace Go.Proofs.YtmhfhfhdblccjaaGreat
open Go Go.RowKit
set_option linter.unusedVariables false
section
variable {P : Program} {ro : Option Nat} {sz : Nat} {fr : Fr} {ds : List Deferred} {L : List SP} {Q : Post} {ops : Array Oper} {l : List Oper} {d : Nat} {ty : TypeId} {pos : String} {aft : Array Edge}
theorem so_store_allA {x y : Operand} {T b : Nat} {z : Value} {size bytes E : Nat} {agg : Bool} {cs cs' : List Value} {L' : List SP} (hx : Fr.ev fr x = some (.pointer (some ⟨b, 0, none⟩))) (hy : Fr.ev fr y = some (.agg cs'.toArray)) [hu : AllOne L cs'] [ht : TyI P T agg z size bytes] (hl1 : Nat.beq cs'.length size = true) [hc : Cl L b E cs] (hl2 : Nat.beq cs.length size = true) [hl : ClSet L b cs' L']
    (k : SO l P ro sz ops fr ds L' Q) : SO (⟨none, .store T x y, ty, pos, aft, none⟩ :: l) P ro sz ops fr ds L Q :=
  so_gen0 (fun c h => by cases h) (fun M => M = L') (fun tm w h1 h2 h3 => by
    have hb := hc.block h3
    have e1 := Nat.eq_of_beq_eq_true hl1
    have e2 := Nat.eq_of_beq_eq_true hl2
    have hst := run_storeVarN (P := P) (T := T) (vs := cs') (by rw [e1]; exact ht.sizeOf w) hb (o := 0) (by simp; omega) (u := .agg cs'.toArray) (by simp [Value.cells]) (hu.out _ h3)
    have hrow : ([] ++ cs' ++ (cs.toArray.toList.drop (0 + cs'.length))).toArray = cs'.toArray := by
      rw [List.drop_of_length_le (by simp; omega)]; simp
    simp only [List.take_zero] at hst
    rw [hrow] at hst
    refine ⟨_, L', (by simp [execOp, h2.ev hx, h2.ev hy, Instr.storeAt, Instr.sureAddr, hst]; rfl), rfl, hl.run h3 (fun T' cs1 e => ?_) (fun k hk => ?_), ?_⟩
    · exact setRow_heap w b cs1 _ T' _ e
    · simp [World.setRow, Array.getElem?_modify, Ne.symm hk]
    · exact ⟨rfl, rfl, rfl, by simp [World.setRow]⟩) (fun _ e => by subst e; exact k)
theorem vo_neq_2 {x y : Operand} {T T' : TypeId} {a b c e : Int} (hx : Fr.ev fr x = some (.agg (List.toArray [.int .i64 a, .int .i64 b]))) (hy : Fr.ev fr y = some (.agg (List.toArray [.int .i64 c, .int .i64 e]))) [h : Eq2 P T] : VO P ds ⟨some d, .binOp .neq T x y T', ty, pos, aft, none⟩ fr L (.bool (!decide (a = c ∧ b = e))) :=
  ⟨(fun c h => by cases h), fun tm w h2 h3 => by
    simp only [execOp, h2.ev hx, h2.ev hy, Sem.run_bind, run_eqGuard_agg w .neq T x y _ _ h.guard, Result.andThen_ok, run_neq_struct]
    rw [h.eq]; rfl⟩
end
end Go.Proofs.YtmhfhfhdblccjaaGreat
/-
  The examples of the chapter.
-/
namespace Go.Proofs.YtmhfhfhdblccjaaGreat
open Go Go.RowKit
set_option linter.unusedVariables false
set_option linter.unusedSimpArgs false
set_option maxRecDepth 100000
set_option maxHeartbeats 4000000
/-- a ledger with memory of its own -/
def ledI (v : LedV) (l : Led) : SP := fun h => Holds [ownSl 3 encInt v.ub.v l.bad, ownSl 3 encInt v.uf.v l.forg, ownSl 79 enc3 v.ul.v l.loans, ownSl 80 enc3 v.up.v l.pays, ownSl 44 enc3 v.uq.v l.proms] h
theorem ledI_in {v : LedV} {l : Led} {L : List SP} {h : PH} (H : Holds (ownSl 3 encInt v.ub.v l.bad :: ownSl 3 encInt v.uf.v l.forg :: ownSl 79 enc3 v.ul.v l.loans :: ownSl 80 enc3 v.up.v l.pays :: ownSl 44 enc3 v.uq.v l.proms :: L) h) : Holds (ledI v l :: L) h := Holds.group (M := [_, _, _, _, _]) H
theorem ledI_out {v : LedV} {l : Led} {L : List SP} {h : PH} (H : Holds (ledI v l :: L) h) : Holds (ownSl 3 encInt v.ub.v l.bad :: ownSl 3 encInt v.uf.v l.forg :: ownSl 79 enc3 v.ul.v l.loans :: ownSl 80 enc3 v.up.v l.pays :: ownSl 44 enc3 v.uq.v l.proms :: L) h := Holds.ungroup (M := [_, _, _, _, _]) H
instance (priority := high) RdL.here (v : LedV) (l : Led) (L : List SP) : RdL (ledI v l :: L) v l := ⟨fun h H => by
  have H1 := ledI_out H
  exact ⟨(RdSl.own _ _ _ _ _ _).out h H1, (RdSl.own _ _ _ _ _ _).out h H1.tail, (RdSl.own _ _ _ _ _ _).out h H1.tail.tail, (RdSl.own _ _ _ _ _ _).out h H1.tail.tail.tail, (RdSl.own _ _ _ _ _ _).out h H1.tail.tail.tail.tail⟩⟩
theorem ret1c {P : Program} {fn : Func} {a T b : Nat} {z : Value} {size bytes E : Nat} {cs : List Value} (hr : fn.results = #[.cell a T]) {fr : Fr} {L : List SP} (ha : Fr.get fr a = some (.pointer (some ⟨b, 0, none⟩))) [ht : TyI P T true z size bytes] [hc : Cl L b E cs] (hl : Nat.beq cs.length size = true) : ResV P fn fr L (.agg cs.toArray) := fun tm w h H => by
  have hb := hc.block H
  have := run_loadVarN (P := P) (ht.agg w) (ht.sizeOf w) (b := b) (off := 0) (cs := cs) (Nat.eq_of_beq_eq_true hl) (fun j u e => by rw [cell_of_block hb]; simpa using e)
  simp [results, hr, Array.getD_eq_getD_getElem?, h a _ ha, asAddr, this]
theorem rq1c {P : Program} {fn : Func} {R : Value → List SP → Prop} {fr : Fr} {L L2 : List SP} {a T b : Nat} {z : Value} {size bytes E : Nat} {cs : List Value} (hr : fn.results = #[.cell a T]) (ha : Fr.get fr a = some (.pointer (some ⟨b, 0, none⟩))) [ht : TyI P T true z size bytes] [hc : Cl L b E cs] (hl1 : Nat.beq cs.length size = true) (h : R (.agg cs.toArray) L2) (hl : Less L L2) : retQ P fn R fr [] L := ⟨_, L, L2, .nil L, ret1c hr ha hl1, hl.out, h⟩
theorem rows_rev {T : TypeId} {α : Type} {enc : Enc α} {us : List SlV} {xss : List (List α)} {L : List SP} {h : PH} (e : us.length = xss.length) (H : Holds ((List.zipWith (fun (u : SlV) xs => ownSl T enc u.v xs) us xss).reverse ++ L) h) : Holds (rows T enc us xss :: L) h :=
  rows_in e (Holds.perm ((List.reverse_perm _).append_right L) _ H)
attribute [local irreducible] SW SO FnC retQ SA VO
theorem open_ok (L : List SP) (u : SlV) (xs : List Int) [r : RdSl L u.v Int encInt xs] : FnC Tryz.prog 15 [u.v] L (fun v M => v = .int .i64 (openN (fun k => xs.getD k 0) xs.length) ∧ M = L) := by
  refine FnC.pure r.len fun hlen => ?_
  refine fn_start (sz := 18) Tryz.func15 rfl rfl rfl ?_
  repeat' (first
    | (apply so_vo; (· exact voA); (· rfl))
    | refine so_nil ?_
    | refine q_go ?_
    | refine sw_region ?_
    | (refine goQ ?_; intro _ _)
    | refine go1 ?_
    | (refine goU ?_; intro nu)
    | (refine goB ?_; intro nb)
    | (refine goM ?_; intro nm)
    | (refine go2 ?_ ?_ <;> intro h <;> (try simp only [Bool.not_true, Bool.not_false, decide_eq_true_eq, decide_eq_false_iff_not, Bool.not_eq_true', Bool.not_eq_false', ne_eq, Decidable.not_not, Int.not_lt, Int.not_le, not_false_eq_true] at h))
    | fail)
  refine sw_range (τ := Unit) (fun k _ => [(6, u.v), (3, .int .i64 (openN (fun k => xs.getD k 0) k))]) (fun _ _ => L) (fun _ _ => True) () trivial (by rfl) (by rfl) (by omega) (by (exact fsA)) (fun _ h => h) (fun _ _ => by rfl) (by rfl) (fun k t hlt hI _ _ => ?_) (fun t hI => ?_)
  · obtain ⟨x, hx⟩ := get_some hlt
    have h1 := openN_le (fun k => xs.getD k 0) k
    by_cases h0 : x = 0
    · have h2 : openN (fun k => xs.getD k 0) (k + 1) = openN (fun k => xs.getD k 0) k := by rw [openN, if_neg (by rw [getD_of hx]; exact fun g => g h0)]; rfl
      repeat' (first
        | (apply so_vo; (· exact voA); (· rfl))
        | refine so_nil ?_
        | refine q_go ?_
        | refine sw_region ?_
        | (refine goQ ?_; intro _ _)
        | refine go1 ?_
        | (refine goU ?_; intro nu)
        | (refine goB ?_; intro nb)
        | (refine goM ?_; intro nm)
        | (refine go2 ?_ ?_ <;> intro h <;> (try simp only [Bool.not_true, Bool.not_false, decide_eq_true_eq, decide_eq_false_iff_not, Bool.not_eq_true', Bool.not_eq_false', ne_eq, Decidable.not_not, Int.not_lt, Int.not_le, not_false_eq_true] at h))
        | fail)
      rw [← h2]
      refine ⟨rfl, (), trivial, ?_, ?_⟩
      · (exact fsA)
      · (first | exact fun _ h => h | exact HLess.sat inferInstance)
    · have h2 : openN (fun k => xs.getD k 0) (k + 1) = openN (fun k => xs.getD k 0) k + 1 := by rw [openN, if_pos (by rw [getD_of hx]; exact h0)]
      repeat' (first
        | (apply so_vo; (· exact voA); (· rfl))
        | refine so_nil ?_
        | refine q_go ?_
        | refine sw_region ?_
        | (refine goQ ?_; intro _ _)
        | refine go1 ?_
        | (refine goU ?_; intro nu)
        | (refine goB ?_; intro nb)
        | (refine goM ?_; intro nm)
        | (refine go2 ?_ ?_ <;> intro h <;> (try simp only [Bool.not_true, Bool.not_false, decide_eq_true_eq, decide_eq_false_iff_not, Bool.not_eq_true', Bool.not_eq_false', ne_eq, Decidable.not_not, Int.not_lt, Int.not_le, not_false_eq_true] at h))
        | fail)
      refine ⟨rfl, (), trivial, ?_, ?_⟩
      · (exact fsA)
      · (first | exact fun _ h => h | exact HLess.sat inferInstance)
  · repeat' (first
      | (apply so_vo; (· exact voA); (· rfl))
      | refine so_nil ?_
      | refine q_go ?_
      | refine sw_region ?_
      | (refine goQ ?_; intro _ _)
      | refine go1 ?_
      | (refine goU ?_; intro nu)
      | (refine goB ?_; intro nb)
      | (refine goM ?_; intro nm)
      | (refine go2 ?_ ?_ <;> intro h <;> (try simp only [Bool.not_true, Bool.not_false, decide_eq_true_eq, decide_eq_false_iff_not, Bool.not_eq_true', Bool.not_eq_false', ne_eq, Decidable.not_not, Int.not_lt, Int.not_le, not_false_eq_true] at h))
      | fail)
    apply rq1 rfl rfl
    · exact ⟨rfl, rfl⟩
    · (first | infer_instance | exact ⟨fun _ H => H⟩)
theorem Three_ok (L : List SP) : FnC Tryz.prog 65 [] L (fun r M => ∃ v : LedV, r = .agg (ledC led3 v).toArray ∧ M = ledI v led3 :: L) := by
  refine fn_start (sz := 14) Tryz.func65 rfl rfl rfl ?_
  repeat' (first
    | (apply so_vo; (· exact voA); (· rfl))
    | refine so_nil ?_
    | refine q_go ?_
    | refine sw_region ?_
    | (refine goQ ?_; intro _ _)
    | refine go1 ?_
    | (refine go2 ?_ ?_ <;> intro h <;> (try simp only [Bool.not_true, Bool.not_false, decide_eq_true_eq, decide_eq_false_iff_not, Bool.not_eq_true', Bool.not_eq_false', ne_eq, Decidable.not_not, Int.not_lt, Int.not_le, not_false_eq_true] at h))
    | fail)
  first
    | (refine goU ?_; intro b0)
    | (refine goB ?_; intro b0)
    | (refine goM ?_; intro b0)
  repeat' (first
    | (apply so_vo; (· exact voA); (· rfl))
    | refine so_nil ?_
    | refine q_go ?_
    | refine sw_region ?_
    | (refine goQ ?_; intro _ _)
    | refine go1 ?_
    | (refine go2 ?_ ?_ <;> intro h <;> (try simp only [Bool.not_true, Bool.not_false, decide_eq_true_eq, decide_eq_false_iff_not, Bool.not_eq_true', Bool.not_eq_false', ne_eq, Decidable.not_not, Int.not_lt, Int.not_le, not_false_eq_true] at h))
    | fail)
  first
    | (refine goU ?_; intro u1)
    | (refine goB ?_; intro u1)
    | (refine goM ?_; intro u1)
  repeat' (first
    | (apply so_vo; (· exact voA); (· rfl))
    | refine so_nil ?_
    | refine q_go ?_
    | refine sw_region ?_
    | (refine goQ ?_; intro _ _)
    | refine go1 ?_
    | (refine go2 ?_ ?_ <;> intro h <;> (try simp only [Bool.not_true, Bool.not_false, decide_eq_true_eq, decide_eq_false_iff_not, Bool.not_eq_true', Bool.not_eq_false', ne_eq, Decidable.not_not, Int.not_lt, Int.not_le, not_false_eq_true] at h))
    | fail)
  first
    | (refine goU ?_; intro u2)
    | (refine goB ?_; intro u2)
    | (refine goM ?_; intro u2)
  repeat' (first
    | (apply so_vo; (· exact voA); (· rfl))
    | refine so_nil ?_
    | refine q_go ?_
    | refine sw_region ?_
    | (refine goQ ?_; intro _ _)
    | refine go1 ?_
    | (refine go2 ?_ ?_ <;> intro h <;> (try simp only [Bool.not_true, Bool.not_false, decide_eq_true_eq, decide_eq_false_iff_not, Bool.not_eq_true', Bool.not_eq_false', ne_eq, Decidable.not_not, Int.not_lt, Int.not_le, not_false_eq_true] at h))
    | fail)
  first
    | (refine goU ?_; intro u3)
    | (refine goB ?_; intro u3)
    | (refine goM ?_; intro u3)
  repeat' (first
    | (apply so_vo; (· exact voA); (· rfl))
    | refine so_nil ?_
    | refine q_go ?_
    | refine sw_region ?_
    | (refine goQ ?_; intro _ _)
    | refine go1 ?_
    | (refine go2 ?_ ?_ <;> intro h <;> (try simp only [Bool.not_true, Bool.not_false, decide_eq_true_eq, decide_eq_false_iff_not, Bool.not_eq_true', Bool.not_eq_false', ne_eq, Decidable.not_not, Int.not_lt, Int.not_le, not_false_eq_true] at h))
    | fail)
  first
    | (refine goU ?_; intro u4)
    | (refine goB ?_; intro u4)
    | (refine goM ?_; intro u4)
  repeat' (first
    | (apply so_vo; (· exact voA); (· rfl))
    | refine so_nil ?_
    | refine q_go ?_
    | refine sw_region ?_
    | (refine goQ ?_; intro _ _)
    | refine go1 ?_
    | (refine go2 ?_ ?_ <;> intro h <;> (try simp only [Bool.not_true, Bool.not_false, decide_eq_true_eq, decide_eq_false_iff_not, Bool.not_eq_true', Bool.not_eq_false', ne_eq, Decidable.not_not, Int.not_lt, Int.not_le, not_false_eq_true] at h))
    | fail)
  apply rq1c rfl rfl rfl
  · exact ⟨⟨u1, nilS, u2, u3, u4⟩, rfl, rfl⟩
  · exact ⟨fun w H => by
      have H1 : Sat ([ownSl 44 enc3 u4.v led3.proms, ownSl 80 enc3 u3.v led3.pays, ownSl 79 enc3 u2.v led3.loans, ownSl 3 encInt u1.v led3.bad] ++ L) w := (HLess.sat (L := ownSl 44 enc3 u4.v [(2, 1, 11), (3, 2, 5), (0, 3, 7)] :: ownSl 80 enc3 u3.v [(1, 1, 50), (2, 1, 30)] :: ownSl 79 enc3 u2.v [(1, 0, 40), (1, 1, 15), (2, 0, 20)] :: ownSl 3 encInt u1.v [0] :: _ :: L) (L' := ownSl 44 enc3 u4.v [(2, 1, 11), (3, 2, 5), (0, 3, 7)] :: ownSl 80 enc3 u3.v [(1, 1, 50), (2, 1, 30)] :: ownSl 79 enc3 u2.v [(1, 0, 40), (1, 1, 15), (2, 0, 20)] :: ownSl 3 encInt u1.v [0] :: L) inferInstance) w H
      have H2 := Holds.perm ((List.reverse_perm _).symm.append_right L) _ H1
      exact ledI_in (v := ⟨u1, nilS, u2, u3, u4⟩) (l := led3) (Holds.swap (own_nil none H2))⟩
theorem EqualPart_ok (L : List SP) (u1 u2 : SlV) (xs ys : List (Int × Int)) [r : RdSl L u1.v (Int × Int) enc2 xs] [r2 : RdSl L u2.v (Int × Int) enc2 ys] : FnC Tryz.prog 105 [u1.v, u2.v] L (fun v M => v = .bool (decide (xs = ys)) ∧ M = L) := by
  refine FnC.pure r.len fun hlen => FnC.pure r2.len fun hlen2 => ?_
  refine fn_start (sz := 26) Tryz.func105 rfl rfl rfl ?_
  repeat' (first
    | (apply so_vo; (· exact voA); (· rfl))
    | refine so_nil ?_
    | refine q_go ?_
    | refine sw_region ?_
    | (refine goQ ?_; intro _ _)
    | refine go1 ?_
    | (refine goU ?_; intro nu)
    | (refine goB ?_; intro nb)
    | (refine goM ?_; intro nm)
    | (refine go2 ?_ ?_ <;> intro h <;> (try simp only [Bool.not_true, Bool.not_false, decide_eq_true_eq, decide_eq_false_iff_not, Bool.not_eq_true', Bool.not_eq_false', ne_eq, Decidable.not_not, Int.not_lt, Int.not_le, not_false_eq_true] at h))
    | fail)
  · apply rq1 rfl rfl
    · exact ⟨by rw [decide_eq_false]; intro e; subst e; exact h rfl, rfl⟩
    · (first | infer_instance | exact ⟨fun _ H => H⟩)
  · refine sw_range (τ := Unit) (fun k _ => [(0, u1.v), (1, u2.v)]) (fun _ _ => L) (fun k _ => xs.take k = ys.take k) () rfl (by rfl) (by rfl) (by omega) (by (exact fsA)) (fun _ h => h) (fun _ _ => by rfl) (by rfl) (fun k t hlt hI _ _ => ?_) (fun t hI => ?_)
    · obtain ⟨x, hx⟩ := get_some hlt
      obtain ⟨y, hy⟩ := get_some (xs := ys) (k := k) (by omega)
      have h3 := take_eq_snoc hx hy
      repeat' (first
        | (apply so_vo; (· exact voA); (· rfl))
        | refine so_nil ?_
        | refine q_go ?_
        | refine sw_region ?_
        | (refine goQ ?_; intro _ _)
        | refine go1 ?_
        | (refine goU ?_; intro nu)
        | (refine goB ?_; intro nb)
        | (refine goM ?_; intro nm)
        | (refine go2 ?_ ?_ <;> intro h <;> (try simp only [Bool.not_true, Bool.not_false, decide_eq_true_eq, decide_eq_false_iff_not, Bool.not_eq_true', Bool.not_eq_false', ne_eq, Decidable.not_not, Int.not_lt, Int.not_le, not_false_eq_true] at h))
        | fail)
      refine sa_start [] mixed (by kernel_rfl) ?_
      apply sa_stat 0 rfl (by kernel_rfl) rfl
      · (exact voA)
      apply sa_stat 1 rfl (by kernel_rfl) rfl
      · (exact voA)
      apply sa_stat 2 rfl (by kernel_rfl) rfl
      · (exact voA)
      apply sa_stat 3 rfl (by kernel_rfl) rfl
      · (exact voA)
      apply sa_stat 4 rfl (by kernel_rfl) rfl
      · (exact voA)
      apply sa_stat 5 rfl (by kernel_rfl) rfl
      · (exact voA)
      apply sa_stat 6 rfl (by kernel_rfl) rfl
      · (exact voA)
      apply sa_stat 7 rfl (by kernel_rfl) rfl
      · (exact voA)
      apply sa_stat 8 rfl (by kernel_rfl) rfl
      · (exact voA)
      refine sa_rest (T' := []) rfl (by kernel_rfl) ?_
      by_cases e : x = y
      · have hd0 : (!decide (x.1 = y.1 ∧ x.2 = y.2)) = false := by rw [decide_eq_true ⟨by rw [e], by rw [e]⟩]; rfl
        repeat' (first
          | (apply so_vo; (· exact voA); (· rfl))
          | refine so_nil ?_
          | refine q_go ?_
          | refine sw_region ?_
          | (refine goQ ?_; intro _ _)
          | refine go1 ?_
          | (refine goU ?_; intro nu)
          | (refine goB ?_; intro nb)
          | (refine goM ?_; intro nm)
          | (refine go2 ?_ ?_ <;> intro h <;> (try simp only [Bool.not_true, Bool.not_false, decide_eq_true_eq, decide_eq_false_iff_not, Bool.not_eq_true', Bool.not_eq_false', ne_eq, Decidable.not_not, Int.not_lt, Int.not_le, not_false_eq_true] at h))
          | fail)
        refine ⟨rfl, (), h3.2 ⟨hI, e⟩, ?_, ?_⟩
        · (exact fsA)
        · (first | exact fun _ h => h | exact HLess.sat inferInstance)
      · have hd0 : (!decide (x.1 = y.1 ∧ x.2 = y.2)) = true := by rw [decide_eq_false fun g => e (Prod.ext g.1 g.2)]; rfl
        repeat' (first
          | (apply so_vo; (· exact voA); (· rfl))
          | refine so_nil ?_
          | refine q_go ?_
          | refine sw_region ?_
          | (refine goQ ?_; intro _ _)
          | refine go1 ?_
          | (refine goU ?_; intro nu)
          | (refine goB ?_; intro nb)
          | (refine goM ?_; intro nm)
          | (refine go2 ?_ ?_ <;> intro h <;> (try simp only [Bool.not_true, Bool.not_false, decide_eq_true_eq, decide_eq_false_iff_not, Bool.not_eq_true', Bool.not_eq_false', ne_eq, Decidable.not_not, Int.not_lt, Int.not_le, not_false_eq_true] at h))
          | fail)
        apply rq1 rfl rfl
        · exact ⟨by rw [decide_eq_false]; exact take_ne (k := k + 1) (fun g => e (h3.1 g).2), rfl⟩
        · (first | infer_instance | exact ⟨fun _ H => H⟩)
    · repeat' (first
        | (apply so_vo; (· exact voA); (· rfl))
        | refine so_nil ?_
        | refine q_go ?_
        | refine sw_region ?_
        | (refine goQ ?_; intro _ _)
        | refine go1 ?_
        | (refine goU ?_; intro nu)
        | (refine goB ?_; intro nb)
        | (refine goM ?_; intro nm)
        | (refine go2 ?_ ?_ <;> intro h <;> (try simp only [Bool.not_true, Bool.not_false, decide_eq_true_eq, decide_eq_false_iff_not, Bool.not_eq_true', Bool.not_eq_false', ne_eq, Decidable.not_not, Int.not_lt, Int.not_le, not_false_eq_true] at h))
        | fail)
      apply rq1 rfl rfl
      · exact ⟨by rw [decide_eq_true]; rw [List.take_of_length_le (Nat.le_refl _), List.take_of_length_le (by omega)] at hI; exact hI, rfl⟩
      · (first | infer_instance | exact ⟨fun _ H => H⟩)
theorem EqPart_ok (L : List SP) (u1 u2 : SlV) (xs ys : List (Int × Int)) [r : RdSl L u1.v (Int × Int) enc2 xs] [r2 : RdSl L u2.v (Int × Int) enc2 ys] : FnC Tryz.prog 68 [u1.v, u2.v] L (fun v M => v = .bool (decide (xs = ys)) ∧ M = L) := by
  refine fn_start (sz := 8) Tryz.func68 rfl rfl rfl ?_
  repeat' (first
    | (apply so_vo; (· exact voA); (· rfl))
    | refine so_nil ?_
    | refine q_go ?_
    | refine sw_region ?_
    | (refine goQ ?_; intro _ _)
    | refine go1 ?_
    | (refine goU ?_; intro nu)
    | (refine goB ?_; intro nb)
    | (refine goM ?_; intro nm)
    | (refine go2 ?_ ?_ <;> intro h <;> (try simp only [Bool.not_true, Bool.not_false, decide_eq_true_eq, decide_eq_false_iff_not, Bool.not_eq_true', Bool.not_eq_false', ne_eq, Decidable.not_not, Int.not_lt, Int.not_le, not_false_eq_true] at h))
    | fail)
  refine so_call rfl rfl rfl (EqualPart_ok L u1 u2 xs ys) ?_
  rintro _ _ ⟨rfl, rfl⟩
  repeat' (first
    | (apply so_vo; (· exact voA); (· rfl))
    | refine so_nil ?_
    | refine q_go ?_
    | refine sw_region ?_
    | (refine goQ ?_; intro _ _)
    | refine go1 ?_
    | (refine goU ?_; intro nu)
    | (refine goB ?_; intro nb)
    | (refine goM ?_; intro nm)
    | (refine go2 ?_ ?_ <;> intro h <;> (try simp only [Bool.not_true, Bool.not_false, decide_eq_true_eq, decide_eq_false_iff_not, Bool.not_eq_true', Bool.not_eq_false', ne_eq, Decidable.not_not, Int.not_lt, Int.not_le, not_false_eq_true] at h))
    | fail)
  apply rq1 rfl rfl
  · exact ⟨rfl, rfl⟩
  · (first | infer_instance | exact ⟨fun _ H => H⟩)
theorem awake_ok (L : List SP) : FnC Tryz.prog 25 [] L (fun r M => r = .bool true ∧ M = L) := by
  refine fn_start (sz := 142) Tryz.func25 rfl rfl rfl ?_
  repeat' (first
    | (apply so_vo; (· exact voA); (· rfl))
    | refine so_nil ?_
    | refine q_go ?_
    | refine sw_region ?_
    | (refine goQ ?_; intro _ _)
    | refine go1 ?_
    | (refine goU ?_; intro nu)
    | (refine goB ?_; intro nb)
    | (refine goM ?_; intro nm)
    | (refine go2 ?_ ?_ <;> intro h <;> (try simp only [Bool.not_true, Bool.not_false, decide_eq_true_eq, decide_eq_false_iff_not, Bool.not_eq_true', Bool.not_eq_false', ne_eq, Decidable.not_not, Int.not_lt, Int.not_le, not_false_eq_true] at h))
    | fail)
  refine so_call rfl rfl rfl (Three_ok _) ?_
  rintro _ _ ⟨v1, rfl, rfl⟩
  repeat' (first
    | (apply so_vo; (· exact voA); (· rfl))
    | refine so_nil ?_
    | refine q_go ?_
    | refine sw_region ?_
    | (refine goQ ?_; intro _ _)
    | refine go1 ?_
    | (refine goU ?_; intro nu)
    | (refine goB ?_; intro nb)
    | (refine goM ?_; intro nm)
    | (refine go2 ?_ ?_ <;> intro h <;> (try simp only [Bool.not_true, Bool.not_false, decide_eq_true_eq, decide_eq_false_iff_not, Bool.not_eq_true', Bool.not_eq_false', ne_eq, Decidable.not_not, Int.not_lt, Int.not_le, not_false_eq_true] at h))
    | fail)
  refine so_call rfl rfl rfl (Booked_ok _ v1 led3 led3_ok 0 (by decide)) ?_
  rintro _ _ ⟨up, rfl, rfl⟩
  simp only [booked3]
  repeat' (first
    | (apply so_vo; (· exact voA); (· rfl))
    | refine so_nil ?_
    | refine q_go ?_
    | refine sw_region ?_
    | (refine goQ ?_; intro _ _)
    | refine go1 ?_
    | (refine goU ?_; intro nu)
    | (refine goB ?_; intro nb)
    | (refine goM ?_; intro nm)
    | (refine go2 ?_ ?_ <;> intro h <;> (try simp only [Bool.not_true, Bool.not_false, decide_eq_true_eq, decide_eq_false_iff_not, Bool.not_eq_true', Bool.not_eq_false', ne_eq, Decidable.not_not, Int.not_lt, Int.not_le, not_false_eq_true] at h))
    | fail)
  refine so_call rfl rfl rfl (Three_ok _) ?_
  rintro _ _ ⟨v2, rfl, rfl⟩
  repeat' (first
    | (apply so_vo; (· exact voA); (· rfl))
    | refine so_nil ?_
    | refine q_go ?_
    | refine sw_region ?_
    | (refine goQ ?_; intro _ _)
    | refine go1 ?_
    | (refine goU ?_; intro nu)
    | (refine goB ?_; intro nb)
    | (refine goM ?_; intro nm)
    | (refine go2 ?_ ?_ <;> intro h <;> (try simp only [Bool.not_true, Bool.not_false, decide_eq_true_eq, decide_eq_false_iff_not, Bool.not_eq_true', Bool.not_eq_false', ne_eq, Decidable.not_not, Int.not_lt, Int.not_le, not_false_eq_true] at h))
    | fail)
  refine so_call rfl rfl rfl (Overdue_ok _ v2 led3 1 1 led3_ok (by decide) (by decide)) ?_
  rintro _ _ ⟨rfl, rfl⟩
  simp only [overdue3]
  repeat' (first
    | (apply so_vo; (· exact voA); (· rfl))
    | refine so_nil ?_
    | refine q_go ?_
    | refine sw_region ?_
    | (refine goQ ?_; intro _ _)
    | refine go1 ?_
    | (refine goU ?_; intro nu)
    | (refine goB ?_; intro nb)
    | (refine goM ?_; intro nm)
    | (refine go2 ?_ ?_ <;> intro h <;> (try simp only [Bool.not_true, Bool.not_false, decide_eq_true_eq, decide_eq_false_iff_not, Bool.not_eq_true', Bool.not_eq_false', ne_eq, Decidable.not_not, Int.not_lt, Int.not_le, not_false_eq_true] at h))
    | fail)
  refine so_call rfl rfl rfl (Three_ok _) ?_
  rintro _ _ ⟨v3, rfl, rfl⟩
  repeat' (first
    | (apply so_vo; (· exact voA); (· rfl))
    | refine so_nil ?_
    | refine q_go ?_
    | refine sw_region ?_
    | (refine goQ ?_; intro _ _)
    | refine go1 ?_
    | (refine goU ?_; intro nu)
    | (refine goB ?_; intro nb)
    | (refine goM ?_; intro nm)
    | (refine go2 ?_ ?_ <;> intro h <;> (try simp only [Bool.not_true, Bool.not_false, decide_eq_true_eq, decide_eq_false_iff_not, Bool.not_eq_true', Bool.not_eq_false', ne_eq, Decidable.not_not, Int.not_lt, Int.not_le, not_false_eq_true] at h))
    | fail)
  refine so_call rfl rfl rfl (Owed_ok _ v3 led3 led3_ok) ?_
  rintro _ _ ⟨ud, usd, rfl, hud, rfl⟩
  simp only [owed3] at hud ⊢
  repeat' (first
    | (apply so_vo; (· exact voA); (· rfl))
    | refine so_nil ?_
    | refine q_go ?_
    | refine sw_region ?_
    | (refine goQ ?_; intro _ _)
    | refine go1 ?_
    | (refine goU ?_; intro nu)
    | (refine goB ?_; intro nb)
    | (refine goM ?_; intro nm)
    | (refine go2 ?_ ?_ <;> intro h <;> (try simp only [Bool.not_true, Bool.not_false, decide_eq_true_eq, decide_eq_false_iff_not, Bool.not_eq_true', Bool.not_eq_false', ne_eq, Decidable.not_not, Int.not_lt, Int.not_le, not_false_eq_true] at h))
    | fail)
  refine so_call rfl rfl rfl (Net_ok _ ud usd d3) ?_
  rintro _ _ ⟨unet, rfl, rfl⟩
  have e0 : okOr d3 (netM d3) = [4, 0, -6, 2] := by unfold okOr; rw [if_pos check3, net3]
  simp only [check3, e0]
  repeat' (first
    | (apply so_vo; (· exact voA); (· rfl))
    | refine so_nil ?_
    | refine q_go ?_
    | refine sw_region ?_
    | (refine goQ ?_; intro _ _)
    | refine go1 ?_
    | (refine go2 ?_ ?_ <;> intro h <;> (try simp only [Bool.not_true, Bool.not_false, decide_eq_true_eq, decide_eq_false_iff_not, Bool.not_eq_true', Bool.not_eq_false', ne_eq, Decidable.not_not, Int.not_lt, Int.not_le, not_false_eq_true] at h))
    | fail)
  first
    | (refine goU ?_; intro uc)
    | (refine goB ?_; intro uc)
    | (refine goM ?_; intro uc)
  repeat' (first
    | (apply so_vo; (· exact voA); (· rfl))
    | refine so_nil ?_
    | refine q_go ?_
    | refine sw_region ?_
    | (refine goQ ?_; intro _ _)
    | refine go1 ?_
    | (refine go2 ?_ ?_ <;> intro h <;> (try simp only [Bool.not_true, Bool.not_false, decide_eq_true_eq, decide_eq_false_iff_not, Bool.not_eq_true', Bool.not_eq_false', ne_eq, Decidable.not_not, Int.not_lt, Int.not_le, not_false_eq_true] at h))
    | fail)
  refine so_call rfl rfl rfl (Cancel_ok _ ud uc usd d3 [0, 3, 2, 1] (by decide)) ?_
  rintro _ _ ⟨uca, usca, rfl, huca, rfl⟩
  simp only [cancelE3, if_true, cancel3] at huca ⊢
  repeat' (first
    | (apply so_vo; (· exact voA); (· rfl))
    | refine so_nil ?_
    | refine q_go ?_
    | refine sw_region ?_
    | (refine goQ ?_; intro _ _)
    | refine go1 ?_
    | (refine goU ?_; intro nu)
    | (refine goB ?_; intro nb)
    | (refine goM ?_; intro nm)
    | (refine go2 ?_ ?_ <;> intro h <;> (try simp only [Bool.not_true, Bool.not_false, decide_eq_true_eq, decide_eq_false_iff_not, Bool.not_eq_true', Bool.not_eq_false', ne_eq, Decidable.not_not, Int.not_lt, Int.not_le, not_false_eq_true] at h))
    | fail)
  refine so_call rfl rfl rfl (Fewest_ok _ ud usd d3) ?_
  rintro _ _ ⟨x, rfl, _, hx, rfl⟩
  have hxl := fewest3 (hx check3)
  simp only [check3, hxl]
  repeat' (first
    | (apply so_vo; (· exact voA); (· rfl))
    | refine so_nil ?_
    | refine q_go ?_
    | refine sw_region ?_
    | (refine goQ ?_; intro _ _)
    | refine go1 ?_
    | (refine go2 ?_ ?_ <;> intro h <;> (try simp only [Bool.not_true, Bool.not_false, decide_eq_true_eq, decide_eq_false_iff_not, Bool.not_eq_true', Bool.not_eq_false', ne_eq, Decidable.not_not, Int.not_lt, Int.not_le, not_false_eq_true] at h))
    | fail)
  first
    | (refine goU ?_; intro ug1)
    | (refine goB ?_; intro ug1)
    | (refine goM ?_; intro ug1)
  repeat' (first
    | (apply so_vo; (· exact voA); (· rfl))
    | refine so_nil ?_
    | refine q_go ?_
    | refine sw_region ?_
    | (refine goQ ?_; intro _ _)
    | refine go1 ?_
    | (refine go2 ?_ ?_ <;> intro h <;> (try simp only [Bool.not_true, Bool.not_false, decide_eq_true_eq, decide_eq_false_iff_not, Bool.not_eq_true', Bool.not_eq_false', ne_eq, Decidable.not_not, Int.not_lt, Int.not_le, not_false_eq_true] at h))
    | fail)
  first
    | (refine goU ?_; intro ug)
    | (refine goB ?_; intro ug)
    | (refine goM ?_; intro ug)
  repeat' (first
    | (apply so_vo; (· exact voA); (· rfl))
    | refine so_nil ?_
    | refine q_go ?_
    | refine sw_region ?_
    | (refine goQ ?_; intro _ _)
    | refine go1 ?_
    | (refine go2 ?_ ?_ <;> intro h <;> (try simp only [Bool.not_true, Bool.not_false, decide_eq_true_eq, decide_eq_false_iff_not, Bool.not_eq_true', Bool.not_eq_false', ne_eq, Decidable.not_not, Int.not_lt, Int.not_le, not_false_eq_true] at h))
    | fail)
  refine so_mem (L' := ownSl 28 encSl ug.v [ug1] :: rows 3 encInt [ug1] [[0, 2, 3]] :: _) (fun w H => Holds.cons_mono (fun _ h => rows_rev rfl h) H) ?_
  refine so_call rfl rfl rfl (Shows_ok _ ud ug usd [ug1] d3 [[0, 2, 3]] (by decide) (by decide)) ?_
  rintro _ _ ⟨rfl, rfl⟩
  simp only [showsE3, showsN3]
  repeat' (first
    | (apply so_vo; (· exact voA); (· rfl))
    | refine so_nil ?_
    | refine q_go ?_
    | refine sw_region ?_
    | (refine goQ ?_; intro _ _)
    | refine go1 ?_
    | (refine goU ?_; intro nu)
    | (refine goB ?_; intro nb)
    | (refine goM ?_; intro nm)
    | (refine go2 ?_ ?_ <;> intro h <;> (try simp only [Bool.not_true, Bool.not_false, decide_eq_true_eq, decide_eq_false_iff_not, Bool.not_eq_true', Bool.not_eq_false', ne_eq, Decidable.not_not, Int.not_lt, Int.not_le, not_false_eq_true] at h))
    | fail)
  refine so_call rfl rfl rfl (Three_ok _) ?_
  rintro _ _ ⟨v4, rfl, rfl⟩
  repeat' (first
    | (apply so_vo; (· exact voA); (· rfl))
    | refine so_nil ?_
    | refine q_go ?_
    | refine sw_region ?_
    | (refine goQ ?_; intro _ _)
    | refine go1 ?_
    | (refine goU ?_; intro nu)
    | (refine goB ?_; intro nb)
    | (refine goM ?_; intro nm)
    | (refine go2 ?_ ?_ <;> intro h <;> (try simp only [Bool.not_true, Bool.not_false, decide_eq_true_eq, decide_eq_false_iff_not, Bool.not_eq_true', Bool.not_eq_false', ne_eq, Decidable.not_not, Int.not_lt, Int.not_le, not_false_eq_true] at h))
    | fail)
  refine so_call rfl rfl rfl (Paid_ok _ v4 led3 led3_ok 0 (by decide)) ?_
  rintro _ _ ⟨rfl, rfl⟩
  simp only [paid3]
  repeat' (first
    | (apply so_vo; (· exact voA); (· rfl))
    | refine so_nil ?_
    | refine q_go ?_
    | refine sw_region ?_
    | (refine goQ ?_; intro _ _)
    | refine go1 ?_
    | (refine go2 ?_ ?_ <;> intro h <;> (try simp only [Bool.not_true, Bool.not_false, decide_eq_true_eq, decide_eq_false_iff_not, Bool.not_eq_true', Bool.not_eq_false', ne_eq, Decidable.not_not, Int.not_lt, Int.not_le, not_false_eq_true] at h))
    | fail)
  first
    | (refine goU ?_; intro ua)
    | (refine goB ?_; intro ua)
    | (refine goM ?_; intro ua)
  repeat' (first
    | (apply so_vo; (· exact voA); (· rfl))
    | refine so_nil ?_
    | refine q_go ?_
    | refine sw_region ?_
    | (refine goQ ?_; intro _ _)
    | refine go1 ?_
    | (refine go2 ?_ ?_ <;> intro h <;> (try simp only [Bool.not_true, Bool.not_false, decide_eq_true_eq, decide_eq_false_iff_not, Bool.not_eq_true', Bool.not_eq_false', ne_eq, Decidable.not_not, Int.not_lt, Int.not_le, not_false_eq_true] at h))
    | fail)
  refine so_call rfl rfl rfl (EqPart_ok _ up ua [(0, 44), (1, 6)] [(0, 44), (1, 6)]) ?_
  rintro _ _ ⟨rfl, rfl⟩
  rw [decide_eq_true (rfl : [((0 : Int), (44 : Int)), (1, 6)] = [(0, 44), (1, 6)])]
  repeat' (first
    | (apply so_vo; (· exact voA); (· rfl))
    | refine so_nil ?_
    | refine q_go ?_
    | refine sw_region ?_
    | (refine goQ ?_; intro _ _)
    | refine go1 ?_
    | (refine go2 ?_ ?_ <;> intro h <;> (try simp only [Bool.not_true, Bool.not_false, decide_eq_true_eq, decide_eq_false_iff_not, Bool.not_eq_true', Bool.not_eq_false', ne_eq, Decidable.not_not, Int.not_lt, Int.not_le, not_false_eq_true] at h))
    | fail)
  first
    | (refine goU ?_; intro r1)
    | (refine goB ?_; intro r1)
    | (refine goM ?_; intro r1)
  repeat' (first
    | (apply so_vo; (· exact voA); (· rfl))
    | refine so_nil ?_
    | refine q_go ?_
    | refine sw_region ?_
    | (refine goQ ?_; intro _ _)
    | refine go1 ?_
    | (refine go2 ?_ ?_ <;> intro h <;> (try simp only [Bool.not_true, Bool.not_false, decide_eq_true_eq, decide_eq_false_iff_not, Bool.not_eq_true', Bool.not_eq_false', ne_eq, Decidable.not_not, Int.not_lt, Int.not_le, not_false_eq_true] at h))
    | fail)
  first
    | (refine goU ?_; intro r2)
    | (refine goB ?_; intro r2)
    | (refine goM ?_; intro r2)
  repeat' (first
    | (apply so_vo; (· exact voA); (· rfl))
    | refine so_nil ?_
    | refine q_go ?_
    | refine sw_region ?_
    | (refine goQ ?_; intro _ _)
    | refine go1 ?_
    | (refine go2 ?_ ?_ <;> intro h <;> (try simp only [Bool.not_true, Bool.not_false, decide_eq_true_eq, decide_eq_false_iff_not, Bool.not_eq_true', Bool.not_eq_false', ne_eq, Decidable.not_not, Int.not_lt, Int.not_le, not_false_eq_true] at h))
    | fail)
  first
    | (refine goU ?_; intro r3)
    | (refine goB ?_; intro r3)
    | (refine goM ?_; intro r3)
  repeat' (first
    | (apply so_vo; (· exact voA); (· rfl))
    | refine so_nil ?_
    | refine q_go ?_
    | refine sw_region ?_
    | (refine goQ ?_; intro _ _)
    | refine go1 ?_
    | (refine go2 ?_ ?_ <;> intro h <;> (try simp only [Bool.not_true, Bool.not_false, decide_eq_true_eq, decide_eq_false_iff_not, Bool.not_eq_true', Bool.not_eq_false', ne_eq, Decidable.not_not, Int.not_lt, Int.not_le, not_false_eq_true] at h))
    | fail)
  first
    | (refine goU ?_; intro r4)
    | (refine goB ?_; intro r4)
    | (refine goM ?_; intro r4)
  repeat' (first
    | (apply so_vo; (· exact voA); (· rfl))
    | refine so_nil ?_
    | refine q_go ?_
    | refine sw_region ?_
    | (refine goQ ?_; intro _ _)
    | refine go1 ?_
    | (refine go2 ?_ ?_ <;> intro h <;> (try simp only [Bool.not_true, Bool.not_false, decide_eq_true_eq, decide_eq_false_iff_not, Bool.not_eq_true', Bool.not_eq_false', ne_eq, Decidable.not_not, Int.not_lt, Int.not_le, not_false_eq_true] at h))
    | fail)
  first
    | (refine goU ?_; intro ro)
    | (refine goB ?_; intro ro)
    | (refine goM ?_; intro ro)
  repeat' (first
    | (apply so_vo; (· exact voA); (· rfl))
    | refine so_nil ?_
    | refine q_go ?_
    | refine sw_region ?_
    | (refine goQ ?_; intro _ _)
    | refine go1 ?_
    | (refine go2 ?_ ?_ <;> intro h <;> (try simp only [Bool.not_true, Bool.not_false, decide_eq_true_eq, decide_eq_false_iff_not, Bool.not_eq_true', Bool.not_eq_false', ne_eq, Decidable.not_not, Int.not_lt, Int.not_le, not_false_eq_true] at h))
    | fail)
  refine so_mem (L' := ownSl 28 encSl ro.v [r1, r2, r3, r4] :: rows 3 encInt [r1, r2, r3, r4] d3 :: _) (fun w H => Holds.cons_mono (fun _ h => rows_rev rfl h) H) ?_
  refine so_call rfl rfl rfl (EqRows_int _ ud ro usd [r1, r2, r3, r4] d3 d3) ?_
  rintro _ _ ⟨rfl, rfl⟩
  rw [decide_eq_true (rfl : d3 = d3)]
  repeat' (first
    | (apply so_vo; (· exact voA); (· rfl))
    | refine so_nil ?_
    | refine q_go ?_
    | refine sw_region ?_
    | (refine goQ ?_; intro _ _)
    | refine go1 ?_
    | (refine go2 ?_ ?_ <;> intro h <;> (try simp only [Bool.not_true, Bool.not_false, decide_eq_true_eq, decide_eq_false_iff_not, Bool.not_eq_true', Bool.not_eq_false', ne_eq, Decidable.not_not, Int.not_lt, Int.not_le, not_false_eq_true] at h))
    | fail)
  first
    | (refine goU ?_; intro rn)
    | (refine goB ?_; intro rn)
    | (refine goM ?_; intro rn)
  repeat' (first
    | (apply so_vo; (· exact voA); (· rfl))
    | refine so_nil ?_
    | refine q_go ?_
    | refine sw_region ?_
    | (refine goQ ?_; intro _ _)
    | refine go1 ?_
    | (refine go2 ?_ ?_ <;> intro h <;> (try simp only [Bool.not_true, Bool.not_false, decide_eq_true_eq, decide_eq_false_iff_not, Bool.not_eq_true', Bool.not_eq_false', ne_eq, Decidable.not_not, Int.not_lt, Int.not_le, not_false_eq_true] at h))
    | fail)
  refine so_call rfl rfl rfl (Eq_int _ unet rn [4, 0, -6, 2] [4, 0, -6, 2]) ?_
  rintro _ _ ⟨rfl, rfl⟩
  rw [decide_eq_true (rfl : [(4 : Int), 0, -6, 2] = [4, 0, -6, 2])]
  repeat' (first
    | (apply so_vo; (· exact voA); (· rfl))
    | refine so_nil ?_
    | refine q_go ?_
    | refine sw_region ?_
    | (refine goQ ?_; intro _ _)
    | refine go1 ?_
    | (refine go2 ?_ ?_ <;> intro h <;> (try simp only [Bool.not_true, Bool.not_false, decide_eq_true_eq, decide_eq_false_iff_not, Bool.not_eq_true', Bool.not_eq_false', ne_eq, Decidable.not_not, Int.not_lt, Int.not_le, not_false_eq_true] at h))
    | fail)
  first
    | (refine goU ?_; intro q1)
    | (refine goB ?_; intro q1)
    | (refine goM ?_; intro q1)
  repeat' (first
    | (apply so_vo; (· exact voA); (· rfl))
    | refine so_nil ?_
    | refine q_go ?_
    | refine sw_region ?_
    | (refine goQ ?_; intro _ _)
    | refine go1 ?_
    | (refine go2 ?_ ?_ <;> intro h <;> (try simp only [Bool.not_true, Bool.not_false, decide_eq_true_eq, decide_eq_false_iff_not, Bool.not_eq_true', Bool.not_eq_false', ne_eq, Decidable.not_not, Int.not_lt, Int.not_le, not_false_eq_true] at h))
    | fail)
  first
    | (refine goU ?_; intro q2)
    | (refine goB ?_; intro q2)
    | (refine goM ?_; intro q2)
  repeat' (first
    | (apply so_vo; (· exact voA); (· rfl))
    | refine so_nil ?_
    | refine q_go ?_
    | refine sw_region ?_
    | (refine goQ ?_; intro _ _)
    | refine go1 ?_
    | (refine go2 ?_ ?_ <;> intro h <;> (try simp only [Bool.not_true, Bool.not_false, decide_eq_true_eq, decide_eq_false_iff_not, Bool.not_eq_true', Bool.not_eq_false', ne_eq, Decidable.not_not, Int.not_lt, Int.not_le, not_false_eq_true] at h))
    | fail)
  first
    | (refine goU ?_; intro q3)
    | (refine goB ?_; intro q3)
    | (refine goM ?_; intro q3)
  repeat' (first
    | (apply so_vo; (· exact voA); (· rfl))
    | refine so_nil ?_
    | refine q_go ?_
    | refine sw_region ?_
    | (refine goQ ?_; intro _ _)
    | refine go1 ?_
    | (refine go2 ?_ ?_ <;> intro h <;> (try simp only [Bool.not_true, Bool.not_false, decide_eq_true_eq, decide_eq_false_iff_not, Bool.not_eq_true', Bool.not_eq_false', ne_eq, Decidable.not_not, Int.not_lt, Int.not_le, not_false_eq_true] at h))
    | fail)
  first
    | (refine goU ?_; intro q4)
    | (refine goB ?_; intro q4)
    | (refine goM ?_; intro q4)
  repeat' (first
    | (apply so_vo; (· exact voA); (· rfl))
    | refine so_nil ?_
    | refine q_go ?_
    | refine sw_region ?_
    | (refine goQ ?_; intro _ _)
    | refine go1 ?_
    | (refine go2 ?_ ?_ <;> intro h <;> (try simp only [Bool.not_true, Bool.not_false, decide_eq_true_eq, decide_eq_false_iff_not, Bool.not_eq_true', Bool.not_eq_false', ne_eq, Decidable.not_not, Int.not_lt, Int.not_le, not_false_eq_true] at h))
    | fail)
  first
    | (refine goU ?_; intro qo)
    | (refine goB ?_; intro qo)
    | (refine goM ?_; intro qo)
  repeat' (first
    | (apply so_vo; (· exact voA); (· rfl))
    | refine so_nil ?_
    | refine q_go ?_
    | refine sw_region ?_
    | (refine goQ ?_; intro _ _)
    | refine go1 ?_
    | (refine go2 ?_ ?_ <;> intro h <;> (try simp only [Bool.not_true, Bool.not_false, decide_eq_true_eq, decide_eq_false_iff_not, Bool.not_eq_true', Bool.not_eq_false', ne_eq, Decidable.not_not, Int.not_lt, Int.not_le, not_false_eq_true] at h))
    | fail)
  refine so_mem (L' := ownSl 28 encSl qo.v [q1, q2, q3, q4] :: rows 3 encInt [q1, q2, q3, q4] [[0, 0, 0, 2], [6, 0, 0, 0], [0, 6, 0, 0], [0, 0, 0, 0]] :: _) (fun w H => Holds.cons_mono (fun _ h => rows_rev rfl h) H) ?_
  refine so_call rfl rfl rfl (EqRows_int _ uca qo usca [q1, q2, q3, q4] [[0, 0, 0, 2], [6, 0, 0, 0], [0, 6, 0, 0], [0, 0, 0, 0]] [[0, 0, 0, 2], [6, 0, 0, 0], [0, 6, 0, 0], [0, 0, 0, 0]]) ?_
  rintro _ _ ⟨rfl, rfl⟩
  rw [decide_eq_true (rfl : [[(0 : Int), 0, 0, 2], [6, 0, 0, 0], [0, 6, 0, 0], [0, 0, 0, 0]] = [[0, 0, 0, 2], [6, 0, 0, 0], [0, 6, 0, 0], [0, 0, 0, 0]])]
  repeat' (first
    | (apply so_vo; (· exact voA); (· rfl))
    | refine so_nil ?_
    | refine q_go ?_
    | refine sw_region ?_
    | (refine goQ ?_; intro _ _)
    | refine go1 ?_
    | (refine goU ?_; intro nu)
    | (refine goB ?_; intro nb)
    | (refine goM ?_; intro nm)
    | (refine go2 ?_ ?_ <;> intro h <;> (try simp only [Bool.not_true, Bool.not_false, decide_eq_true_eq, decide_eq_false_iff_not, Bool.not_eq_true', Bool.not_eq_false', ne_eq, Decidable.not_not, Int.not_lt, Int.not_le, not_false_eq_true] at h))
    | fail)
  apply rq1 rfl rfl
  · exact ⟨rfl, rfl⟩
  · (first | infer_instance | exact ⟨fun _ H => H⟩)
end Go.Proofs.YtmhfhfhdblccjaaGreat
/-
  Debts that are made of numbers.
-/
namespace Go.Proofs.YtmhfhfhdblccjaaGreat
open Go Go.RowKit
set_option linter.unusedVariables false
set_option linter.unusedSimpArgs false
set_option maxRecDepth 100000
set_option maxHeartbeats 4000000
theorem sack_le {b m n : Nat} {g : Value} (h : m ≤ n) : ∀ k, sack b g m k → sack b g n k := fun k ⟨t, x, h1, h2, h3⟩ => ⟨t, x, h1, by omega, h3⟩
theorem Holds.map0 {A B : SP} {L : List SP} {h : PH} (k : ∀ h, A h → B h) (H : Holds (A :: L) h) : Holds (B :: L) h := by
  obtain ⟨a, b, h1, h2⟩ := H; exact ⟨a, b, k _ h1, h2⟩
theorem rows_empty {T : TypeId} {α : Type} {enc : Enc α} {L : List SP} : ∀ (n : Nat) {h : PH}, Holds L h → Holds (rows T enc (List.replicate n nilS) (List.replicate n []) :: L) h
  | 0, h, H => rows_nil H
  | n + 1, h, H => by
    rw [List.replicate_succ', List.replicate_succ']
    exact rows_push (own_nil none (rows_empty n H))
theorem Holds.map2 {A B X Y : SP} {L : List SP} {h : PH} (k : ∀ h, A h → B h) (H : Holds (X :: Y :: A :: L) h) : Holds (X :: Y :: B :: L) h :=
  Holds.cons_mono (fun _ h => Holds.cons_mono (fun _ h => Holds.map0 k h) h) H
theorem Holds.drop2 {A X Y : SP} {L : List SP} {h : PH} (H : Holds (X :: Y :: A :: L) h) : Holds (X :: Y :: L) h :=
  Holds.cons_mono (fun _ h => Holds.cons_mono (fun _ h => Holds.tail h) h) H
/-- debts while they are made: the first k rows are there -/
structure OwD (n k : Nat) (d : List (List Int)) : Prop where
  len : d.length = n
  row : ∀ a, a < k → (atx d a).length = n
  rng : ∀ a b, 0 ≤ (atx d a).getD b 0 ∧ (atx d a).getD b 0 ≤ 8
  dia : ∀ a, (atx d a).getD a 0 = 0
theorem OwD.start (n : Nat) : OwD n 0 (List.replicate n []) := by
  have h : ∀ a, atx (List.replicate n ([] : List Int)) a = [] := fun a => by unfold atx; rw [List.getElem?_replicate]; split <;> rfl
  exact ⟨by simp, fun a ha => by omega, fun a b => by rw [h]; simp, fun a => by rw [h]; simp⟩
theorem OwD.new {n k : Nat} {d : List (List Int)} (h : OwD n k d) (hk : k < n) : OwD n (k + 1) (d.set k (List.replicate n 0)) := by
  have hr : ∀ b, (List.replicate n (0 : Int)).getD b 0 = 0 := fun b => by simp only [List.getD, List.getElem?_replicate]; split <;> rfl
  refine ⟨by simp [h.len], fun a ha => ?_, fun a b => ?_, fun a => ?_⟩
  · rw [atx_set]; split
    · simp
    · exact h.row a (by rename_i g; have := h.len; omega)
  · rw [atx_set]; split
    · rw [hr]; decide
    · exact h.rng a b
  · rw [atx_set]; split
    · exact hr a
    · exact h.dia a
theorem OwD.put {n k : Nat} {d : List (List Int)} (h : OwD n k d) {a b : Nat} (hab : a ≠ b) {x : Int} (hx : 0 ≤ x ∧ x ≤ 8) : OwD n k (d.set a ((atx d a).set b x)) := by
  refine ⟨by simp [h.len], fun c hc => ?_, fun c e => ?_, fun c => ?_⟩
  · rw [atx_set]; split
    · rename_i g; rw [List.length_set, g.1]; exact h.row c hc
    · exact h.row c hc
  · rw [atx_set]; split
    · rename_i g
      rw [getD_set]; split
      · exact hx
      · rw [g.1]; exact h.rng c e
    · exact h.rng c e
  · rw [atx_set]; split
    · rename_i g
      rw [getD_set, if_neg (fun e => hab (by omega)), g.1]; exact h.dia c
    · exact h.dia c
theorem OwD.check {n : Nat} {d : List (List Int)} (h : OwD n n d) (h1 : 1 ≤ n) (h7 : n ≤ 7) : checkD d = 0 := by
  refine checkD_of ⟨by rw [h.len]; exact h7, fun row hr => ?_, fun row hr x hx => ?_⟩ (by rw [h.len]; exact h1) h.dia
  · obtain ⟨a, ha, e⟩ := List.getElem_of_mem hr
    have := h.row a (by rw [← h.len]; exact ha)
    rw [h.len, ← this, atx_eq (by rw [List.getElem?_eq_getElem ha, e])]
  · obtain ⟨a, ha, e⟩ := List.getElem_of_mem hr
    obtain ⟨b, hb, e2⟩ := List.getElem_of_mem hx
    have := h.rng a b
    rw [atx_eq (by rw [List.getElem?_eq_getElem ha, e]), getD_of (by rw [List.getElem?_eq_getElem hb, e2])] at this
    omega
attribute [local irreducible] SW SO FnC retQ SA VO
theorem Owing8_ok (L : List SP) (b n0 : Nat) (u : SlV) (g : List UInt8) [r : RdSl L u.v UInt8 encU8 g] (hn : n0 ≤ 1000000) : FnC Tryz.prog 7 [.pointer (some ⟨b, 0, none⟩), .int .i64 7] (sack b u.v n0 :: L) (fun v M => ∃ (ud : SlV) (usd : List SlV) (d : List (List Int)), v = ud.v ∧ usd.length = d.length ∧ checkD d = 0 ∧ (∀ a b : Nat, (atx d a).getD b 0 ≤ 8) ∧ M = ownSl 28 encSl ud.v usd :: rows 3 encInt usd d :: sack b u.v (n0 + 1000) :: L) := by
  refine fn_start (sz := 46) Tryz.func7 rfl rfl rfl ?_
  repeat' (first
    | (apply so_vo; (· exact voA); (· rfl))
    | refine so_nil ?_
    | refine q_go ?_
    | refine sw_region ?_
    | (refine goQ ?_; intro _ _)
    | refine go1 ?_
    | (refine goU ?_; intro nu)
    | (refine goB ?_; intro nb)
    | (refine goM ?_; intro nm)
    | (refine go2 ?_ ?_ <;> intro h <;> (try simp only [Bool.not_true, Bool.not_false, decide_eq_true_eq, decide_eq_false_iff_not, Bool.not_eq_true', Bool.not_eq_false', ne_eq, Decidable.not_not, Int.not_lt, Int.not_le, not_false_eq_true] at h))
    | fail)
  refine so_call rfl rfl rfl (Among_ok _ _ b n0 1 7 u g (by omega) (by omega)) ?_
  rintro _ _ ⟨x, h1, h2, rfl, rfl⟩
  obtain ⟨n, rfl⟩ : ∃ n : Nat, x = n := ⟨x.toNat, by omega⟩
  repeat' (first
    | (apply so_vo; (· exact voA); (· rfl))
    | refine so_nil ?_
    | refine q_go ?_
    | refine sw_region ?_
    | (refine goQ ?_; intro _ _)
    | refine go1 ?_
    | (refine go2 ?_ ?_ <;> intro h <;> (try simp only [Bool.not_true, Bool.not_false, decide_eq_true_eq, decide_eq_false_iff_not, Bool.not_eq_true', Bool.not_eq_false', ne_eq, Decidable.not_not, Int.not_lt, Int.not_le, not_false_eq_true] at h))
    | fail)
  first
    | (refine goU ?_; intro ud)
    | (refine goB ?_; intro ud)
    | (refine goM ?_; intro ud)
  repeat' (first
    | (apply so_vo; (· exact voA); (· rfl))
    | refine so_nil ?_
    | refine q_go ?_
    | refine sw_region ?_
    | (refine goQ ?_; intro _ _)
    | refine go1 ?_
    | (refine go2 ?_ ?_ <;> intro h <;> (try simp only [Bool.not_true, Bool.not_false, decide_eq_true_eq, decide_eq_false_iff_not, Bool.not_eq_true', Bool.not_eq_false', ne_eq, Decidable.not_not, Int.not_lt, Int.not_le, not_false_eq_true] at h))
    | fail)
  simp only [Int.toNat_natCast, List.length_replicate]
  refine sw_mem (L' := ownSl 28 encSl ud.v (List.replicate n nilS) :: rows 3 encInt (List.replicate n nilS) (List.replicate n []) :: sack b u.v (n0 + 1) :: L) (fun w H => Holds.cons_mono (fun _ h => rows_empty n h) H) ?_
  refine sw_range (τ := List SlV × List (List Int)) (fun _ _ => [(0, .pointer (some ⟨b, 0, none⟩)), (5, ud.v), (12, ud.v)]) (fun k t => ownSl 28 encSl ud.v t.1 :: rows 3 encInt t.1 t.2 :: sack b u.v (n0 + 1 + 20 * k) :: L) (fun k t => t.1.length = n ∧ OwD n k t.2) (List.replicate n nilS, List.replicate n []) ⟨by simp, OwD.start n⟩ (by rfl) (by rfl) (by omega) (by (exact fsA)) (fun _ h => h) (fun _ _ => by rfl) (by rfl) (fun ka ta hlta hIa _ _ => ?_) (fun ta hIa => ?_)
  · obtain ⟨us, D⟩ := ta
    obtain ⟨i1, i2⟩ := hIa
    simp only at i1 i2 ⊢
    repeat' (first
      | (apply so_vo; (· exact voA); (· rfl))
      | refine so_nil ?_
      | refine q_go ?_
      | refine sw_region ?_
      | (refine goQ ?_; intro _ _)
      | refine go1 ?_
      | (refine go2 ?_ ?_ <;> intro h <;> (try simp only [Bool.not_true, Bool.not_false, decide_eq_true_eq, decide_eq_false_iff_not, Bool.not_eq_true', Bool.not_eq_false', ne_eq, Decidable.not_not, Int.not_lt, Int.not_le, not_false_eq_true] at h))
      | fail)
    first
      | (refine goU ?_; intro ur)
      | (refine goB ?_; intro ur)
      | (refine goM ?_; intro ur)
    repeat' (first
      | (apply so_vo; (· exact voA); (· rfl))
      | refine so_nil ?_
      | refine q_go ?_
      | refine sw_region ?_
      | (refine goQ ?_; intro _ _)
      | refine go1 ?_
      | (refine go2 ?_ ?_ <;> intro h <;> (try simp only [Bool.not_true, Bool.not_false, decide_eq_true_eq, decide_eq_false_iff_not, Bool.not_eq_true', Bool.not_eq_false', ne_eq, Decidable.not_not, Int.not_lt, Int.not_le, not_false_eq_true] at h))
      | fail)
    have hz : OwD n (ka + 1) (D.set ka (List.replicate n 0)) := i2.new (by omega)
    refine sw_mem (L' := ownSl 28 encSl ud.v (us.set ka ur) :: rows 3 encInt (us.set ka ur) (D.set ka (List.replicate n 0)) :: sack b u.v (n0 + 1 + 20 * ka + 2 * 0) :: L) (fun w H => Holds.cons_mono (fun _ h => rows_put (by have := i2.len; omega) h) (Holds.swap (by rw [Int.toNat_natCast, i1] at H; exact H))) ?_
    obtain ⟨us2, hus2⟩ : ∃ us2, us2 = us.set ka ur := ⟨_, rfl⟩
    have hul : us2.length = n := by rw [hus2]; simpa using i1
    rw [← hus2]
    refine sw_range (τ := List (List Int)) (fun _ _ => [(0, .pointer (some ⟨b, 0, none⟩)), (5, ud.v), (6, .int .i64 ka), (12, ud.v), (14, .int .i64 ka), (13, .int .i64 n), (23, ud.v)]) (fun k t => ownSl 28 encSl ud.v us2 :: rows 3 encInt us2 t :: sack b u.v (n0 + 1 + 20 * ka + 2 * k) :: L) (fun k t => OwD n (ka + 1) t) (D.set ka (List.replicate n 0)) hz (by rfl) (by rfl) (by omega) (by (exact fsA)) (fun _ h => h) (fun _ _ => by rfl) (by rfl) (fun kb tb hltb hIb _ _ => ?_) (fun tb hIb => ?_)
    · have hrl := hIb.row ka (by omega)
      have hlen := hIb.len
      repeat' (first
        | (apply so_vo; (· exact voA); (· rfl))
        | refine so_nil ?_
        | refine q_go ?_
        | refine sw_region ?_
        | (refine goQ ?_; intro _ _)
        | refine go1 ?_
        | (refine goU ?_; intro nu)
        | (refine goB ?_; intro nb)
        | (refine goM ?_; intro nm)
        | (refine go2 ?_ ?_ <;> intro h <;> (try simp only [Bool.not_true, Bool.not_false, decide_eq_true_eq, decide_eq_false_iff_not, Bool.not_eq_true', Bool.not_eq_false', ne_eq, Decidable.not_not, Int.not_lt, Int.not_le, not_false_eq_true] at h))
        | fail)
      · refine so_call rfl rfl rfl (Rare_ok _ _ b (n0 + 1 + 20 * ka + 2 * kb) 2 u g (by omega) (by omega)) ?_
        rintro _ _ ⟨x, rfl, rfl⟩
        have hab : ka ≠ kb := by omega
        by_cases hx : x = 0
        · rw [decide_eq_true hx]
          repeat' (first
            | (apply so_vo; (· exact voA); (· rfl))
            | refine so_nil ?_
            | refine q_go ?_
            | refine sw_region ?_
            | (refine goQ ?_; intro _ _)
            | refine go1 ?_
            | (refine goU ?_; intro nu)
            | (refine goB ?_; intro nb)
            | (refine goM ?_; intro nm)
            | (refine go2 ?_ ?_ <;> intro h <;> (try simp only [Bool.not_true, Bool.not_false, decide_eq_true_eq, decide_eq_false_iff_not, Bool.not_eq_true', Bool.not_eq_false', ne_eq, Decidable.not_not, Int.not_lt, Int.not_le, not_false_eq_true] at h))
            | fail)
          refine sa_startC [7, 8] (L1 := ownSl 28 encSl ud.v us2 :: rows 3 encInt us2 tb :: L) (fun w H => Holds.drop2 H) mixed (by kernel_rfl) ?_
          apply sa_stat 0 rfl (by kernel_rfl) rfl
          · (exact voA)
          apply sa_stat 1 rfl (by kernel_rfl) rfl
          · (exact voA)
          apply sa_stat 2 rfl (by kernel_rfl) rfl
          · (exact voA)
          apply sa_stat 3 rfl (by kernel_rfl) rfl
          · (exact voA)
          apply sa_stat 4 rfl (by kernel_rfl) rfl
          · (exact voA)
          apply sa_stat 5 rfl (by kernel_rfl) rfl
          · (exact voA)
          refine sa_chainL 6 rfl (by kernel_rfl) ?_
          (refine so_call rfl rfl rfl (Below_ok _ _ b (n0 + 1 + 20 * ka + 2 * kb + 1) 9 u g (by omega) (by omega)) ?_; rintro _ _ ⟨y, hy1, hy2, rfl, rfl⟩)
          repeat' (first
            | (apply so_vo; (· exact voA); (· rfl))
            | refine so_nil ?_
            | refine q_go ?_
            | refine sw_region ?_
            | (refine goQ ?_; intro _ _)
            | refine go1 ?_
            | (refine goU ?_; intro nu)
            | (refine goB ?_; intro nb)
            | (refine goM ?_; intro nm)
            | (refine go2 ?_ ?_ <;> intro h <;> (try simp only [Bool.not_true, Bool.not_false, decide_eq_true_eq, decide_eq_false_iff_not, Bool.not_eq_true', Bool.not_eq_false', ne_eq, Decidable.not_not, Int.not_lt, Int.not_le, not_false_eq_true] at h))
            | fail)
          refine ⟨rfl, rfl, HLess.sat inferInstance, ?_⟩
          refine sa_rest (T' := [_, _]) rfl (by kernel_rfl) ?_
          repeat' (first
            | (apply so_vo; (· exact voA); (· rfl))
            | refine so_nil ?_
            | refine q_go ?_
            | refine sw_region ?_
            | (refine goQ ?_; intro _ _)
            | refine go1 ?_
            | (refine goU ?_; intro nu)
            | (refine goB ?_; intro nb)
            | (refine goM ?_; intro nm)
            | (refine go2 ?_ ?_ <;> intro h <;> (try simp only [Bool.not_true, Bool.not_false, decide_eq_true_eq, decide_eq_false_iff_not, Bool.not_eq_true', Bool.not_eq_false', ne_eq, Decidable.not_not, Int.not_lt, Int.not_le, not_false_eq_true] at h))
            | fail)
          (refine ⟨rfl, _, hIb.put hab (x := y) ⟨hy1, by omega⟩, ?_, fun w H => Holds.map2 (sack_le (by omega)) H⟩; (exact fsA))
        · rw [decide_eq_false hx]
          repeat' (first
            | (apply so_vo; (· exact voA); (· rfl))
            | refine so_nil ?_
            | refine q_go ?_
            | refine sw_region ?_
            | (refine goQ ?_; intro _ _)
            | refine go1 ?_
            | (refine goU ?_; intro nu)
            | (refine goB ?_; intro nb)
            | (refine goM ?_; intro nm)
            | (refine go2 ?_ ?_ <;> intro h <;> (try simp only [Bool.not_true, Bool.not_false, decide_eq_true_eq, decide_eq_false_iff_not, Bool.not_eq_true', Bool.not_eq_false', ne_eq, Decidable.not_not, Int.not_lt, Int.not_le, not_false_eq_true] at h))
            | fail)
          refine ⟨rfl, _, hIb, ?_, fun w H => Holds.map2 (sack_le (by omega)) H⟩
          (exact fsA)
      · refine ⟨rfl, _, hIb, ?_, fun w H => ?_⟩
        · (exact fsA)
        · exact Holds.map2 (sack_le (by omega)) H
    · repeat' (first
        | (apply so_vo; (· exact voA); (· rfl))
        | refine so_nil ?_
        | refine q_go ?_
        | refine sw_region ?_
        | (refine goQ ?_; intro _ _)
        | refine go1 ?_
        | (refine goU ?_; intro nu)
        | (refine goB ?_; intro nb)
        | (refine goM ?_; intro nm)
        | (refine go2 ?_ ?_ <;> intro h <;> (try simp only [Bool.not_true, Bool.not_false, decide_eq_true_eq, decide_eq_false_iff_not, Bool.not_eq_true', Bool.not_eq_false', ne_eq, Decidable.not_not, Int.not_lt, Int.not_le, not_false_eq_true] at h))
        | fail)
      refine ⟨rfl, (us2, tb), ⟨hul, by have := hIb; exact this⟩, ?_, fun w H => Holds.map2 (sack_le (by omega)) H⟩
      (exact fsA)
  · repeat' (first
      | (apply so_vo; (· exact voA); (· rfl))
      | refine so_nil ?_
      | refine q_go ?_
      | refine sw_region ?_
      | (refine goQ ?_; intro _ _)
      | refine go1 ?_
      | (refine goU ?_; intro nu)
      | (refine goB ?_; intro nb)
      | (refine goM ?_; intro nm)
      | (refine go2 ?_ ?_ <;> intro h <;> (try simp only [Bool.not_true, Bool.not_false, decide_eq_true_eq, decide_eq_false_iff_not, Bool.not_eq_true', Bool.not_eq_false', ne_eq, Decidable.not_not, Int.not_lt, Int.not_le, not_false_eq_true] at h))
      | fail)
    apply rq1 rfl rfl
    · refine ⟨ud, ta.1, ta.2, rfl, ?_, ?_, fun a b => (hIa.2.rng a b).2, rfl⟩
      · rw [hIa.1, hIa.2.len]
      · exact hIa.2.check (by omega) (by omega)
    · exact ⟨fun w H => Holds.map2 (sack_le (by omega)) H⟩
theorem Owing_ok (L : List SP) (b n0 : Nat) (u : SlV) (g : List UInt8) [r : RdSl L u.v UInt8 encU8 g] (hn : n0 ≤ 1000000) : FnC Tryz.prog 7 [.pointer (some ⟨b, 0, none⟩), .int .i64 7] (sack b u.v n0 :: L) (fun v M => ∃ (ud : SlV) (usd : List SlV) (d : List (List Int)), v = ud.v ∧ usd.length = d.length ∧ checkD d = 0 ∧ M = ownSl 28 encSl ud.v usd :: rows 3 encInt usd d :: sack b u.v (n0 + 1000) :: L) :=
  FnC.mono (Owing8_ok L b n0 u g hn) fun _ _ ⟨ud, usd, d, h1, h2, h3, _, h4⟩ => ⟨ud, usd, d, h1, h2, h3, h4⟩
end Go.Proofs.YtmhfhfhdblccjaaGreat
