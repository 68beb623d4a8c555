/-
  The terminal's reference: Send, Response, Failed.
-/
import Derived.Test.YtpacdjkikbdkeaaZ0
import Derived.Test.YtpacdjkikbdkeaaTeU
import Derived.Test.YtpacdjkikbdkeaaTeC
namespace Go.Proofs.Ytpacdjkikbdkeaa
set_option maxRecDepth 100000
set_option linter.unusedSimpArgs false
set_option linter.unusedVariables false
open Go.RowKit
set_option maxHeartbeats 8000000

theorem results_row_tmp_tmp {P : Program} {fn : Func} {p u v : Tmp} {ty : TypeId} (h : fn.results = #[.cell p ty, .tmp u, .tmp v]) (tmps : Array Value) (w : World) (g : Nat) (t : TypeId) (cs : Array Value) (fr : Nat × Nat) (d : TypeDesc)
    (hp : tmps.getD p undef = .pointer (some ⟨g, 0, none⟩)) (hg : w.heap[g]? = some (.cells cs t fr))
    (hu : P.underlying ty = some d) (hd : (match d with | .struct _ | .array _ _ => true | _ => false) = true) (hi : (P.info? ty).map (·.size) = some cs.size) :
    (results fn tmps).run P w = .ok (.tuple #[.agg cs, tmps.getD u undef, tmps.getD v undef]) w := by
  have hL := run_loadVar_row w g t ty cs fr d hg hu hd hi
  have hp' : tmps[p]?.getD undef = .pointer (some ⟨g, 0, none⟩) := by simpa using hp
  simp only [results, h]
  simp [Sem.run_bind, Result.andThen, hp', asAddr, hL]
/-- What the reference's Send leaves. -/
def RTSRes (cs0 : Array Value) (w : World) (t : Te.T) (bs : List UInt8) (er : Int) (e : Ending) (w' : World) : Prop :=
  ∃ cs A c, e = .returned (.tuple #[.agg cs, .slice A bs.length c, .int .i64 er]) ∧ RTAt w' t cs ∧ (∀ F, Far F cs0 → Far (fun q => F q ∨ w.heap.size ≤ q) cs) ∧ Own w' w.heap.size 5 1 A bs.length c (bcells bs) ∧ Below w.heap.size w w'
set_option maxRecDepth 100000 in
theorem ref07_TSend (cs : Array Value) (t : Te.T) (w0 : World) (H : RTAt w0 t cs) (cla ins p1 p2 : Int) (B : Option Addr) (dn dc : Nat) (d : List UInt8) (le : Int) (long : Bool) (hb : Byt w0 w0.heap.size B dn dc d) (hdn : dn ≤ 100000000) :
    Calls Try.prog 32 #[.agg cs, cmdV cla ins p1 p2 B dn dc le long] w0 (RTSRes cs w0 (Te.send t ⟨cla, ins, p1, p2, d, le⟩ long).1 (Te.send t ⟨cla, ins, p1, p2, d, le⟩ long).2 (Te.serr t ⟨cla, ins, p1, p2, d, le⟩ long)) := by
  have hm : Mem (fun _ => False) w0 w0 [] [] := Mem.nil _ w0
  have HB : Hid (∀ u : World, Below w0.heap.size w0 u → Byt u u.heap.size B dn dc d) := by show ∀ u, _; intro u h; exact (hb.below h).more h.size
  have hl := hb.1
  have HT : Hid (∀ u : World, Below w0.heap.size w0 u → RTAt u t cs) := by show ∀ u, _; intro u h; exact H.below h
  obtain ⟨da, dc', ka, kc, rfl, hd, hk⟩ := H
  have HCK : Hid (∀ u : World, Calls Try.prog 54 #[.agg #[I64 cla, I64 ins, I64 p1, I64 p2, .slice B dn dc, I64 le, .bool long]] u fun e w' => e = .returned (.int .i64 (Apd.chk cla ins p1 p2 d.length le long)) ∧ Below u.heap.size u w') := by
    show ∀ u, _; intro u; rw [hl]; exact ref04_Check cla ins p1 p2 B dn dc le long u
  show Calls Try.prog 32 #[.agg #[.bool t.act, .bool t.done, .bool t.bad, .int .i64 t.cmd.cla, .int .i64 t.cmd.ins, .int .i64 t.cmd.p1, .int .i64 t.cmd.p2, .slice da t.cmd.d.length dc', .int .i64 t.cmd.le, .bool false, .int .u8 (t.ins.toNat : Int), .int .u8 (t.p3.toNat : Int), .bool t.more, .bool t.moved, .int .i64 (t.need : Int), .int .u8 (t.first.toNat : Int), .slice ka t.data.length kc, .int .i64 t.sw], .agg #[I64 cla, I64 ins, I64 p1, I64 p2, .slice B dn dc, I64 le, .bool long]] w0 _
  unfold RTSRes
  clear hb hd hk
  by_cases e1 : Apd.chk cla ins p1 p2 d.length le long ≠ 0
  · have e : Te.serr t ⟨cla, ins, p1, p2, d, le⟩ long = Apd.chk cla ins p1 p2 d.length le long := if_pos e1
    have e2 : Te.send t ⟨cla, ins, p1, p2, d, le⟩ long = (t, []) := if_neg (by rw [e]; exact e1)
    rw [e, e2]
    have i1 : (Apd.chk cla ins p1 p2 d.length le long != 0) = true := by rw [bne_iff_ne]; exact e1
    clear e e1 e2
    generalize Apd.chk cla ins p1 p2 d.length le long = ck at *
    go_enter Try.func32, Try.ntmps32
    go_wp2_with (first | go_skip | ((with_reducible show wpList _ _ _ _ _ (World.alloc _ _)); refine wpList_up hm ?_; clear hm; intro n w hn hn2 hk hm hd hd2 ho; (try rw [← hn]); replace hn := Nat.le_of_eq hn.symm) | ((first | ((with_reducible show wpList _ _ _ (Oper.mk _ (Op.box _ _) _ _ _ _ :: _) _ _); (refine wpList_bx (by rfl) _ _ rfl _ (by simp only [Act.eval, Array.getD_eq_getD_getElem?, List.getElem?_toArray, List.getElem?_cons_succ, List.getElem?_cons_zero, Option.getD_some]; first | done | exact rfl) _ (by simp only [Value.cells]; first | done | exact rfl) hm ?_; clear hm; intro n w hn hz hm ho; (try simp only [List.cons_append, List.nil_append] at hm))) | ((with_reducible show wpList _ _ _ (Oper.mk _ (Op.load _ _) _ _ _ _ :: _) _ _); first | (refine wpList_ldS (by rfl) _ _ rfl _ _ rfl hm _ _ (by repeat (first | apply In.a | apply In.b)) (by decide +kernel) _ (by simp only [List.getElem?_toArray, List.getElem?_cons_succ, List.getElem?_cons_zero]; first | done | exact rfl) ?_) | (refine wpList_laS (by rfl) _ _ rfl _ _ rfl hm _ _ (by repeat (first | apply In.a | apply In.b)) (by kernel_rfl) _ (by rfl) (by kernel_rfl) (by simp) _ (by simp only [List.toList_toArray, List.drop_succ_cons, List.drop_zero, List.size_toArray, List.length_cons, List.length_nil, Nat.reduceAdd, List.take_succ_cons, List.take_zero]; first | done | exact rfl) ?_)) | ((with_reducible show wpList _ _ _ (Oper.mk _ (Op.store _ _ _) _ _ _ _ :: _) _ _); (refine wpList_stS (by rfl) _ _ _ rfl _ _ rfl _ (by simp only [Act.eval, Array.getD_eq_getD_getElem?, List.getElem?_toArray, List.getElem?_cons_succ, List.getElem?_cons_zero, Option.getD_some]; first | done | exact rfl) hm _ (by simp only [Value.cells]; first | done | exact rfl) _ _ _ _ (by repeat (first | apply Put.a | apply Put.b)) (by kernel_rfl) (by simp [Value.oneCell']) (by simp) (by simp only [List.set_cons_zero, List.set_cons_succ, spl, List.toList_toArray, List.size_toArray, List.length_cons, List.length_nil, Nat.reduceAdd, Nat.zero_add, List.take_succ_cons, List.take_zero, List.drop_succ_cons, List.drop_zero, List.drop_nil, List.cons_append, List.nil_append, List.append_nil]; first | done | exact rfl) ?_; clear hm; intro w hz hm ho)) | ((with_reducible show wpList _ _ _ (Oper.mk _ (Op.alloc _) _ _ _ _ :: _) _ _); (refine wpList_al (by rfl) _ rfl _ rfl _ (by simp only [Value.cells]; first | done | exact rfl) hm ?_; clear hm; intro n w hn hz hm ho; (try simp only [List.cons_append, List.nil_append] at hm)))); try simp only [Act.put, List.setIfInBounds_toArray, List.set_cons_zero, List.set_cons_succ]) | (go_at_call 54; refine (HCK.out _).mono ?_; rintro e w2 ⟨rfl, hbl⟩; replace hm := hm.below hbl))
    refine bodyPost_ret (results_row_tmp_tmp rfl _ _ _ _ _ (0, 0) _ rfl (by exact hm.at_ 2 rfl) Try.underlying54 rfl (by kernel_rfl)) rfl ?_
    exact ⟨_, none, 0, rfl, HT.out _ hm.low, fun F hF => Far.old hF, Own.none_ _ _ _ _ _, hm.low⟩
  · have e0 : Apd.chk cla ins p1 p2 d.length le long = 0 := by simpa using e1
    have hs : Te.serr t ⟨cla, ins, p1, p2, d, le⟩ long = if long = true then 4 else if t.act = true then 14 else 0 := if_neg e1
    have E0 := Lib.hid e0
    rw [e0] at HCK
    clear e1 e0
    cases long with
    | true =>
      have e : Te.serr t ⟨cla, ins, p1, p2, d, le⟩ true = 4 := hs
      have e2 : Te.send t ⟨cla, ins, p1, p2, d, le⟩ true = (t, []) := if_neg (by rw [e]; decide)
      rw [e, e2]
      clear e e2 hs
      go_enter Try.func32, Try.ntmps32
      go_wp2_with (first | go_skip | ((with_reducible show wpList _ _ _ _ _ (World.alloc _ _)); refine wpList_up hm ?_; clear hm; intro n w hn hn2 hk hm hd hd2 ho; (try rw [← hn]); replace hn := Nat.le_of_eq hn.symm) | ((first | ((with_reducible show wpList _ _ _ (Oper.mk _ (Op.box _ _) _ _ _ _ :: _) _ _); (refine wpList_bx (by rfl) _ _ rfl _ (by simp only [Act.eval, Array.getD_eq_getD_getElem?, List.getElem?_toArray, List.getElem?_cons_succ, List.getElem?_cons_zero, Option.getD_some]; first | done | exact rfl) _ (by simp only [Value.cells]; first | done | exact rfl) hm ?_; clear hm; intro n w hn hz hm ho; (try simp only [List.cons_append, List.nil_append] at hm))) | ((with_reducible show wpList _ _ _ (Oper.mk _ (Op.load _ _) _ _ _ _ :: _) _ _); first | (refine wpList_ldS (by rfl) _ _ rfl _ _ rfl hm _ _ (by repeat (first | apply In.a | apply In.b)) (by decide +kernel) _ (by simp only [List.getElem?_toArray, List.getElem?_cons_succ, List.getElem?_cons_zero]; first | done | exact rfl) ?_) | (refine wpList_laS (by rfl) _ _ rfl _ _ rfl hm _ _ (by repeat (first | apply In.a | apply In.b)) (by kernel_rfl) _ (by rfl) (by kernel_rfl) (by simp) _ (by simp only [List.toList_toArray, List.drop_succ_cons, List.drop_zero, List.size_toArray, List.length_cons, List.length_nil, Nat.reduceAdd, List.take_succ_cons, List.take_zero]; first | done | exact rfl) ?_)) | ((with_reducible show wpList _ _ _ (Oper.mk _ (Op.store _ _ _) _ _ _ _ :: _) _ _); (refine wpList_stS (by rfl) _ _ _ rfl _ _ rfl _ (by simp only [Act.eval, Array.getD_eq_getD_getElem?, List.getElem?_toArray, List.getElem?_cons_succ, List.getElem?_cons_zero, Option.getD_some]; first | done | exact rfl) hm _ (by simp only [Value.cells]; first | done | exact rfl) _ _ _ _ (by repeat (first | apply Put.a | apply Put.b)) (by kernel_rfl) (by simp [Value.oneCell']) (by simp) (by simp only [List.set_cons_zero, List.set_cons_succ, spl, List.toList_toArray, List.size_toArray, List.length_cons, List.length_nil, Nat.reduceAdd, Nat.zero_add, List.take_succ_cons, List.take_zero, List.drop_succ_cons, List.drop_zero, List.drop_nil, List.cons_append, List.nil_append, List.append_nil]; first | done | exact rfl) ?_; clear hm; intro w hz hm ho)) | ((with_reducible show wpList _ _ _ (Oper.mk _ (Op.alloc _) _ _ _ _ :: _) _ _); (refine wpList_al (by rfl) _ rfl _ rfl _ (by simp only [Value.cells]; first | done | exact rfl) hm ?_; clear hm; intro n w hn hz hm ho; (try simp only [List.cons_append, List.nil_append] at hm)))); try simp only [Act.put, List.setIfInBounds_toArray, List.set_cons_zero, List.set_cons_succ]) | (go_at_call 54; refine (HCK.out _).mono ?_; rintro e w2 ⟨rfl, hbl⟩; replace hm := hm.below hbl))
      refine bodyPost_ret (results_row_tmp_tmp rfl _ _ _ _ _ (0, 0) _ rfl (by exact hm.at_ 2 rfl) Try.underlying54 rfl (by kernel_rfl)) rfl ?_
      exact ⟨_, none, 0, rfl, HT.out _ hm.low, fun F hF => Far.old hF, Own.none_ _ _ _ _ _, hm.low⟩
    | false =>
      rw [if_neg (by simp)] at hs
      cases ha : t.act with
      | true =>
        have e : Te.serr t ⟨cla, ins, p1, p2, d, le⟩ false = 14 := by rw [hs, if_pos ha]
        have e2 : Te.send t ⟨cla, ins, p1, p2, d, le⟩ false = (t, []) := if_neg (by rw [e]; decide)
        rw [e, e2]
        rw [ha] at HT
        clear e e2 hs ha
        go_enter Try.func32, Try.ntmps32
        go_wp2_with (first | go_skip | ((with_reducible show wpList _ _ _ _ _ (World.alloc _ _)); refine wpList_up hm ?_; clear hm; intro n w hn hn2 hk hm hd hd2 ho; (try rw [← hn]); replace hn := Nat.le_of_eq hn.symm) | ((first | ((with_reducible show wpList _ _ _ (Oper.mk _ (Op.box _ _) _ _ _ _ :: _) _ _); (refine wpList_bx (by rfl) _ _ rfl _ (by simp only [Act.eval, Array.getD_eq_getD_getElem?, List.getElem?_toArray, List.getElem?_cons_succ, List.getElem?_cons_zero, Option.getD_some]; first | done | exact rfl) _ (by simp only [Value.cells]; first | done | exact rfl) hm ?_; clear hm; intro n w hn hz hm ho; (try simp only [List.cons_append, List.nil_append] at hm))) | ((with_reducible show wpList _ _ _ (Oper.mk _ (Op.load _ _) _ _ _ _ :: _) _ _); first | (refine wpList_ldS (by rfl) _ _ rfl _ _ rfl hm _ _ (by repeat (first | apply In.a | apply In.b)) (by decide +kernel) _ (by simp only [List.getElem?_toArray, List.getElem?_cons_succ, List.getElem?_cons_zero]; first | done | exact rfl) ?_) | (refine wpList_laS (by rfl) _ _ rfl _ _ rfl hm _ _ (by repeat (first | apply In.a | apply In.b)) (by kernel_rfl) _ (by rfl) (by kernel_rfl) (by simp) _ (by simp only [List.toList_toArray, List.drop_succ_cons, List.drop_zero, List.size_toArray, List.length_cons, List.length_nil, Nat.reduceAdd, List.take_succ_cons, List.take_zero]; first | done | exact rfl) ?_)) | ((with_reducible show wpList _ _ _ (Oper.mk _ (Op.store _ _ _) _ _ _ _ :: _) _ _); (refine wpList_stS (by rfl) _ _ _ rfl _ _ rfl _ (by simp only [Act.eval, Array.getD_eq_getD_getElem?, List.getElem?_toArray, List.getElem?_cons_succ, List.getElem?_cons_zero, Option.getD_some]; first | done | exact rfl) hm _ (by simp only [Value.cells]; first | done | exact rfl) _ _ _ _ (by repeat (first | apply Put.a | apply Put.b)) (by kernel_rfl) (by simp [Value.oneCell']) (by simp) (by simp only [List.set_cons_zero, List.set_cons_succ, spl, List.toList_toArray, List.size_toArray, List.length_cons, List.length_nil, Nat.reduceAdd, Nat.zero_add, List.take_succ_cons, List.take_zero, List.drop_succ_cons, List.drop_zero, List.drop_nil, List.cons_append, List.nil_append, List.append_nil]; first | done | exact rfl) ?_; clear hm; intro w hz hm ho)) | ((with_reducible show wpList _ _ _ (Oper.mk _ (Op.alloc _) _ _ _ _ :: _) _ _); (refine wpList_al (by rfl) _ rfl _ rfl _ (by simp only [Value.cells]; first | done | exact rfl) hm ?_; clear hm; intro n w hn hz hm ho; (try simp only [List.cons_append, List.nil_append] at hm)))); try simp only [Act.put, List.setIfInBounds_toArray, List.set_cons_zero, List.set_cons_succ]) | (go_at_call 54; refine (HCK.out _).mono ?_; rintro e w2 ⟨rfl, hbl⟩; replace hm := hm.below hbl))
        refine bodyPost_ret (results_row_tmp_tmp rfl _ _ _ _ _ (0, 0) _ rfl (by exact hm.at_ 2 rfl) Try.underlying54 rfl (by kernel_rfl)) rfl ?_
        exact ⟨_, none, 0, rfl, HT.out _ hm.low, fun F hF => Far.old hF, Own.none_ _ _ _ _ _, hm.low⟩
      | false =>
        have e : Te.serr t ⟨cla, ins, p1, p2, d, le⟩ false = 0 := by rw [hs, if_neg (by rw [ha]; simp)]
        have e2 : Te.send t ⟨cla, ins, p1, p2, d, le⟩ false = ({ Te.T.zero with act := true, cmd := ⟨cla, ins, p1, p2, d, le⟩, ins := Tz.byte ins, p3 := Te.p3of ⟨cla, ins, p1, p2, d, le⟩ }, [Tz.byte cla, Tz.byte ins, Tz.byte p1, Tz.byte p2, Te.p3of ⟨cla, ins, p1, p2, d, le⟩]) := if_pos e
        rw [e, e2]
        obtain ⟨a0, a1, a2, a3, a4, a5, a6, a7⟩ := Te.Apd_ok E0.out
        have HDL := Lib.hid hl
        have hdn2 : dn ≤ 255 := by omega
        have u0 : IntKind.u8.wrap cla = cla := by rw [IntKind.wrap_u8]; omega
        have u1 : IntKind.u8.wrap ins = ins := by rw [IntKind.wrap_u8]; omega
        have u2 : IntKind.u8.wrap p1 = p1 := by rw [IntKind.wrap_u8]; omega
        have u3 : IntKind.u8.wrap p2 = p2 := by rw [IntKind.wrap_u8]; omega
        have hbx : ∀ z : Int, 0 ≤ z ∧ z ≤ 255 → B8 (Tz.byte z) = .int .u8 z := fun z h => by rw [Tz.B8_byte, show z % 256 = z by omega]
        have HI3 : Hid (((Tz.byte ins).toNat : Int) = ins) := by have := Tz.toNat_byte ins; show _ = _; omega
        clear e e2 hs ha HT E0
        by_cases e4 : dn = 0
        · obtain ⟨ln, hln⟩ : ∃ ln : Nat, le = (ln : Int) := ⟨le.toNat, by omega⟩
          subst hln
          subst e4
          have hd0 : d = [] := List.eq_nil_of_length_eq_zero hl
          have h1 : Te.p3of ⟨cla, ins, p1, p2, d, (ln : Int)⟩ = Tz.byte (ln : Int) := by unfold Te.p3of; rw [if_pos hd0]
          have h3 := Tz.toNat_byte (ln : Int)
          have HP3 : Hid (((Te.p3of ⟨cla, ins, p1, p2, d, (ln : Int)⟩).toNat : Int) = (ln : Int) % 256) := by show _ = _; rw [h1]; exact h3
          have HBT : Hid ([Value.int .u8 cla, .int .u8 ins, .int .u8 p1, .int .u8 p2, .int .u8 ((ln : Int) % 256)] = bcells [Tz.byte cla, Tz.byte ins, Tz.byte p1, Tz.byte p2, Te.p3of ⟨cla, ins, p1, p2, d, (ln : Int)⟩]) := by
            show _ = _
            rw [h1]
            simp only [bcells, List.map_cons, List.map_nil, hbx cla a0, hbx ins a1, hbx p1 a2, hbx p2 a3, Tz.B8_byte]
          have u4 : IntKind.u8.wrap ((ln : Int) % 256) = (ln : Int) % 256 := by rw [IntKind.wrap_u8]; omega
          have u5 : (ln : Int).tmod 256 = (ln : Int) % 256 := Int.tmod_eq_emod_of_nonneg (by omega)
          have u6 : wrap64 ((ln : Int) % 256) = (ln : Int) % 256 := IntWalk.wrap64_in _ (by omega)
          clear a6 hl h1 h3 hd0 hbx
          go_enter Try.func32, Try.ntmps32
          go_wp2_with (first | go_skip | ((with_reducible show wpList _ _ _ _ _ (World.alloc _ _)); refine wpList_up hm ?_; clear hm; intro n w hn hn2 hk hm hd hd2 ho; (try rw [← hn]); replace hn := Nat.le_of_eq hn.symm) | ((first | ((with_reducible show wpList _ _ _ (Oper.mk _ (Op.box _ _) _ _ _ _ :: _) _ _); (refine wpList_bx (by rfl) _ _ rfl _ (by simp only [Act.eval, Array.getD_eq_getD_getElem?, List.getElem?_toArray, List.getElem?_cons_succ, List.getElem?_cons_zero, Option.getD_some]; first | done | exact rfl) _ (by simp only [Value.cells]; first | done | exact rfl) hm ?_; clear hm; intro n w hn hz hm ho; (try simp only [List.cons_append, List.nil_append] at hm))) | ((with_reducible show wpList _ _ _ (Oper.mk _ (Op.load _ _) _ _ _ _ :: _) _ _); first | (refine wpList_ldS (by rfl) _ _ rfl _ _ rfl hm _ _ (by repeat (first | apply In.a | apply In.b)) (by decide +kernel) _ (by simp only [List.getElem?_toArray, List.getElem?_cons_succ, List.getElem?_cons_zero]; first | done | exact rfl) ?_) | (refine wpList_laS (by rfl) _ _ rfl _ _ rfl hm _ _ (by repeat (first | apply In.a | apply In.b)) (by kernel_rfl) _ (by rfl) (by kernel_rfl) (by simp) _ (by simp only [List.toList_toArray, List.drop_succ_cons, List.drop_zero, List.size_toArray, List.length_cons, List.length_nil, Nat.reduceAdd, List.take_succ_cons, List.take_zero]; first | done | exact rfl) ?_)) | ((with_reducible show wpList _ _ _ (Oper.mk _ (Op.store _ _ _) _ _ _ _ :: _) _ _); (refine wpList_stS (by rfl) _ _ _ rfl _ _ rfl _ (by simp only [Act.eval, Array.getD_eq_getD_getElem?, List.getElem?_toArray, List.getElem?_cons_succ, List.getElem?_cons_zero, Option.getD_some]; first | done | exact rfl) hm _ (by simp only [Value.cells]; first | done | exact rfl) _ _ _ _ (by repeat (first | apply Put.a | apply Put.b)) (by kernel_rfl) (by simp [Value.oneCell']) (by simp) (by simp only [List.set_cons_zero, List.set_cons_succ, spl, List.toList_toArray, List.size_toArray, List.length_cons, List.length_nil, Nat.reduceAdd, Nat.zero_add, List.take_succ_cons, List.take_zero, List.drop_succ_cons, List.drop_zero, List.drop_nil, List.cons_append, List.nil_append, List.append_nil]; first | done | exact rfl) ?_; clear hm; intro w hz hm ho)) | ((with_reducible show wpList _ _ _ (Oper.mk _ (Op.alloc _) _ _ _ _ :: _) _ _); (refine wpList_al (by rfl) _ rfl _ rfl _ (by simp only [Value.cells]; first | done | exact rfl) hm ?_; clear hm; intro n w hn hz hm ho; (try simp only [List.cons_append, List.nil_append] at hm)))); try simp only [Act.put, List.setIfInBounds_toArray, List.set_cons_zero, List.set_cons_succ]) | (go_at_call 54; refine (HCK.out _).mono ?_; rintro e w2 ⟨rfl, hbl⟩; replace hm := hm.below hbl))
          go_at_call 41
          refine (ref07_join none 0 0 [] B 0 dc d _ ⟨rfl, Nat.le_refl _, Row.nil _ _ _⟩ (HB.out _ hm.low) (by omega)).mono ?_
          intro e w6 h6
          obtain ⟨A6, c6, rfl, hown, hb6⟩ := h6.len (n := 0) (by rw [List.nil_append]; exact HDL.out)
          clear h6
          rw [List.nil_append] at hown
          have HO6 : Hid (0 < 0 → ∀ a, A6 = some a → w0.heap.size ≤ a.block) := fun hn a e => Nat.le_trans hm.only.size (hown.far hn a e)
          replace hm := hm.got hb6 hown
          clear hown
          go_wp2_with (first | go_skip | ((with_reducible show wpList _ _ _ _ _ (World.alloc _ _)); refine wpList_up hm ?_; clear hm; intro n w hn hn2 hk hm hd hd2 ho; (try rw [← hn]); replace hn := Nat.le_of_eq hn.symm) | ((first | ((with_reducible show wpList _ _ _ (Oper.mk _ (Op.box _ _) _ _ _ _ :: _) _ _); (refine wpList_bx (by rfl) _ _ rfl _ (by simp only [Act.eval, Array.getD_eq_getD_getElem?, List.getElem?_toArray, List.getElem?_cons_succ, List.getElem?_cons_zero, Option.getD_some]; first | done | exact rfl) _ (by simp only [Value.cells]; first | done | exact rfl) hm ?_; clear hm; intro n w hn hz hm ho; (try simp only [List.cons_append, List.nil_append] at hm))) | ((with_reducible show wpList _ _ _ (Oper.mk _ (Op.load _ _) _ _ _ _ :: _) _ _); first | (refine wpList_ldS (by rfl) _ _ rfl _ _ rfl hm _ _ (by repeat (first | apply In.a | apply In.b)) (by decide +kernel) _ (by simp only [List.getElem?_toArray, List.getElem?_cons_succ, List.getElem?_cons_zero]; first | done | exact rfl) ?_) | (refine wpList_laS (by rfl) _ _ rfl _ _ rfl hm _ _ (by repeat (first | apply In.a | apply In.b)) (by kernel_rfl) _ (by rfl) (by kernel_rfl) (by simp) _ (by simp only [List.toList_toArray, List.drop_succ_cons, List.drop_zero, List.size_toArray, List.length_cons, List.length_nil, Nat.reduceAdd, List.take_succ_cons, List.take_zero]; first | done | exact rfl) ?_)) | ((with_reducible show wpList _ _ _ (Oper.mk _ (Op.store _ _ _) _ _ _ _ :: _) _ _); (refine wpList_stS (by rfl) _ _ _ rfl _ _ rfl _ (by simp only [Act.eval, Array.getD_eq_getD_getElem?, List.getElem?_toArray, List.getElem?_cons_succ, List.getElem?_cons_zero, Option.getD_some]; first | done | exact rfl) hm _ (by simp only [Value.cells]; first | done | exact rfl) _ _ _ _ (by repeat (first | apply Put.a | apply Put.b)) (by kernel_rfl) (by simp [Value.oneCell']) (by simp) (by simp only [List.set_cons_zero, List.set_cons_succ, spl, List.toList_toArray, List.size_toArray, List.length_cons, List.length_nil, Nat.reduceAdd, Nat.zero_add, List.take_succ_cons, List.take_zero, List.drop_succ_cons, List.drop_zero, List.drop_nil, List.cons_append, List.nil_append, List.append_nil]; first | done | exact rfl) ?_; clear hm; intro w hz hm ho)) | ((with_reducible show wpList _ _ _ (Oper.mk _ (Op.alloc _) _ _ _ _ :: _) _ _); (refine wpList_al (by rfl) _ rfl _ rfl _ (by simp only [Value.cells]; first | done | exact rfl) hm ?_; clear hm; intro n w hn hz hm ho; (try simp only [List.cons_append, List.nil_append] at hm)))); try simp only [Act.put, List.setIfInBounds_toArray, List.set_cons_zero, List.set_cons_succ]))
          have hw9 := hm.drew.wo 2
          simp only [List.eraseIdx_cons_zero, List.eraseIdx_cons_succ] at hw9
          refine wp_region_noPanic ?_
          refine wp_region_held_drew (S := MemS _ _ _ _) (by kernel_rfl) (MemS.of hw9) (fun hHeld => ?_)
          refine wpAnyH_fresh (by repeat (first | apply Fresh.a | apply Fresh.b)) ?_
          clear hw9
          replace hm := hm.drew
          iterate 15 (first | (refine wpAnyH_take3 (b := 0) (by repeat (first | apply Seek.a | apply Seek.b | apply Seek.c)) (by simp only [List.getElem?_toArray, List.getElem?_cons_succ, List.getElem?_cons_zero]; first | done | exact rfl) ⟨?_, by kernel_rfl, by kernel_rfl, by kernel_rfl, fun _ _ _ h => h, Or.inr ⟨by rfl, rfl⟩, hHeld, ?_⟩) | (refine wpAnyH_take3 (b := 0) (by repeat (first | apply Seek.a | apply Seek.b | apply Seek.c)) (by simp only [List.getElem?_toArray, List.getElem?_cons_succ, List.getElem?_cons_zero]; first | done | exact rfl) ⟨?_, by kernel_rfl, by kernel_rfl, by kernel_rfl, fun _ _ _ h => h, Or.inl ⟨by rfl, ?_⟩, hHeld, ?_⟩; rotate_left 1; (first | (intro w9 h9; (with_reducible show (execOp _ (Oper.mk _ (Op.load _ _) _ _ _ _)).run _ _ = _); (first | (exact MemS.ldS h9 _ _ rfl _ _ rfl _ _ (by repeat (first | apply In.a | apply In.b)) (by decide +kernel) _ (by simp only [List.getElem?_toArray, List.getElem?_cons_succ, List.getElem?_cons_zero]; first | done | exact rfl)) | (exact MemS.laS h9 _ _ rfl _ _ rfl _ _ (by repeat (first | apply In.a | apply In.b)) (by kernel_rfl) _ (by rfl) (by kernel_rfl) (by simp) _ (by simp only [List.toList_toArray, List.drop_succ_cons, List.drop_zero, List.size_toArray, List.length_cons, List.length_nil, Nat.reduceAdd, List.take_succ_cons, List.take_zero]; first | done | exact rfl)))) | focus (intro w9 hSw; go_simp; (try (with_reducible rfl)); done))); try simp only [Act.put, List.setIfInBounds_toArray, List.set_cons_zero, List.set_cons_succ])
          refine wpAnyH_ready (rs := [15, 16]) (by kernel_rfl) (by simp) ?_
          refine AllReadyH.cons3 (by simp only [List.getElem?_toArray, List.getElem?_cons_succ, List.getElem?_cons_zero]; first | done | exact rfl) (fun K hK => ?_) (AllReadyH.cons2 (by simp only [List.getElem?_toArray, List.getElem?_cons_succ, List.getElem?_cons_zero]; first | done | exact rfl) (fun K hK => ?_))
          · rw [if_pos (by rfl)]
            go_simp
            refine K_up hm ?_
            intro n5 w5 hn hn5s hn5 hm1 hn5d hn5d2 hb1
            first | rw [← hn] | rw [← (show n5 = w.heap.size from hn)] | rw [← (show n5 = w2.heap.size from hn)] | skip
            clear hn hm
            have hm := hm1.row hn5 hn5s hn5d hn5d2 1 5 [.int .u8 cla, .int .u8 ins, .int .u8 p1, .int .u8 p2, .int .u8 ((ln : Int) % 256)] rfl rfl (by unfold maxLen; omega)
            clear hm1
            refine hK.out _ _ (MemS.of ((hm.wo 2).less)) (fun hHeld => ?_)
            clear hK K
            try simp only [Act.put, List.setIfInBounds_toArray, List.set_cons_zero, List.set_cons_succ]
            refine wpAnyH_ready (rs := [16]) (by kernel_rfl) (by simp) ?_
            refine AllReadyH.cons2 (by simp only [List.getElem?_toArray, List.getElem?_cons_succ, List.getElem?_cons_zero]; first | done | exact rfl) (fun K hK => ?_)
            refine step_stS (by rfl) _ _ _ rfl _ _ rfl _ (by simp only [Act.eval, Array.getD_eq_getD_getElem?, List.getElem?_toArray, List.getElem?_cons_succ, List.getElem?_cons_zero, Option.getD_some]; first | done | exact rfl) hm _ (by simp only [Value.cells]; first | done | exact rfl) _ _ _ _ (by repeat (first | apply Put.a | apply Put.b)) (by kernel_rfl) (by simp [Value.oneCell']) (by simp) (by simp only [List.set_cons_zero, List.set_cons_succ, spl, List.toList_toArray, List.size_toArray, List.length_cons, List.length_nil, Nat.reduceAdd, Nat.zero_add, List.take_succ_cons, List.take_zero, List.drop_succ_cons, List.drop_zero, List.drop_nil, List.cons_append, List.nil_append, List.append_nil]; first | done | exact rfl) ?_
            clear hm; intro w hz hm ho
            refine hK.out _ _ (MemS.of ((hm.wo 2).less)) (fun hHeld => ?_)
            clear hK K
            try simp only [Act.put, List.setIfInBounds_toArray, List.set_cons_zero, List.set_cons_succ]
            iterate 2 (first | (refine wpAnyH_take3 (b := 17) (by repeat (first | apply Seek.a | apply Seek.b | apply Seek.c)) (by simp only [List.getElem?_toArray, List.getElem?_cons_succ, List.getElem?_cons_zero]; first | done | exact rfl) ⟨?_, by kernel_rfl, by kernel_rfl, by kernel_rfl, fun _ _ _ h => h, Or.inr ⟨by rfl, rfl⟩, hHeld, ?_⟩) | (refine wpAnyH_take3 (b := 17) (by repeat (first | apply Seek.a | apply Seek.b | apply Seek.c)) (by simp only [List.getElem?_toArray, List.getElem?_cons_succ, List.getElem?_cons_zero]; first | done | exact rfl) ⟨?_, by kernel_rfl, by kernel_rfl, by kernel_rfl, fun _ _ _ h => h, Or.inl ⟨by rfl, ?_⟩, hHeld, ?_⟩; rotate_left 1; (first | (intro w9 h9; (with_reducible show (execOp _ (Oper.mk _ (Op.load _ _) _ _ _ _)).run _ _ = _); (first | (exact MemS.ldS h9 _ _ rfl _ _ rfl _ _ (by repeat (first | apply In.a | apply In.b)) (by decide +kernel) _ (by simp only [List.getElem?_toArray, List.getElem?_cons_succ, List.getElem?_cons_zero]; first | done | exact rfl)))) | focus (intro w9 hSw; go_simp; (try (with_reducible rfl)); done))); try simp only [Act.put, List.setIfInBounds_toArray, List.set_cons_zero, List.set_cons_succ])
            refine wpAnyH_done (by kernel_rfl) ?_ _
            refine NoPanic.normal ?_
            go_wp2_with fail
            rw [HBT.out] at hm
            refine bodyPost_ret (results_row_tmp_tmp rfl _ _ _ _ _ (0, 0) _ rfl (by exact hm.at_ 2 rfl) Try.underlying54 rfl (by kernel_rfl)) rfl ?_
            have hfar := HO6.out
            refine ⟨tlit true false false cla ins p1 p2 A6 0 c6 (ln : Int) (Tz.byte ins) (Te.p3of ⟨cla, ins, p1, p2, d, (ln : Int)⟩) false false 0 0 none 0 0 0, some ⟨n5, 0, none⟩, 5, ?_, ⟨A6, c6, none, 0, ?_, ?_, ⟨rfl, Nat.le_refl _, Row.nil _ _ _⟩⟩, fun F _ => Far.ofT (fun hn a e => Or.inr (hfar hn a e)) (fun hn => absurd hn (Nat.lt_irrefl 0)), hm.own_ 1 rfl, hm.low⟩
            · unfold tlit; rw [HI3.out, HP3.out]; rfl
            · show tlit _ _ _ _ _ _ _ A6 0 c6 _ _ _ _ _ _ _ _ _ _ _ = tlit _ _ _ _ _ _ _ A6 d.length c6 _ _ _ _ _ _ _ _ _ _ _; rw [HDL.out]; rfl
            · show Byt _ _ A6 d.length c6 d; rw [HDL.out]; exact (hm.sl_ 0 rfl).byt (Nat.le_refl _)
          · skip
            refine step_stS (by rfl) _ _ _ rfl _ _ rfl _ (by simp only [Act.eval, Array.getD_eq_getD_getElem?, List.getElem?_toArray, List.getElem?_cons_succ, List.getElem?_cons_zero, Option.getD_some]; first | done | exact rfl) hm _ (by simp only [Value.cells]; first | done | exact rfl) _ _ _ _ (by repeat (first | apply Put.a | apply Put.b)) (by kernel_rfl) (by simp [Value.oneCell']) (by simp) (by simp only [List.set_cons_zero, List.set_cons_succ, spl, List.toList_toArray, List.size_toArray, List.length_cons, List.length_nil, Nat.reduceAdd, Nat.zero_add, List.take_succ_cons, List.take_zero, List.drop_succ_cons, List.drop_zero, List.drop_nil, List.cons_append, List.nil_append, List.append_nil]; first | done | exact rfl) ?_
            clear hm; intro w hz hm ho
            refine hK.out _ _ (MemS.of (hm.wo 2)) (fun hHeld => ?_)
            clear hK K
            try simp only [Act.put, List.setIfInBounds_toArray, List.set_cons_zero, List.set_cons_succ]
            refine wpAnyH_ready (rs := [15]) (by kernel_rfl) (by simp) ?_
            refine AllReadyH.cons2 (by simp only [List.getElem?_toArray, List.getElem?_cons_succ, List.getElem?_cons_zero]; first | done | exact rfl) (fun K hK => ?_)
            rw [if_pos (by rfl)]
            go_simp
            refine K_up hm ?_
            intro n5 w5 hn hn5s hn5 hm1 hn5d hn5d2 hb1
            first | rw [← hn] | rw [← (show n5 = w.heap.size from hn)] | rw [← (show n5 = w2.heap.size from hn)] | skip
            clear hn hm
            have hm := hm1.row hn5 hn5s hn5d hn5d2 1 5 [.int .u8 cla, .int .u8 ins, .int .u8 p1, .int .u8 p2, .int .u8 ((ln : Int) % 256)] rfl rfl (by unfold maxLen; omega)
            clear hm1
            refine hK.out _ _ (MemS.of ((hm.wo 2).less)) (fun hHeld => ?_)
            clear hK K
            try simp only [Act.put, List.setIfInBounds_toArray, List.set_cons_zero, List.set_cons_succ]
            iterate 2 (first | (refine wpAnyH_take3 (b := 17) (by repeat (first | apply Seek.a | apply Seek.b | apply Seek.c)) (by simp only [List.getElem?_toArray, List.getElem?_cons_succ, List.getElem?_cons_zero]; first | done | exact rfl) ⟨?_, by kernel_rfl, by kernel_rfl, by kernel_rfl, fun _ _ _ h => h, Or.inr ⟨by rfl, rfl⟩, hHeld, ?_⟩) | (refine wpAnyH_take3 (b := 17) (by repeat (first | apply Seek.a | apply Seek.b | apply Seek.c)) (by simp only [List.getElem?_toArray, List.getElem?_cons_succ, List.getElem?_cons_zero]; first | done | exact rfl) ⟨?_, by kernel_rfl, by kernel_rfl, by kernel_rfl, fun _ _ _ h => h, Or.inl ⟨by rfl, ?_⟩, hHeld, ?_⟩; rotate_left 1; (first | (intro w9 h9; (with_reducible show (execOp _ (Oper.mk _ (Op.load _ _) _ _ _ _)).run _ _ = _); (first | (exact MemS.ldS h9 _ _ rfl _ _ rfl _ _ (by repeat (first | apply In.a | apply In.b)) (by decide +kernel) _ (by simp only [List.getElem?_toArray, List.getElem?_cons_succ, List.getElem?_cons_zero]; first | done | exact rfl)))) | focus (intro w9 hSw; go_simp; (try (with_reducible rfl)); done))); try simp only [Act.put, List.setIfInBounds_toArray, List.set_cons_zero, List.set_cons_succ])
            refine wpAnyH_done (by kernel_rfl) ?_ _
            refine NoPanic.normal ?_
            go_wp2_with fail
            rw [HBT.out] at hm
            refine bodyPost_ret (results_row_tmp_tmp rfl _ _ _ _ _ (0, 0) _ rfl (by exact hm.at_ 2 rfl) Try.underlying54 rfl (by kernel_rfl)) rfl ?_
            have hfar := HO6.out
            refine ⟨tlit true false false cla ins p1 p2 A6 0 c6 (ln : Int) (Tz.byte ins) (Te.p3of ⟨cla, ins, p1, p2, d, (ln : Int)⟩) false false 0 0 none 0 0 0, some ⟨n5, 0, none⟩, 5, ?_, ⟨A6, c6, none, 0, ?_, ?_, ⟨rfl, Nat.le_refl _, Row.nil _ _ _⟩⟩, fun F _ => Far.ofT (fun hn a e => Or.inr (hfar hn a e)) (fun hn => absurd hn (Nat.lt_irrefl 0)), hm.own_ 1 rfl, hm.low⟩
            · unfold tlit; rw [HI3.out, HP3.out]; rfl
            · show tlit _ _ _ _ _ _ _ A6 0 c6 _ _ _ _ _ _ _ _ _ _ _ = tlit _ _ _ _ _ _ _ A6 d.length c6 _ _ _ _ _ _ _ _ _ _ _; rw [HDL.out]; rfl
            · show Byt _ _ A6 d.length c6 d; rw [HDL.out]; exact (hm.sl_ 0 rfl).byt (Nat.le_refl _)
        · have hd0 : ¬ d = [] := fun h => e4 (by rw [← hl, h]; rfl)
          have h1 : Te.p3of ⟨cla, ins, p1, p2, d, le⟩ = Tz.byte (dn : Int) := by unfold Te.p3of; rw [if_neg hd0]; show Tz.byte (d.length : Int) = _; rw [hl]
          have h3 := Tz.toNat_byte (dn : Int)
          have HP3 : Hid (((Te.p3of ⟨cla, ins, p1, p2, d, le⟩).toNat : Int) = (dn : Int)) := by show _ = _; rw [h1]; omega
          have HBT : Hid ([Value.int .u8 cla, .int .u8 ins, .int .u8 p1, .int .u8 p2, .int .u8 (dn : Int)] = bcells [Tz.byte cla, Tz.byte ins, Tz.byte p1, Tz.byte p2, Te.p3of ⟨cla, ins, p1, p2, d, le⟩]) := by
            show _ = _
            rw [h1]
            simp only [bcells, List.map_cons, List.map_nil, hbx cla a0, hbx ins a1, hbx p1 a2, hbx p2 a3, hbx (dn : Int) (by omega)]
          have u4 : IntKind.u8.wrap (dn : Int) = (dn : Int) := by rw [IntKind.wrap_u8]; omega
          have i1 : ((dn : Int) == 0) = false := beq_eq_false_iff_ne.2 (by omega)
          clear a6 hl h1 h3 hd0 hbx
          go_enter Try.func32, Try.ntmps32
          go_wp2_with (first | go_skip | ((with_reducible show wpList _ _ _ _ _ (World.alloc _ _)); refine wpList_up hm ?_; clear hm; intro n w hn hn2 hk hm hd hd2 ho; (try rw [← hn]); replace hn := Nat.le_of_eq hn.symm) | ((first | ((with_reducible show wpList _ _ _ (Oper.mk _ (Op.box _ _) _ _ _ _ :: _) _ _); (refine wpList_bx (by rfl) _ _ rfl _ (by simp only [Act.eval, Array.getD_eq_getD_getElem?, List.getElem?_toArray, List.getElem?_cons_succ, List.getElem?_cons_zero, Option.getD_some]; first | done | exact rfl) _ (by simp only [Value.cells]; first | done | exact rfl) hm ?_; clear hm; intro n w hn hz hm ho; (try simp only [List.cons_append, List.nil_append] at hm))) | ((with_reducible show wpList _ _ _ (Oper.mk _ (Op.load _ _) _ _ _ _ :: _) _ _); first | (refine wpList_ldS (by rfl) _ _ rfl _ _ rfl hm _ _ (by repeat (first | apply In.a | apply In.b)) (by decide +kernel) _ (by simp only [List.getElem?_toArray, List.getElem?_cons_succ, List.getElem?_cons_zero]; first | done | exact rfl) ?_) | (refine wpList_laS (by rfl) _ _ rfl _ _ rfl hm _ _ (by repeat (first | apply In.a | apply In.b)) (by kernel_rfl) _ (by rfl) (by kernel_rfl) (by simp) _ (by simp only [List.toList_toArray, List.drop_succ_cons, List.drop_zero, List.size_toArray, List.length_cons, List.length_nil, Nat.reduceAdd, List.take_succ_cons, List.take_zero]; first | done | exact rfl) ?_)) | ((with_reducible show wpList _ _ _ (Oper.mk _ (Op.store _ _ _) _ _ _ _ :: _) _ _); (refine wpList_stS (by rfl) _ _ _ rfl _ _ rfl _ (by simp only [Act.eval, Array.getD_eq_getD_getElem?, List.getElem?_toArray, List.getElem?_cons_succ, List.getElem?_cons_zero, Option.getD_some]; first | done | exact rfl) hm _ (by simp only [Value.cells]; first | done | exact rfl) _ _ _ _ (by repeat (first | apply Put.a | apply Put.b)) (by kernel_rfl) (by simp [Value.oneCell']) (by simp) (by simp only [List.set_cons_zero, List.set_cons_succ, spl, List.toList_toArray, List.size_toArray, List.length_cons, List.length_nil, Nat.reduceAdd, Nat.zero_add, List.take_succ_cons, List.take_zero, List.drop_succ_cons, List.drop_zero, List.drop_nil, List.cons_append, List.nil_append, List.append_nil]; first | done | exact rfl) ?_; clear hm; intro w hz hm ho)) | ((with_reducible show wpList _ _ _ (Oper.mk _ (Op.alloc _) _ _ _ _ :: _) _ _); (refine wpList_al (by rfl) _ rfl _ rfl _ (by simp only [Value.cells]; first | done | exact rfl) hm ?_; clear hm; intro n w hn hz hm ho; (try simp only [List.cons_append, List.nil_append] at hm)))); try simp only [Act.put, List.setIfInBounds_toArray, List.set_cons_zero, List.set_cons_succ]) | (go_at_call 54; refine (HCK.out _).mono ?_; rintro e w2 ⟨rfl, hbl⟩; replace hm := hm.below hbl))
          go_at_call 41
          refine (ref07_join none 0 0 [] B dn dc d _ ⟨rfl, Nat.le_refl _, Row.nil _ _ _⟩ (HB.out _ hm.low) (by omega)).mono ?_
          intro e w6 h6
          obtain ⟨A6, c6, rfl, hown, hb6⟩ := h6.len (n := dn) (by rw [List.nil_append]; exact HDL.out)
          clear h6
          rw [List.nil_append] at hown
          have HO6 : Hid (0 < dn → ∀ a, A6 = some a → w0.heap.size ≤ a.block) := fun hn a e => Nat.le_trans hm.only.size (hown.far hn a e)
          replace hm := hm.got hb6 hown
          clear hown
          go_wp2_with (first | go_skip | ((with_reducible show wpList _ _ _ _ _ (World.alloc _ _)); refine wpList_up hm ?_; clear hm; intro n w hn hn2 hk hm hd hd2 ho; (try rw [← hn]); replace hn := Nat.le_of_eq hn.symm) | ((first | ((with_reducible show wpList _ _ _ (Oper.mk _ (Op.box _ _) _ _ _ _ :: _) _ _); (refine wpList_bx (by rfl) _ _ rfl _ (by simp only [Act.eval, Array.getD_eq_getD_getElem?, List.getElem?_toArray, List.getElem?_cons_succ, List.getElem?_cons_zero, Option.getD_some]; first | done | exact rfl) _ (by simp only [Value.cells]; first | done | exact rfl) hm ?_; clear hm; intro n w hn hz hm ho; (try simp only [List.cons_append, List.nil_append] at hm))) | ((with_reducible show wpList _ _ _ (Oper.mk _ (Op.load _ _) _ _ _ _ :: _) _ _); first | (refine wpList_ldS (by rfl) _ _ rfl _ _ rfl hm _ _ (by repeat (first | apply In.a | apply In.b)) (by decide +kernel) _ (by simp only [List.getElem?_toArray, List.getElem?_cons_succ, List.getElem?_cons_zero]; first | done | exact rfl) ?_) | (refine wpList_laS (by rfl) _ _ rfl _ _ rfl hm _ _ (by repeat (first | apply In.a | apply In.b)) (by kernel_rfl) _ (by rfl) (by kernel_rfl) (by simp) _ (by simp only [List.toList_toArray, List.drop_succ_cons, List.drop_zero, List.size_toArray, List.length_cons, List.length_nil, Nat.reduceAdd, List.take_succ_cons, List.take_zero]; first | done | exact rfl) ?_)) | ((with_reducible show wpList _ _ _ (Oper.mk _ (Op.store _ _ _) _ _ _ _ :: _) _ _); (refine wpList_stS (by rfl) _ _ _ rfl _ _ rfl _ (by simp only [Act.eval, Array.getD_eq_getD_getElem?, List.getElem?_toArray, List.getElem?_cons_succ, List.getElem?_cons_zero, Option.getD_some]; first | done | exact rfl) hm _ (by simp only [Value.cells]; first | done | exact rfl) _ _ _ _ (by repeat (first | apply Put.a | apply Put.b)) (by kernel_rfl) (by simp [Value.oneCell']) (by simp) (by simp only [List.set_cons_zero, List.set_cons_succ, spl, List.toList_toArray, List.size_toArray, List.length_cons, List.length_nil, Nat.reduceAdd, Nat.zero_add, List.take_succ_cons, List.take_zero, List.drop_succ_cons, List.drop_zero, List.drop_nil, List.cons_append, List.nil_append, List.append_nil]; first | done | exact rfl) ?_; clear hm; intro w hz hm ho)) | ((with_reducible show wpList _ _ _ (Oper.mk _ (Op.alloc _) _ _ _ _ :: _) _ _); (refine wpList_al (by rfl) _ rfl _ rfl _ (by simp only [Value.cells]; first | done | exact rfl) hm ?_; clear hm; intro n w hn hz hm ho; (try simp only [List.cons_append, List.nil_append] at hm)))); try simp only [Act.put, List.setIfInBounds_toArray, List.set_cons_zero, List.set_cons_succ]))
          have hw9 := hm.drew.wo 2
          simp only [List.eraseIdx_cons_zero, List.eraseIdx_cons_succ] at hw9
          refine wp_region_noPanic ?_
          refine wp_region_held_drew (S := MemS _ _ _ _) (by kernel_rfl) (MemS.of hw9) (fun hHeld => ?_)
          refine wpAnyH_fresh (by repeat (first | apply Fresh.a | apply Fresh.b)) ?_
          clear hw9
          replace hm := hm.drew
          iterate 15 (first | (refine wpAnyH_take3 (b := 0) (by repeat (first | apply Seek.a | apply Seek.b | apply Seek.c)) (by simp only [List.getElem?_toArray, List.getElem?_cons_succ, List.getElem?_cons_zero]; first | done | exact rfl) ⟨?_, by kernel_rfl, by kernel_rfl, by kernel_rfl, fun _ _ _ h => h, Or.inr ⟨by rfl, rfl⟩, hHeld, ?_⟩) | (refine wpAnyH_take3 (b := 0) (by repeat (first | apply Seek.a | apply Seek.b | apply Seek.c)) (by simp only [List.getElem?_toArray, List.getElem?_cons_succ, List.getElem?_cons_zero]; first | done | exact rfl) ⟨?_, by kernel_rfl, by kernel_rfl, by kernel_rfl, fun _ _ _ h => h, Or.inl ⟨by rfl, ?_⟩, hHeld, ?_⟩; rotate_left 1; (first | (intro w9 h9; (with_reducible show (execOp _ (Oper.mk _ (Op.load _ _) _ _ _ _)).run _ _ = _); (first | (exact MemS.ldS h9 _ _ rfl _ _ rfl _ _ (by repeat (first | apply In.a | apply In.b)) (by decide +kernel) _ (by simp only [List.getElem?_toArray, List.getElem?_cons_succ, List.getElem?_cons_zero]; first | done | exact rfl)) | (exact MemS.laS h9 _ _ rfl _ _ rfl _ _ (by repeat (first | apply In.a | apply In.b)) (by kernel_rfl) _ (by rfl) (by kernel_rfl) (by simp) _ (by simp only [List.toList_toArray, List.drop_succ_cons, List.drop_zero, List.size_toArray, List.length_cons, List.length_nil, Nat.reduceAdd, List.take_succ_cons, List.take_zero]; first | done | exact rfl)))) | focus (intro w9 hSw; go_simp; (try (with_reducible rfl)); done))); try simp only [Act.put, List.setIfInBounds_toArray, List.set_cons_zero, List.set_cons_succ])
          refine wpAnyH_ready (rs := [15, 16]) (by kernel_rfl) (by simp) ?_
          refine AllReadyH.cons3 (by simp only [List.getElem?_toArray, List.getElem?_cons_succ, List.getElem?_cons_zero]; first | done | exact rfl) (fun K hK => ?_) (AllReadyH.cons2 (by simp only [List.getElem?_toArray, List.getElem?_cons_succ, List.getElem?_cons_zero]; first | done | exact rfl) (fun K hK => ?_))
          · rw [if_pos (by rfl)]
            go_simp
            refine K_up hm ?_
            intro n5 w5 hn hn5s hn5 hm1 hn5d hn5d2 hb1
            first | rw [← hn] | rw [← (show n5 = w.heap.size from hn)] | rw [← (show n5 = w2.heap.size from hn)] | skip
            clear hn hm
            have hm := hm1.row hn5 hn5s hn5d hn5d2 1 5 [.int .u8 cla, .int .u8 ins, .int .u8 p1, .int .u8 p2, .int .u8 (dn : Int)] rfl rfl (by unfold maxLen; omega)
            clear hm1
            refine hK.out _ _ (MemS.of ((hm.wo 2).less)) (fun hHeld => ?_)
            clear hK K
            try simp only [Act.put, List.setIfInBounds_toArray, List.set_cons_zero, List.set_cons_succ]
            refine wpAnyH_ready (rs := [16]) (by kernel_rfl) (by simp) ?_
            refine AllReadyH.cons2 (by simp only [List.getElem?_toArray, List.getElem?_cons_succ, List.getElem?_cons_zero]; first | done | exact rfl) (fun K hK => ?_)
            refine step_stS (by rfl) _ _ _ rfl _ _ rfl _ (by simp only [Act.eval, Array.getD_eq_getD_getElem?, List.getElem?_toArray, List.getElem?_cons_succ, List.getElem?_cons_zero, Option.getD_some]; first | done | exact rfl) hm _ (by simp only [Value.cells]; first | done | exact rfl) _ _ _ _ (by repeat (first | apply Put.a | apply Put.b)) (by kernel_rfl) (by simp [Value.oneCell']) (by simp) (by simp only [List.set_cons_zero, List.set_cons_succ, spl, List.toList_toArray, List.size_toArray, List.length_cons, List.length_nil, Nat.reduceAdd, Nat.zero_add, List.take_succ_cons, List.take_zero, List.drop_succ_cons, List.drop_zero, List.drop_nil, List.cons_append, List.nil_append, List.append_nil]; first | done | exact rfl) ?_
            clear hm; intro w hz hm ho
            refine hK.out _ _ (MemS.of ((hm.wo 2).less)) (fun hHeld => ?_)
            clear hK K
            try simp only [Act.put, List.setIfInBounds_toArray, List.set_cons_zero, List.set_cons_succ]
            iterate 2 (first | (refine wpAnyH_take3 (b := 17) (by repeat (first | apply Seek.a | apply Seek.b | apply Seek.c)) (by simp only [List.getElem?_toArray, List.getElem?_cons_succ, List.getElem?_cons_zero]; first | done | exact rfl) ⟨?_, by kernel_rfl, by kernel_rfl, by kernel_rfl, fun _ _ _ h => h, Or.inr ⟨by rfl, rfl⟩, hHeld, ?_⟩) | (refine wpAnyH_take3 (b := 17) (by repeat (first | apply Seek.a | apply Seek.b | apply Seek.c)) (by simp only [List.getElem?_toArray, List.getElem?_cons_succ, List.getElem?_cons_zero]; first | done | exact rfl) ⟨?_, by kernel_rfl, by kernel_rfl, by kernel_rfl, fun _ _ _ h => h, Or.inl ⟨by rfl, ?_⟩, hHeld, ?_⟩; rotate_left 1; (first | (intro w9 h9; (with_reducible show (execOp _ (Oper.mk _ (Op.load _ _) _ _ _ _)).run _ _ = _); (first | (exact MemS.ldS h9 _ _ rfl _ _ rfl _ _ (by repeat (first | apply In.a | apply In.b)) (by decide +kernel) _ (by simp only [List.getElem?_toArray, List.getElem?_cons_succ, List.getElem?_cons_zero]; first | done | exact rfl)))) | focus (intro w9 hSw; go_simp; (try (with_reducible rfl)); done))); try simp only [Act.put, List.setIfInBounds_toArray, List.set_cons_zero, List.set_cons_succ])
            refine wpAnyH_done (by kernel_rfl) ?_ _
            refine NoPanic.normal ?_
            go_wp2_with fail
            rw [HBT.out] at hm
            refine bodyPost_ret (results_row_tmp_tmp rfl _ _ _ _ _ (0, 0) _ rfl (by exact hm.at_ 2 rfl) Try.underlying54 rfl (by kernel_rfl)) rfl ?_
            have hfar := HO6.out
            refine ⟨tlit true false false cla ins p1 p2 A6 dn c6 le (Tz.byte ins) (Te.p3of ⟨cla, ins, p1, p2, d, le⟩) false false 0 0 none 0 0 0, some ⟨n5, 0, none⟩, 5, ?_, ⟨A6, c6, none, 0, ?_, ?_, ⟨rfl, Nat.le_refl _, Row.nil _ _ _⟩⟩, fun F _ => Far.ofT (fun hn a e => Or.inr (hfar hn a e)) (fun hn => absurd hn (Nat.lt_irrefl 0)), hm.own_ 1 rfl, hm.low⟩
            · unfold tlit; rw [HI3.out, HP3.out]; rfl
            · show tlit _ _ _ _ _ _ _ A6 dn c6 _ _ _ _ _ _ _ _ _ _ _ = tlit _ _ _ _ _ _ _ A6 d.length c6 _ _ _ _ _ _ _ _ _ _ _; rw [HDL.out]; rfl
            · show Byt _ _ A6 d.length c6 d; rw [HDL.out]; exact (hm.sl_ 0 rfl).byt (Nat.le_refl _)
          · skip
            refine step_stS (by rfl) _ _ _ rfl _ _ rfl _ (by simp only [Act.eval, Array.getD_eq_getD_getElem?, List.getElem?_toArray, List.getElem?_cons_succ, List.getElem?_cons_zero, Option.getD_some]; first | done | exact rfl) hm _ (by simp only [Value.cells]; first | done | exact rfl) _ _ _ _ (by repeat (first | apply Put.a | apply Put.b)) (by kernel_rfl) (by simp [Value.oneCell']) (by simp) (by simp only [List.set_cons_zero, List.set_cons_succ, spl, List.toList_toArray, List.size_toArray, List.length_cons, List.length_nil, Nat.reduceAdd, Nat.zero_add, List.take_succ_cons, List.take_zero, List.drop_succ_cons, List.drop_zero, List.drop_nil, List.cons_append, List.nil_append, List.append_nil]; first | done | exact rfl) ?_
            clear hm; intro w hz hm ho
            refine hK.out _ _ (MemS.of (hm.wo 2)) (fun hHeld => ?_)
            clear hK K
            try simp only [Act.put, List.setIfInBounds_toArray, List.set_cons_zero, List.set_cons_succ]
            refine wpAnyH_ready (rs := [15]) (by kernel_rfl) (by simp) ?_
            refine AllReadyH.cons2 (by simp only [List.getElem?_toArray, List.getElem?_cons_succ, List.getElem?_cons_zero]; first | done | exact rfl) (fun K hK => ?_)
            rw [if_pos (by rfl)]
            go_simp
            refine K_up hm ?_
            intro n5 w5 hn hn5s hn5 hm1 hn5d hn5d2 hb1
            first | rw [← hn] | rw [← (show n5 = w.heap.size from hn)] | rw [← (show n5 = w2.heap.size from hn)] | skip
            clear hn hm
            have hm := hm1.row hn5 hn5s hn5d hn5d2 1 5 [.int .u8 cla, .int .u8 ins, .int .u8 p1, .int .u8 p2, .int .u8 (dn : Int)] rfl rfl (by unfold maxLen; omega)
            clear hm1
            refine hK.out _ _ (MemS.of ((hm.wo 2).less)) (fun hHeld => ?_)
            clear hK K
            try simp only [Act.put, List.setIfInBounds_toArray, List.set_cons_zero, List.set_cons_succ]
            iterate 2 (first | (refine wpAnyH_take3 (b := 17) (by repeat (first | apply Seek.a | apply Seek.b | apply Seek.c)) (by simp only [List.getElem?_toArray, List.getElem?_cons_succ, List.getElem?_cons_zero]; first | done | exact rfl) ⟨?_, by kernel_rfl, by kernel_rfl, by kernel_rfl, fun _ _ _ h => h, Or.inr ⟨by rfl, rfl⟩, hHeld, ?_⟩) | (refine wpAnyH_take3 (b := 17) (by repeat (first | apply Seek.a | apply Seek.b | apply Seek.c)) (by simp only [List.getElem?_toArray, List.getElem?_cons_succ, List.getElem?_cons_zero]; first | done | exact rfl) ⟨?_, by kernel_rfl, by kernel_rfl, by kernel_rfl, fun _ _ _ h => h, Or.inl ⟨by rfl, ?_⟩, hHeld, ?_⟩; rotate_left 1; (first | (intro w9 h9; (with_reducible show (execOp _ (Oper.mk _ (Op.load _ _) _ _ _ _)).run _ _ = _); (first | (exact MemS.ldS h9 _ _ rfl _ _ rfl _ _ (by repeat (first | apply In.a | apply In.b)) (by decide +kernel) _ (by simp only [List.getElem?_toArray, List.getElem?_cons_succ, List.getElem?_cons_zero]; first | done | exact rfl)))) | focus (intro w9 hSw; go_simp; (try (with_reducible rfl)); done))); try simp only [Act.put, List.setIfInBounds_toArray, List.set_cons_zero, List.set_cons_succ])
            refine wpAnyH_done (by kernel_rfl) ?_ _
            refine NoPanic.normal ?_
            go_wp2_with fail
            rw [HBT.out] at hm
            refine bodyPost_ret (results_row_tmp_tmp rfl _ _ _ _ _ (0, 0) _ rfl (by exact hm.at_ 2 rfl) Try.underlying54 rfl (by kernel_rfl)) rfl ?_
            have hfar := HO6.out
            refine ⟨tlit true false false cla ins p1 p2 A6 dn c6 le (Tz.byte ins) (Te.p3of ⟨cla, ins, p1, p2, d, le⟩) false false 0 0 none 0 0 0, some ⟨n5, 0, none⟩, 5, ?_, ⟨A6, c6, none, 0, ?_, ?_, ⟨rfl, Nat.le_refl _, Row.nil _ _ _⟩⟩, fun F _ => Far.ofT (fun hn a e => Or.inr (hfar hn a e)) (fun hn => absurd hn (Nat.lt_irrefl 0)), hm.own_ 1 rfl, hm.low⟩
            · unfold tlit; rw [HI3.out, HP3.out]; rfl
            · show tlit _ _ _ _ _ _ _ A6 dn c6 _ _ _ _ _ _ _ _ _ _ _ = tlit _ _ _ _ _ _ _ A6 d.length c6 _ _ _ _ _ _ _ _ _ _ _; rw [HDL.out]; rfl
            · show Byt _ _ A6 d.length c6 d; rw [HDL.out]; exact (hm.sl_ 0 rfl).byt (Nat.le_refl _)
/-- A response of the reference comes out, or none. -/
def RRpRes (w : World) (t : Te.T) (e : Ending) (w' : World) : Prop :=
  ∃ A c, e = .returned (.tuple #[.agg #[.slice A (if t.done = true then t.data.length else 0) c, .int .i64 (if t.done = true then t.sw else 0)], .bool t.done]) ∧ Byt w' w'.heap.size A (if t.done = true then t.data.length else 0) c (if t.done = true then t.data else []) ∧ Below w.heap.size w w'
set_option maxRecDepth 100000 in
theorem ref07_TResponse (cs : Array Value) (t : Te.T) (w0 : World) (H : RTAt w0 t cs) :
    Calls Try.prog 27 #[.agg cs] w0 (RRpRes w0 t) := by
  have hm : Mem (fun _ => False) w0 w0 [] [] := Mem.nil _ w0
  obtain ⟨da, dc', ka, kc, rfl, hd, hk⟩ := H
  have HK : Hid (∀ u : World, Below w0.heap.size w0 u → Byt u u.heap.size ka t.data.length kc t.data) := by show ∀ u, _; intro u h; exact (hk.below h).more h.size
  show Calls Try.prog 27 #[.agg #[.bool t.act, .bool t.done, .bool t.bad, .int .i64 t.cmd.cla, .int .i64 t.cmd.ins, .int .i64 t.cmd.p1, .int .i64 t.cmd.p2, .slice da t.cmd.d.length dc', .int .i64 t.cmd.le, .bool false, .int .u8 (t.ins.toNat : Int), .int .u8 (t.p3.toNat : Int), .bool t.more, .bool t.moved, .int .i64 (t.need : Int), .int .u8 (t.first.toNat : Int), .slice ka t.data.length kc, .int .i64 t.sw]] w0 _
  unfold RRpRes
  clear hd hk
  cases hd : t.done with
  | true =>
    rw [if_pos rfl, if_pos rfl, if_pos rfl]
    clear hd
    go_enter Try.func27, Try.ntmps27
    go_wp2_with (first | go_skip | ((with_reducible show wpList _ _ _ _ _ (World.alloc _ _)); refine wpList_up hm ?_; clear hm; intro n w hn hn2 hk hm hd hd2 ho; (try rw [← hn]); replace hn := Nat.le_of_eq hn.symm) | ((first | ((with_reducible show wpList _ _ _ (Oper.mk _ (Op.box _ _) _ _ _ _ :: _) _ _); (refine wpList_bx (by rfl) _ _ rfl _ (by simp only [Act.eval, Array.getD_eq_getD_getElem?, List.getElem?_toArray, List.getElem?_cons_succ, List.getElem?_cons_zero, Option.getD_some]; first | done | exact rfl) _ (by simp only [Value.cells]; first | done | exact rfl) hm ?_; clear hm; intro n w hn hz hm ho; (try simp only [List.cons_append, List.nil_append] at hm))) | ((with_reducible show wpList _ _ _ (Oper.mk _ (Op.load _ _) _ _ _ _ :: _) _ _); first | (refine wpList_ldS (by rfl) _ _ rfl _ _ rfl hm _ _ (by repeat (first | apply In.a | apply In.b)) (by decide +kernel) _ (by simp only [List.getElem?_toArray, List.getElem?_cons_succ, List.getElem?_cons_zero]; first | done | exact rfl) ?_) | (refine wpList_laS (by rfl) _ _ rfl _ _ rfl hm _ _ (by repeat (first | apply In.a | apply In.b)) (by kernel_rfl) _ (by rfl) (by kernel_rfl) (by simp) _ (by simp only [List.toList_toArray, List.drop_succ_cons, List.drop_zero, List.size_toArray, List.length_cons, List.length_nil, Nat.reduceAdd, List.take_succ_cons, List.take_zero]; first | done | exact rfl) ?_)) | ((with_reducible show wpList _ _ _ (Oper.mk _ (Op.store _ _ _) _ _ _ _ :: _) _ _); (refine wpList_stS (by rfl) _ _ _ rfl _ _ rfl _ (by simp only [Act.eval, Array.getD_eq_getD_getElem?, List.getElem?_toArray, List.getElem?_cons_succ, List.getElem?_cons_zero, Option.getD_some]; first | done | exact rfl) hm _ (by simp only [Value.cells]; first | done | exact rfl) _ _ _ _ (by repeat (first | apply Put.a | apply Put.b)) (by kernel_rfl) (by simp [Value.oneCell']) (by simp) (by simp only [List.set_cons_zero, List.set_cons_succ, spl, List.toList_toArray, List.size_toArray, List.length_cons, List.length_nil, Nat.reduceAdd, Nat.zero_add, List.take_succ_cons, List.take_zero, List.drop_succ_cons, List.drop_zero, List.drop_nil, List.cons_append, List.nil_append, List.append_nil]; first | done | exact rfl) ?_; clear hm; intro w hz hm ho)) | ((with_reducible show wpList _ _ _ (Oper.mk _ (Op.alloc _) _ _ _ _ :: _) _ _); (refine wpList_al (by rfl) _ rfl _ rfl _ (by simp only [Value.cells]; first | done | exact rfl) hm ?_; clear hm; intro n w hn hz hm ho; (try simp only [List.cons_append, List.nil_append] at hm)))); try simp only [Act.put, List.setIfInBounds_toArray, List.set_cons_zero, List.set_cons_succ]))
    refine bodyPost_ret (results_row_tmp rfl _ _ _ _ _ (0, 0) _ rfl (by exact hm.at_ 1 rfl) Try.underlying42 rfl (by kernel_rfl)) rfl ?_
    exact ⟨ka, kc, rfl, HK.out _ hm.low, hm.low⟩
  | false =>
    rw [if_neg (by simp), if_neg (by simp), if_neg (by simp)]
    clear hd
    go_enter Try.func27, Try.ntmps27
    go_wp2_with (first | go_skip | ((with_reducible show wpList _ _ _ _ _ (World.alloc _ _)); refine wpList_up hm ?_; clear hm; intro n w hn hn2 hk hm hd hd2 ho; (try rw [← hn]); replace hn := Nat.le_of_eq hn.symm) | ((first | ((with_reducible show wpList _ _ _ (Oper.mk _ (Op.box _ _) _ _ _ _ :: _) _ _); (refine wpList_bx (by rfl) _ _ rfl _ (by simp only [Act.eval, Array.getD_eq_getD_getElem?, List.getElem?_toArray, List.getElem?_cons_succ, List.getElem?_cons_zero, Option.getD_some]; first | done | exact rfl) _ (by simp only [Value.cells]; first | done | exact rfl) hm ?_; clear hm; intro n w hn hz hm ho; (try simp only [List.cons_append, List.nil_append] at hm))) | ((with_reducible show wpList _ _ _ (Oper.mk _ (Op.load _ _) _ _ _ _ :: _) _ _); first | (refine wpList_ldS (by rfl) _ _ rfl _ _ rfl hm _ _ (by repeat (first | apply In.a | apply In.b)) (by decide +kernel) _ (by simp only [List.getElem?_toArray, List.getElem?_cons_succ, List.getElem?_cons_zero]; first | done | exact rfl) ?_) | (refine wpList_laS (by rfl) _ _ rfl _ _ rfl hm _ _ (by repeat (first | apply In.a | apply In.b)) (by kernel_rfl) _ (by rfl) (by kernel_rfl) (by simp) _ (by simp only [List.toList_toArray, List.drop_succ_cons, List.drop_zero, List.size_toArray, List.length_cons, List.length_nil, Nat.reduceAdd, List.take_succ_cons, List.take_zero]; first | done | exact rfl) ?_)) | ((with_reducible show wpList _ _ _ (Oper.mk _ (Op.store _ _ _) _ _ _ _ :: _) _ _); (refine wpList_stS (by rfl) _ _ _ rfl _ _ rfl _ (by simp only [Act.eval, Array.getD_eq_getD_getElem?, List.getElem?_toArray, List.getElem?_cons_succ, List.getElem?_cons_zero, Option.getD_some]; first | done | exact rfl) hm _ (by simp only [Value.cells]; first | done | exact rfl) _ _ _ _ (by repeat (first | apply Put.a | apply Put.b)) (by kernel_rfl) (by simp [Value.oneCell']) (by simp) (by simp only [List.set_cons_zero, List.set_cons_succ, spl, List.toList_toArray, List.size_toArray, List.length_cons, List.length_nil, Nat.reduceAdd, Nat.zero_add, List.take_succ_cons, List.take_zero, List.drop_succ_cons, List.drop_zero, List.drop_nil, List.cons_append, List.nil_append, List.append_nil]; first | done | exact rfl) ?_; clear hm; intro w hz hm ho)) | ((with_reducible show wpList _ _ _ (Oper.mk _ (Op.alloc _) _ _ _ _ :: _) _ _); (refine wpList_al (by rfl) _ rfl _ rfl _ (by simp only [Value.cells]; first | done | exact rfl) hm ?_; clear hm; intro n w hn hz hm ho; (try simp only [List.cons_append, List.nil_append] at hm)))); try simp only [Act.put, List.setIfInBounds_toArray, List.set_cons_zero, List.set_cons_succ]))
    refine bodyPost_ret (results_row_tmp rfl _ _ _ _ _ (0, 0) _ rfl (by exact hm.at_ 1 rfl) Try.underlying42 rfl (by kernel_rfl)) rfl ?_
    exact ⟨none, 0, rfl, ⟨rfl, Nat.le_refl _, Row.nil _ _ _⟩, hm.low⟩
set_option maxRecDepth 100000 in
theorem ref07_TFailed (cs : Array Value) (t : Te.T) (w0 : World) (H : RTAt w0 t cs) :
    Calls Try.prog 30 #[.agg cs] w0 fun e w' => e = .returned (.int .i64 (if t.bad = true then 28 else 0)) ∧ Below w0.heap.size w0 w' := by
  have hm : Mem (fun _ => False) w0 w0 [] [] := Mem.nil _ w0
  obtain ⟨da, dc', ka, kc, rfl, hd, hk⟩ := H
  show Calls Try.prog 30 #[.agg #[.bool t.act, .bool t.done, .bool t.bad, .int .i64 t.cmd.cla, .int .i64 t.cmd.ins, .int .i64 t.cmd.p1, .int .i64 t.cmd.p2, .slice da t.cmd.d.length dc', .int .i64 t.cmd.le, .bool false, .int .u8 (t.ins.toNat : Int), .int .u8 (t.p3.toNat : Int), .bool t.more, .bool t.moved, .int .i64 (t.need : Int), .int .u8 (t.first.toNat : Int), .slice ka t.data.length kc, .int .i64 t.sw]] w0 _
  clear hd hk
  generalize t.bad = bd at *
  cases bd
  all_goals
    go_enter Try.func30, Try.ntmps30
    go_wp2_with (first | go_skip | ((with_reducible show wpList _ _ _ _ _ (World.alloc _ _)); refine wpList_up hm ?_; clear hm; intro n w hn hn2 hk hm hd hd2 ho; (try rw [← hn]); replace hn := Nat.le_of_eq hn.symm) | ((first | ((with_reducible show wpList _ _ _ (Oper.mk _ (Op.box _ _) _ _ _ _ :: _) _ _); (refine wpList_bx (by rfl) _ _ rfl _ (by simp only [Act.eval, Array.getD_eq_getD_getElem?, List.getElem?_toArray, List.getElem?_cons_succ, List.getElem?_cons_zero, Option.getD_some]; first | done | exact rfl) _ (by simp only [Value.cells]; first | done | exact rfl) hm ?_; clear hm; intro n w hn hz hm ho; (try simp only [List.cons_append, List.nil_append] at hm))) | ((with_reducible show wpList _ _ _ (Oper.mk _ (Op.load _ _) _ _ _ _ :: _) _ _); first | (refine wpList_ldS (by rfl) _ _ rfl _ _ rfl hm _ _ (by repeat (first | apply In.a | apply In.b)) (by decide +kernel) _ (by simp only [List.getElem?_toArray, List.getElem?_cons_succ, List.getElem?_cons_zero]; first | done | exact rfl) ?_) | (refine wpList_laS (by rfl) _ _ rfl _ _ rfl hm _ _ (by repeat (first | apply In.a | apply In.b)) (by kernel_rfl) _ (by rfl) (by kernel_rfl) (by simp) _ (by simp only [List.toList_toArray, List.drop_succ_cons, List.drop_zero, List.size_toArray, List.length_cons, List.length_nil, Nat.reduceAdd, List.take_succ_cons, List.take_zero]; first | done | exact rfl) ?_)) | ((with_reducible show wpList _ _ _ (Oper.mk _ (Op.store _ _ _) _ _ _ _ :: _) _ _); (refine wpList_stS (by rfl) _ _ _ rfl _ _ rfl _ (by simp only [Act.eval, Array.getD_eq_getD_getElem?, List.getElem?_toArray, List.getElem?_cons_succ, List.getElem?_cons_zero, Option.getD_some]; first | done | exact rfl) hm _ (by simp only [Value.cells]; first | done | exact rfl) _ _ _ _ (by repeat (first | apply Put.a | apply Put.b)) (by kernel_rfl) (by simp [Value.oneCell']) (by simp) (by simp only [List.set_cons_zero, List.set_cons_succ, spl, List.toList_toArray, List.size_toArray, List.length_cons, List.length_nil, Nat.reduceAdd, Nat.zero_add, List.take_succ_cons, List.take_zero, List.drop_succ_cons, List.drop_zero, List.drop_nil, List.cons_append, List.nil_append, List.append_nil]; first | done | exact rfl) ?_; clear hm; intro w hz hm ho)) | ((with_reducible show wpList _ _ _ (Oper.mk _ (Op.alloc _) _ _ _ _ :: _) _ _); (refine wpList_al (by rfl) _ rfl _ rfl _ (by simp only [Value.cells]; first | done | exact rfl) hm ?_; clear hm; intro n w hn hz hm ho; (try simp only [List.cons_append, List.nil_append] at hm)))); try simp only [Act.put, List.setIfInBounds_toArray, List.set_cons_zero, List.set_cons_succ]))
    go_ret
    exact ⟨rfl, hm.low⟩
end Go.Proofs.Ytpacdjkikbdkeaa
