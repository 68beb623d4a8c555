/-
  The terminal's reference: Receive.
-/
import Derived.Test.YtpacdjkikbdkeaaZ0
import Derived.Test.YtpacdjkikbdkeaaTeS
namespace Go.Proofs.Ytpacdjkikbdkeaa
set_option maxRecDepth 100000
set_option linter.unusedSimpArgs false
set_option linter.unusedVariables false
open Go.RowKit
set_option maxHeartbeats 8000000

/-- The loop of Receive: after k bytes. -/
def RTInv (w0 : World) (nc nr : Nat) (s : Te.T) (bs : List UInt8) (cs0 : Array Value) (n g : Nat) (v6 v7 : Value) (wr : World) : Prop :=
  ∃ (k : Nat) (st : Te.T) (X : List UInt8) (cs1 : Array Value) (A1 : Option Addr) (c1 : Nat), k + g = n ∧ v7 = .int .i64 k ∧ Te.recv s (bs.take k) = (st, X) ∧ v6 = .slice A1 X.length c1 ∧
    Mem (fun _ => False) w0 wr [⟨nc, 54, cs1⟩, ⟨nr, 54, #[.bool false, .bool false, .bool false, .int .i64 0, .int .i64 0, .int .i64 0, .int .i64 0, .slice none 0 0, .int .i64 0, .bool false, .int .u8 0, .int .u8 0, .bool false, .bool false, .int .i64 0, .int .u8 0, .slice none 0 0, .int .i64 0]⟩] [⟨5, 1, A1, X.length, c1, bcells X⟩] ∧
    RTAt wr st cs1 ∧ ∀ F, Far F cs0 → Far (fun q => F q ∨ (w0.heap.size ≤ q ∧ q ≠ nc ∧ q ≠ nr)) cs1
set_option maxRecDepth 100000 in
theorem ref07_TReceive (cs : Array Value) (t : Te.T) (w0 : World) (H : RTAt w0 t cs) (hok : Te.Ok t) (hdl : t.data.length ≤ 50000000) (A : Option Addr) (dn c : Nat) (bs : List UInt8) (hb : Byt w0 w0.heap.size A dn c bs) (hdn : dn ≤ 1000000) :
    Calls Try.prog 25 #[.agg cs, .slice A dn c] w0 (RTRes cs w0 (Te.recv t bs).1 (Te.recv t bs).2) := by
  have hm : Mem (fun _ => False) w0 w0 [] [] := Mem.nil _ w0
  have HL0 := Lib.hid H.far_low
  have HH := Lib.hid H
  have HB := Lib.hid hb
  obtain ⟨da, dc, ka, kc, rfl, hd, hk⟩ := H
  have hlen := Lib.hid hb.1
  have hnc := hb.2.1
  clear hd hk hb
  show Calls Try.prog 25 #[.agg #[.bool t.act, .bool t.done, .bool t.bad, .int .i64 t.cmd.cla, .int .i64 t.cmd.ins, .int .i64 t.cmd.p1, .int .i64 t.cmd.p2, .slice da t.cmd.d.length dc, .int .i64 t.cmd.le, .bool false, .int .u8 (t.ins.toNat : Int), .int .u8 (t.p3.toNat : Int), .bool t.more, .bool t.moved, .int .i64 (t.need : Int), .int .u8 (t.first.toNat : Int), .slice ka t.data.length kc, .int .i64 t.sw], .slice A dn c] w0 _
  go_enter Try.func25, Try.ntmps25
  go_wp2_with (first | go_skip | ((with_reducible show wpList _ _ _ _ _ (World.alloc _ _)); refine wpList_up hm ?_; clear hm; intro n w hn hn2 hk hm hd hd2 ho; (try rw [← hn]); replace hn := Nat.le_of_eq hn.symm) | ((first | ((with_reducible show wpList _ _ _ (Oper.mk _ (Op.box _ _) _ _ _ _ :: _) _ _); (refine wpList_bx (by rfl) _ _ rfl _ (by simp only [Act.eval, Array.getD_eq_getD_getElem?, List.getElem?_toArray, List.getElem?_cons_succ, List.getElem?_cons_zero, Option.getD_some]; first | done | exact rfl) _ (by simp only [Value.cells]; first | done | exact rfl) hm ?_; clear hm; intro n w hn hz hm ho; (try simp only [List.cons_append, List.nil_append] at hm))) | ((with_reducible show wpList _ _ _ (Oper.mk _ (Op.load _ _) _ _ _ _ :: _) _ _); first | (refine wpList_ldS (by rfl) _ _ rfl _ _ rfl hm _ _ (by repeat (first | apply In.a | apply In.b)) (by decide +kernel) _ (by simp only [List.getElem?_toArray, List.getElem?_cons_succ, List.getElem?_cons_zero]; first | done | exact rfl) ?_) | (refine wpList_laS (by rfl) _ _ rfl _ _ rfl hm _ _ (by repeat (first | apply In.a | apply In.b)) (by kernel_rfl) _ (by rfl) (by kernel_rfl) (by simp) _ (by simp only [List.toList_toArray, List.drop_succ_cons, List.drop_zero, List.size_toArray, List.length_cons, List.length_nil, Nat.reduceAdd, List.take_succ_cons, List.take_zero]; first | done | exact rfl) ?_)) | ((with_reducible show wpList _ _ _ (Oper.mk _ (Op.store _ _ _) _ _ _ _ :: _) _ _); (refine wpList_stS (by rfl) _ _ _ rfl _ _ rfl _ (by simp only [Act.eval, Array.getD_eq_getD_getElem?, List.getElem?_toArray, List.getElem?_cons_succ, List.getElem?_cons_zero, Option.getD_some]; first | done | exact rfl) hm _ (by simp only [Value.cells]; first | done | exact rfl) _ _ _ _ (by repeat (first | apply Put.a | apply Put.b)) (by kernel_rfl) (by simp [Value.oneCell']) (by simp) (by simp only [List.set_cons_zero, List.set_cons_succ, spl, List.toList_toArray, List.size_toArray, List.length_cons, List.length_nil, Nat.reduceAdd, Nat.zero_add, List.take_succ_cons, List.take_zero, List.drop_succ_cons, List.drop_zero, List.drop_nil, List.cons_append, List.nil_append, List.append_nil]; first | done | exact rfl) ?_; clear hm; intro w hz hm ho)) | ((with_reducible show wpList _ _ _ (Oper.mk _ (Op.alloc _) _ _ _ _ :: _) _ _); (refine wpList_al (by rfl) _ rfl _ rfl _ (by simp only [Value.cells]; first | done | exact rfl) hm ?_; clear hm; intro n w hn hz hm ho; (try simp only [List.cons_append, List.nil_append] at hm)))); try simp only [Act.put, List.setIfInBounds_toArray, List.set_cons_zero, List.set_cons_succ]))
  obtain ⟨nc, h9⟩ := hm.nm 0 rfl
  dsimp only at h9
  subst h9
  obtain ⟨nr, h9⟩ := hm.nm 1 rfl
  dsimp only at h9
  subst h9
  go_loopg [6, 7] dn (fun g v6 v7 wr => RTInv w0 nc nr t bs _ dn g v6 v7 wr)
  case atStart => exact ⟨0, t, [], _, none, 0, by omega, rfl, rfl, rfl, hm.empty _ _ _, HH.out.below (hm.only.below (Nat.le_refl _) (fun _ _ e => e)), fun F hF => hF.mono fun _ h => .inl h⟩
  case round =>
    obtain ⟨k, st, X, cs1, A1, c1, hk, rfl, hst, rfl, hm0, HR, HF0⟩ := hrel
    have hok1 : Te.Ok st := by have := hok.recv (bs.take k); rw [hst] at this; exact this
    have htl : (bs.take k).length ≤ bs.length := by rw [List.length_take]; omega
    have hX := Te.recv_len hok (bs.take k)
    have hD := Te.recv_data t (bs.take k)
    rw [hst] at hX hD
    have hl1 := hlen.out
    have hX2 : X.length ≤ 255 * 1000000 := by
      have hX : X.length ≤ 255 * (bs.take k).length := hX
      omega
    have hD2 : st.data.length ≤ 100000000 := by
      have hD : st.data.length ≤ t.data.length + (bs.take k).length := hD
      omega
    clear hX hD htl hl1
    have HSD := Lib.hid (rinv_side hm0)
    have HF := Lib.hid HF0
    have HR1 := Lib.hid HR
    clear HF0
    have HM0 := Lib.hid hm0
    clear hm0
    cases gk with
    | zero =>
      have hm := HM0.out.rebase
      obtain rfl : k = dn := by omega
      obtain ⟨ja, jc, ha, hc, rfl, hr1, hr2⟩ := HR
      clear hr1 hr2
      have hall : bs.take k = bs := List.take_of_length_le (Nat.le_of_eq hlen.out)
      rw [hall] at hst
      have HST := Lib.hid hst
      clear hst hall
      simp only [tlit] at hm
      go_wp2_with (first | go_skip | ((with_reducible show wpList _ _ _ _ _ (World.alloc _ _)); refine wpList_up hm ?_; clear hm; intro n w hn hn2 hk hm hd hd2 ho; (try rw [← hn]); replace hn := Nat.le_of_eq hn.symm) | ((first | ((with_reducible show wpList _ _ _ (Oper.mk _ (Op.box _ _) _ _ _ _ :: _) _ _); (refine wpList_bx (by rfl) _ _ rfl _ (by simp only [Act.eval, Array.getD_eq_getD_getElem?, List.getElem?_toArray, List.getElem?_cons_succ, List.getElem?_cons_zero, Option.getD_some]; first | done | exact rfl) _ (by simp only [Value.cells]; first | done | exact rfl) hm ?_; clear hm; intro n w hn hz hm ho; (try simp only [List.cons_append, List.nil_append] at hm))) | ((with_reducible show wpList _ _ _ (Oper.mk _ (Op.load _ _) _ _ _ _ :: _) _ _); first | (refine wpList_ldS (by rfl) _ _ rfl _ _ rfl hm _ _ (by repeat (first | apply In.a | apply In.b)) (by decide +kernel) _ (by simp only [List.getElem?_toArray, List.getElem?_cons_succ, List.getElem?_cons_zero]; first | done | exact rfl) ?_) | (refine wpList_laS (by rfl) _ _ rfl _ _ rfl hm _ _ (by repeat (first | apply In.a | apply In.b)) (by kernel_rfl) _ (by rfl) (by kernel_rfl) (by simp) _ (by simp only [List.toList_toArray, List.drop_succ_cons, List.drop_zero, List.size_toArray, List.length_cons, List.length_nil, Nat.reduceAdd, List.take_succ_cons, List.take_zero]; first | done | exact rfl) ?_)) | ((with_reducible show wpList _ _ _ (Oper.mk _ (Op.store _ _ _) _ _ _ _ :: _) _ _); (refine wpList_stS (by rfl) _ _ _ rfl _ _ rfl _ (by simp only [Act.eval, Array.getD_eq_getD_getElem?, List.getElem?_toArray, List.getElem?_cons_succ, List.getElem?_cons_zero, Option.getD_some]; first | done | exact rfl) hm _ (by simp only [Value.cells]; first | done | exact rfl) _ _ _ _ (by repeat (first | apply Put.a | apply Put.b)) (by kernel_rfl) (by simp [Value.oneCell']) (by simp) (by simp only [List.set_cons_zero, List.set_cons_succ, spl, List.toList_toArray, List.size_toArray, List.length_cons, List.length_nil, Nat.reduceAdd, Nat.zero_add, List.take_succ_cons, List.take_zero, List.drop_succ_cons, List.drop_zero, List.drop_nil, List.cons_append, List.nil_append, List.append_nil]; first | done | exact rfl) ?_; clear hm; intro w hz hm ho)) | ((with_reducible show wpList _ _ _ (Oper.mk _ (Op.alloc _) _ _ _ _ :: _) _ _); (refine wpList_al (by rfl) _ rfl _ rfl _ (by simp only [Value.cells]; first | done | exact rfl) hm ?_; clear hm; intro n w hn hz hm ho; (try simp only [List.cons_append, List.nil_append] at hm)))); try simp only [Act.put, List.setIfInBounds_toArray, List.set_cons_zero, List.set_cons_succ]))
      refine bodyPost_ret (results_row_tmp rfl _ _ _ _ _ (0, 0) _ rfl (by exact hm.at_ 1 rfl) Try.underlying54 rfl (by kernel_rfl)) rfl ?_
      rw [HST.out]
      have HMb := HM0.out.backO hm
      exact ⟨_, A1, c1, rfl, HR1.out.far (HF.out _ HL0.out) hm.only (fun q _ h => HSD.out q h), fun F hF => (HF.out F hF).mono (fun q h => h.imp id And.left), HMb.own_ 0 rfl, HMb.low⟩
    | succ g =>
      have hm := HM0.out
      have hkn : k < dn := by omega
      have hbw := (HB.out.below HM0.out.low).more HM0.out.only.size
      obtain ⟨b, o, rfl, hbb⟩ := hbw.at_ (by omega)
      have htake : bs.take (k + 1) = bs.take k ++ [bs.getD k 0] := by
        have hlt : k < bs.length := by rw [hlen.out]; exact hkn
        rw [List.take_succ_eq_append_getElem hlt]; simp [List.getD, List.getElem?_eq_getElem hlt]
      have HS0 : Te.recv t (bs.take (k + 1)) = ((Te.step st (bs.getD k 0)).1, X ++ (Te.step st (bs.getD k 0)).2) := by rw [htake, Te.recv_snoc, hst]
      have HB0a : ∀ u : World, Below w0.heap.size w0 u → u.cell? ⟨b, o + k, none⟩ = some (B8 (bs.getD k 0)) := fun u h => (HB.out.below h).2.2.byte k (by rw [hlen.out]; exact hkn)
      have B0 := Lib.hid HB0a
      have hM2 := Te.step_len hok1 (bs.getD k 0)
      have HON0 := fun (cs : Array Value) (u : World) (h : RTAt u st cs) => ref07_one cs st (bs.getD k 0) u h hok1 hD2
      have HON := Lib.hid HON0
      obtain ⟨ja, jc, ha, hc, rfl, hr1, hr2⟩ := HR
      clear hr1 hr2 HB0a HON0
      generalize Te.step st (bs.getD k 0) = M at *
      have HS := Lib.hid HS0
      clear HS0 htake
      simp only [tlit] at hm
      have i1 : (0 : Int) ≤ (k : Int) := by omega
      have i2 : (k : Int) < (dn : Int) := by omega
      go_wp2_with (first | go_skip | ((with_reducible show wpList _ _ _ _ _ (World.alloc _ _)); refine wpList_up hm ?_; clear hm; intro n w hn hn2 hk hm hd hd2 ho; (try rw [← hn]); replace hn := Nat.le_of_eq hn.symm) | ((first | ((with_reducible show wpList _ _ _ (Oper.mk _ (Op.box _ _) _ _ _ _ :: _) _ _); (refine wpList_bx (by rfl) _ _ rfl _ (by simp only [Act.eval, Array.getD_eq_getD_getElem?, List.getElem?_toArray, List.getElem?_cons_succ, List.getElem?_cons_zero, Option.getD_some]; first | done | exact rfl) _ (by simp only [Value.cells]; first | done | exact rfl) hm ?_; clear hm; intro n w hn hz hm ho; (try simp only [List.cons_append, List.nil_append] at hm))) | ((with_reducible show wpList _ _ _ (Oper.mk _ (Op.load _ _) _ _ _ _ :: _) _ _); first | (refine wpList_ldS (by rfl) _ _ rfl _ _ rfl hm _ _ (by repeat (first | apply In.a | apply In.b)) (by decide +kernel) _ (by simp only [List.getElem?_toArray, List.getElem?_cons_succ, List.getElem?_cons_zero]; first | done | exact rfl) ?_) | (refine wpList_laS (by rfl) _ _ rfl _ _ rfl hm _ _ (by repeat (first | apply In.a | apply In.b)) (by kernel_rfl) _ (by rfl) (by kernel_rfl) (by simp) _ (by simp only [List.toList_toArray, List.drop_succ_cons, List.drop_zero, List.size_toArray, List.length_cons, List.length_nil, Nat.reduceAdd, List.take_succ_cons, List.take_zero]; first | done | exact rfl) ?_)) | ((with_reducible show wpList _ _ _ (Oper.mk _ (Op.store _ _ _) _ _ _ _ :: _) _ _); (refine wpList_stS (by rfl) _ _ _ rfl _ _ rfl _ (by simp only [Act.eval, Array.getD_eq_getD_getElem?, List.getElem?_toArray, List.getElem?_cons_succ, List.getElem?_cons_zero, Option.getD_some]; first | done | exact rfl) hm _ (by simp only [Value.cells]; first | done | exact rfl) _ _ _ _ (by repeat (first | apply Put.a | apply Put.b)) (by kernel_rfl) (by simp [Value.oneCell']) (by simp) (by simp only [List.set_cons_zero, List.set_cons_succ, spl, List.toList_toArray, List.size_toArray, List.length_cons, List.length_nil, Nat.reduceAdd, Nat.zero_add, List.take_succ_cons, List.take_zero, List.drop_succ_cons, List.drop_zero, List.drop_nil, List.cons_append, List.nil_append, List.append_nil]; first | done | exact rfl) ?_; clear hm; intro w hz hm ho)) | ((with_reducible show wpList _ _ _ (Oper.mk _ (Op.alloc _) _ _ _ _ :: _) _ _); (refine wpList_al (by rfl) _ rfl _ rfl _ (by simp only [Value.cells]; first | done | exact rfl) hm ?_; clear hm; intro n w hn hz hm ho; (try simp only [List.cons_append, List.nil_append] at hm)))); try simp only [Act.put, List.setIfInBounds_toArray, List.set_cons_zero, List.set_cons_succ]))
      refine wp_region_noPanic ?_
      refine wp_region_held_drew (S := MemS _ _ _ _) (by kernel_rfl) (MemS.of hm.drew) (fun hHeld => ?_)
      refine wpAnyH_fresh (by repeat (first | apply Fresh.a | apply Fresh.b)) ?_
      replace hm := hm.drew
      iterate 5 (first | (refine wpAnyH_take3 (b := 0) (by repeat (first | apply Seek.a | apply Seek.b | apply Seek.c)) (by simp only [List.getElem?_toArray, List.getElem?_cons_succ, List.getElem?_cons_zero]; first | done | exact rfl) ⟨?_, by kernel_rfl, by kernel_rfl, by kernel_rfl, fun _ _ _ h => h, Or.inr ⟨by rfl, rfl⟩, hHeld, ?_⟩) | (refine wpAnyH_take3 (b := 0) (by repeat (first | apply Seek.a | apply Seek.b | apply Seek.c)) (by simp only [List.getElem?_toArray, List.getElem?_cons_succ, List.getElem?_cons_zero]; first | done | exact rfl) ⟨?_, by kernel_rfl, by kernel_rfl, by kernel_rfl, fun _ _ _ h => h, Or.inl ⟨by rfl, ?_⟩, hHeld, ?_⟩; rotate_left 1; (first | (intro w9 h9; (with_reducible show (execOp _ (Oper.mk _ (Op.load _ _) _ _ _ _)).run _ _ = _); (first | (exact MemS.ldS h9 _ _ rfl _ _ rfl _ _ (by repeat (first | apply In.a | apply In.b)) (by decide +kernel) _ (by simp only [List.getElem?_toArray, List.getElem?_cons_succ, List.getElem?_cons_zero]; first | done | exact rfl)) | (exact exec_lc _ _ rfl _ rfl (by decide +kernel) _ (B0.out _ (MemS.mem h9).low) _ (by first | done | exact rfl)) | (exact MemS.laS h9 _ _ rfl _ _ rfl _ _ (by repeat (first | apply In.a | apply In.b)) (by kernel_rfl) _ (by rfl) (by kernel_rfl) (by simp) _ (by simp only [List.toList_toArray, List.drop_succ_cons, List.drop_zero, List.size_toArray, List.length_cons, List.length_nil, Nat.reduceAdd, List.take_succ_cons, List.take_zero]; first | done | exact rfl)))) | focus (intro w9 hSw; go_simp; (try (with_reducible rfl)); done))); try simp only [Act.put, List.setIfInBounds_toArray, List.set_cons_zero, List.set_cons_succ])
      refine wpAnyH_ready (rs := [5, 9]) (by kernel_rfl) (by simp) ?_
      refine AllReadyH.cons3 (by simp only [List.getElem?_toArray, List.getElem?_cons_succ, List.getElem?_cons_zero]; first | done | exact rfl) (fun K hK => ?_) (AllReadyH.cons2 (by simp only [List.getElem?_toArray, List.getElem?_cons_succ, List.getElem?_cons_zero]; first | done | exact rfl) (fun K hK => ?_))
      · skip
        rw [if_pos (by rfl)]
        go_simp
        refine (HON.out _ _ (by exact HR1.out)).mono ?_
        rintro e w5 ⟨cs5, A5, c5, rfl, hr5, hfar5, hown, hbl⟩
        have HF5 := Lib.hid hfar5
        have HWC := Lib.hid hm.only.size
        have HS5 : Hid (nc < wr.heap.size ∧ nr < wr.heap.size ∧ w0.heap.size ≤ wr.heap.size) := ⟨(Mem.at_ hm 0 rfl).lt, (Mem.at_ hm 1 rfl).lt, hm.only.size⟩
        clear hfar5
        replace hm := hm.got hbl hown
        clear hown
        have HL5 := Lib.hid hr5.far_low
        have HR5 := Lib.hid hr5
        obtain ⟨ja5, jc5, ka5, kc5, rfl, q1, q2⟩ := hr5
        clear q1 q2
        simp only [tlit]
        go_simp
        refine hK.out _ _ (MemS.of hm.less) (fun hHeld => ?_)
        clear hK K
        try simp only [Act.put, List.setIfInBounds_toArray, List.set_cons_zero, List.set_cons_succ]
        iterate 3 (first | (refine wpAnyH_take3 (b := 6) (by repeat (first | apply Seek.a | apply Seek.b | apply Seek.c)) (by simp only [List.getElem?_toArray, List.getElem?_cons_succ, List.getElem?_cons_zero]; first | done | exact rfl) ⟨?_, by kernel_rfl, by kernel_rfl, by kernel_rfl, fun _ _ _ h => h, Or.inr ⟨by rfl, rfl⟩, hHeld, ?_⟩) | (refine wpAnyH_take3 (b := 6) (by repeat (first | apply Seek.a | apply Seek.b | apply Seek.c)) (by simp only [List.getElem?_toArray, List.getElem?_cons_succ, List.getElem?_cons_zero]; first | done | exact rfl) ⟨?_, by kernel_rfl, by kernel_rfl, by kernel_rfl, fun _ _ _ h => h, Or.inl ⟨by rfl, ?_⟩, hHeld, ?_⟩; rotate_left 1; (first | (intro w9 h9; (with_reducible show (execOp _ (Oper.mk _ (Op.load _ _) _ _ _ _)).run _ _ = _); (first | (exact MemS.ldS h9 _ _ rfl _ _ rfl _ _ (by repeat (first | apply In.a | apply In.b)) (by decide +kernel) _ (by simp only [List.getElem?_toArray, List.getElem?_cons_succ, List.getElem?_cons_zero]; first | done | exact rfl)))) | focus (intro w9 hSw; go_simp; (try (with_reducible rfl)); done))); try simp only [Act.put, List.setIfInBounds_toArray, List.set_cons_zero, List.set_cons_succ])
        refine wpAnyH_ready (rs := [9]) (by kernel_rfl) (by simp) ?_
        refine AllReadyH.cons2 (by simp only [List.getElem?_toArray, List.getElem?_cons_succ, List.getElem?_cons_zero]; first | done | exact rfl) (fun K hK => ?_)
        refine step_al (by rfl) _ rfl _ rfl _ (by simp only [Value.cells]; first | done | exact rfl) hm ?_; clear hm; intro n w hn hz hm ho; (try simp only [List.cons_append, List.nil_append] at hm)
        have HN8 : Hid (w5.heap.size ≤ n) := by show _ ≤ _; exact hn
        have HB8 := Lib.hid ho
        refine hK.out _ _ (MemS.of ((hm.takeL 2).less)) (fun hHeld => ?_)
        clear hK K
        try simp only [Act.put, List.setIfInBounds_toArray, List.set_cons_zero, List.set_cons_succ]
        refine wpAnyH_ready (rs := [10]) (by kernel_rfl) (by simp) ?_
        refine AllReadyH.cons2 (by simp only [List.getElem?_toArray, List.getElem?_cons_succ, List.getElem?_cons_zero]; first | done | exact rfl) (fun K hK => ?_)
        refine step_stS (by rfl) _ _ _ rfl _ _ rfl _ (by simp only [Act.eval, Array.getD_eq_getD_getElem?, List.getElem?_toArray, List.getElem?_cons_succ, List.getElem?_cons_zero, Option.getD_some]; first | done | exact rfl) hm _ (by simp only [Value.cells]; first | done | exact rfl) _ _ _ _ (by repeat (first | apply Put.a | apply Put.b)) (by kernel_rfl) (by simp [Value.oneCell']) (by simp) (by simp only [List.set_cons_zero, List.set_cons_succ, spl, List.toList_toArray, List.size_toArray, List.length_cons, List.length_nil, Nat.reduceAdd, Nat.zero_add, List.take_succ_cons, List.take_zero, List.drop_succ_cons, List.drop_zero, List.drop_nil, List.cons_append, List.nil_append, List.append_nil]; first | done | exact rfl) ?_
        clear hm; intro w hz hm ho
        have HB9 := Lib.hid (HB8.out.trans (ho.below HB8.out.size (fun q hq e => by have e : q = n := e; have := HN8.out; omega)))
        refine hK.out _ _ (MemS.of ((hm.takeL 2).less)) (fun hHeld => ?_)
        clear hK K
        try simp only [Act.put, List.setIfInBounds_toArray, List.set_cons_zero, List.set_cons_succ]
        iterate 1 (first | (refine wpAnyH_take3 (b := 11) (by repeat (first | apply Seek.a | apply Seek.b | apply Seek.c)) (by simp only [List.getElem?_toArray, List.getElem?_cons_succ, List.getElem?_cons_zero]; first | done | exact rfl) ⟨?_, by kernel_rfl, by kernel_rfl, by kernel_rfl, fun _ _ _ h => h, Or.inr ⟨by rfl, rfl⟩, hHeld, ?_⟩) | (refine wpAnyH_take3 (b := 11) (by repeat (first | apply Seek.a | apply Seek.b | apply Seek.c)) (by simp only [List.getElem?_toArray, List.getElem?_cons_succ, List.getElem?_cons_zero]; first | done | exact rfl) ⟨?_, by kernel_rfl, by kernel_rfl, by kernel_rfl, fun _ _ _ h => h, Or.inl ⟨by rfl, ?_⟩, hHeld, ?_⟩; rotate_left 1; (first | (intro w9 h9; (with_reducible show (execOp _ (Oper.mk _ (Op.load _ _) _ _ _ _)).run _ _ = _); (first | (exact MemS.ldS h9 _ _ rfl _ _ rfl _ _ (by repeat (first | apply In.a | apply In.b)) (by decide +kernel) _ (by simp only [List.getElem?_toArray, List.getElem?_cons_succ, List.getElem?_cons_zero]; first | done | exact rfl)))) | focus (intro w9 hSw; go_simp; (try (with_reducible rfl)); done))); try simp only [Act.put, List.setIfInBounds_toArray, List.set_cons_zero, List.set_cons_succ])
        refine wpAnyH_done (by kernel_rfl) ?_ _
        refine NoPanic.normal ?_
        have HR6 : Hid (RTAt w M.1 _) := HR5.out.below HB9.out
        have HM1 := Lib.hid hm
        replace hm := hm.rebase
        go_wp2_with (first | go_skip | ((with_reducible show wpList _ _ _ _ _ (World.alloc _ _)); refine wpList_up hm ?_; clear hm; intro n w hn hn2 hk hm hd hd2 ho; (try rw [← hn]); replace hn := Nat.le_of_eq hn.symm) | ((first | ((with_reducible show wpList _ _ _ (Oper.mk _ (Op.box _ _) _ _ _ _ :: _) _ _); (refine wpList_bx (by rfl) _ _ rfl _ (by simp only [Act.eval, Array.getD_eq_getD_getElem?, List.getElem?_toArray, List.getElem?_cons_succ, List.getElem?_cons_zero, Option.getD_some]; first | done | exact rfl) _ (by simp only [Value.cells]; first | done | exact rfl) hm ?_; clear hm; intro n w hn hz hm ho; (try simp only [List.cons_append, List.nil_append] at hm))) | ((with_reducible show wpList _ _ _ (Oper.mk _ (Op.load _ _) _ _ _ _ :: _) _ _); first | (refine wpList_ldS (by rfl) _ _ rfl _ _ rfl hm _ _ (by repeat (first | apply In.a | apply In.b)) (by decide +kernel) _ (by simp only [List.getElem?_toArray, List.getElem?_cons_succ, List.getElem?_cons_zero]; first | done | exact rfl) ?_) | (refine wpList_laS (by rfl) _ _ rfl _ _ rfl hm _ _ (by repeat (first | apply In.a | apply In.b)) (by kernel_rfl) _ (by rfl) (by kernel_rfl) (by simp) _ (by simp only [List.toList_toArray, List.drop_succ_cons, List.drop_zero, List.size_toArray, List.length_cons, List.length_nil, Nat.reduceAdd, List.take_succ_cons, List.take_zero]; first | done | exact rfl) ?_)) | ((with_reducible show wpList _ _ _ (Oper.mk _ (Op.store _ _ _) _ _ _ _ :: _) _ _); (refine wpList_stS (by rfl) _ _ _ rfl _ _ rfl _ (by simp only [Act.eval, Array.getD_eq_getD_getElem?, List.getElem?_toArray, List.getElem?_cons_succ, List.getElem?_cons_zero, Option.getD_some]; first | done | exact rfl) hm _ (by simp only [Value.cells]; first | done | exact rfl) _ _ _ _ (by repeat (first | apply Put.a | apply Put.b)) (by kernel_rfl) (by simp [Value.oneCell']) (by simp) (by simp only [List.set_cons_zero, List.set_cons_succ, spl, List.toList_toArray, List.size_toArray, List.length_cons, List.length_nil, Nat.reduceAdd, Nat.zero_add, List.take_succ_cons, List.take_zero, List.drop_succ_cons, List.drop_zero, List.drop_nil, List.cons_append, List.nil_append, List.append_nil]; first | done | exact rfl) ?_; clear hm; intro w hz hm ho)) | ((with_reducible show wpList _ _ _ (Oper.mk _ (Op.alloc _) _ _ _ _ :: _) _ _); (refine wpList_al (by rfl) _ rfl _ rfl _ (by simp only [Value.cells]; first | done | exact rfl) hm ?_; clear hm; intro n w hn hz hm ho; (try simp only [List.cons_append, List.nil_append] at hm)))); try simp only [Act.put, List.setIfInBounds_toArray, List.set_cons_zero, List.set_cons_succ]))
        go_at_call 41
        refine (ref07_join A1 X.length c1 X A5 M.2.length c5 M.2 _ (by exact ((HM1.out.backO hm).sl_ 0 rfl).byt (Nat.le_refl _)) (by exact ((HM1.out.backO hm).sl_ 1 rfl).byt (Nat.le_refl _)) (by omega)).mono ?_
        intro e w9 h9
        obtain ⟨A9, c9, rfl, hown, hb9⟩ := h9.len (n := (X ++ M.2).length) rfl
        clear h9
        replace hm := hm.got hb9 hown
        clear hown
        go_wp2_with (first | go_skip | ((with_reducible show wpList _ _ _ _ _ (World.alloc _ _)); refine wpList_up hm ?_; clear hm; intro n w hn hn2 hk hm hd hd2 ho; (try rw [← hn]); replace hn := Nat.le_of_eq hn.symm) | ((first | ((with_reducible show wpList _ _ _ (Oper.mk _ (Op.box _ _) _ _ _ _ :: _) _ _); (refine wpList_bx (by rfl) _ _ rfl _ (by simp only [Act.eval, Array.getD_eq_getD_getElem?, List.getElem?_toArray, List.getElem?_cons_succ, List.getElem?_cons_zero, Option.getD_some]; first | done | exact rfl) _ (by simp only [Value.cells]; first | done | exact rfl) hm ?_; clear hm; intro n w hn hz hm ho; (try simp only [List.cons_append, List.nil_append] at hm))) | ((with_reducible show wpList _ _ _ (Oper.mk _ (Op.load _ _) _ _ _ _ :: _) _ _); first | (refine wpList_ldS (by rfl) _ _ rfl _ _ rfl hm _ _ (by repeat (first | apply In.a | apply In.b)) (by decide +kernel) _ (by simp only [List.getElem?_toArray, List.getElem?_cons_succ, List.getElem?_cons_zero]; first | done | exact rfl) ?_) | (refine wpList_laS (by rfl) _ _ rfl _ _ rfl hm _ _ (by repeat (first | apply In.a | apply In.b)) (by kernel_rfl) _ (by rfl) (by kernel_rfl) (by simp) _ (by simp only [List.toList_toArray, List.drop_succ_cons, List.drop_zero, List.size_toArray, List.length_cons, List.length_nil, Nat.reduceAdd, List.take_succ_cons, List.take_zero]; first | done | exact rfl) ?_)) | ((with_reducible show wpList _ _ _ (Oper.mk _ (Op.store _ _ _) _ _ _ _ :: _) _ _); (refine wpList_stS (by rfl) _ _ _ rfl _ _ rfl _ (by simp only [Act.eval, Array.getD_eq_getD_getElem?, List.getElem?_toArray, List.getElem?_cons_succ, List.getElem?_cons_zero, Option.getD_some]; first | done | exact rfl) hm _ (by simp only [Value.cells]; first | done | exact rfl) _ _ _ _ (by repeat (first | apply Put.a | apply Put.b)) (by kernel_rfl) (by simp [Value.oneCell']) (by simp) (by simp only [List.set_cons_zero, List.set_cons_succ, spl, List.toList_toArray, List.size_toArray, List.length_cons, List.length_nil, Nat.reduceAdd, Nat.zero_add, List.take_succ_cons, List.take_zero, List.drop_succ_cons, List.drop_zero, List.drop_nil, List.cons_append, List.nil_append, List.append_nil]; first | done | exact rfl) ?_; clear hm; intro w hz hm ho)) | ((with_reducible show wpList _ _ _ (Oper.mk _ (Op.alloc _) _ _ _ _ :: _) _ _); (refine wpList_al (by rfl) _ rfl _ rfl _ (by simp only [Value.cells]; first | done | exact rfl) hm ?_; clear hm; intro n w hn hz hm ho; (try simp only [List.cons_append, List.nil_append] at hm)))); try simp only [Act.put, List.setIfInBounds_toArray, List.set_cons_zero, List.set_cons_succ]))
        go_roundg g
        case measure => omega
        case rel =>
          obtain ⟨hs1, hs2, hs3⟩ := HS5.out
          have hmine := rinv_mine HM0.out
          refine ⟨k + 1, _, _, _, A9, c9, by omega, by go_num, HS.out, by rw [List.length_append], ((HM1.out.backO hm).takeL 2).oneO 2 rfl, HR6.out.far ((HF5.out _ (HF.out _ HL0.out)).and HL5.out) hm.only (fun q hq h h2 => ?_), fun F hF => (HF5.out _ (HF.out F hF)).mono (fun q h => rinv_up hs1 hs2 (Nat.le_refl _) hs3 h)⟩
          have h8 := HN8.out
          have hq3 : q = nc ∨ q = nr ∨ q = n := by simpa using h
          rcases hq3 with h3 | h3 | h3
          · exact rinv_far hs1 hs2 hmine (.inl h3) h2.1
          · exact rinv_far hs1 hs2 hmine (.inr h3) h2.1
          · have := h2.2; omega
      · skip
        refine step_al (by rfl) _ rfl _ rfl _ (by simp only [Value.cells]; first | done | exact rfl) hm ?_; clear hm; intro n w hn hz hm ho; (try simp only [List.cons_append, List.nil_append] at hm)
        have HN8 : Hid (wr.heap.size ≤ n) := by show _ ≤ _; exact hn
        have HB8 := Lib.hid ho
        refine hK.out _ _ (MemS.of (hm.takeL 2)) (fun hHeld => ?_)
        clear hK K
        try simp only [Act.put, List.setIfInBounds_toArray, List.set_cons_zero, List.set_cons_succ]
        refine wpAnyH_ready (rs := [5]) (by kernel_rfl) (by simp) ?_
        refine AllReadyH.cons2 (by simp only [List.getElem?_toArray, List.getElem?_cons_succ, List.getElem?_cons_zero]; first | done | exact rfl) (fun K hK => ?_)
        rw [if_pos (by rfl)]
        go_simp
        refine (HON.out _ _ (by exact RTAt.below (w := wr.drew) HR1.out HB8.out)).mono ?_
        rintro e w5 ⟨cs5, A5, c5, rfl, hr5, hfar5, hown, hbl⟩
        have HF5 := Lib.hid hfar5
        have HWC := Lib.hid hm.only.size
        have HS5 : Hid ((nc < w.heap.size ∧ nr < w.heap.size ∧ w0.heap.size ≤ w.heap.size) ∧ (n < w.heap.size ∧ wr.heap.size ≤ w.heap.size)) := ⟨⟨(Mem.at_ hm 0 rfl).lt, (Mem.at_ hm 1 rfl).lt, hm.only.size⟩, (Mem.at_ hm 2 rfl).lt, HB8.out.size⟩
        clear hfar5
        replace hm := hm.got hbl hown
        clear hown
        have HL5 := Lib.hid hr5.far_low
        have HR5 := Lib.hid hr5
        obtain ⟨ja5, jc5, ka5, kc5, rfl, q1, q2⟩ := hr5
        clear q1 q2
        simp only [tlit]
        go_simp
        refine hK.out _ _ (MemS.of ((hm.takeL 2).less)) (fun hHeld => ?_)
        clear hK K
        try simp only [Act.put, List.setIfInBounds_toArray, List.set_cons_zero, List.set_cons_succ]
        iterate 3 (first | (refine wpAnyH_take3 (b := 6) (by repeat (first | apply Seek.a | apply Seek.b | apply Seek.c)) (by simp only [List.getElem?_toArray, List.getElem?_cons_succ, List.getElem?_cons_zero]; first | done | exact rfl) ⟨?_, by kernel_rfl, by kernel_rfl, by kernel_rfl, fun _ _ _ h => h, Or.inr ⟨by rfl, rfl⟩, hHeld, ?_⟩) | (refine wpAnyH_take3 (b := 6) (by repeat (first | apply Seek.a | apply Seek.b | apply Seek.c)) (by simp only [List.getElem?_toArray, List.getElem?_cons_succ, List.getElem?_cons_zero]; first | done | exact rfl) ⟨?_, by kernel_rfl, by kernel_rfl, by kernel_rfl, fun _ _ _ h => h, Or.inl ⟨by rfl, ?_⟩, hHeld, ?_⟩; rotate_left 1; (first | (intro w9 h9; (with_reducible show (execOp _ (Oper.mk _ (Op.load _ _) _ _ _ _)).run _ _ = _); (first | (exact MemS.ldS h9 _ _ rfl _ _ rfl _ _ (by repeat (first | apply In.a | apply In.b)) (by decide +kernel) _ (by simp only [List.getElem?_toArray, List.getElem?_cons_succ, List.getElem?_cons_zero]; first | done | exact rfl)))) | focus (intro w9 hSw; go_simp; (try (with_reducible rfl)); done))); try simp only [Act.put, List.setIfInBounds_toArray, List.set_cons_zero, List.set_cons_succ])
        refine wpAnyH_ready (rs := [10]) (by kernel_rfl) (by simp) ?_
        refine AllReadyH.cons2 (by simp only [List.getElem?_toArray, List.getElem?_cons_succ, List.getElem?_cons_zero]; first | done | exact rfl) (fun K hK => ?_)
        refine step_stS (by rfl) _ _ _ rfl _ _ rfl _ (by simp only [Act.eval, Array.getD_eq_getD_getElem?, List.getElem?_toArray, List.getElem?_cons_succ, List.getElem?_cons_zero, Option.getD_some]; first | done | exact rfl) hm _ (by simp only [Value.cells]; first | done | exact rfl) _ _ _ _ (by repeat (first | apply Put.a | apply Put.b)) (by kernel_rfl) (by simp [Value.oneCell']) (by simp) (by simp only [List.set_cons_zero, List.set_cons_succ, spl, List.toList_toArray, List.size_toArray, List.length_cons, List.length_nil, Nat.reduceAdd, Nat.zero_add, List.take_succ_cons, List.take_zero, List.drop_succ_cons, List.drop_zero, List.drop_nil, List.cons_append, List.nil_append, List.append_nil]; first | done | exact rfl) ?_
        clear hm; intro w hz hm ho
        have HF6 := Lib.hid (HF5.out _ ((HF.out _ HL0.out).and HR1.out.far_low))
        have HR6 : Hid (RTAt w M.1 _) := HR5.out.far HF6.out ho (fun q hq e h => by
          have e : q = n := e
          have h1 := HN8.out
          have h2 := HS5.out.2.1
          rcases h with h | h
          · have := h.2; omega
          · omega)
        refine hK.out _ _ (MemS.of ((hm.takeL 2).less)) (fun hHeld => ?_)
        clear hK K
        try simp only [Act.put, List.setIfInBounds_toArray, List.set_cons_zero, List.set_cons_succ]
        iterate 1 (first | (refine wpAnyH_take3 (b := 11) (by repeat (first | apply Seek.a | apply Seek.b | apply Seek.c)) (by simp only [List.getElem?_toArray, List.getElem?_cons_succ, List.getElem?_cons_zero]; first | done | exact rfl) ⟨?_, by kernel_rfl, by kernel_rfl, by kernel_rfl, fun _ _ _ h => h, Or.inr ⟨by rfl, rfl⟩, hHeld, ?_⟩) | (refine wpAnyH_take3 (b := 11) (by repeat (first | apply Seek.a | apply Seek.b | apply Seek.c)) (by simp only [List.getElem?_toArray, List.getElem?_cons_succ, List.getElem?_cons_zero]; first | done | exact rfl) ⟨?_, by kernel_rfl, by kernel_rfl, by kernel_rfl, fun _ _ _ h => h, Or.inl ⟨by rfl, ?_⟩, hHeld, ?_⟩; rotate_left 1; (first | (intro w9 h9; (with_reducible show (execOp _ (Oper.mk _ (Op.load _ _) _ _ _ _)).run _ _ = _); (first | (exact MemS.ldS h9 _ _ rfl _ _ rfl _ _ (by repeat (first | apply In.a | apply In.b)) (by decide +kernel) _ (by simp only [List.getElem?_toArray, List.getElem?_cons_succ, List.getElem?_cons_zero]; first | done | exact rfl)))) | focus (intro w9 hSw; go_simp; (try (with_reducible rfl)); done))); try simp only [Act.put, List.setIfInBounds_toArray, List.set_cons_zero, List.set_cons_succ])
        refine wpAnyH_done (by kernel_rfl) ?_ _
        refine NoPanic.normal ?_
        have HM1 := Lib.hid hm
        replace hm := hm.rebase
        go_wp2_with (first | go_skip | ((with_reducible show wpList _ _ _ _ _ (World.alloc _ _)); refine wpList_up hm ?_; clear hm; intro n w hn hn2 hk hm hd hd2 ho; (try rw [← hn]); replace hn := Nat.le_of_eq hn.symm) | ((first | ((with_reducible show wpList _ _ _ (Oper.mk _ (Op.box _ _) _ _ _ _ :: _) _ _); (refine wpList_bx (by rfl) _ _ rfl _ (by simp only [Act.eval, Array.getD_eq_getD_getElem?, List.getElem?_toArray, List.getElem?_cons_succ, List.getElem?_cons_zero, Option.getD_some]; first | done | exact rfl) _ (by simp only [Value.cells]; first | done | exact rfl) hm ?_; clear hm; intro n w hn hz hm ho; (try simp only [List.cons_append, List.nil_append] at hm))) | ((with_reducible show wpList _ _ _ (Oper.mk _ (Op.load _ _) _ _ _ _ :: _) _ _); first | (refine wpList_ldS (by rfl) _ _ rfl _ _ rfl hm _ _ (by repeat (first | apply In.a | apply In.b)) (by decide +kernel) _ (by simp only [List.getElem?_toArray, List.getElem?_cons_succ, List.getElem?_cons_zero]; first | done | exact rfl) ?_) | (refine wpList_laS (by rfl) _ _ rfl _ _ rfl hm _ _ (by repeat (first | apply In.a | apply In.b)) (by kernel_rfl) _ (by rfl) (by kernel_rfl) (by simp) _ (by simp only [List.toList_toArray, List.drop_succ_cons, List.drop_zero, List.size_toArray, List.length_cons, List.length_nil, Nat.reduceAdd, List.take_succ_cons, List.take_zero]; first | done | exact rfl) ?_)) | ((with_reducible show wpList _ _ _ (Oper.mk _ (Op.store _ _ _) _ _ _ _ :: _) _ _); (refine wpList_stS (by rfl) _ _ _ rfl _ _ rfl _ (by simp only [Act.eval, Array.getD_eq_getD_getElem?, List.getElem?_toArray, List.getElem?_cons_succ, List.getElem?_cons_zero, Option.getD_some]; first | done | exact rfl) hm _ (by simp only [Value.cells]; first | done | exact rfl) _ _ _ _ (by repeat (first | apply Put.a | apply Put.b)) (by kernel_rfl) (by simp [Value.oneCell']) (by simp) (by simp only [List.set_cons_zero, List.set_cons_succ, spl, List.toList_toArray, List.size_toArray, List.length_cons, List.length_nil, Nat.reduceAdd, Nat.zero_add, List.take_succ_cons, List.take_zero, List.drop_succ_cons, List.drop_zero, List.drop_nil, List.cons_append, List.nil_append, List.append_nil]; first | done | exact rfl) ?_; clear hm; intro w hz hm ho)) | ((with_reducible show wpList _ _ _ (Oper.mk _ (Op.alloc _) _ _ _ _ :: _) _ _); (refine wpList_al (by rfl) _ rfl _ rfl _ (by simp only [Value.cells]; first | done | exact rfl) hm ?_; clear hm; intro n w hn hz hm ho; (try simp only [List.cons_append, List.nil_append] at hm)))); try simp only [Act.put, List.setIfInBounds_toArray, List.set_cons_zero, List.set_cons_succ]))
        go_at_call 41
        refine (ref07_join A1 X.length c1 X A5 M.2.length c5 M.2 _ (by exact ((HM1.out.backO hm).sl_ 0 rfl).byt (Nat.le_refl _)) (by exact ((HM1.out.backO hm).sl_ 1 rfl).byt (Nat.le_refl _)) (by omega)).mono ?_
        intro e w9 h9
        obtain ⟨A9, c9, rfl, hown, hb9⟩ := h9.len (n := (X ++ M.2).length) rfl
        clear h9
        replace hm := hm.got hb9 hown
        clear hown
        go_wp2_with (first | go_skip | ((with_reducible show wpList _ _ _ _ _ (World.alloc _ _)); refine wpList_up hm ?_; clear hm; intro n w hn hn2 hk hm hd hd2 ho; (try rw [← hn]); replace hn := Nat.le_of_eq hn.symm) | ((first | ((with_reducible show wpList _ _ _ (Oper.mk _ (Op.box _ _) _ _ _ _ :: _) _ _); (refine wpList_bx (by rfl) _ _ rfl _ (by simp only [Act.eval, Array.getD_eq_getD_getElem?, List.getElem?_toArray, List.getElem?_cons_succ, List.getElem?_cons_zero, Option.getD_some]; first | done | exact rfl) _ (by simp only [Value.cells]; first | done | exact rfl) hm ?_; clear hm; intro n w hn hz hm ho; (try simp only [List.cons_append, List.nil_append] at hm))) | ((with_reducible show wpList _ _ _ (Oper.mk _ (Op.load _ _) _ _ _ _ :: _) _ _); first | (refine wpList_ldS (by rfl) _ _ rfl _ _ rfl hm _ _ (by repeat (first | apply In.a | apply In.b)) (by decide +kernel) _ (by simp only [List.getElem?_toArray, List.getElem?_cons_succ, List.getElem?_cons_zero]; first | done | exact rfl) ?_) | (refine wpList_laS (by rfl) _ _ rfl _ _ rfl hm _ _ (by repeat (first | apply In.a | apply In.b)) (by kernel_rfl) _ (by rfl) (by kernel_rfl) (by simp) _ (by simp only [List.toList_toArray, List.drop_succ_cons, List.drop_zero, List.size_toArray, List.length_cons, List.length_nil, Nat.reduceAdd, List.take_succ_cons, List.take_zero]; first | done | exact rfl) ?_)) | ((with_reducible show wpList _ _ _ (Oper.mk _ (Op.store _ _ _) _ _ _ _ :: _) _ _); (refine wpList_stS (by rfl) _ _ _ rfl _ _ rfl _ (by simp only [Act.eval, Array.getD_eq_getD_getElem?, List.getElem?_toArray, List.getElem?_cons_succ, List.getElem?_cons_zero, Option.getD_some]; first | done | exact rfl) hm _ (by simp only [Value.cells]; first | done | exact rfl) _ _ _ _ (by repeat (first | apply Put.a | apply Put.b)) (by kernel_rfl) (by simp [Value.oneCell']) (by simp) (by simp only [List.set_cons_zero, List.set_cons_succ, spl, List.toList_toArray, List.size_toArray, List.length_cons, List.length_nil, Nat.reduceAdd, Nat.zero_add, List.take_succ_cons, List.take_zero, List.drop_succ_cons, List.drop_zero, List.drop_nil, List.cons_append, List.nil_append, List.append_nil]; first | done | exact rfl) ?_; clear hm; intro w hz hm ho)) | ((with_reducible show wpList _ _ _ (Oper.mk _ (Op.alloc _) _ _ _ _ :: _) _ _); (refine wpList_al (by rfl) _ rfl _ rfl _ (by simp only [Value.cells]; first | done | exact rfl) hm ?_; clear hm; intro n w hn hz hm ho; (try simp only [List.cons_append, List.nil_append] at hm)))); try simp only [Act.put, List.setIfInBounds_toArray, List.set_cons_zero, List.set_cons_succ]))
        go_roundg g
        case measure => omega
        case rel =>
          obtain ⟨⟨hs1, hs2, hs3⟩, hs4, hs5⟩ := HS5.out
          have hmine := rinv_mine HM0.out
          refine ⟨k + 1, _, _, _, A9, c9, by omega, by go_num, HS.out, by rw [List.length_append], ((HM1.out.backO hm).takeL 2).oneO 2 rfl, HR6.out.far (HF6.out) hm.only (fun q hq h h2 => ?_), fun F hF => (HF5.out _ (HF.out F hF)).mono (fun q h => rinv_up hs1 hs2 (Nat.le_refl _) hs3 h)⟩
          have h8 := HN8.out
          have hq3 : q = nc ∨ q = nr ∨ q = n := by simpa using h
          rcases hq3 with h3 | h3 | h3
          · refine rinv_far hs1 hs2 hmine (.inl h3) ?_
            exact h2.imp And.left id
          · refine rinv_far hs1 hs2 hmine (.inr h3) ?_
            exact h2.imp And.left id
          · rcases h2 with h2 | h2
            · have := h2.2; omega
            · omega
end Go.Proofs.Ytpacdjkikbdkeaa
