/-
  The walks of the channel's encryption: start, encrypt.
-/
import Derived.Test.YtibaibdgpnkdnaaGreatDoorZ1
import Derived.Test.YtibaibdgpnkdnaaGreatDoorSecW
import Derived.Test.YtibaibdgpnkdnaaGreatDoorZ2
import Derived.Test.YtibaibdgpnkdnaaGreatDoorZ0
namespace Go.Proofs.YtibaibdgpnkdnaaGreatDoor
set_option maxRecDepth 100000
set_option linter.unusedSimpArgs false
set_option linter.unusedVariables false
open Go.RowKit
set_option maxHeartbeats 8000000

theorem putB_eight (n : Nat) (h : n < 72057594037927936) : Oct.putB n 8 = 0 :: Oct.putB n 7 := by
  apply List.ext_getElem (by simp [Oct.putB])
  intro i h1 h2
  have hi : i < 8 := by simpa [Oct.putB] using h1
  rcases i with _ | i
  · simp only [Oct.putB, List.getElem_map, List.getElem_range, List.getElem_cons_zero]
    rw [show n / 256 ^ (8 - 1 - 0) = 0 from Nat.div_eq_of_lt (by omega)]
    rfl
  · simp only [Oct.putB, List.getElem_map, List.getElem_range, List.getElem_cons_succ]
    rw [show 8 - 1 - (i + 1) = 7 - 1 - i by omega]
theorem put_eight7 (n : Nat) (hn : n ≤ 1000000) (w : World) : Calls Tryz.prog 61 #[.int .i64 (n : Int), .int .i64 8] w fun e w' => ∃ q c tl, e = .returned (.tuple #[.slice (some ⟨q, 0, none⟩) 8 c, .int .i64 0]) ∧ 8 ≤ c ∧ w.heap.size ≤ q ∧ Blk w' q 5 (B8 0 :: (bcells (Oct.putB n 7) ++ tl)).toArray ∧ Below w.heap.size w w' := by
  have h := Oct.ptB (n : Int) 8
  obtain ⟨e1, e2⟩ := pt_ok n 8 (by omega) (by omega) (by omega)
  have e8 := putB_eight n (by omega)
  refine (octets_Put (n : Int) 8 w (by omega)).mono ?_
  rintro e w' ⟨A, c, rfl, ho, hb⟩
  rw [show ((8 : Int)) = ((8 : Nat) : Int) from rfl, e1] at ho
  rw [show ((8 : Int)) = ((8 : Nat) : Int) from rfl, e1, e2]
  rw [e8] at ho ⊢
  have hl : (0 :: Oct.putB n 7 : List UInt8).length = 8 := by simp [Oct.putB_length]
  rw [hl] at ho ⊢
  obtain ⟨q, tl, rfl, hq, hB⟩ := ho.whole
  exact ⟨q, c, tl, rfl, ho.le, hq, hB, hb⟩
theorem crypt_eight (key : List UInt8) (x : UInt8) (xs : List UInt8) (hk : key.length = 16) (hx : xs.length = 7) : Mod.cbE key Mod.z8 (x :: xs) = 0 ∧ (Mod.cbB key Mod.z8 (x :: xs) false).length = 8 := by
  have hok : Mod.ok key Mod.z8 (x :: xs) = true := (Mod.ok_iff _ _ _).2 ⟨hk, by simp [Mod.z8], by simp [hx]⟩
  refine ⟨by unfold Mod.cbE; rw [if_pos hok], ?_⟩
  rw [Mod.cbB_length _ _ _ _ hok]
  simp [hx]
theorem enc_call (A A' A'' : Option Addr) (n c c' c'' : Nat) (key iv d : List UInt8) (u : World) (hk : Byt u u.heap.size A 16 c key) (hv : Byt u u.heap.size A' 8 c' iv) (hd : Byt u u.heap.size A'' n c'' d) (h8 : n % 8 = 0) (hn : n ≤ 1000000) :
    Calls Tryz.prog 59 #[.slice A 16 c, .slice A' 8 c', .slice A'' n c''] u fun e u' => ∃ A1 c1, e = .returned (.tuple #[.slice A1 n c1, .int .i64 0]) ∧ Own u' u.heap.size 5 1 A1 n c1 (bcells (Mod.cbB key iv d false)) ∧ Below u.heap.size u u' := by
  have hok : Mod.ok key iv d = true := (Mod.ok_iff _ _ _).2 ⟨hk.1, hv.1, by rw [hd.1]; exact h8⟩
  have hl : (Mod.cbB key iv d false).length = n := by rw [Mod.cbB_length _ _ _ _ hok]; exact hd.1
  refine (mode_EncryptCBC A A' A'' 16 8 n c c' c'' key iv d u hk hv hd hn).mono ?_
  rintro e u' ⟨A1, c1, rfl, ho, hb⟩
  rw [hl] at *
  refine ⟨A1, c1, ?_, ho, hb⟩
  unfold Mod.cbE
  rw [if_pos hok]
set_option maxRecDepth 100000 in
theorem ch_start (w0 : World) (g : Nat) (F : Nat → Prop) (s : Sec.S) (H : ChAt' w0 g F s) (hc : s.cnt ≤ 1000000) (r : Bool) :
    Calls Tryz.prog 60 #[.pointer (some ⟨g, 0, none⟩), .bool r] w0 (ORes w0 (Sec.iv s r)) := by
  obtain ⟨a, H⟩ := H
  have HK := Lib.hid H.blk
  have hm : Mem (fun q => q = g) w0 w0 [⟨g, _, _⟩] [] := Mem.one H.blk rfl
  have HE := Lib.hid H.enc.1
  have hivl := Sec.iv_length s r H.ok.enc
  have hlen7 := Oct.putB_length s.cnt 7
  have hcr := fun x => crypt_eight s.enc x (Oct.putB s.cnt 7) H.ok.enc hlen7
  have HCR := Lib.hid hcr
  have HV := Lib.hid hivl
  have HL7 := Lib.hid hlen7
  have m8 : ∀ u : World, (Instr.makeSlice 22 (.int .i64 8) (.int .i64 8)).run Tryz.prog u = .ok (.slice (some ⟨u.heap.size, 0, none⟩) 8 8) (u.alloc (.cells (zc 8) 5)) := fun _ => by kernel_rfl
  have HP := fun u => put_eight7 s.cnt hc u
  have hiv : Sec.iv s r = Mod.cbB s.enc Mod.z8 ((if r then 128 else 0) :: Oct.putB s.cnt 7) false := rfl
  have HIV := Lib.hid hiv
  have HP := Lib.hid HP
  clear H hivl hlen7 hcr hiv hc
  obtain ⟨E, ce, a2, a3, a4, a5, a6, a7, a8, a9⟩ := a
  simp only [cch] at hm HK
  generalize (s.cnt : Int) = cn at *
  cases r with
  | false =>
    go_enter Tryz.func60, Tryz.ntmps60
    go_wp2_with (first | go_skip | ((with_reducible show wpList _ _ _ _ _ (World.alloc _ _)); refine wpList_up hm ?_; clear hm; intro n w hn hn2 hk hm hd hd2 ho; (try rw [← hn]); replace hn := Nat.le_of_eq hn.symm) | ((first | ((with_reducible show wpList _ _ _ (Oper.mk _ (Op.box _ _) _ _ _ _ :: _) _ _); (refine bxA hm ?_; clear hm; intro n w hn hz hm ho; (try simp only [List.cons_append, List.nil_append] at hm))) | ((with_reducible show wpList _ _ _ (Oper.mk _ (Op.load _ _) _ _ _ _ :: _) _ _); first | (refine ldA hm ?_) | (refine laA hm ?_)) | ((with_reducible show wpList _ _ _ (Oper.mk _ (Op.store _ _ _) _ _ _ _ :: _) _ _); (refine stA hm ?_; clear hm; intro w hz hm ho)) | ((with_reducible show wpList _ _ _ (Oper.mk _ (Op.alloc _) _ _ _ _ :: _) _ _); (refine alA hm ?_; clear hm; intro n w hn hz hm ho; (try simp only [List.cons_append, List.nil_append] at hm)))); try simp only [Act.put, sxQ]) | (go_at_call 61; refine (HP.out _).mono ?_; rintro e w2 ⟨q, c, tl, rfl, hc8, hq, hB, hbl⟩; replace hm := hm.gotB hbl hq hB; clear hB))
    refine wp_region_noPanic ?_
    refine wp_region_held_drew (S := MemS _ _ _ _) (by kernel_rfl) (MemS.of hm.drew) (fun hHeld => ?_)
    refine wpAnyH_fresh (by repeat (first | apply Fresh.a | apply Fresh.b)) ?_
    replace hm := hm.drew
    iterate 5 (first | (refine takeN 0 hHeld ?_) | (refine takeY 0 ?_ hHeld ?_ ?_; rotate_left 1; (first | (intro w9 h9; (with_reducible show (execOp _ (Oper.mk _ (Op.load _ _) _ _ _ _)).run _ _ = _); first | exact h9.ldA) | focus (intro w9 hSw; go_simp; (try (with_reducible rfl)); done))); try simp only [Act.put, sxQ])
    iterate 1 (first | (refine takeN 6 hHeld ?_) | (refine takeY 6 ?_ hHeld ?_ ?_; rotate_left 1; (first | (intro w9 h9; (with_reducible show (execOp _ (Oper.mk _ (Op.load _ _) _ _ _ _)).run _ _ = _); first | exact h9.ldA) | focus (intro w9 hSw; go_simp; (try (with_reducible rfl)); done))); try simp only [Act.put, sxQ])
    refine wpAnyH_ready (rs := [5]) (by kernel_rfl) (by simp) ?_
    refine AllReadyH.cons2 (by simp only [sxN]; first | done | exact rfl) (fun K hK => ?_)
    rw [if_pos (by rfl)]
    go_simp
    refine K_up hm ?_
    intro n5 w5 hn hn5s hn5 hm1 hn5d hn5d2 hb1
    first | rw [← hn] | rw [← (show n5 = w.heap.size from hn)] | rw [← (show n5 = w2.heap.size from hn)]
    clear hn hm
    have hm := hm1.row hn5 hn5s hn5d hn5d2 1 8 (bcells (zs 8)) rfl rfl (by unfold maxLen; omega)
    clear hm1
    refine hK.out _ _ (MemS.of hm.less) (fun hHeld => ?_)
    clear hK K
    try simp only [Act.put, sxQ]
    refine wpAnyH_ready (rs := [7]) (by kernel_rfl) (by simp) ?_
    refine AllReadyH.cons2 (by simp only [sxN]; first | done | exact rfl) (fun K hK => ?_)
    rw [if_pos (by rfl)]
    go_simp
    refine (enc_call E _ _ 8 ce 8 c s.enc Mod.z8 (0 :: Oct.putB s.cnt 7) _ (by exact (HE.out.below (hm.still 1 rfl HK.out)).more hm.only.size) (by exact (hm.sl_ 0 rfl).byt (bs := zs 8) (Nat.le_refl _)) (by exact Blk.byt (hm.at_ 0 rfl) (by rw [HL7.out]) hc8) rfl (by omega)).mono ?_
    rintro e w6 ⟨A6, c6, rfl, hown, hbl6⟩
    replace hm := hm.got hbl6 hown
    clear hown
    go_simp
    refine hK.out _ _ (MemS.of hm.less.less) (fun hHeld => ?_)
    clear hK K
    try simp only [Act.put, sxQ]
    iterate 5 (first | (refine takeN 8 hHeld ?_) | (refine takeY 8 ?_ hHeld ?_ ?_; rotate_left 1; (first | (intro w9 h9; (with_reducible show (execOp _ (Oper.mk _ (Op.load _ _) _ _ _ _)).run _ _ = _); first | exact h9.ldA) | focus (intro w9 hSw; go_simp; (try (with_reducible rfl)); done))); try simp only [Act.put, sxQ])
    refine wpAnyH_done (by kernel_rfl) ?_ _
    refine NoPanic.normal ?_
    go_wp2_with (first | go_skip | ((with_reducible show wpList _ _ _ _ _ (World.alloc _ _)); refine wpList_up hm ?_; clear hm; intro n w hn hn2 hk hm hd hd2 ho; (try rw [← hn]); replace hn := Nat.le_of_eq hn.symm) | ((first | ((with_reducible show wpList _ _ _ (Oper.mk _ (Op.box _ _) _ _ _ _ :: _) _ _); (refine bxA hm ?_; clear hm; intro n w hn hz hm ho; (try simp only [List.cons_append, List.nil_append] at hm))) | ((with_reducible show wpList _ _ _ (Oper.mk _ (Op.load _ _) _ _ _ _ :: _) _ _); first | (refine ldA hm ?_) | (refine laA hm ?_)) | ((with_reducible show wpList _ _ _ (Oper.mk _ (Op.store _ _ _) _ _ _ _ :: _) _ _); (refine stA hm ?_; clear hm; intro w hz hm ho)) | ((with_reducible show wpList _ _ _ (Oper.mk _ (Op.alloc _) _ _ _ _ :: _) _ _); (refine alA hm ?_; clear hm; intro n w hn hz hm ho; (try simp only [List.cons_append, List.nil_append] at hm)))); try simp only [Act.put, sxQ]))
    go_ret
    rw [HIV.out]
    exact ORes.of (by rw [← HIV.out]; exact HV.out) (hm.freshG 1 1 rfl rfl) (hm.still 1 rfl HK.out)
  | true =>
    go_enter Tryz.func60, Tryz.ntmps60
    go_wp2_with (first | go_skip | ((with_reducible show wpList _ _ _ _ _ (World.alloc _ _)); refine wpList_up hm ?_; clear hm; intro n w hn hn2 hk hm hd hd2 ho; (try rw [← hn]); replace hn := Nat.le_of_eq hn.symm) | ((first | ((with_reducible show wpList _ _ _ (Oper.mk _ (Op.box _ _) _ _ _ _ :: _) _ _); (refine bxA hm ?_; clear hm; intro n w hn hz hm ho; (try simp only [List.cons_append, List.nil_append] at hm))) | ((with_reducible show wpList _ _ _ (Oper.mk _ (Op.load _ _) _ _ _ _ :: _) _ _); first | (refine ldA hm ?_) | (refine laA hm ?_)) | ((with_reducible show wpList _ _ _ (Oper.mk _ (Op.store _ _ _) _ _ _ _ :: _) _ _); (refine stA hm ?_; clear hm; intro w hz hm ho)) | ((with_reducible show wpList _ _ _ (Oper.mk _ (Op.alloc _) _ _ _ _ :: _) _ _); (refine alA hm ?_; clear hm; intro n w hn hz hm ho; (try simp only [List.cons_append, List.nil_append] at hm)))); try simp only [Act.put, sxQ]) | (go_at_call 61; refine (HP.out _).mono ?_; rintro e w2 ⟨q, c, tl, rfl, hc8, hq, hB, hbl⟩; replace hm := hm.gotB hbl hq hB; clear hB))
    refine wp_region_noPanic ?_
    refine wp_region_held_drew (S := MemS _ _ _ _) (by kernel_rfl) (MemS.of hm.drew) (fun hHeld => ?_)
    refine wpAnyH_fresh (by repeat (first | apply Fresh.a | apply Fresh.b)) ?_
    replace hm := hm.drew
    iterate 5 (first | (refine takeN 0 hHeld ?_) | (refine takeY 0 ?_ hHeld ?_ ?_; rotate_left 1; (first | (intro w9 h9; (with_reducible show (execOp _ (Oper.mk _ (Op.load _ _) _ _ _ _)).run _ _ = _); first | exact h9.ldA) | focus (intro w9 hSw; go_simp; (try (with_reducible rfl)); done))); try simp only [Act.put, sxQ])
    iterate 1 (first | (refine takeN 6 hHeld ?_) | (refine takeY 6 ?_ hHeld ?_ ?_; rotate_left 1; (first | (intro w9 h9; (with_reducible show (execOp _ (Oper.mk _ (Op.load _ _) _ _ _ _)).run _ _ = _); first | exact h9.ldA) | focus (intro w9 hSw; go_simp; (try (with_reducible rfl)); done))); try simp only [Act.put, sxQ])
    refine wpAnyH_ready (rs := [5]) (by kernel_rfl) (by simp) ?_
    refine AllReadyH.cons2 (by simp only [sxN]; first | done | exact rfl) (fun K hK => ?_)
    rw [if_pos (by rfl)]
    go_simp
    refine K_up hm ?_
    intro n5 w5 hn hn5s hn5 hm1 hn5d hn5d2 hb1
    first | rw [← hn] | rw [← (show n5 = w.heap.size from hn)] | rw [← (show n5 = w2.heap.size from hn)]
    clear hn hm
    have hm := hm1.row hn5 hn5s hn5d hn5d2 1 8 (bcells (zs 8)) rfl rfl (by unfold maxLen; omega)
    clear hm1
    refine hK.out _ _ (MemS.of hm.less) (fun hHeld => ?_)
    clear hK K
    try simp only [Act.put, sxQ]
    refine wpAnyH_ready (rs := [7]) (by kernel_rfl) (by simp) ?_
    refine AllReadyH.cons2 (by simp only [sxN]; first | done | exact rfl) (fun K hK => ?_)
    rw [if_pos (by rfl)]
    go_simp
    refine (enc_call E _ _ 8 ce 8 c s.enc Mod.z8 (128 :: Oct.putB s.cnt 7) _ (by exact (HE.out.below (hm.still 1 rfl HK.out)).more hm.only.size) (by exact (hm.sl_ 0 rfl).byt (bs := zs 8) (Nat.le_refl _)) (by exact Blk.byt (hm.at_ 0 rfl) (by rw [HL7.out]) hc8) rfl (by omega)).mono ?_
    rintro e w6 ⟨A6, c6, rfl, hown, hbl6⟩
    replace hm := hm.got hbl6 hown
    clear hown
    go_simp
    refine hK.out _ _ (MemS.of hm.less.less) (fun hHeld => ?_)
    clear hK K
    try simp only [Act.put, sxQ]
    iterate 5 (first | (refine takeN 8 hHeld ?_) | (refine takeY 8 ?_ hHeld ?_ ?_; rotate_left 1; (first | (intro w9 h9; (with_reducible show (execOp _ (Oper.mk _ (Op.load _ _) _ _ _ _)).run _ _ = _); first | exact h9.ldA) | focus (intro w9 hSw; go_simp; (try (with_reducible rfl)); done))); try simp only [Act.put, sxQ])
    refine wpAnyH_done (by kernel_rfl) ?_ _
    refine NoPanic.normal ?_
    go_wp2_with (first | go_skip | ((with_reducible show wpList _ _ _ _ _ (World.alloc _ _)); refine wpList_up hm ?_; clear hm; intro n w hn hn2 hk hm hd hd2 ho; (try rw [← hn]); replace hn := Nat.le_of_eq hn.symm) | ((first | ((with_reducible show wpList _ _ _ (Oper.mk _ (Op.box _ _) _ _ _ _ :: _) _ _); (refine bxA hm ?_; clear hm; intro n w hn hz hm ho; (try simp only [List.cons_append, List.nil_append] at hm))) | ((with_reducible show wpList _ _ _ (Oper.mk _ (Op.load _ _) _ _ _ _ :: _) _ _); first | (refine ldA hm ?_) | (refine laA hm ?_)) | ((with_reducible show wpList _ _ _ (Oper.mk _ (Op.store _ _ _) _ _ _ _ :: _) _ _); (refine stA hm ?_; clear hm; intro w hz hm ho)) | ((with_reducible show wpList _ _ _ (Oper.mk _ (Op.alloc _) _ _ _ _ :: _) _ _); (refine alA hm ?_; clear hm; intro n w hn hz hm ho; (try simp only [List.cons_append, List.nil_append] at hm)))); try simp only [Act.put, sxQ]))
    go_ret
    rw [HIV.out]
    exact ORes.of (by rw [← HIV.out]; exact HV.out) (hm.freshG 1 1 rfl rfl) (hm.still 1 rfl HK.out)
end Go.Proofs.YtibaibdgpnkdnaaGreatDoor
