/-
  The walks of the channel's encryption: encrypt, decrypt.
-/
import Derived.Test.YtibaibdgpnkdnaaGreatDoorZ1
import Derived.Test.YtibaibdgpnkdnaaGreatDoorSecX
namespace Go.Proofs.YtibaibdgpnkdnaaGreatDoor
set_option maxRecDepth 100000
set_option linter.unusedSimpArgs false
set_option linter.unusedVariables false
open Go.RowKit
set_option maxHeartbeats 8000000

theorem pad_call (A : Option Addr) (n c : Nat) (bs : List UInt8) (w : World) (h : Byt w w.heap.size A n c bs) (hn : n ≤ 100000) :
    Calls Tryz.prog 58 #[.slice A n c, .int .i64 8] w fun e w' => ∃ A2 m c2, e = .returned (.tuple #[.slice A2 m c2, .int .i64 0]) ∧ m % 8 = 0 ∧ m ≤ 100008 ∧ Own w' w.heap.size 5 1 A2 m c2 (bcells (Oct.pad bs 8)) ∧ Below w.heap.size w w' := by
  have hm := Oct.pad_mod bs 8 (by omega)
  have hl := Oct.pad_length bs 8
  have hlt := Oct.padN_lt bs.length 8 (by omega)
  have h1 := h.1
  have eB : Oct.padB bs 8 = Oct.pad bs 8 := by unfold Oct.padB; rw [if_pos (by decide)]; rfl
  have eE : Oct.padE 8 = 0 := by decide
  refine (octets_Pad A n c bs 8 w h (by omega)).mono ?_
  rintro e w' ⟨A2, c2, rfl, ho, hb⟩
  rw [eB] at ho
  rw [eB, eE]
  exact ⟨A2, _, c2, rfl, hm, by omega, ho, hb⟩
set_option maxRecDepth 100000 in
theorem ch_encrypt (w0 : World) (g : Nat) (F : Nat → Prop) (s : Sec.S) (H : ChAt' w0 g F s) (hc : s.cnt ≤ 1000000) (A : Option Addr) (dn c : Nat) (bs : List UInt8) (h : Byt w0 w0.heap.size A dn c bs) (hdn : dn ≤ 100000) (r : Bool) :
    Calls Tryz.prog 37 #[.pointer (some ⟨g, 0, none⟩), .slice A dn c, .bool r] w0 (ORes w0 (Sec.hide s r bs)) := by
  have HH := Lib.hid H
  obtain ⟨a, H⟩ := H
  have HK := Lib.hid H.blk
  have hm : Mem (fun q => q = g) w0 w0 [⟨g, _, _⟩] [] := Mem.one H.blk rfl
  have HE := Lib.hid H.enc.1
  have HB := Lib.hid h
  have hivl := Sec.iv_length s r H.ok.enc
  have HV := Lib.hid hivl
  have hke := H.ok.enc
  have HKE := Lib.hid hke
  have hbl0 := h.1
  clear H hivl hke h
  obtain ⟨E, ce, a2, a3, a4, a5, a6, a7, a8, a9⟩ := a
  simp only [cch] at hm HK
  by_cases h0 : dn = 0
  · subst h0
    obtain rfl : bs = [] := List.length_eq_zero_iff.1 hbl0
    have e : Sec.hide s r [] = [] := by unfold Sec.hide; rw [if_pos rfl]
    rw [e]
    clear e HH
    go_enter Tryz.func37, Tryz.ntmps37
    go_wp2_with (first | go_skip | ((with_reducible show wpList _ _ _ _ _ (World.alloc _ _)); refine wpList_up hm ?_; clear hm; intro n w hn hn2 hk hm hd hd2 ho; (try rw [← hn]); replace hn := Nat.le_of_eq hn.symm) | ((first | ((with_reducible show wpList _ _ _ (Oper.mk _ (Op.box _ _) _ _ _ _ :: _) _ _); (refine bxA hm ?_; clear hm; intro n w hn hz hm ho; (try simp only [List.cons_append, List.nil_append] at hm))) | ((with_reducible show wpList _ _ _ (Oper.mk _ (Op.load _ _) _ _ _ _ :: _) _ _); first | (refine ldA hm ?_) | (refine laA hm ?_)) | ((with_reducible show wpList _ _ _ (Oper.mk _ (Op.store _ _ _) _ _ _ _ :: _) _ _); (refine stA hm ?_; clear hm; intro w hz hm ho)) | ((with_reducible show wpList _ _ _ (Oper.mk _ (Op.alloc _) _ _ _ _ :: _) _ _); (refine alA hm ?_; clear hm; intro n w hn hz hm ho; (try simp only [List.cons_append, List.nil_append] at hm)))); try simp only [Act.put, sxQ]))
    go_ret
    exact ORes.nil (hm.still 0 rfl HK.out)
  · have e : Sec.hide s r bs = Mod.cbB s.enc (Sec.iv s r) (Oct.pad bs 8) false := by
      unfold Sec.hide
      rw [if_neg (fun e => by rw [e] at hbl0; exact h0 hbl0.symm)]
    rw [e]
    clear e hbl0
    have i0 : ((dn : Int) == 0) = false := by rw [beq_eq_false_iff_ne]; omega
    have hS : ∀ u, Below w0.heap.size w0 u → Calls Tryz.prog 60 #[.pointer (some ⟨g, 0, none⟩), .bool r] u fun e u' => ∃ A c, e = .returned (.slice A 8 c) ∧ Own u' u.heap.size 5 1 A 8 c (bcells (Sec.iv s r)) ∧ Below u.heap.size u u' := fun u hu =>
      (ch_start u g F s (HH.out.away (R := fun _ => False) (Only.of_below hu) (fun _ _ e => e)) hc r).mono fun e u' h => h.len HV.out
    have HS := Lib.hid hS
    clear hS HH hc
    generalize Sec.iv s r = iv at *
    go_enter Tryz.func37, Tryz.ntmps37
    go_wp2_with (first | go_skip | ((with_reducible show wpList _ _ _ _ _ (World.alloc _ _)); refine wpList_up hm ?_; clear hm; intro n w hn hn2 hk hm hd hd2 ho; (try rw [← hn]); replace hn := Nat.le_of_eq hn.symm) | ((first | ((with_reducible show wpList _ _ _ (Oper.mk _ (Op.box _ _) _ _ _ _ :: _) _ _); (refine bxA hm ?_; clear hm; intro n w hn hz hm ho; (try simp only [List.cons_append, List.nil_append] at hm))) | ((with_reducible show wpList _ _ _ (Oper.mk _ (Op.load _ _) _ _ _ _ :: _) _ _); first | (refine ldA hm ?_) | (refine laA hm ?_)) | ((with_reducible show wpList _ _ _ (Oper.mk _ (Op.store _ _ _) _ _ _ _ :: _) _ _); (refine stA hm ?_; clear hm; intro w hz hm ho)) | ((with_reducible show wpList _ _ _ (Oper.mk _ (Op.alloc _) _ _ _ _ :: _) _ _); (refine alA hm ?_; clear hm; intro n w hn hz hm ho; (try simp only [List.cons_append, List.nil_append] at hm)))); try simp only [Act.put, sxQ]) | (go_at_call 58; refine (pad_call A dn c bs _ (by exact (HB.out.below (hm.still 0 rfl HK.out)).more hm.only.size) hdn).mono ?_; rintro e w2 ⟨A2, m2, c2, rfl, hm8, hml, hown, hbl⟩; replace hm := hm.got hbl hown; clear hown))
    have HM2 := Lib.hid hm
    refine wp_region_noPanic ?_
    refine wp_region_held_drew (S := MemS _ _ _ _) (by kernel_rfl) (MemS.of hm.drew) (fun hHeld => ?_)
    refine wpAnyH_fresh (by repeat (first | apply Fresh.a | apply Fresh.b)) ?_
    replace hm := hm.drew
    iterate 7 (first | (refine takeN 0 hHeld ?_) | (refine takeY 0 ?_ hHeld ?_ ?_; rotate_left 1; (first | (intro w9 h9; (with_reducible show (execOp _ (Oper.mk _ (Op.load _ _) _ _ _ _)).run _ _ = _); first | exact h9.ldA) | focus (intro w9 hSw; go_simp; (try (with_reducible rfl)); done))); try simp only [Act.put, sxQ])
    iterate 1 (first | (refine takeN 8 hHeld ?_) | (refine takeY 8 ?_ hHeld ?_ ?_; rotate_left 1; (first | (intro w9 h9; (with_reducible show (execOp _ (Oper.mk _ (Op.load _ _) _ _ _ _)).run _ _ = _); first | exact h9.ldA) | focus (intro w9 hSw; go_simp; (try (with_reducible rfl)); done))); try simp only [Act.put, sxQ])
    refine wpAnyH_ready (rs := [7]) (by kernel_rfl) (by simp) ?_
    refine AllReadyH.cons2 (by simp only [sxN]; first | done | exact rfl) (fun K hK => ?_)
    rw [if_pos (by rfl)]
    go_simp
    refine (HS.out _ (by exact hm.still 0 rfl HK.out)).mono ?_
    rintro e w5 ⟨A5, c5, rfl, hown, hbl5⟩
    replace hm := hm.got hbl5 hown
    clear hown
    go_simp
    refine hK.out _ _ (MemS.of hm.less) (fun hHeld => ?_)
    clear hK K
    try simp only [Act.put, sxQ]
    refine wpAnyH_ready (rs := [9]) (by kernel_rfl) (by simp) ?_
    refine AllReadyH.cons2 (by simp only [sxN]; first | done | exact rfl) (fun K hK => ?_)
    rw [if_pos (by rfl)]
    go_simp
    refine (enc_call E A5 A2 m2 ce c5 c2 s.enc iv (Oct.pad bs 8) _ (by exact (HE.out.below (hm.still 0 rfl HK.out)).more hm.only.size) (by exact (hm.sl_ 1 rfl).byt (Nat.le_refl _)) (by exact (hm.sl_ 0 rfl).byt (Nat.le_refl _)) hm8 (by omega)).mono ?_
    rintro e w6 ⟨A6, c6, rfl, hown, hbl6⟩
    replace hm := hm.got hbl6 hown
    clear hown
    go_simp
    refine hK.out _ _ (MemS.of hm.less.less) (fun hHeld => ?_)
    clear hK K
    try simp only [Act.put, sxQ]
    iterate 5 (first | (refine takeN 10 hHeld ?_) | (refine takeY 10 ?_ hHeld ?_ ?_; rotate_left 1; (first | (intro w9 h9; (with_reducible show (execOp _ (Oper.mk _ (Op.load _ _) _ _ _ _)).run _ _ = _); first | exact h9.ldA) | focus (intro w9 hSw; go_simp; (try (with_reducible rfl)); done))); try simp only [Act.put, sxQ])
    refine wpAnyH_done (by kernel_rfl) ?_ _
    refine NoPanic.normal ?_
    go_wp2_with (first | go_skip | ((with_reducible show wpList _ _ _ _ _ (World.alloc _ _)); refine wpList_up hm ?_; clear hm; intro n w hn hn2 hk hm hd hd2 ho; (try rw [← hn]); replace hn := Nat.le_of_eq hn.symm) | ((first | ((with_reducible show wpList _ _ _ (Oper.mk _ (Op.box _ _) _ _ _ _ :: _) _ _); (refine bxA hm ?_; clear hm; intro n w hn hz hm ho; (try simp only [List.cons_append, List.nil_append] at hm))) | ((with_reducible show wpList _ _ _ (Oper.mk _ (Op.load _ _) _ _ _ _ :: _) _ _); first | (refine ldA hm ?_) | (refine laA hm ?_)) | ((with_reducible show wpList _ _ _ (Oper.mk _ (Op.store _ _ _) _ _ _ _ :: _) _ _); (refine stA hm ?_; clear hm; intro w hz hm ho)) | ((with_reducible show wpList _ _ _ (Oper.mk _ (Op.alloc _) _ _ _ _ :: _) _ _); (refine alA hm ?_; clear hm; intro n w hn hz hm ho; (try simp only [List.cons_append, List.nil_append] at hm)))); try simp only [Act.put, sxQ]))
    go_ret
    exact ORes.of (by have := (hm.sl_ 2 rfl).len; simp only [length_bcells] at this; omega) (hm.freshG 0 2 rfl rfl) (hm.still 0 rfl HK.out)
/-- What decrypt leaves. -/
def DecR (w : World) (o : Option (List UInt8)) (e : Ending) (w' : World) : Prop :=
  Below w.heap.size w w' ∧ ((o = none ∧ e = .returned (.tuple #[.slice none 0 0, .iface 106 (.agg #[.int .i64 4])])) ∨
    ∃ d A n c, o = some d ∧ d.length = n ∧ e = .returned (.tuple #[.slice A n c, .nilIface]) ∧ Own w' w.heap.size 5 1 A n c (bcells d))
theorem dec_call (A A' A'' : Option Addr) (n c c' c'' : Nat) (key iv d : List UInt8) (u : World) (hk : Byt u u.heap.size A 16 c key) (hv : Byt u u.heap.size A' 8 c' iv) (hd : Byt u u.heap.size A'' n c'' d) (hn : n ≤ 1000000) :
    Calls Tryz.prog 78 #[.slice A 16 c, .slice A' 8 c', .slice A'' n c''] u fun e u' => ∃ A1 m c1, e = .returned (.tuple #[.slice A1 m c1, .int .i64 (if n % 8 = 0 then 0 else 1)]) ∧ m ≤ n ∧ Own u' u.heap.size 5 1 A1 m c1 (bcells (Mod.cbB key iv d true)) ∧ Below u.heap.size u u' := by
  refine (mode_DecryptCBC A A' A'' 16 8 n c c' c'' key iv d u hk hv hd hn).mono ?_
  rintro e u' ⟨A1, c1, rfl, ho, hb⟩
  refine ⟨A1, _, c1, ?_, ?_, ho, hb⟩
  · unfold Mod.cbE
    by_cases h8 : n % 8 = 0
    · rw [if_pos h8, if_pos ((Mod.ok_iff _ _ _).2 ⟨hk.1, hv.1, by rw [hd.1]; exact h8⟩)]
    · rw [if_neg h8, if_neg (fun h => h8 (by have := ((Mod.ok_iff _ _ _).1 h).2.2; rwa [hd.1] at this))]
  · by_cases hok : Mod.ok key iv d = true
    · rw [Mod.cbB_length _ _ _ _ hok, hd.1]; exact Nat.le_refl _
    · unfold Mod.cbB; rw [if_neg hok]; exact Nat.zero_le _
set_option maxRecDepth 100000 in
theorem ch_decrypt (w0 : World) (g : Nat) (F : Nat → Prop) (s : Sec.S) (H : ChAt' w0 g F s) (hc : s.cnt ≤ 1000000) (A : Option Addr) (dn c : Nat) (bs : List UInt8) (h : Byt w0 w0.heap.size A dn c bs) (hdn : dn ≤ 100000) (r : Bool) :
    Calls Tryz.prog 64 #[.pointer (some ⟨g, 0, none⟩), .slice A dn c, .bool r] w0 (DecR w0 (Sec.show? s r bs)) := by
  have HH := Lib.hid H
  obtain ⟨a, H⟩ := H
  have HK := Lib.hid H.blk
  have hm : Mem (fun q => q = g) w0 w0 [⟨g, _, _⟩] [] := Mem.one H.blk rfl
  have HE := Lib.hid H.enc.1
  have HB := Lib.hid h
  have hivl := Sec.iv_length s r H.ok.enc
  have HV := Lib.hid hivl
  have hbl0 := h.1
  clear H hivl h
  obtain ⟨E, ce, a2, a3, a4, a5, a6, a7, a8, a9⟩ := a
  simp only [cch] at hm HK
  by_cases h0 : dn = 0
  · subst h0
    obtain rfl : bs = [] := List.length_eq_zero_iff.1 hbl0
    have e : Sec.show? s r [] = some [] := by unfold Sec.show?; rw [if_pos rfl]
    rw [e]
    clear e HH
    go_enter Tryz.func64, Tryz.ntmps64
    go_wp2_with (first | go_skip | ((with_reducible show wpList _ _ _ _ _ (World.alloc _ _)); refine wpList_up hm ?_; clear hm; intro n w hn hn2 hk hm hd hd2 ho; (try rw [← hn]); replace hn := Nat.le_of_eq hn.symm) | ((first | ((with_reducible show wpList _ _ _ (Oper.mk _ (Op.box _ _) _ _ _ _ :: _) _ _); (refine bxA hm ?_; clear hm; intro n w hn hz hm ho; (try simp only [List.cons_append, List.nil_append] at hm))) | ((with_reducible show wpList _ _ _ (Oper.mk _ (Op.load _ _) _ _ _ _ :: _) _ _); first | (refine ldA hm ?_) | (refine laA hm ?_)) | ((with_reducible show wpList _ _ _ (Oper.mk _ (Op.store _ _ _) _ _ _ _ :: _) _ _); (refine stA hm ?_; clear hm; intro w hz hm ho)) | ((with_reducible show wpList _ _ _ (Oper.mk _ (Op.alloc _) _ _ _ _ :: _) _ _); (refine alA hm ?_; clear hm; intro n w hn hz hm ho; (try simp only [List.cons_append, List.nil_append] at hm)))); try simp only [Act.put, sxQ]))
    go_ret2
    exact ⟨hm.still 0 rfl HK.out, .inr ⟨[], none, 0, 0, rfl, rfl, rfl, Own.none_ _ _ _ _ _⟩⟩
  · have e : Sec.show? s r bs = if dn % 8 = 0 then Oct.unp (Mod.cbB s.enc (Sec.iv s r) bs true) else none := by
      unfold Sec.show?
      rw [if_neg (fun e => by rw [e] at hbl0; exact h0 hbl0.symm), hbl0]
    rw [e]
    clear e hbl0
    have i0 : ((dn : Int) == 0) = false := by rw [beq_eq_false_iff_ne]; omega
    have hS : ∀ u, Below w0.heap.size w0 u → Calls Tryz.prog 60 #[.pointer (some ⟨g, 0, none⟩), .bool r] u fun e u' => ∃ A c, e = .returned (.slice A 8 c) ∧ Own u' u.heap.size 5 1 A 8 c (bcells (Sec.iv s r)) ∧ Below u.heap.size u u' := fun u hu =>
      (ch_start u g F s (HH.out.away (R := fun _ => False) (Only.of_below hu) (fun _ _ e => e)) hc r).mono fun e u' h => h.len HV.out
    have HS := Lib.hid hS
    clear hS HH hc
    generalize Sec.iv s r = iv at *
    have hU : ∀ (u : World) A1 m c1, m ≤ 100000 → Own u 0 5 1 A1 m c1 (bcells (Mod.cbB s.enc iv bs true)) → Calls Tryz.prog 79 #[.slice A1 m c1] u (BRes 5 u (Oct.unpB (Mod.cbB s.enc iv bs true)) (Oct.unpE (Mod.cbB s.enc iv bs true))) := fun u A1 m c1 hm1 ho => octets_Unpad A1 m c1 _ u (ho.byt (Nat.le_refl _)) (by omega)
    have HU := Lib.hid hU
    clear hU
    generalize hX : Mod.cbB s.enc iv bs true = X at HU ⊢
    have HX := Lib.hid hX
    clear hX
    have hu1 : Oct.unp X = none → Oct.unpE X = 4 ∧ Oct.unpB X = [] := fun e => by unfold Oct.unpE Oct.unpB; rw [e]; exact ⟨rfl, rfl⟩
    have hu2 : ∀ d, Oct.unp X = some d → Oct.unpE X = 0 ∧ Oct.unpB X = d := fun d e => by unfold Oct.unpE Oct.unpB; rw [e]; exact ⟨rfl, rfl⟩
    have HU1 := Lib.hid hu1
    have HU2 := Lib.hid hu2
    clear hu1 hu2
    by_cases h8 : dn % 8 = 0
    · rw [if_pos h8]
      have HD := Lib.hid (fun A' c' (u : World) hk hv hd => by have := dec_call E A' A dn ce c' c s.enc iv bs u hk hv hd (by omega); rw [if_pos h8] at this; exact this)
      clear h8
      go_enter Tryz.func64, Tryz.ntmps64
      go_wp2_with (first | go_skip | ((with_reducible show wpList _ _ _ _ _ (World.alloc _ _)); refine wpList_up hm ?_; clear hm; intro n w hn hn2 hk hm hd hd2 ho; (try rw [← hn]); replace hn := Nat.le_of_eq hn.symm) | ((first | ((with_reducible show wpList _ _ _ (Oper.mk _ (Op.box _ _) _ _ _ _ :: _) _ _); (refine bxA hm ?_; clear hm; intro n w hn hz hm ho; (try simp only [List.cons_append, List.nil_append] at hm))) | ((with_reducible show wpList _ _ _ (Oper.mk _ (Op.load _ _) _ _ _ _ :: _) _ _); first | (refine ldA hm ?_) | (refine laA hm ?_)) | ((with_reducible show wpList _ _ _ (Oper.mk _ (Op.store _ _ _) _ _ _ _ :: _) _ _); (refine stA hm ?_; clear hm; intro w hz hm ho)) | ((with_reducible show wpList _ _ _ (Oper.mk _ (Op.alloc _) _ _ _ _ :: _) _ _); (refine alA hm ?_; clear hm; intro n w hn hz hm ho; (try simp only [List.cons_append, List.nil_append] at hm)))); try simp only [Act.put, sxQ]))
      refine wp_region_noPanic ?_
      refine wp_region_held_drew (S := MemS _ _ _ _) (by kernel_rfl) (MemS.of hm.drew) (fun hHeld => ?_)
      refine wpAnyH_fresh (by repeat (first | apply Fresh.a | apply Fresh.b)) ?_
      replace hm := hm.drew
      iterate 7 (first | (refine takeN 0 hHeld ?_) | (refine takeY 0 ?_ hHeld ?_ ?_; rotate_left 1; (first | (intro w9 h9; (with_reducible show (execOp _ (Oper.mk _ (Op.load _ _) _ _ _ _)).run _ _ = _); first | exact h9.ldA) | focus (intro w9 hSw; go_simp; (try (with_reducible rfl)); done))); try simp only [Act.put, sxQ])
      iterate 1 (first | (refine takeN 8 hHeld ?_) | (refine takeY 8 ?_ hHeld ?_ ?_; rotate_left 1; (first | (intro w9 h9; (with_reducible show (execOp _ (Oper.mk _ (Op.load _ _) _ _ _ _)).run _ _ = _); first | exact h9.ldA) | focus (intro w9 hSw; go_simp; (try (with_reducible rfl)); done))); try simp only [Act.put, sxQ])
      refine wpAnyH_ready (rs := [7]) (by kernel_rfl) (by simp) ?_
      refine AllReadyH.cons2 (by simp only [sxN]; first | done | exact rfl) (fun K hK => ?_)
      rw [if_pos (by rfl)]
      go_simp
      refine (HS.out _ (by exact hm.still 0 rfl HK.out)).mono ?_
      rintro e w5 ⟨A5, c5, rfl, hown, hbl5⟩
      replace hm := hm.got hbl5 hown
      clear hown
      go_simp
      refine hK.out _ _ (MemS.of hm.less) (fun hHeld => ?_)
      clear hK K
      try simp only [Act.put, sxQ]
      refine wpAnyH_ready (rs := [9]) (by kernel_rfl) (by simp) ?_
      refine AllReadyH.cons2 (by simp only [sxN]; first | done | exact rfl) (fun K hK => ?_)
      rw [if_pos (by rfl)]
      go_simp
      refine (HD.out A5 c5 _ (by exact (HE.out.below (hm.still 0 rfl HK.out)).more hm.only.size) (by exact (hm.sl_ 0 rfl).byt (Nat.le_refl _)) (by exact (HB.out.below (hm.still 0 rfl HK.out)).more hm.only.size)).mono ?_
      rw [HX.out]
      rintro e w6 ⟨A6, m6, c6, rfl, hm6, hown, hbl6⟩
      replace hm := hm.got hbl6 hown
      clear hown
      go_simp
      refine hK.out _ _ (MemS.of hm.less.less) (fun hHeld => ?_)
      clear hK K
      try simp only [Act.put, sxQ]
      iterate 5 (first | (refine takeN 10 hHeld ?_) | (refine takeY 10 ?_ hHeld ?_ ?_; rotate_left 1; (first | (intro w9 h9; (with_reducible show (execOp _ (Oper.mk _ (Op.load _ _) _ _ _ _)).run _ _ = _); first | exact h9.ldA) | focus (intro w9 hSw; go_simp; (try (with_reducible rfl)); done))); try simp only [Act.put, sxQ])
      refine wpAnyH_done (by kernel_rfl) ?_ _
      refine NoPanic.normal ?_
      cases hu : Oct.unp X with
      | none =>
        obtain ⟨e4, eB⟩ := HU1.out hu
        rw [e4, eB] at HU
        have HUU := Lib.hid hu
        clear hu e4 eB HU1 HU2
        go_wp2_with (first | go_skip | ((with_reducible show wpList _ _ _ _ _ (World.alloc _ _)); refine wpList_up hm ?_; clear hm; intro n w hn hn2 hk hm hd hd2 ho; (try rw [← hn]); replace hn := Nat.le_of_eq hn.symm) | ((first | ((with_reducible show wpList _ _ _ (Oper.mk _ (Op.box _ _) _ _ _ _ :: _) _ _); (refine bxA hm ?_; clear hm; intro n w hn hz hm ho; (try simp only [List.cons_append, List.nil_append] at hm))) | ((with_reducible show wpList _ _ _ (Oper.mk _ (Op.load _ _) _ _ _ _ :: _) _ _); first | (refine ldA hm ?_) | (refine laA hm ?_)) | ((with_reducible show wpList _ _ _ (Oper.mk _ (Op.store _ _ _) _ _ _ _ :: _) _ _); (refine stA hm ?_; clear hm; intro w hz hm ho)) | ((with_reducible show wpList _ _ _ (Oper.mk _ (Op.alloc _) _ _ _ _ :: _) _ _); (refine alA hm ?_; clear hm; intro n w hn hz hm ho; (try simp only [List.cons_append, List.nil_append] at hm)))); try simp only [Act.put, sxQ]) | (go_at_call 79; refine (HU.out _ A6 m6 c6 (by omega) (by exact hm.sl_ 1 rfl)).mono ?_; rintro e w7 ⟨A7, c7, rfl, hown, hbl7⟩; replace hm := hm.got hbl7 hown; clear hown))
        go_ret2
        exact ⟨hm.still 0 rfl HK.out, .inl ⟨HUU.out, rfl⟩⟩
      | some d =>
        obtain ⟨e4, eB⟩ := HU2.out d hu
        rw [e4, eB] at HU
        have HUU := Lib.hid hu
        clear hu e4 eB HU1 HU2
        go_wp2_with (first | go_skip | ((with_reducible show wpList _ _ _ _ _ (World.alloc _ _)); refine wpList_up hm ?_; clear hm; intro n w hn hn2 hk hm hd hd2 ho; (try rw [← hn]); replace hn := Nat.le_of_eq hn.symm) | ((first | ((with_reducible show wpList _ _ _ (Oper.mk _ (Op.box _ _) _ _ _ _ :: _) _ _); (refine bxA hm ?_; clear hm; intro n w hn hz hm ho; (try simp only [List.cons_append, List.nil_append] at hm))) | ((with_reducible show wpList _ _ _ (Oper.mk _ (Op.load _ _) _ _ _ _ :: _) _ _); first | (refine ldA hm ?_) | (refine laA hm ?_)) | ((with_reducible show wpList _ _ _ (Oper.mk _ (Op.store _ _ _) _ _ _ _ :: _) _ _); (refine stA hm ?_; clear hm; intro w hz hm ho)) | ((with_reducible show wpList _ _ _ (Oper.mk _ (Op.alloc _) _ _ _ _ :: _) _ _); (refine alA hm ?_; clear hm; intro n w hn hz hm ho; (try simp only [List.cons_append, List.nil_append] at hm)))); try simp only [Act.put, sxQ]) | (go_at_call 79; refine (HU.out _ A6 m6 c6 (by omega) (by exact hm.sl_ 1 rfl)).mono ?_; rintro e w7 ⟨A7, c7, rfl, hown, hbl7⟩; replace hm := hm.got hbl7 hown; clear hown))
        go_ret2
        exact ⟨hm.still 0 rfl HK.out, .inr ⟨d, A7, _, c7, HUU.out, rfl, rfl, hm.freshG 0 2 rfl rfl⟩⟩
    · rw [if_neg h8]
      have HD := Lib.hid (fun A' c' (u : World) hk hv hd => by have := dec_call E A' A dn ce c' c s.enc iv bs u hk hv hd (by omega); rw [if_neg h8] at this; exact this)
      clear h8 HU HU1 HU2
      go_enter Tryz.func64, Tryz.ntmps64
      go_wp2_with (first | go_skip | ((with_reducible show wpList _ _ _ _ _ (World.alloc _ _)); refine wpList_up hm ?_; clear hm; intro n w hn hn2 hk hm hd hd2 ho; (try rw [← hn]); replace hn := Nat.le_of_eq hn.symm) | ((first | ((with_reducible show wpList _ _ _ (Oper.mk _ (Op.box _ _) _ _ _ _ :: _) _ _); (refine bxA hm ?_; clear hm; intro n w hn hz hm ho; (try simp only [List.cons_append, List.nil_append] at hm))) | ((with_reducible show wpList _ _ _ (Oper.mk _ (Op.load _ _) _ _ _ _ :: _) _ _); first | (refine ldA hm ?_) | (refine laA hm ?_)) | ((with_reducible show wpList _ _ _ (Oper.mk _ (Op.store _ _ _) _ _ _ _ :: _) _ _); (refine stA hm ?_; clear hm; intro w hz hm ho)) | ((with_reducible show wpList _ _ _ (Oper.mk _ (Op.alloc _) _ _ _ _ :: _) _ _); (refine alA hm ?_; clear hm; intro n w hn hz hm ho; (try simp only [List.cons_append, List.nil_append] at hm)))); try simp only [Act.put, sxQ]))
      refine wp_region_noPanic ?_
      refine wp_region_held_drew (S := MemS _ _ _ _) (by kernel_rfl) (MemS.of hm.drew) (fun hHeld => ?_)
      refine wpAnyH_fresh (by repeat (first | apply Fresh.a | apply Fresh.b)) ?_
      replace hm := hm.drew
      iterate 7 (first | (refine takeN 0 hHeld ?_) | (refine takeY 0 ?_ hHeld ?_ ?_; rotate_left 1; (first | (intro w9 h9; (with_reducible show (execOp _ (Oper.mk _ (Op.load _ _) _ _ _ _)).run _ _ = _); first | exact h9.ldA) | focus (intro w9 hSw; go_simp; (try (with_reducible rfl)); done))); try simp only [Act.put, sxQ])
      iterate 1 (first | (refine takeN 8 hHeld ?_) | (refine takeY 8 ?_ hHeld ?_ ?_; rotate_left 1; (first | (intro w9 h9; (with_reducible show (execOp _ (Oper.mk _ (Op.load _ _) _ _ _ _)).run _ _ = _); first | exact h9.ldA) | focus (intro w9 hSw; go_simp; (try (with_reducible rfl)); done))); try simp only [Act.put, sxQ])
      refine wpAnyH_ready (rs := [7]) (by kernel_rfl) (by simp) ?_
      refine AllReadyH.cons2 (by simp only [sxN]; first | done | exact rfl) (fun K hK => ?_)
      rw [if_pos (by rfl)]
      go_simp
      refine (HS.out _ (by exact hm.still 0 rfl HK.out)).mono ?_
      rintro e w5 ⟨A5, c5, rfl, hown, hbl5⟩
      replace hm := hm.got hbl5 hown
      clear hown
      go_simp
      refine hK.out _ _ (MemS.of hm.less) (fun hHeld => ?_)
      clear hK K
      try simp only [Act.put, sxQ]
      refine wpAnyH_ready (rs := [9]) (by kernel_rfl) (by simp) ?_
      refine AllReadyH.cons2 (by simp only [sxN]; first | done | exact rfl) (fun K hK => ?_)
      rw [if_pos (by rfl)]
      go_simp
      refine (HD.out A5 c5 _ (by exact (HE.out.below (hm.still 0 rfl HK.out)).more hm.only.size) (by exact (hm.sl_ 0 rfl).byt (Nat.le_refl _)) (by exact (HB.out.below (hm.still 0 rfl HK.out)).more hm.only.size)).mono ?_
      rintro e w6 ⟨A6, m6, c6, rfl, hm6, hown, hbl6⟩
      replace hm := hm.got hbl6 hown
      clear hown
      go_simp
      refine hK.out _ _ (MemS.of hm.less.less) (fun hHeld => ?_)
      clear hK K
      try simp only [Act.put, sxQ]
      iterate 5 (first | (refine takeN 10 hHeld ?_) | (refine takeY 10 ?_ hHeld ?_ ?_; rotate_left 1; (first | (intro w9 h9; (with_reducible show (execOp _ (Oper.mk _ (Op.load _ _) _ _ _ _)).run _ _ = _); first | exact h9.ldA) | focus (intro w9 hSw; go_simp; (try (with_reducible rfl)); done))); try simp only [Act.put, sxQ])
      refine wpAnyH_done (by kernel_rfl) ?_ _
      refine NoPanic.normal ?_
      go_wp2_with (first | go_skip | ((with_reducible show wpList _ _ _ _ _ (World.alloc _ _)); refine wpList_up hm ?_; clear hm; intro n w hn hn2 hk hm hd hd2 ho; (try rw [← hn]); replace hn := Nat.le_of_eq hn.symm) | ((first | ((with_reducible show wpList _ _ _ (Oper.mk _ (Op.box _ _) _ _ _ _ :: _) _ _); (refine bxA hm ?_; clear hm; intro n w hn hz hm ho; (try simp only [List.cons_append, List.nil_append] at hm))) | ((with_reducible show wpList _ _ _ (Oper.mk _ (Op.load _ _) _ _ _ _ :: _) _ _); first | (refine ldA hm ?_) | (refine laA hm ?_)) | ((with_reducible show wpList _ _ _ (Oper.mk _ (Op.store _ _ _) _ _ _ _ :: _) _ _); (refine stA hm ?_; clear hm; intro w hz hm ho)) | ((with_reducible show wpList _ _ _ (Oper.mk _ (Op.alloc _) _ _ _ _ :: _) _ _); (refine alA hm ?_; clear hm; intro n w hn hz hm ho; (try simp only [List.cons_append, List.nil_append] at hm)))); try simp only [Act.put, sxQ]))
      go_ret2
      exact ⟨hm.still 0 rfl HK.out, .inl ⟨rfl, rfl⟩⟩
end Go.Proofs.YtibaibdgpnkdnaaGreatDoor
