/-
  The reference of the channel: three, header, hide, show, tag.
-/
import Derived.Test.YtibaibdgpnkdnaaGreatDoorZ1
import Derived.Test.YtibaibdgpnkdnaaGreatDoorSecRA
namespace Go.Proofs.YtibaibdgpnkdnaaGreatDoor
set_option maxRecDepth 100000
set_option linter.unusedSimpArgs false
set_option linter.unusedVariables false
open Go.RowKit
set_option maxHeartbeats 8000000

theorem byt_of_blk {w : World} {R : Nat → Prop} {s : World} {L : List Ent} {O : List Osl} (hm : Mem R s w L O) (k : Nat) {A : Option Addr} {n c : Nat} {t : TypeId} {bs : List UInt8} (hk : O[k]? = some ⟨t, 1, A, n, c, bcells bs⟩) : Byt w w.heap.size A n c bs := (hm.sl_ k hk).byt (Nat.le_refl _)
set_option maxRecDepth 100000 in
theorem ref24_three (n : Int) (h0 : 0 ≤ n) (h1 : n ≤ 16777215) (w0 : World) :
    Calls Tryz.prog 70 #[.int .i64 n] w0 fun e w' => ∃ A c, e = .returned (.slice A 3 c) ∧ Own w' w0.heap.size 5 1 A 3 c (bcells (Sec.three n)) ∧ Below w0.heap.size w0 w' := by
  have q1 := wrap_by8 (n / 65536)
  have q2 := wrap_by8 (n / 256)
  have q3 := wrap_by8 n
  have hm := Mem.nil (fun _ => False) w0
  go_enter Tryz.func70, Tryz.ntmps70
  go_wp2_with (first | go_skip | ((with_reducible show wpList _ _ _ _ _ (World.alloc _ _)); refine wpList_up hm ?_; clear hm; intro n w hn hn2 hk hm hd hd2 ho; (try rw [← hn]); replace hn := Nat.le_of_eq hn.symm) | ((first | ((with_reducible show wpList _ _ _ (Oper.mk _ (Op.box _ _) _ _ _ _ :: _) _ _); (refine bxA hm ?_; clear hm; intro n w hn hz hm ho; (try simp only [List.cons_append, List.nil_append] at hm))) | ((with_reducible show wpList _ _ _ (Oper.mk _ (Op.load _ _) _ _ _ _ :: _) _ _); first | (refine ldA hm ?_) | (refine laA hm ?_)) | ((with_reducible show wpList _ _ _ (Oper.mk _ (Op.store _ _ _) _ _ _ _ :: _) _ _); (refine stA hm ?_; clear hm; intro w hz hm ho)) | ((with_reducible show wpList _ _ _ (Oper.mk _ (Op.alloc _) _ _ _ _ :: _) _ _); (refine alA hm ?_; clear hm; intro n w hn hz hm ho; (try simp only [List.cons_append, List.nil_append] at hm)))); try simp only [Act.put, sxQ]))
  have hm := hm.newrow 5 #[.int .u8 ((Sec.by8 (n / 65536)).toNat : Int), .int .u8 ((Sec.by8 (n / 256)).toNat : Int), .int .u8 ((Sec.by8 n).toNat : Int)] 1 3 (bcells (Sec.three n)) rfl rfl (by unfold maxLen; omega)
  go_ret
  exact ⟨_, 3, rfl, hm.own_ 0 rfl, hm.low⟩
theorem rjoin_list (q : Nat) (vs : List SV) (k m : Nat) (hk : vs.length = k) (u : World) (hr : Row u u.heap.size (some ⟨q, 0, none⟩) (vs.map SV.val)) (hv : ∀ v ∈ vs, Byt u u.heap.size v.a v.n v.c v.bs) (hm : (joined vs).length = m) (hl : m ≤ 1000000) (hk2 : k ≤ 1000) :
    Calls Tryz.prog 49 #[.slice (some ⟨q, 0, none⟩) k k] u fun e u' => ∃ A c, e = .returned (.slice A m c) ∧ Own u' u.heap.size 5 1 A m c (bcells (joined vs)) ∧ Below u.heap.size u u' := by
  refine (ref01_Join (some ⟨q, 0, none⟩) k k vs u ⟨hr, hv⟩ hk (by omega) (by omega)).mono ?_
  rintro e u' ⟨A, c, rfl, ho, hb⟩
  rw [hm] at *
  exact ⟨A, c, rfl, ho, hb⟩
theorem rmac_call (A A' A'' : Option Addr) (n c c' c'' : Nat) (key iv d : List UInt8) (u : World) (hk : Byt u u.heap.size A 16 c key) (hv : Byt u u.heap.size A' 8 c' iv) (hd : Byt u u.heap.size A'' n c'' d) (hn : n ≤ 100000) :
    Calls Tryz.prog 48 #[.slice A 16 c, .slice A' 8 c', .slice A'' n c''] u fun e u' => ∃ A1 c1, e = .returned (.tuple #[.slice A1 8 c1, .int .i64 0]) ∧ Byt u' u'.heap.size A1 8 c1 (Mod.mcB key iv d) ∧ (∀ a, A1 = some a → u.heap.size ≤ a.block) ∧ Below u.heap.size u u' := by
  have hl := Mod.mcB_length key iv d ⟨hk.1, hv.1⟩
  refine (ref20_MACn A A' A'' 16 8 n c c' c'' key iv d u hk hv hd hn).mono ?_
  rintro e u' ⟨A1, c1, rfl, ho, hnew, hb⟩
  rw [hl] at *
  refine ⟨A1, c1, ?_, ho, hnew, hb⟩
  unfold Mod.mcE
  rw [if_pos ⟨hk.1, hv.1⟩]
/-- The header of a command with n bytes of protected data. -/
def Sec.hdr (cla ins p1 p2 : Int) (n le : Int) : List UInt8 := [Sec.by8 cla, Sec.by8 ins, Sec.by8 p1, Sec.by8 p2] ++ Sec.three n ++ Sec.three le
theorem rpad_call (A : Option Addr) (n c : Nat) (bs : List UInt8) (w : World) (h : Byt w w.heap.size A n c bs) (hn : n ≤ 100000) :
    Calls Tryz.prog 67 #[.slice A n c, .int .i64 8] w fun e w' => ∃ A2 m c2, e = .returned (.tuple #[.slice A2 m c2, .int .i64 0]) ∧ m % 8 = 0 ∧ m ≤ 100008 ∧ Own w' w.heap.size 5 1 A2 m c2 (bcells (Oct.pad bs 8)) ∧ Below w.heap.size w w' := by
  have hm := Oct.pad_mod bs 8 (by omega)
  have hl := Oct.pad_length bs 8
  have hlt := Oct.padN_lt bs.length 8 (by omega)
  have h1 := h.1
  have eB : Oct.padB bs 8 = Oct.pad bs 8 := by unfold Oct.padB; rw [if_pos (by decide)]; rfl
  have eE : Oct.padE 8 = 0 := by decide
  refine (ref01_Pad A n c bs 8 w h (by omega)).mono ?_
  rintro e w' ⟨A2, c2, rfl, ho, hb⟩
  rw [eB] at ho
  rw [eB, eE]
  exact ⟨A2, _, c2, rfl, hm, by omega, ho, hb⟩
theorem rdec_call (A A' A'' : Option Addr) (n c c' c'' : Nat) (key iv d : List UInt8) (u : World) (hk : Byt u u.heap.size A 16 c key) (hv : Byt u u.heap.size A' 8 c' iv) (hd : Byt u u.heap.size A'' n c'' d) (hn : n ≤ 1000000) :
    Calls Tryz.prog 71 #[.slice A 16 c, .slice A' 8 c', .slice A'' n c''] u fun e u' => ∃ A1 m c1, e = .returned (.tuple #[.slice A1 m c1, .int .i64 (if n % 8 = 0 then 0 else 1)]) ∧ m ≤ n ∧ Own u' u.heap.size 5 1 A1 m c1 (bcells (Mod.cbB key iv d true)) ∧ Below u.heap.size u u' := by
  refine (ref20_DecryptCBC A A' A'' 16 8 n c c' c'' key iv d u hk hv hd hn).mono ?_
  rintro e u' ⟨A1, c1, rfl, ho, hb⟩
  refine ⟨A1, _, c1, ?_, ?_, ho, hb⟩
  · unfold Mod.cbE
    by_cases h8 : n % 8 = 0
    · rw [if_pos h8, if_pos ((Mod.ok_iff _ _ _).2 ⟨hk.1, hv.1, by rw [hd.1]; exact h8⟩)]
    · rw [if_neg h8, if_neg (fun h => h8 (by have := ((Mod.ok_iff _ _ _).1 h).2.2; rwa [hd.1] at this))]
  · by_cases hok : Mod.ok key iv d = true
    · rw [Mod.cbB_length _ _ _ _ hok, hd.1]; exact Nat.le_refl _
    · unfold Mod.cbB; rw [if_neg hok]; exact Nat.zero_le _
/-- What show leaves. -/
def ShowR (w : World) (o : Option (List UInt8)) (e : Ending) (w' : World) : Prop :=
  Below w.heap.size w w' ∧ ((o = none ∧ ∃ A c, e = .returned (.tuple #[.slice A 0 c, .bool false])) ∨
    ∃ d A n c, o = some d ∧ d.length = n ∧ e = .returned (.tuple #[.slice A n c, .bool true]) ∧ Own w' w.heap.size 5 1 A n c (bcells d))
set_option maxRecDepth 100000 in
theorem ref24_header (cla ins p1 p2 : Int) (A : Option Addr) (dn c : Nat) (le : Int) (long : Bool) (nn : Int) (h0 : 0 ≤ nn) (h1 : nn ≤ 100000) (h2 : 0 ≤ le) (h3 : le ≤ 65536) (w0 : World) :
    Calls Tryz.prog 50 #[cmdV cla ins p1 p2 A dn c le long, .int .i64 nn] w0 fun e w' => ∃ A c, e = .returned (.slice A 10 c) ∧ Own w' w0.heap.size 5 1 A 10 c (bcells (Sec.hdr cla ins p1 p2 nn le)) ∧ Below w0.heap.size w0 w' := by
  have HT1 := Lib.hid (ref24_three nn h0 (by omega))
  have HT2 := Lib.hid (ref24_three le h2 (by omega))
  clear h0 h1 h2 h3
  have hm := Mem.nil (fun _ => False) w0
  unfold cmdV
  go_enter Tryz.func50, Tryz.ntmps50
  go_wp2_with (first | go_skip | ((with_reducible show wpList _ _ _ _ _ (World.alloc _ _)); refine wpList_up hm ?_; clear hm; intro n w hn hn2 hk hm hd hd2 ho; (try rw [← hn]); replace hn := Nat.le_of_eq hn.symm) | ((first | ((with_reducible show wpList _ _ _ (Oper.mk _ (Op.box _ _) _ _ _ _ :: _) _ _); (refine bxA hm ?_; clear hm; intro n w hn hz hm ho; (try simp only [List.cons_append, List.nil_append] at hm))) | ((with_reducible show wpList _ _ _ (Oper.mk _ (Op.load _ _) _ _ _ _ :: _) _ _); first | (refine ldA hm ?_) | (refine laA hm ?_)) | ((with_reducible show wpList _ _ _ (Oper.mk _ (Op.store _ _ _) _ _ _ _ :: _) _ _); (refine stA hm ?_; clear hm; intro w hz hm ho)) | ((with_reducible show wpList _ _ _ (Oper.mk _ (Op.alloc _) _ _ _ _ :: _) _ _); (refine alA hm ?_; clear hm; intro n w hn hz hm ho; (try simp only [List.cons_append, List.nil_append] at hm)))); try simp only [Act.put, sxQ]))
  refine wp_region_noPanic ?_
  refine wp_region_held_drew (S := MemS _ _ _ _) (by kernel_rfl) (MemS.of hm.drew) (fun hHeld => ?_)
  refine wpAnyH_fresh (by repeat (first | apply Fresh.a | apply Fresh.b)) ?_
  replace hm := hm.drew
  iterate 12 (first | (refine takeN 0 hHeld ?_) | (refine takeY 0 ?_ hHeld ?_ ?_; rotate_left 1; (first | (intro w9 h9; (with_reducible show (execOp _ (Oper.mk _ (Op.load _ _) _ _ _ _)).run _ _ = _); first | exact h9.ldA) | focus (intro w9 hSw; go_simp; (try (with_reducible rfl)); done))); try simp only [Act.put, sxQ])
  iterate 1 (first | (refine takeN 13 hHeld ?_) | (refine takeY 13 ?_ hHeld ?_ ?_; rotate_left 1; (first | (intro w9 h9; (with_reducible show (execOp _ (Oper.mk _ (Op.load _ _) _ _ _ _)).run _ _ = _); first | exact h9.ldA) | focus (intro w9 hSw; go_simp; (try (with_reducible rfl)); done))); try simp only [Act.put, sxQ])
  iterate 2 (first | (refine takeN 15 hHeld ?_) | (refine takeY 15 ?_ hHeld ?_ ?_; rotate_left 1; (first | (intro w9 h9; (with_reducible show (execOp _ (Oper.mk _ (Op.load _ _) _ _ _ _)).run _ _ = _); first | exact h9.ldA) | focus (intro w9 hSw; go_simp; (try (with_reducible rfl)); done))); try simp only [Act.put, sxQ])
  refine wpAnyH_ready (rs := [12, 14]) (by kernel_rfl) (by simp) ?_
  refine AllReadyH.cons3 (by simp only [sxN]; first | done | exact rfl) (fun K hK => ?_) (AllReadyH.cons2 (by simp only [sxN]; first | done | exact rfl) (fun K hK => ?_))
  ·
    rw [if_pos (by rfl)]
    go_simp
    refine K_up hm ?_
    intro n5 w5 hn hn5s hn5 hm1 hn5d hn5d2 hb5
    first | rw [← hn] | rw [← (show n5 = w.heap.size from hn)]
    rw [wrap_by8, wrap_by8, wrap_by8, wrap_by8] at hn5
    clear hn hm
    have hm := hm1.row hn5 hn5s hn5d hn5d2 1 4 (bcells [Sec.by8 cla, Sec.by8 ins, Sec.by8 p1, Sec.by8 p2]) rfl rfl (by unfold maxLen; omega)
    clear hm1
    refine hK.out _ _ (MemS.of hm.less) (fun hHeld => ?_)
    clear hK K
    try simp only [Act.put, sxQ]
    refine wpAnyH_ready (rs := [14]) (by kernel_rfl) (by simp) ?_
    refine AllReadyH.cons2 (by simp only [sxN]; first | done | exact rfl) (fun K hK => ?_)
    rw [if_pos (by rfl)]
    go_simp
    refine (HT1.out _).mono ?_
    rintro e w6 ⟨A6, c6, rfl, hown, hbl⟩
    replace hm := hm.got hbl hown
    clear hown
    go_simp
    refine hK.out _ _ (MemS.of hm.less.less) (fun hHeld => ?_)
    clear hK K
    try simp only [Act.put, sxQ]
    refine wpAnyH_ready (rs := [17]) (by kernel_rfl) (by simp) ?_
    refine AllReadyH.cons2 (by simp only [sxN]; first | done | exact rfl) (fun K hK => ?_)
    rw [if_pos (by rfl)]
    go_simp
    refine (HT2.out _).mono ?_
    rintro e w7 ⟨A7, c7, rfl, hown, hbl⟩
    replace hm := hm.got hbl hown
    clear hown
    go_simp
    refine hK.out _ _ (MemS.of hm.less.less.less) (fun hHeld => ?_)
    clear hK K
    try simp only [Act.put, sxQ]
    refine wpAnyH_ready (rs := [18]) (by kernel_rfl) (by simp) ?_
    refine AllReadyH.cons2 (by simp only [sxN]; first | done | exact rfl) (fun K hK => ?_)
    rw [if_pos (by rfl)]
    go_simp
    refine K_up hm ?_
    intro n8 w8 hn hn8s hn8 hm1 hn8d hn8d2 hb8
    first | rw [← hn] | rw [← (show n8 = w5.heap.size from hn)] | rw [← (show n8 = w6.heap.size from hn)] | rw [← (show n8 = w7.heap.size from hn)]
    clear hn hm
    have hm := hm1.row hn8 hn8s hn8d hn8d2 1 3 [.slice (some ⟨n5, 0, none⟩) 4 4, .slice A6 3 c6, .slice A7 3 c7] rfl rfl (by unfold maxLen; omega)
    clear hm1
    refine hK.out _ _ (MemS.of hm.less.less.less.less) (fun hHeld => ?_)
    clear hK K
    try simp only [Act.put, sxQ]
    refine wpAnyH_ready (rs := [19]) (by kernel_rfl) (by simp) ?_
    refine AllReadyH.cons2 (by simp only [sxN]; first | done | exact rfl) (fun K hK => ?_)
    rw [if_pos (by rfl)]
    go_simp
    refine (rjoin_list n8 [⟨some ⟨n5, 0, none⟩, 4, 4, [Sec.by8 cla, Sec.by8 ins, Sec.by8 p1, Sec.by8 p2]⟩, ⟨A6, 3, c6, Sec.three nn⟩, ⟨A7, 3, c7, Sec.three le⟩] 3 10 rfl _ (by exact (hm.sl_ 3 rfl).row) (by
      intro v hv
      simp only [List.mem_cons, List.not_mem_nil, or_false] at hv
      rcases hv with rfl | rfl | rfl
      · exact byt_of_blk hm 0 rfl
      · exact byt_of_blk hm 1 rfl
      · exact byt_of_blk hm 2 rfl) (by simp [joined, Sec.three]) (by omega) (by omega)).mono ?_
    rintro e w9 ⟨A9, c9, rfl, hown, hbl⟩
    replace hm := hm.got hbl hown
    clear hown
    go_simp
    refine hK.out _ _ (MemS.of hm.less.less.less.less.less) (fun hHeld => ?_)
    clear hK K
    try simp only [Act.put, sxQ]
    iterate 1 (first | (refine takeN 20 hHeld ?_) | (refine takeY 20 ?_ hHeld ?_ ?_; rotate_left 1; (first | (intro w9 h9; (with_reducible show (execOp _ (Oper.mk _ (Op.load _ _) _ _ _ _)).run _ _ = _); first | exact h9.ldA) | focus (intro w9 hSw; go_simp; (try (with_reducible rfl)); done))); try simp only [Act.put, sxQ])
    refine wpAnyH_done (by kernel_rfl) ?_ _
    refine NoPanic.normal ?_
    go_wp2_with (first | go_skip | ((with_reducible show wpList _ _ _ _ _ (World.alloc _ _)); refine wpList_up hm ?_; clear hm; intro n w hn hn2 hk hm hd hd2 ho; (try rw [← hn]); replace hn := Nat.le_of_eq hn.symm) | ((first | ((with_reducible show wpList _ _ _ (Oper.mk _ (Op.box _ _) _ _ _ _ :: _) _ _); (refine bxA hm ?_; clear hm; intro n w hn hz hm ho; (try simp only [List.cons_append, List.nil_append] at hm))) | ((with_reducible show wpList _ _ _ (Oper.mk _ (Op.load _ _) _ _ _ _ :: _) _ _); first | (refine ldA hm ?_) | (refine laA hm ?_)) | ((with_reducible show wpList _ _ _ (Oper.mk _ (Op.store _ _ _) _ _ _ _ :: _) _ _); (refine stA hm ?_; clear hm; intro w hz hm ho)) | ((with_reducible show wpList _ _ _ (Oper.mk _ (Op.alloc _) _ _ _ _ :: _) _ _); (refine alA hm ?_; clear hm; intro n w hn hz hm ho; (try simp only [List.cons_append, List.nil_append] at hm)))); try simp only [Act.put, sxQ]))
    go_ret
    exact ⟨A9, c9, rfl, by have h := hm.own_ 4 rfl; simpa [joined, Sec.hdr] using h, hm.low⟩
  ·
    rw [if_pos (by rfl)]
    go_simp
    refine (HT1.out _).mono ?_
    rintro e w6 ⟨A6, c6, rfl, hown, hbl⟩
    replace hm := hm.got hbl hown
    clear hown
    go_simp
    refine hK.out _ _ (MemS.of hm.less) (fun hHeld => ?_)
    clear hK K
    try simp only [Act.put, sxQ]
    refine wpAnyH_ready (rs := [12, 17]) (by kernel_rfl) (by simp) ?_
    refine AllReadyH.cons3 (by simp only [sxN]; first | done | exact rfl) (fun K hK => ?_) (AllReadyH.cons2 (by simp only [sxN]; first | done | exact rfl) (fun K hK => ?_))
    ·
      rw [if_pos (by rfl)]
      go_simp
      refine K_up hm ?_
      intro n5 w5 hn hn5s hn5 hm1 hn5d hn5d2 hb5
      first | rw [← hn] | rw [← (show n5 = w.heap.size from hn)]
      rw [wrap_by8, wrap_by8, wrap_by8, wrap_by8] at hn5
      clear hn hm
      have hm := hm1.row hn5 hn5s hn5d hn5d2 1 4 (bcells [Sec.by8 cla, Sec.by8 ins, Sec.by8 p1, Sec.by8 p2]) rfl rfl (by unfold maxLen; omega)
      clear hm1
      refine hK.out _ _ (MemS.of hm.less.less) (fun hHeld => ?_)
      clear hK K
      try simp only [Act.put, sxQ]
      refine wpAnyH_ready (rs := [17]) (by kernel_rfl) (by simp) ?_
      refine AllReadyH.cons2 (by simp only [sxN]; first | done | exact rfl) (fun K hK => ?_)
      rw [if_pos (by rfl)]
      go_simp
      refine (HT2.out _).mono ?_
      rintro e w7 ⟨A7, c7, rfl, hown, hbl⟩
      replace hm := hm.got hbl hown
      clear hown
      go_simp
      refine hK.out _ _ (MemS.of hm.less.less.less) (fun hHeld => ?_)
      clear hK K
      try simp only [Act.put, sxQ]
      refine wpAnyH_ready (rs := [18]) (by kernel_rfl) (by simp) ?_
      refine AllReadyH.cons2 (by simp only [sxN]; first | done | exact rfl) (fun K hK => ?_)
      rw [if_pos (by rfl)]
      go_simp
      refine K_up hm ?_
      intro n8 w8 hn hn8s hn8 hm1 hn8d hn8d2 hb8
      first | rw [← hn] | rw [← (show n8 = w5.heap.size from hn)] | rw [← (show n8 = w6.heap.size from hn)] | rw [← (show n8 = w7.heap.size from hn)]
      clear hn hm
      have hm := hm1.row hn8 hn8s hn8d hn8d2 1 3 [.slice (some ⟨n5, 0, none⟩) 4 4, .slice A6 3 c6, .slice A7 3 c7] rfl rfl (by unfold maxLen; omega)
      clear hm1
      refine hK.out _ _ (MemS.of hm.less.less.less.less) (fun hHeld => ?_)
      clear hK K
      try simp only [Act.put, sxQ]
      refine wpAnyH_ready (rs := [19]) (by kernel_rfl) (by simp) ?_
      refine AllReadyH.cons2 (by simp only [sxN]; first | done | exact rfl) (fun K hK => ?_)
      rw [if_pos (by rfl)]
      go_simp
      refine (rjoin_list n8 [⟨some ⟨n5, 0, none⟩, 4, 4, [Sec.by8 cla, Sec.by8 ins, Sec.by8 p1, Sec.by8 p2]⟩, ⟨A6, 3, c6, Sec.three nn⟩, ⟨A7, 3, c7, Sec.three le⟩] 3 10 rfl _ (by exact (hm.sl_ 3 rfl).row) (by
        intro v hv
        simp only [List.mem_cons, List.not_mem_nil, or_false] at hv
        rcases hv with rfl | rfl | rfl
        · exact byt_of_blk hm 1 rfl
        · exact byt_of_blk hm 0 rfl
        · exact byt_of_blk hm 2 rfl) (by simp [joined, Sec.three]) (by omega) (by omega)).mono ?_
      rintro e w9 ⟨A9, c9, rfl, hown, hbl⟩
      replace hm := hm.got hbl hown
      clear hown
      go_simp
      refine hK.out _ _ (MemS.of hm.less.less.less.less.less) (fun hHeld => ?_)
      clear hK K
      try simp only [Act.put, sxQ]
      iterate 1 (first | (refine takeN 20 hHeld ?_) | (refine takeY 20 ?_ hHeld ?_ ?_; rotate_left 1; (first | (intro w9 h9; (with_reducible show (execOp _ (Oper.mk _ (Op.load _ _) _ _ _ _)).run _ _ = _); first | exact h9.ldA) | focus (intro w9 hSw; go_simp; (try (with_reducible rfl)); done))); try simp only [Act.put, sxQ])
      refine wpAnyH_done (by kernel_rfl) ?_ _
      refine NoPanic.normal ?_
      go_wp2_with (first | go_skip | ((with_reducible show wpList _ _ _ _ _ (World.alloc _ _)); refine wpList_up hm ?_; clear hm; intro n w hn hn2 hk hm hd hd2 ho; (try rw [← hn]); replace hn := Nat.le_of_eq hn.symm) | ((first | ((with_reducible show wpList _ _ _ (Oper.mk _ (Op.box _ _) _ _ _ _ :: _) _ _); (refine bxA hm ?_; clear hm; intro n w hn hz hm ho; (try simp only [List.cons_append, List.nil_append] at hm))) | ((with_reducible show wpList _ _ _ (Oper.mk _ (Op.load _ _) _ _ _ _ :: _) _ _); first | (refine ldA hm ?_) | (refine laA hm ?_)) | ((with_reducible show wpList _ _ _ (Oper.mk _ (Op.store _ _ _) _ _ _ _ :: _) _ _); (refine stA hm ?_; clear hm; intro w hz hm ho)) | ((with_reducible show wpList _ _ _ (Oper.mk _ (Op.alloc _) _ _ _ _ :: _) _ _); (refine alA hm ?_; clear hm; intro n w hn hz hm ho; (try simp only [List.cons_append, List.nil_append] at hm)))); try simp only [Act.put, sxQ]))
      go_ret
      exact ⟨A9, c9, rfl, by have h := hm.own_ 4 rfl; simpa [joined, Sec.hdr] using h, hm.low⟩
    ·
      rw [if_pos (by rfl)]
      go_simp
      refine (HT2.out _).mono ?_
      rintro e w7 ⟨A7, c7, rfl, hown, hbl⟩
      replace hm := hm.got hbl hown
      clear hown
      go_simp
      refine hK.out _ _ (MemS.of hm.less.less) (fun hHeld => ?_)
      clear hK K
      try simp only [Act.put, sxQ]
      refine wpAnyH_ready (rs := [12]) (by kernel_rfl) (by simp) ?_
      refine AllReadyH.cons2 (by simp only [sxN]; first | done | exact rfl) (fun K hK => ?_)
      rw [if_pos (by rfl)]
      go_simp
      refine K_up hm ?_
      intro n5 w5 hn hn5s hn5 hm1 hn5d hn5d2 hb5
      first | rw [← hn] | rw [← (show n5 = w.heap.size from hn)]
      rw [wrap_by8, wrap_by8, wrap_by8, wrap_by8] at hn5
      clear hn hm
      have hm := hm1.row hn5 hn5s hn5d hn5d2 1 4 (bcells [Sec.by8 cla, Sec.by8 ins, Sec.by8 p1, Sec.by8 p2]) rfl rfl (by unfold maxLen; omega)
      clear hm1
      refine hK.out _ _ (MemS.of hm.less.less.less) (fun hHeld => ?_)
      clear hK K
      try simp only [Act.put, sxQ]
      refine wpAnyH_ready (rs := [18]) (by kernel_rfl) (by simp) ?_
      refine AllReadyH.cons2 (by simp only [sxN]; first | done | exact rfl) (fun K hK => ?_)
      rw [if_pos (by rfl)]
      go_simp
      refine K_up hm ?_
      intro n8 w8 hn hn8s hn8 hm1 hn8d hn8d2 hb8
      first | rw [← hn] | rw [← (show n8 = w5.heap.size from hn)] | rw [← (show n8 = w6.heap.size from hn)] | rw [← (show n8 = w7.heap.size from hn)]
      clear hn hm
      have hm := hm1.row hn8 hn8s hn8d hn8d2 1 3 [.slice (some ⟨n5, 0, none⟩) 4 4, .slice A6 3 c6, .slice A7 3 c7] rfl rfl (by unfold maxLen; omega)
      clear hm1
      refine hK.out _ _ (MemS.of hm.less.less.less.less) (fun hHeld => ?_)
      clear hK K
      try simp only [Act.put, sxQ]
      refine wpAnyH_ready (rs := [19]) (by kernel_rfl) (by simp) ?_
      refine AllReadyH.cons2 (by simp only [sxN]; first | done | exact rfl) (fun K hK => ?_)
      rw [if_pos (by rfl)]
      go_simp
      refine (rjoin_list n8 [⟨some ⟨n5, 0, none⟩, 4, 4, [Sec.by8 cla, Sec.by8 ins, Sec.by8 p1, Sec.by8 p2]⟩, ⟨A6, 3, c6, Sec.three nn⟩, ⟨A7, 3, c7, Sec.three le⟩] 3 10 rfl _ (by exact (hm.sl_ 3 rfl).row) (by
        intro v hv
        simp only [List.mem_cons, List.not_mem_nil, or_false] at hv
        rcases hv with rfl | rfl | rfl
        · exact byt_of_blk hm 2 rfl
        · exact byt_of_blk hm 0 rfl
        · exact byt_of_blk hm 1 rfl) (by simp [joined, Sec.three]) (by omega) (by omega)).mono ?_
      rintro e w9 ⟨A9, c9, rfl, hown, hbl⟩
      replace hm := hm.got hbl hown
      clear hown
      go_simp
      refine hK.out _ _ (MemS.of hm.less.less.less.less.less) (fun hHeld => ?_)
      clear hK K
      try simp only [Act.put, sxQ]
      iterate 1 (first | (refine takeN 20 hHeld ?_) | (refine takeY 20 ?_ hHeld ?_ ?_; rotate_left 1; (first | (intro w9 h9; (with_reducible show (execOp _ (Oper.mk _ (Op.load _ _) _ _ _ _)).run _ _ = _); first | exact h9.ldA) | focus (intro w9 hSw; go_simp; (try (with_reducible rfl)); done))); try simp only [Act.put, sxQ])
      refine wpAnyH_done (by kernel_rfl) ?_ _
      refine NoPanic.normal ?_
      go_wp2_with (first | go_skip | ((with_reducible show wpList _ _ _ _ _ (World.alloc _ _)); refine wpList_up hm ?_; clear hm; intro n w hn hn2 hk hm hd hd2 ho; (try rw [← hn]); replace hn := Nat.le_of_eq hn.symm) | ((first | ((with_reducible show wpList _ _ _ (Oper.mk _ (Op.box _ _) _ _ _ _ :: _) _ _); (refine bxA hm ?_; clear hm; intro n w hn hz hm ho; (try simp only [List.cons_append, List.nil_append] at hm))) | ((with_reducible show wpList _ _ _ (Oper.mk _ (Op.load _ _) _ _ _ _ :: _) _ _); first | (refine ldA hm ?_) | (refine laA hm ?_)) | ((with_reducible show wpList _ _ _ (Oper.mk _ (Op.store _ _ _) _ _ _ _ :: _) _ _); (refine stA hm ?_; clear hm; intro w hz hm ho)) | ((with_reducible show wpList _ _ _ (Oper.mk _ (Op.alloc _) _ _ _ _ :: _) _ _); (refine alA hm ?_; clear hm; intro n w hn hz hm ho; (try simp only [List.cons_append, List.nil_append] at hm)))); try simp only [Act.put, sxQ]))
      go_ret
      exact ⟨A9, c9, rfl, by have h := hm.own_ 4 rfl; simpa [joined, Sec.hdr] using h, hm.low⟩
set_option maxRecDepth 100000 in
theorem ref24_hide (w0 : World) (a : ChS) (s : Sec.S) (H : RSt w0 a s) (hc : s.cnt < 256) (A : Option Addr) (dn c : Nat) (bs : List UInt8) (h : Byt w0 w0.heap.size A dn c bs) (hdn : dn ≤ 100000) (r : Bool) :
    Calls Tryz.prog 47 #[.agg (rst a s), .int .i64 (if r then 128 else 0), .slice A dn c] w0 (ORes w0 (Sec.hide s r bs)) := by
  have HV := Lib.hid (Sec.iv_length s r H.ok.enc)
  have HE := Lib.hid H.enc
  have HB := Lib.hid h
  have HKE := Lib.hid H.ok.enc
  have hbl0 := h.1
  have hS : ∀ u, Below w0.heap.size w0 u → Calls Tryz.prog 69 #[.agg (rst a s), .int .i64 (if r then 128 else 0)] u fun e u' => ∃ A c, e = .returned (.slice A 8 c) ∧ Own u' u.heap.size 5 1 A 8 c (bcells (Sec.iv s r)) ∧ Below u.heap.size u u' := fun u hu => (ref24_start u a s (H.below hu) hc r).mono fun e u' h => h.len HV.out
  obtain ⟨y, hy⟩ : ∃ y : Int, y = if r then 128 else 0 := ⟨_, rfl⟩
  rw [← hy] at hS ⊢
  have HS := Lib.hid hS
  clear H h hS hy hc
  have hm := Mem.nil (fun _ => False) w0
  obtain ⟨E, ce, M, cm, R, cr, D, cd, C, cc⟩ := a
  unfold rst cch at HS ⊢
  dsimp only at HS HE ⊢
  by_cases h0 : dn = 0
  · subst h0
    obtain rfl : bs = [] := List.length_eq_zero_iff.1 hbl0
    rw [show Sec.hide s r [] = [] by unfold Sec.hide; rw [if_pos rfl]]
    go_enter Tryz.func47, Tryz.ntmps47
    go_wp2_with (first | go_skip | ((with_reducible show wpList _ _ _ _ _ (World.alloc _ _)); refine wpList_up hm ?_; clear hm; intro n w hn hn2 hk hm hd hd2 ho; (try rw [← hn]); replace hn := Nat.le_of_eq hn.symm) | ((first | ((with_reducible show wpList _ _ _ (Oper.mk _ (Op.box _ _) _ _ _ _ :: _) _ _); (refine bxA hm ?_; clear hm; intro n w hn hz hm ho; (try simp only [List.cons_append, List.nil_append] at hm))) | ((with_reducible show wpList _ _ _ (Oper.mk _ (Op.load _ _) _ _ _ _ :: _) _ _); first | (refine ldA hm ?_) | (refine laA hm ?_)) | ((with_reducible show wpList _ _ _ (Oper.mk _ (Op.store _ _ _) _ _ _ _ :: _) _ _); (refine stA hm ?_; clear hm; intro w hz hm ho)) | ((with_reducible show wpList _ _ _ (Oper.mk _ (Op.alloc _) _ _ _ _ :: _) _ _); (refine alA hm ?_; clear hm; intro n w hn hz hm ho; (try simp only [List.cons_append, List.nil_append] at hm)))); try simp only [Act.put, sxQ]))
    go_ret
    exact ORes.nil hm.low
  · rw [show Sec.hide s r bs = Mod.cbB s.enc (Sec.iv s r) (Oct.pad bs 8) false by
      unfold Sec.hide
      rw [if_neg (fun e => by rw [e] at hbl0; exact h0 hbl0.symm)]]
    clear hbl0
    have i0 : ((dn : Int) == 0) = false := by rw [beq_eq_false_iff_ne]; omega
    generalize Sec.iv s r = iv at *
    go_enter Tryz.func47, Tryz.ntmps47
    go_wp2_with (first | go_skip | ((with_reducible show wpList _ _ _ _ _ (World.alloc _ _)); refine wpList_up hm ?_; clear hm; intro n w hn hn2 hk hm hd hd2 ho; (try rw [← hn]); replace hn := Nat.le_of_eq hn.symm) | ((first | ((with_reducible show wpList _ _ _ (Oper.mk _ (Op.box _ _) _ _ _ _ :: _) _ _); (refine bxA hm ?_; clear hm; intro n w hn hz hm ho; (try simp only [List.cons_append, List.nil_append] at hm))) | ((with_reducible show wpList _ _ _ (Oper.mk _ (Op.load _ _) _ _ _ _ :: _) _ _); first | (refine ldA hm ?_) | (refine laA hm ?_)) | ((with_reducible show wpList _ _ _ (Oper.mk _ (Op.store _ _ _) _ _ _ _ :: _) _ _); (refine stA hm ?_; clear hm; intro w hz hm ho)) | ((with_reducible show wpList _ _ _ (Oper.mk _ (Op.alloc _) _ _ _ _ :: _) _ _); (refine alA hm ?_; clear hm; intro n w hn hz hm ho; (try simp only [List.cons_append, List.nil_append] at hm)))); try simp only [Act.put, sxQ]) | (go_at_call 67; refine (rpad_call A dn c bs _ (by exact HB.out.low hm) hdn).mono ?_; rintro e w2 ⟨A2, m2, c2, rfl, hm8, hml, hown, hbl⟩; replace hm := hm.got hbl hown; clear hown))
    refine wp_region_noPanic ?_
    refine wp_region_held_drew (S := MemS _ _ _ _) (by kernel_rfl) (MemS.of hm.drew) (fun hHeld => ?_)
    refine wpAnyH_fresh (by repeat (first | apply Fresh.a | apply Fresh.b)) ?_
    replace hm := hm.drew
    iterate 5 (first | (refine takeN 0 hHeld ?_) | (refine takeY 0 ?_ hHeld ?_ ?_; rotate_left 1; (first | (intro w9 h9; (with_reducible show (execOp _ (Oper.mk _ (Op.load _ _) _ _ _ _)).run _ _ = _); first | exact h9.ldA | exact h9.laA) | focus (intro w9 hSw; go_simp; (try (with_reducible rfl)); done))); try simp only [Act.put, sxQ])
    iterate 1 (first | (refine takeN 6 hHeld ?_) | (refine takeY 6 ?_ hHeld ?_ ?_; rotate_left 1; (first | (intro w9 h9; (with_reducible show (execOp _ (Oper.mk _ (Op.load _ _) _ _ _ _)).run _ _ = _); first | exact h9.ldA) | focus (intro w9 hSw; go_simp; (try (with_reducible rfl)); done))); try simp only [Act.put, sxQ])
    refine wpAnyH_ready (rs := [5]) (by kernel_rfl) (by simp) ?_
    refine AllReadyH.cons2 (by simp only [sxN]; first | done | exact rfl) (fun K hK => ?_)
    rw [if_pos (by rfl)]
    go_simp
    refine (HS.out _ (by exact hm.low)).mono ?_
    rintro e w5 ⟨A5, c5, rfl, hown, hbl5⟩
    replace hm := hm.got hbl5 hown
    clear hown
    go_simp
    refine hK.out _ _ (MemS.of hm.less) (fun hHeld => ?_)
    clear hK K
    try simp only [Act.put, sxQ]
    refine wpAnyH_ready (rs := [7]) (by kernel_rfl) (by simp) ?_
    refine AllReadyH.cons2 (by simp only [sxN]; first | done | exact rfl) (fun K hK => ?_)
    rw [if_pos (by rfl)]
    go_simp
    refine (renc_call E A5 A2 m2 ce c5 c2 s.enc iv (Oct.pad bs 8) _ (by exact HE.out.low hm) (by exact byt_of_blk hm 1 rfl) (by exact byt_of_blk hm 0 rfl) hm8 (by omega)).mono ?_
    rintro e w6 ⟨A6, c6, rfl, hown, hbl6⟩
    replace hm := hm.got hbl6 hown
    clear hown
    go_simp
    refine hK.out _ _ (MemS.of hm.less.less) (fun hHeld => ?_)
    clear hK K
    try simp only [Act.put, sxQ]
    iterate 5 (first | (refine takeN 8 hHeld ?_) | (refine takeY 8 ?_ hHeld ?_ ?_; rotate_left 1; (first | (intro w9 h9; (with_reducible show (execOp _ (Oper.mk _ (Op.load _ _) _ _ _ _)).run _ _ = _); first | exact h9.ldA) | focus (intro w9 hSw; go_simp; (try (with_reducible rfl)); done))); try simp only [Act.put, sxQ])
    refine wpAnyH_done (by kernel_rfl) ?_ _
    refine NoPanic.normal ?_
    go_wp2_with (first | go_skip | ((with_reducible show wpList _ _ _ _ _ (World.alloc _ _)); refine wpList_up hm ?_; clear hm; intro n w hn hn2 hk hm hd hd2 ho; (try rw [← hn]); replace hn := Nat.le_of_eq hn.symm) | ((first | ((with_reducible show wpList _ _ _ (Oper.mk _ (Op.box _ _) _ _ _ _ :: _) _ _); (refine bxA hm ?_; clear hm; intro n w hn hz hm ho; (try simp only [List.cons_append, List.nil_append] at hm))) | ((with_reducible show wpList _ _ _ (Oper.mk _ (Op.load _ _) _ _ _ _ :: _) _ _); first | (refine ldA hm ?_) | (refine laA hm ?_)) | ((with_reducible show wpList _ _ _ (Oper.mk _ (Op.store _ _ _) _ _ _ _ :: _) _ _); (refine stA hm ?_; clear hm; intro w hz hm ho)) | ((with_reducible show wpList _ _ _ (Oper.mk _ (Op.alloc _) _ _ _ _ :: _) _ _); (refine alA hm ?_; clear hm; intro n w hn hz hm ho; (try simp only [List.cons_append, List.nil_append] at hm)))); try simp only [Act.put, sxQ]))
    go_ret
    exact ORes.of (by have := (hm.sl_ 2 rfl).len; simp only [length_bcells] at this; omega) (hm.own_ 2 rfl) hm.low
set_option maxRecDepth 100000 in
theorem ref24_show (w0 : World) (a : ChS) (s : Sec.S) (H : RSt w0 a s) (hc : s.cnt < 256) (A : Option Addr) (dn c : Nat) (bs : List UInt8) (h : Byt w0 w0.heap.size A dn c bs) (hdn : dn ≤ 100000) (r : Bool) :
    Calls Tryz.prog 52 #[.agg (rst a s), .int .i64 (if r then 128 else 0), .slice A dn c] w0 (ShowR w0 (Sec.show? s r bs)) := by
  have HV := Lib.hid (Sec.iv_length s r H.ok.enc)
  have HE := Lib.hid H.enc
  have HB := Lib.hid h
  have HKE := Lib.hid H.ok.enc
  have hbl0 := h.1
  have hS : ∀ u, Below w0.heap.size w0 u → Calls Tryz.prog 69 #[.agg (rst a s), .int .i64 (if r then 128 else 0)] u fun e u' => ∃ A c, e = .returned (.slice A 8 c) ∧ Own u' u.heap.size 5 1 A 8 c (bcells (Sec.iv s r)) ∧ Below u.heap.size u u' := fun u hu => (ref24_start u a s (H.below hu) hc r).mono fun e u' h => h.len HV.out
  obtain ⟨y, hy⟩ : ∃ y : Int, y = if r then 128 else 0 := ⟨_, rfl⟩
  rw [← hy] at hS ⊢
  have HS := Lib.hid hS
  clear H h hS hy hc
  have hm := Mem.nil (fun _ => False) w0
  obtain ⟨E, ce, M, cm, R, cr, D, cd, C, cc⟩ := a
  unfold rst cch at HS ⊢
  dsimp only at HS HE ⊢
  by_cases h0 : dn = 0
  · subst h0
    obtain rfl : bs = [] := List.length_eq_zero_iff.1 hbl0
    rw [show Sec.show? s r [] = some [] by unfold Sec.show?; rw [if_pos rfl]]
    go_enter Tryz.func52, Tryz.ntmps52
    go_wp2_with (first | go_skip | ((with_reducible show wpList _ _ _ _ _ (World.alloc _ _)); refine wpList_up hm ?_; clear hm; intro n w hn hn2 hk hm hd hd2 ho; (try rw [← hn]); replace hn := Nat.le_of_eq hn.symm) | ((first | ((with_reducible show wpList _ _ _ (Oper.mk _ (Op.box _ _) _ _ _ _ :: _) _ _); (refine bxA hm ?_; clear hm; intro n w hn hz hm ho; (try simp only [List.cons_append, List.nil_append] at hm))) | ((with_reducible show wpList _ _ _ (Oper.mk _ (Op.load _ _) _ _ _ _ :: _) _ _); first | (refine ldA hm ?_) | (refine laA hm ?_)) | ((with_reducible show wpList _ _ _ (Oper.mk _ (Op.store _ _ _) _ _ _ _ :: _) _ _); (refine stA hm ?_; clear hm; intro w hz hm ho)) | ((with_reducible show wpList _ _ _ (Oper.mk _ (Op.alloc _) _ _ _ _ :: _) _ _); (refine alA hm ?_; clear hm; intro n w hn hz hm ho; (try simp only [List.cons_append, List.nil_append] at hm)))); try simp only [Act.put, sxQ]))
    go_ret2
    exact ⟨hm.low, .inr ⟨[], none, 0, 0, rfl, rfl, rfl, Own.none_ _ _ _ _ _⟩⟩
  · rw [show Sec.show? s r bs = if dn % 8 = 0 then Oct.unp (Mod.cbB s.enc (Sec.iv s r) bs true) else none by
      unfold Sec.show?
      rw [if_neg (fun e => by rw [e] at hbl0; exact h0 hbl0.symm), hbl0]]
    clear hbl0
    have i0 : ((dn : Int) == 0) = false := by rw [beq_eq_false_iff_ne]; omega
    generalize Sec.iv s r = iv at *
    have HU := Lib.hid (fun (u : World) A1 m c1 (hm1 : m ≤ 100000) (ho : Own u 0 5 1 A1 m c1 (bcells (Mod.cbB s.enc iv bs true))) => ref01_Unpad A1 m c1 _ u (ho.byt (Nat.le_refl _)) (by omega))
    generalize hX : Mod.cbB s.enc iv bs true = X at HU ⊢
    have HX := Lib.hid hX
    clear hX
    have HU1 := Lib.hid (fun (e : Oct.unp X = none) => (by unfold Oct.unpE Oct.unpB; rw [e]; exact ⟨rfl, rfl⟩ : Oct.unpE X = 4 ∧ Oct.unpB X = []))
    have HU2 := Lib.hid (fun d (e : Oct.unp X = some d) => (by unfold Oct.unpE Oct.unpB; rw [e]; exact ⟨rfl, rfl⟩ : Oct.unpE X = 0 ∧ Oct.unpB X = d))
    have hd1 := fun A' c' (u : World) hk hv hd => rdec_call E A' A dn ce c' c s.enc iv bs u hk hv hd (by omega)
    by_cases h8 : dn % 8 = 0
    · rw [if_pos h8]
      simp only [if_pos h8] at hd1
      have HD := Lib.hid hd1
      clear h8 hd1
      go_enter Tryz.func52, Tryz.ntmps52
      go_wp2_with (first | go_skip | ((with_reducible show wpList _ _ _ _ _ (World.alloc _ _)); refine wpList_up hm ?_; clear hm; intro n w hn hn2 hk hm hd hd2 ho; (try rw [← hn]); replace hn := Nat.le_of_eq hn.symm) | ((first | ((with_reducible show wpList _ _ _ (Oper.mk _ (Op.box _ _) _ _ _ _ :: _) _ _); (refine bxA hm ?_; clear hm; intro n w hn hz hm ho; (try simp only [List.cons_append, List.nil_append] at hm))) | ((with_reducible show wpList _ _ _ (Oper.mk _ (Op.load _ _) _ _ _ _ :: _) _ _); first | (refine ldA hm ?_) | (refine laA hm ?_)) | ((with_reducible show wpList _ _ _ (Oper.mk _ (Op.store _ _ _) _ _ _ _ :: _) _ _); (refine stA hm ?_; clear hm; intro w hz hm ho)) | ((with_reducible show wpList _ _ _ (Oper.mk _ (Op.alloc _) _ _ _ _ :: _) _ _); (refine alA hm ?_; clear hm; intro n w hn hz hm ho; (try simp only [List.cons_append, List.nil_append] at hm)))); try simp only [Act.put, sxQ]))
      refine wp_region_noPanic ?_
      refine wp_region_held_drew (S := MemS _ _ _ _) (by kernel_rfl) (MemS.of hm.drew) (fun hHeld => ?_)
      refine wpAnyH_fresh (by repeat (first | apply Fresh.a | apply Fresh.b)) ?_
      replace hm := hm.drew
      iterate 5 (first | (refine takeN 0 hHeld ?_) | (refine takeY 0 ?_ hHeld ?_ ?_; rotate_left 1; (first | (intro w9 h9; (with_reducible show (execOp _ (Oper.mk _ (Op.load _ _) _ _ _ _)).run _ _ = _); first | exact h9.ldA | exact h9.laA) | focus (intro w9 hSw; go_simp; (try (with_reducible rfl)); done))); try simp only [Act.put, sxQ])
      iterate 1 (first | (refine takeN 6 hHeld ?_) | (refine takeY 6 ?_ hHeld ?_ ?_; rotate_left 1; (first | (intro w9 h9; (with_reducible show (execOp _ (Oper.mk _ (Op.load _ _) _ _ _ _)).run _ _ = _); first | exact h9.ldA) | focus (intro w9 hSw; go_simp; (try (with_reducible rfl)); done))); try simp only [Act.put, sxQ])
      refine wpAnyH_ready (rs := [5]) (by kernel_rfl) (by simp) ?_
      refine AllReadyH.cons2 (by simp only [sxN]; first | done | exact rfl) (fun K hK => ?_)
      rw [if_pos (by rfl)]
      go_simp
      refine (HS.out _ (by exact hm.low)).mono ?_
      rintro e w5 ⟨A5, c5, rfl, hown, hbl5⟩
      replace hm := hm.got hbl5 hown
      clear hown
      go_simp
      refine hK.out _ _ (MemS.of hm.less) (fun hHeld => ?_)
      clear hK K
      try simp only [Act.put, sxQ]
      refine wpAnyH_ready (rs := [7]) (by kernel_rfl) (by simp) ?_
      refine AllReadyH.cons2 (by simp only [sxN]; first | done | exact rfl) (fun K hK => ?_)
      rw [if_pos (by rfl)]
      go_simp
      refine (HD.out A5 c5 _ (by exact HE.out.low hm) (by exact byt_of_blk hm 0 rfl) (by exact HB.out.low hm)).mono ?_
      rw [HX.out]
      rintro e w6 ⟨A6, m6, c6, rfl, hm6, hown, hbl6⟩
      replace hm := hm.got hbl6 hown
      clear hown
      go_simp
      refine hK.out _ _ (MemS.of hm.less.less) (fun hHeld => ?_)
      clear hK K
      try simp only [Act.put, sxQ]
      iterate 5 (first | (refine takeN 8 hHeld ?_) | (refine takeY 8 ?_ hHeld ?_ ?_; rotate_left 1; (first | (intro w9 h9; (with_reducible show (execOp _ (Oper.mk _ (Op.load _ _) _ _ _ _)).run _ _ = _); first | exact h9.ldA) | focus (intro w9 hSw; go_simp; (try (with_reducible rfl)); done))); try simp only [Act.put, sxQ])
      refine wpAnyH_done (by kernel_rfl) ?_ _
      refine NoPanic.normal ?_
      cases hu : Oct.unp X with
      | none =>
        obtain ⟨e4, eB⟩ := HU1.out hu
        rw [e4, eB] at HU
        have HUU := Lib.hid hu
        clear hu e4 eB HU1 HU2
        go_wp2_with (first | go_skip | ((with_reducible show wpList _ _ _ _ _ (World.alloc _ _)); refine wpList_up hm ?_; clear hm; intro n w hn hn2 hk hm hd hd2 ho; (try rw [← hn]); replace hn := Nat.le_of_eq hn.symm) | ((first | ((with_reducible show wpList _ _ _ (Oper.mk _ (Op.box _ _) _ _ _ _ :: _) _ _); (refine bxA hm ?_; clear hm; intro n w hn hz hm ho; (try simp only [List.cons_append, List.nil_append] at hm))) | ((with_reducible show wpList _ _ _ (Oper.mk _ (Op.load _ _) _ _ _ _ :: _) _ _); first | (refine ldA hm ?_) | (refine laA hm ?_)) | ((with_reducible show wpList _ _ _ (Oper.mk _ (Op.store _ _ _) _ _ _ _ :: _) _ _); (refine stA hm ?_; clear hm; intro w hz hm ho)) | ((with_reducible show wpList _ _ _ (Oper.mk _ (Op.alloc _) _ _ _ _ :: _) _ _); (refine alA hm ?_; clear hm; intro n w hn hz hm ho; (try simp only [List.cons_append, List.nil_append] at hm)))); try simp only [Act.put, sxQ]) | (go_at_call 72; refine (HU.out _ A6 m6 c6 (by omega) (by exact hm.sl_ 1 rfl)).mono ?_; rintro e w7 ⟨A7, c7, rfl, hown, hbl7⟩; replace hm := hm.got hbl7 hown; clear hown))
        go_ret2
        exact ⟨hm.low, .inl ⟨HUU.out, A7, c7, rfl⟩⟩
      | some d =>
        obtain ⟨e4, eB⟩ := HU2.out d hu
        rw [e4, eB] at HU
        have HUU := Lib.hid hu
        clear hu e4 eB HU1 HU2
        go_wp2_with (first | go_skip | ((with_reducible show wpList _ _ _ _ _ (World.alloc _ _)); refine wpList_up hm ?_; clear hm; intro n w hn hn2 hk hm hd hd2 ho; (try rw [← hn]); replace hn := Nat.le_of_eq hn.symm) | ((first | ((with_reducible show wpList _ _ _ (Oper.mk _ (Op.box _ _) _ _ _ _ :: _) _ _); (refine bxA hm ?_; clear hm; intro n w hn hz hm ho; (try simp only [List.cons_append, List.nil_append] at hm))) | ((with_reducible show wpList _ _ _ (Oper.mk _ (Op.load _ _) _ _ _ _ :: _) _ _); first | (refine ldA hm ?_) | (refine laA hm ?_)) | ((with_reducible show wpList _ _ _ (Oper.mk _ (Op.store _ _ _) _ _ _ _ :: _) _ _); (refine stA hm ?_; clear hm; intro w hz hm ho)) | ((with_reducible show wpList _ _ _ (Oper.mk _ (Op.alloc _) _ _ _ _ :: _) _ _); (refine alA hm ?_; clear hm; intro n w hn hz hm ho; (try simp only [List.cons_append, List.nil_append] at hm)))); try simp only [Act.put, sxQ]) | (go_at_call 72; refine (HU.out _ A6 m6 c6 (by omega) (by exact hm.sl_ 1 rfl)).mono ?_; rintro e w7 ⟨A7, c7, rfl, hown, hbl7⟩; replace hm := hm.got hbl7 hown; clear hown))
        go_ret2
        exact ⟨hm.low, .inr ⟨d, A7, _, c7, HUU.out, rfl, rfl, hm.own_ 2 rfl⟩⟩
    · rw [if_neg h8]
      simp only [if_neg h8] at hd1
      have HD := Lib.hid hd1
      clear h8 hd1 HU HU1 HU2
      go_enter Tryz.func52, Tryz.ntmps52
      go_wp2_with (first | go_skip | ((with_reducible show wpList _ _ _ _ _ (World.alloc _ _)); refine wpList_up hm ?_; clear hm; intro n w hn hn2 hk hm hd hd2 ho; (try rw [← hn]); replace hn := Nat.le_of_eq hn.symm) | ((first | ((with_reducible show wpList _ _ _ (Oper.mk _ (Op.box _ _) _ _ _ _ :: _) _ _); (refine bxA hm ?_; clear hm; intro n w hn hz hm ho; (try simp only [List.cons_append, List.nil_append] at hm))) | ((with_reducible show wpList _ _ _ (Oper.mk _ (Op.load _ _) _ _ _ _ :: _) _ _); first | (refine ldA hm ?_) | (refine laA hm ?_)) | ((with_reducible show wpList _ _ _ (Oper.mk _ (Op.store _ _ _) _ _ _ _ :: _) _ _); (refine stA hm ?_; clear hm; intro w hz hm ho)) | ((with_reducible show wpList _ _ _ (Oper.mk _ (Op.alloc _) _ _ _ _ :: _) _ _); (refine alA hm ?_; clear hm; intro n w hn hz hm ho; (try simp only [List.cons_append, List.nil_append] at hm)))); try simp only [Act.put, sxQ]))
      refine wp_region_noPanic ?_
      refine wp_region_held_drew (S := MemS _ _ _ _) (by kernel_rfl) (MemS.of hm.drew) (fun hHeld => ?_)
      refine wpAnyH_fresh (by repeat (first | apply Fresh.a | apply Fresh.b)) ?_
      replace hm := hm.drew
      iterate 5 (first | (refine takeN 0 hHeld ?_) | (refine takeY 0 ?_ hHeld ?_ ?_; rotate_left 1; (first | (intro w9 h9; (with_reducible show (execOp _ (Oper.mk _ (Op.load _ _) _ _ _ _)).run _ _ = _); first | exact h9.ldA | exact h9.laA) | focus (intro w9 hSw; go_simp; (try (with_reducible rfl)); done))); try simp only [Act.put, sxQ])
      iterate 1 (first | (refine takeN 6 hHeld ?_) | (refine takeY 6 ?_ hHeld ?_ ?_; rotate_left 1; (first | (intro w9 h9; (with_reducible show (execOp _ (Oper.mk _ (Op.load _ _) _ _ _ _)).run _ _ = _); first | exact h9.ldA) | focus (intro w9 hSw; go_simp; (try (with_reducible rfl)); done))); try simp only [Act.put, sxQ])
      refine wpAnyH_ready (rs := [5]) (by kernel_rfl) (by simp) ?_
      refine AllReadyH.cons2 (by simp only [sxN]; first | done | exact rfl) (fun K hK => ?_)
      rw [if_pos (by rfl)]
      go_simp
      refine (HS.out _ (by exact hm.low)).mono ?_
      rintro e w5 ⟨A5, c5, rfl, hown, hbl5⟩
      replace hm := hm.got hbl5 hown
      clear hown
      go_simp
      refine hK.out _ _ (MemS.of hm.less) (fun hHeld => ?_)
      clear hK K
      try simp only [Act.put, sxQ]
      refine wpAnyH_ready (rs := [7]) (by kernel_rfl) (by simp) ?_
      refine AllReadyH.cons2 (by simp only [sxN]; first | done | exact rfl) (fun K hK => ?_)
      rw [if_pos (by rfl)]
      go_simp
      refine (HD.out A5 c5 _ (by exact HE.out.low hm) (by exact byt_of_blk hm 0 rfl) (by exact HB.out.low hm)).mono ?_

      rintro e w6 ⟨A6, m6, c6, rfl, hm6, hown, hbl6⟩
      replace hm := hm.got hbl6 hown
      clear hown
      go_simp
      refine hK.out _ _ (MemS.of hm.less.less) (fun hHeld => ?_)
      clear hK K
      try simp only [Act.put, sxQ]
      iterate 5 (first | (refine takeN 8 hHeld ?_) | (refine takeY 8 ?_ hHeld ?_ ?_; rotate_left 1; (first | (intro w9 h9; (with_reducible show (execOp _ (Oper.mk _ (Op.load _ _) _ _ _ _)).run _ _ = _); first | exact h9.ldA) | focus (intro w9 hSw; go_simp; (try (with_reducible rfl)); done))); try simp only [Act.put, sxQ])
      refine wpAnyH_done (by kernel_rfl) ?_ _
      refine NoPanic.normal ?_
      go_wp2_with (first | go_skip | ((with_reducible show wpList _ _ _ _ _ (World.alloc _ _)); refine wpList_up hm ?_; clear hm; intro n w hn hn2 hk hm hd hd2 ho; (try rw [← hn]); replace hn := Nat.le_of_eq hn.symm) | ((first | ((with_reducible show wpList _ _ _ (Oper.mk _ (Op.box _ _) _ _ _ _ :: _) _ _); (refine bxA hm ?_; clear hm; intro n w hn hz hm ho; (try simp only [List.cons_append, List.nil_append] at hm))) | ((with_reducible show wpList _ _ _ (Oper.mk _ (Op.load _ _) _ _ _ _ :: _) _ _); first | (refine ldA hm ?_) | (refine laA hm ?_)) | ((with_reducible show wpList _ _ _ (Oper.mk _ (Op.store _ _ _) _ _ _ _ :: _) _ _); (refine stA hm ?_; clear hm; intro w hz hm ho)) | ((with_reducible show wpList _ _ _ (Oper.mk _ (Op.alloc _) _ _ _ _ :: _) _ _); (refine alA hm ?_; clear hm; intro n w hn hz hm ho; (try simp only [List.cons_append, List.nil_append] at hm)))); try simp only [Act.put, sxQ]))
      go_ret2
      exact ⟨hm.low, .inl ⟨rfl, none, 0, rfl⟩⟩
set_option maxRecDepth 100000 in
theorem ref24_tag (w0 : World) (a : ChS) (s : Sec.S) (H : RSt w0 a s) (A : Option Addr) (dn c : Nat) (bs : List UInt8) (h : Byt w0 w0.heap.size A dn c bs) (hdn : dn ≤ 90000) (sw : Int) (hsw : 0 ≤ sw ∧ sw ≤ 65535) :
    Calls Tryz.prog 54 #[.agg (rst a s), .slice A dn c, .int .i64 sw] w0 fun e w' => ∃ A1 c1, e = .returned (.slice A1 8 c1) ∧ Byt w' w'.heap.size A1 8 c1 (Sec.rmc s bs sw) ∧ (∀ a, A1 = some a → w0.heap.size ≤ a.block) ∧ Below w0.heap.size w0 w' := by
  have HR := Lib.hid H.rmac
  have HC := Lib.hid H.chain
  have HB := Lib.hid h
  have HBL := Lib.hid h.1
  have q1 : IntKind.u8.wrap (IntKind.i64.wrap (sw.tdiv 256)) = ((Sec.by8 (sw / 256)).toNat : Int) := by
    rw [Int.tdiv_eq_ediv_of_nonneg hsw.1, show IntKind.i64.wrap (sw / 256) = sw / 256 by rw [IntKind.wrap_i64]; omega]
    exact wrap_by8 _
  have q2 : IntKind.u8.wrap (sw.tmod 256) = ((Sec.by8 sw).toNat : Int) := by
    rw [Int.tmod_eq_emod_of_nonneg hsw.1, wrap_by8]
    unfold Sec.by8
    rw [Int.emod_emod_of_dvd _ (Int.dvd_refl _)]
  clear H h
  have hm := Mem.nil (fun _ => False) w0
  obtain ⟨E, ce, M, cm, R, cr, D, cd, C, cc⟩ := a
  unfold rst cch
  dsimp only at HR HC ⊢
  go_enter Tryz.func54, Tryz.ntmps54
  go_wp2_with (first | go_skip | ((with_reducible show wpList _ _ _ _ _ (World.alloc _ _)); refine wpList_up hm ?_; clear hm; intro n w hn hn2 hk hm hd hd2 ho; (try rw [← hn]); replace hn := Nat.le_of_eq hn.symm) | ((first | ((with_reducible show wpList _ _ _ (Oper.mk _ (Op.box _ _) _ _ _ _ :: _) _ _); (refine bxA hm ?_; clear hm; intro n w hn hz hm ho; (try simp only [List.cons_append, List.nil_append] at hm))) | ((with_reducible show wpList _ _ _ (Oper.mk _ (Op.load _ _) _ _ _ _ :: _) _ _); first | (refine ldA hm ?_) | (refine laA hm ?_)) | ((with_reducible show wpList _ _ _ (Oper.mk _ (Op.store _ _ _) _ _ _ _ :: _) _ _); (refine stA hm ?_; clear hm; intro w hz hm ho)) | ((with_reducible show wpList _ _ _ (Oper.mk _ (Op.alloc _) _ _ _ _ :: _) _ _); (refine alA hm ?_; clear hm; intro n w hn hz hm ho; (try simp only [List.cons_append, List.nil_append] at hm)))); try simp only [Act.put, sxQ]))
  refine wp_region_noPanic ?_
  refine wp_region_held_drew (S := MemS _ _ _ _) (by kernel_rfl) (MemS.of hm.drew) (fun hHeld => ?_)
  refine wpAnyH_fresh (by repeat (first | apply Fresh.a | apply Fresh.b)) ?_
  replace hm := hm.drew
  iterate 12 (first | (refine takeN 0 hHeld ?_) | (refine takeY 0 ?_ hHeld ?_ ?_; rotate_left 1; (first | (intro w9 h9; (with_reducible show (execOp _ (Oper.mk _ (Op.load _ _) _ _ _ _)).run _ _ = _); first | exact h9.ldA) | focus (intro w9 hSw; go_simp; (try (with_reducible rfl)); done))); try simp only [Act.put, sxQ])
  refine wpAnyH_ready (rs := [12]) (by kernel_rfl) (by simp) ?_
  refine AllReadyH.cons2 (by simp only [sxN]; first | done | exact rfl) (fun K hK => ?_)
  rw [if_pos (by rfl)]
  go_simp
  refine K_up hm ?_
  intro n5 w5 hn hn5s hn5 hm1 hn5d hn5d2 hb5
  first | rw [← hn] | rw [← (show n5 = w.heap.size from hn)]
  try rw [q1] at hn5
  try rw [q2] at hn5
  clear hn hm
  have hm := hm1.row hn5 hn5s hn5d hn5d2 1 2 (bcells [Sec.by8 (sw / 256), Sec.by8 sw]) rfl rfl (by unfold maxLen; omega)
  clear hm1
  refine hK.out _ _ (MemS.of hm.less) (fun hHeld => ?_)
  clear hK K
  try simp only [Act.put, sxQ]
  refine wpAnyH_ready (rs := [13]) (by kernel_rfl) (by simp) ?_
  refine AllReadyH.cons2 (by simp only [sxN]; first | done | exact rfl) (fun K hK => ?_)
  rw [if_pos (by rfl)]
  go_simp
  refine K_up hm ?_
  intro n6 w6 hn hn6s hn6 hm1 hn6d hn6d2 hb6
  first | rw [← hn] | rw [← (show n6 = w5.heap.size from hn)]
  clear hn hm
  have hm := hm1.row hn6 hn6s hn6d hn6d2 1 2 [.slice A dn c, .slice (some ⟨n5, 0, none⟩) 2 2] rfl rfl (by unfold maxLen; omega)
  clear hm1
  refine hK.out _ _ (MemS.of hm.less.less) (fun hHeld => ?_)
  clear hK K
  try simp only [Act.put, sxQ]
  refine wpAnyH_ready (rs := [14]) (by kernel_rfl) (by simp) ?_
  refine AllReadyH.cons2 (by simp only [sxN]; first | done | exact rfl) (fun K hK => ?_)
  rw [if_pos (by rfl)]
  go_simp
  refine (rjoin_list n6 [⟨A, dn, c, bs⟩, ⟨some ⟨n5, 0, none⟩, 2, 2, [Sec.by8 (sw / 256), Sec.by8 sw]⟩] 2 (dn + 2) rfl _ (by exact (hm.sl_ 1 rfl).row) (by
    intro v hv
    simp only [List.mem_cons, List.not_mem_nil, or_false] at hv
    rcases hv with rfl | rfl
    · exact HB.out.low hm
    · exact byt_of_blk hm 0 rfl) (by simp [joined, HBL.out]) (by omega) (by omega)).mono ?_
  rintro e w7 ⟨A7, c7, rfl, hown, hbl7⟩
  replace hm := hm.got hbl7 hown
  clear hown
  go_simp
  refine hK.out _ _ (MemS.of hm.less.less.less) (fun hHeld => ?_)
  clear hK K
  try simp only [Act.put, sxQ]
  refine wpAnyH_ready (rs := [15]) (by kernel_rfl) (by simp) ?_
  refine AllReadyH.cons2 (by simp only [sxN]; first | done | exact rfl) (fun K hK => ?_)
  rw [if_pos (by rfl)]
  go_simp
  refine (rmac_call R C A7 (dn + 2) cr cc c7 s.rmac s.chain (joined [⟨A, dn, c, bs⟩, ⟨some ⟨n5, 0, none⟩, 2, 2, [Sec.by8 (sw / 256), Sec.by8 sw]⟩]) _ (by exact HR.out.low hm) (by exact HC.out.low hm) (by exact byt_of_blk hm 2 rfl) (by omega)).mono ?_
  rintro e w8 ⟨A8, c8, rfl, hby, hnew, hbl8⟩
  have hlo := hm.only.size
  replace hm := hm.below hbl8
  go_simp
  refine hK.out _ _ (MemS.of hm.less.less.less) (fun hHeld => ?_)
  clear hK K
  try simp only [Act.put, sxQ]
  iterate 5 (first | (refine takeN 16 hHeld ?_) | (refine takeY 16 ?_ hHeld ?_ ?_; rotate_left 1; (first | (intro w9 h9; (with_reducible show (execOp _ (Oper.mk _ (Op.load _ _) _ _ _ _)).run _ _ = _); first | exact h9.ldA) | focus (intro w9 hSw; go_simp; (try (with_reducible rfl)); done))); try simp only [Act.put, sxQ])
  refine wpAnyH_done (by kernel_rfl) ?_ _
  refine NoPanic.normal ?_
  go_wp2_with (first | go_skip | ((with_reducible show wpList _ _ _ _ _ (World.alloc _ _)); refine wpList_up hm ?_; clear hm; intro n w hn hn2 hk hm hd hd2 ho; (try rw [← hn]); replace hn := Nat.le_of_eq hn.symm) | ((first | ((with_reducible show wpList _ _ _ (Oper.mk _ (Op.box _ _) _ _ _ _ :: _) _ _); (refine bxA hm ?_; clear hm; intro n w hn hz hm ho; (try simp only [List.cons_append, List.nil_append] at hm))) | ((with_reducible show wpList _ _ _ (Oper.mk _ (Op.load _ _) _ _ _ _ :: _) _ _); first | (refine ldA hm ?_) | (refine laA hm ?_)) | ((with_reducible show wpList _ _ _ (Oper.mk _ (Op.store _ _ _) _ _ _ _ :: _) _ _); (refine stA hm ?_; clear hm; intro w hz hm ho)) | ((with_reducible show wpList _ _ _ (Oper.mk _ (Op.alloc _) _ _ _ _ :: _) _ _); (refine alA hm ?_; clear hm; intro n w hn hz hm ho; (try simp only [List.cons_append, List.nil_append] at hm)))); try simp only [Act.put, sxQ]))
  go_ret
  refine ⟨A8, c8, rfl, ?_, fun a e => Nat.le_trans hlo (hnew a e), hm.low⟩
  rw [show Sec.rmc s bs sw = Mod.mcB s.rmac s.chain (joined [⟨A, dn, c, bs⟩, ⟨some ⟨n5, 0, none⟩, 2, 2, [Sec.by8 (sw / 256), Sec.by8 sw]⟩]) by simp [Sec.rmc, joined]]
  exact hby
end Go.Proofs.YtibaibdgpnkdnaaGreatDoor
