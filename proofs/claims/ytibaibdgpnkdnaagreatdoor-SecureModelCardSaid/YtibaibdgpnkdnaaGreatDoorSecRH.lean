/-
  SecureModel.
-/
import Derived.Test.YtibaibdgpnkdnaaGreatDoorZ1
import Derived.Test.YtibaibdgpnkdnaaGreatDoorSecRG
import Derived.Test.YtibaibdgpnkdnaaGreatDoorSecI
import Derived.Test.YtibaibdgpnkdnaaGreatDoorSecBQ
namespace Go.Proofs.YtibaibdgpnkdnaaGreatDoor
set_option maxRecDepth 100000
set_option linter.unusedSimpArgs false
set_option linter.unusedVariables false
open Go.RowKit
set_option maxHeartbeats 8000000
-- FASTLC

theorem ok_of9 {w : World} {a : SnS} {s : Sec.S} {C : Option Addr} {cn cc : Nat} (h : SnAt w a s C cn cc) (hk : okSn a s.lvl cn = true) : Sec.Ok s := by
  have h1 := h.valid.trans hk
  obtain ⟨a, b, c, d, e, f⟩ := of_decide_eq_true h1
  exact { enc := a, mac := b, rmac := c, dat := d, lvl := e, chain := f }
/-- The first state shows what the session says. -/
theorem rst_first {w : World} {a : SnS} {s : Sec.S} {C : Option Addr} {cn cc : Nat} (h : SnAt w a s C cn cc) (hk : okSn a s.lvl cn = true) : ∃ a' : ChS, stV a s.lvl C cn cc 0 false false = .agg (rst a' s) ∧ RSt w a' s := by
  have ho := ok_of9 h hk
  obtain ⟨E, en, ce, M, mn, cm, R, rn, cr, D, dn, cd⟩ := a
  have e1 : en = 16 := h.enc.1.symm.trans ho.enc
  have e2 : mn = 16 := h.mac.1.symm.trans ho.mac
  have e3 : rn = 16 := h.rmac.1.symm.trans ho.rmac
  have e4 : dn = 16 := h.dat.1.symm.trans ho.dat
  have e5 : cn = 8 := h.chain.1.symm.trans ho.chain
  subst e1; subst e2; subst e3; subst e4; subst e5
  refine ⟨⟨E, ce, M, cm, R, cr, D, cd, C, cc⟩, ?_, ⟨ho, h.enc, h.mac, h.rmac, h.dat, h.chain⟩⟩
  unfold stV rst cch
  rw [h.cnt, h.exp, h.shut]
  rfl
set_option maxRecDepth 100000 in
theorem law24_seen (w : World) (g : Nat) (F : Nat → Prop) (s : Sec.S) (H : ChAt' w g F s) (a : ChS) (R : RSt w a s) : Calls Tryz.prog 9 #[.pointer (some ⟨g, 0, none⟩), .agg (rst a s)] w fun e w' => e = .returned (.bool true) ∧ Below w.heap.size w w' := by
  have hle := fun u (hu : Below w.heap.size w u) => ch_level u g F s (H.away (R := fun _ => False) (Only.of_below hu) (fun _ _ e => e))
  have hcn := fun u (hu : Below w.heap.size w u) => ch_count u g F s (H.away (R := fun _ => False) (Only.of_below hu) (fun _ _ e => e))
  have hda := fun u (hu : Below w.heap.size w u) => ch_data u g F s (H.away (R := fun _ => False) (Only.of_below hu) (fun _ _ e => e))
  have hrl := fun u => ref24_Level u a s
  have hrd := fun u (hu : Below w.heap.size w u) => ref24_Data u a s (R.below hu)
  have hln : (if s.shut = true then [] else s.dat).length ≤ 16 := by split <;> simp [R.ok.dat]
  generalize hX : (if s.shut = true then [] else s.dat) = X at *
  generalize hv : (if s.shut = true then 0 else s.lvl) = v at *
  obtain ⟨m, hm9⟩ : ∃ m, X.length = m := ⟨_, rfl⟩
  have HDL := Lib.hid hm9
  unfold rst cch at hrl hrd ⊢
  have HL := Lib.hid hle
  have HN := Lib.hid hcn
  have HD := Lib.hid (fun u hu => (hda u hu).mono fun e u' h9 => h9.len hm9)
  have HRL := Lib.hid hrl
  have HRD := Lib.hid hrd
  rw [hm9] at hln
  clear hle hcn hda hrl hrd hX hv hm9 H R
  have hm := Mem.nil (fun _ => False) w
  go_enter Tryz.func9, Tryz.ntmps9
  go_wp2_with (first | go_skip | ((with_reducible show wpList _ _ _ _ _ (World.alloc _ _)); refine wpList_up hm ?_; clear hm; intro n w hn hn2 hk hm hd hd2 ho; (try rw [← hn]); replace hn := Nat.le_of_eq hn.symm) | ((first | ((with_reducible show wpList _ _ _ (Oper.mk _ (Op.box _ _) _ _ _ _ :: _) _ _); (refine bxA hm ?_; clear hm; intro n w hn hz hm ho; (try simp only [List.cons_append, List.nil_append] at hm))) | ((with_reducible show wpList _ _ _ (Oper.mk _ (Op.load _ _) _ _ _ _ :: _) _ _); first | (refine ldA hm ?_) | (refine laA hm ?_)) | ((with_reducible show wpList _ _ _ (Oper.mk _ (Op.store _ _ _) _ _ _ _ :: _) _ _); (refine stA hm ?_; clear hm; intro w hz hm ho)) | ((with_reducible show wpList _ _ _ (Oper.mk _ (Op.alloc _) _ _ _ _ :: _) _ _); (refine alA hm ?_; clear hm; intro n w hn hz hm ho; (try simp only [List.cons_append, List.nil_append] at hm)))); try simp only [Act.put, sxQ]))
  refine wp_region_noPanic ?_
  refine wp_region_held_drew (S := MemS _ _ _ _) (by kernel_rfl) (MemS.of hm.drew) (fun hHeld => ?_)
  refine wpAnyH_fresh (by repeat (first | apply Fresh.a | apply Fresh.b)) ?_
  replace hm := hm.drew
  iterate 1 (first | (refine takeN 0 hHeld ?_) | (refine takeY 0 ?_ hHeld ?_ ?_; rotate_left 1; (first | (intro w9 h9; (with_reducible show (execOp _ (Oper.mk _ (Op.load _ _) _ _ _ _)).run _ _ = _); first | exact h9.ldA) | focus (intro w9 hSw; go_simp; (try (with_reducible rfl)); done))); try simp only [Act.put, sxQ])
  iterate 1 (first | (refine takeN 2 hHeld ?_) | (refine takeY 2 ?_ hHeld ?_ ?_; rotate_left 1; (first | (intro w9 h9; (with_reducible show (execOp _ (Oper.mk _ (Op.load _ _) _ _ _ _)).run _ _ = _); first | exact h9.ldA | exact h9.laA) | focus (intro w9 hSw; go_simp; (try (with_reducible rfl)); done))); try simp only [Act.put, sxQ])
  refine wpAnyH_ready (rs := [1]) (by kernel_rfl) (by simp) ?_
  refine AllReadyH.cons2 (by simp only [sxN]; first | done | exact rfl) (fun K hK => ?_)
  rw [if_pos (by rfl)]
  go_simp
  refine (HL.out _ hm.low).mono ?_
  rintro e w2 ⟨rfl, rfl⟩
  go_simp
  refine hK.out _ _ (MemS.of hm) (fun hHeld => ?_)
  clear hK K
  try simp only [Act.put, sxQ]
  refine wpAnyH_ready (rs := [3]) (by kernel_rfl) (by simp) ?_
  refine AllReadyH.cons2 (by simp only [sxN]; first | done | exact rfl) (fun K hK => ?_)
  rw [if_pos (by rfl)]
  go_simp
  refine (HRL.out _).mono ?_
  rintro e w2 ⟨rfl, hbl⟩
  replace hm := hm.below hbl
  go_simp
  refine hK.out _ _ (MemS.of hm) (fun hHeld => ?_)
  clear hK K
  try simp only [Act.put, sxQ]
  iterate 3 (first | (refine takeN 4 hHeld ?_) | (refine takeY 4 ?_ hHeld ?_ ?_; rotate_left 1; (first | (intro w9 h9; (with_reducible show (execOp _ (Oper.mk _ (Op.load _ _) _ _ _ _)).run _ _ = _); first | exact h9.ldA) | focus (intro w9 hSw; go_simp; (try (with_reducible rfl)); done))); try simp only [Act.put, sxQ])
  iterate 2 (first | (refine takeN 8 hHeld ?_) | (refine takeY 8 ?_ hHeld ?_ ?_; rotate_left 1; (first | (intro w9 h9; (with_reducible show (execOp _ (Oper.mk _ (Op.load _ _) _ _ _ _)).run _ _ = _); first | exact h9.ldA) | focus (intro w9 hSw; go_simp; (try (with_reducible rfl)); done))); try simp only [Act.put, sxQ])
  refine wpAnyH_ready (rs := [7]) (by kernel_rfl) (by simp) ?_
  refine AllReadyH.cons2 (by simp only [sxN]; first | done | exact rfl) (fun K hK => ?_)
  rw [if_pos (by rfl)]
  go_simp
  refine (HN.out _ hm.low).mono ?_
  rintro e w2 ⟨rfl, rfl⟩
  go_simp
  refine hK.out _ _ (MemS.of hm) (fun hHeld => ?_)
  clear hK K
  try simp only [Act.put, sxQ]
  iterate 4 (first | (refine takeN 10 hHeld ?_) | (refine takeY 10 ?_ hHeld ?_ ?_; rotate_left 1; (first | (intro w9 h9; (with_reducible show (execOp _ (Oper.mk _ (Op.load _ _) _ _ _ _)).run _ _ = _); first | exact h9.ldA) | focus (intro w9 hSw; go_simp; (try (with_reducible rfl)); done))); try simp only [Act.put, sxQ])
  iterate 1 (first | (refine takeN 15 hHeld ?_) | (refine takeY 15 ?_ hHeld ?_ ?_; rotate_left 1; (first | (intro w9 h9; (with_reducible show (execOp _ (Oper.mk _ (Op.load _ _) _ _ _ _)).run _ _ = _); first | exact h9.ldA | exact h9.laA) | focus (intro w9 hSw; go_simp; (try (with_reducible rfl)); done))); try simp only [Act.put, sxQ])
  refine wpAnyH_ready (rs := [14]) (by kernel_rfl) (by simp) ?_
  refine AllReadyH.cons2 (by simp only [sxN]; first | done | exact rfl) (fun K hK => ?_)
  rw [if_pos (by rfl)]
  go_simp
  refine (HD.out _ hm.low).mono ?_
  rintro e w5 ⟨A5, c5, rfl, hown, hbl⟩
  replace hm := hm.got hbl hown
  clear hown
  go_simp
  refine hK.out _ _ (MemS.of hm.less) (fun hHeld => ?_)
  clear hK K
  try simp only [Act.put, sxQ]
  refine wpAnyH_ready (rs := [16]) (by kernel_rfl) (by simp) ?_
  refine AllReadyH.cons2 (by simp only [sxN]; first | done | exact rfl) (fun K hK => ?_)
  rw [if_pos (by rfl)]
  go_simp
  refine (HRD.out _ hm.low).mono ?_
  rintro e w6 ⟨A6, n6, c6, rfl, hby, hn6, hbl⟩
  replace hm := hm.below hbl
  go_simp
  refine hK.out _ _ (MemS.of hm.less) (fun hHeld => ?_)
  clear hK K
  try simp only [Act.put, sxQ]
  refine wpAnyH_ready (rs := [17]) (by kernel_rfl) (by simp) ?_
  refine AllReadyH.cons2 (by simp only [sxN]; first | done | exact rfl) (fun K hK => ?_)
  rw [if_pos (by rfl)]
  go_simp
  refine (ref01_Same A5 A6 m n6 c5 c6 X X _ (byt_of_blk hm 0 rfl) hby (by omega) (by omega)).mono ?_
  rw [Oct.same_refl]
  rintro e w9 ⟨rfl, k9, hk9⟩
  replace hm := hm.drewN k9
  rw [← hk9] at hm
  clear hk9 hby
  go_simp
  refine hK.out _ _ (MemS.of hm.less) (fun hHeld => ?_)
  clear hK K
  try simp only [Act.put, sxQ]
  iterate 2 (first | (refine takeN 18 hHeld ?_) | (refine takeY 18 ?_ hHeld ?_ ?_; rotate_left 1; (first | (intro w9 h9; (with_reducible show (execOp _ (Oper.mk _ (Op.load _ _) _ _ _ _)).run _ _ = _); first | exact h9.ldA) | focus (intro w9 hSw; go_simp; (try (with_reducible rfl)); done))); try simp only [Act.put, sxQ])
  refine wpAnyH_done (by kernel_rfl) ?_ _
  refine NoPanic.normal ?_
  go_wp2_with fail
  go_ret
  exact ⟨rfl, hm.low⟩
set_option maxRecDepth 100000 in
theorem law24_short (k : Int) (x : Trn) (w : World) : Calls Tryz.prog 4 #[.agg (.int .i64 k :: x.cells).toArray] w fun e w' => e = .returned (.bool (decide (x.dn ≤ 600 ∧ x.n' ≤ 600))) ∧ Below w.heap.size w w' := by
  obtain ⟨cla, ins, p1, p2, A4, dn, dc, b, le, long, A5, rn, rc, rb, sw⟩ := x
  dsimp only [Trn.cells]
  have hm := Mem.nil (fun _ => False) w
  have hd : (decide (dn ≤ 600 ∧ rn ≤ 600) = false ∧ decide ((dn : Int) ≤ 600) = false) ∨ (decide (dn ≤ 600 ∧ rn ≤ 600) = false ∧ decide ((dn : Int) ≤ 600) = true ∧ decide ((rn : Int) ≤ 600) = false) ∨ (decide (dn ≤ 600 ∧ rn ≤ 600) = true ∧ decide ((dn : Int) ≤ 600) = true ∧ decide ((rn : Int) ≤ 600) = true) := by
    by_cases h1 : dn ≤ 600
    · by_cases h2 : rn ≤ 600
      · exact .inr (.inr ⟨decide_eq_true ⟨h1, h2⟩, decide_eq_true (by omega), decide_eq_true (by omega)⟩)
      · exact .inr (.inl ⟨decide_eq_false (fun h => h2 h.2), decide_eq_true (by omega), decide_eq_false (by omega)⟩)
    · exact .inl ⟨decide_eq_false (fun h => h1 h.1), decide_eq_false (by omega)⟩
  rcases hd with ⟨e, i0⟩ | ⟨e, i0, i1⟩ | ⟨e, i0, i1⟩
  all_goals
    rw [e]
    clear e
    go_enter Tryz.func4, Tryz.ntmps4
    go_wp2_with (first | go_skip | ((with_reducible show wpList _ _ _ _ _ (World.alloc _ _)); refine wpList_up hm ?_; clear hm; intro n w hn hn2 hk hm hd hd2 ho; (try rw [← hn]); replace hn := Nat.le_of_eq hn.symm) | ((first | ((with_reducible show wpList _ _ _ (Oper.mk _ (Op.box _ _) _ _ _ _ :: _) _ _); (refine bxA hm ?_; clear hm; intro n w hn hz hm ho; (try simp only [List.cons_append, List.nil_append] at hm))) | ((with_reducible show wpList _ _ _ (Oper.mk _ (Op.load _ _) _ _ _ _ :: _) _ _); first | (refine ldA hm ?_) | (refine laA hm ?_)) | ((with_reducible show wpList _ _ _ (Oper.mk _ (Op.store _ _ _) _ _ _ _ :: _) _ _); (refine stA hm ?_; clear hm; intro w hz hm ho)) | ((with_reducible show wpList _ _ _ (Oper.mk _ (Op.alloc _) _ _ _ _ :: _) _ _); (refine alA hm ?_; clear hm; intro n w hn hz hm ho; (try simp only [List.cons_append, List.nil_append] at hm)))); try simp only [Act.put, sxQ]))
    go_ret
    exact ⟨rfl, hm.low⟩
/-- Are the first k calls short? -/
def Shs (l : List Opn) (k : Nat) : Prop := ∀ j y, j < k → l[j]? = some y → y.x.dn ≤ 600 ∧ y.x.n' ≤ 600
def zTrn : Trn := ⟨0, 0, 0, 0, none, 0, 0, [], 0, false, none, 0, 0, [], 0⟩
/-- What holds between two calls. -/
def MInv (w0 : World) (g : Nat) (e3 : Ent) (n9 n11 : Nat) (n j : Nat) (v10 v12 : Value) (wr : World) : Prop :=
  ∃ k s a l F c9 c11, k + j = n ∧ v10 = .bool true ∧ v12 = .int .i64 (k : Int) ∧ s.cnt ≤ k ∧ l.dn ≤ 700 ∧ l.n' ≤ 700 ∧ c9 = rst a s ∧ c11 = l.cells.toArray ∧
    Scn w0 wr [e3, ⟨n9, 36, c9⟩, ⟨n11, 41, c11⟩] [] [⟨F, fun u => ChAt' u g F s⟩] [⟨blks (rst a s), fun u => RSt u a s⟩, ⟨blks l.cells.toArray, fun u => Trn.ok u l⟩]
/-- What holds while the calls are looked at. -/
def SInv (w0 : World) (e3 : Ent) (l : List Opn) (n j : Nat) (v7 : Value) (wr : World) : Prop :=
  ∃ k, k + j = n ∧ v7 = .int .i64 (k : Int) ∧ Shs l k ∧ Scn w0 wr [e3] [] [] []
set_option maxRecDepth 100000 in
theorem mod_out0 (a : SnS) (s : Sec.S) (C : Option Addr) (cn cc : Nat) (w0 : World) (hg : HasEt w0) (hs : SnAt w0 a s C cn cc) (A : Option Addr) (nl c : Nat) (l : List Opn) (hl : Opns w0 A nl c l)  (h0 : 12 < nl) : Calls Tryz.prog 3 #[snV a s.lvl, .slice C cn cc, .slice A nl c] w0 fun e w' => e = .returned (.bool true) ∧ Below w0.heap.size w0 w' := by
  have HG := Lib.hid hg
  have HP := Lib.hid hg.pos
  clear hg
  have i0 : decide ((12 : Int) < (nl : Int)) = true := decide_eq_true (by omega)
  clear h0 hs hl
  have HC := Lib.hid (Scn.start w0)
  have hm := HC.out.rebase
  unfold snV
  go_enter Tryz.func3, Tryz.ntmps3
  go_wp2_with (first | go_skip | ((with_reducible show wpList _ _ _ _ _ (World.alloc _ _)); refine wpList_up hm ?_; clear hm; intro n w hn hn2 hk hm hd hd2 ho; (try rw [← hn]); replace hn := Nat.le_of_eq hn.symm) | ((first | ((with_reducible show wpList _ _ _ (Oper.mk _ (Op.box _ _) _ _ _ _ :: _) _ _); (refine bxA hm ?_; clear hm; intro n w hn hz hm ho; (try simp only [List.cons_append, List.nil_append] at hm))) | ((with_reducible show wpList _ _ _ (Oper.mk _ (Op.load _ _) _ _ _ _ :: _) _ _); first | (refine ldA hm ?_) | (refine laA hm ?_)) | ((with_reducible show wpList _ _ _ (Oper.mk _ (Op.store _ _ _) _ _ _ _ :: _) _ _); (refine stA hm ?_; clear hm; intro w hz hm ho)) | ((with_reducible show wpList _ _ _ (Oper.mk _ (Op.alloc _) _ _ _ _ :: _) _ _); (refine alA hm ?_; clear hm; intro n w hn hz hm ho; (try simp only [List.cons_append, List.nil_append] at hm)))); try simp only [Act.put, sxQ]))
  go_ret
  exact ⟨rfl, (HC.out.resync hm).low⟩
set_option maxRecDepth 100000 in
theorem mod_out1 (a : SnS) (s : Sec.S) (C : Option Addr) (cn cc : Nat) (w0 : World) (hg : HasEt w0) (hs : SnAt w0 a s C cn cc) (A : Option Addr) (nl c : Nat) (l : List Opn) (hl : Opns w0 A nl c l) (h0 : nl ≤ 12) (h1 : 100 < cn) : Calls Tryz.prog 3 #[snV a s.lvl, .slice C cn cc, .slice A nl c] w0 fun e w' => e = .returned (.bool true) ∧ Below w0.heap.size w0 w' := by
  have HG := Lib.hid hg
  have HP := Lib.hid hg.pos
  clear hg
  have i0 : decide ((12 : Int) < (nl : Int)) = false := decide_eq_false (by omega)
  have i1 : decide ((100 : Int) < (cn : Int)) = true := decide_eq_true (by omega)
  clear h0 h1 hs hl
  have HC := Lib.hid (Scn.start w0)
  have hm := HC.out.rebase
  unfold snV
  go_enter Tryz.func3, Tryz.ntmps3
  go_wp2_with (first | go_skip | ((with_reducible show wpList _ _ _ _ _ (World.alloc _ _)); refine wpList_up hm ?_; clear hm; intro n w hn hn2 hk hm hd hd2 ho; (try rw [← hn]); replace hn := Nat.le_of_eq hn.symm) | ((first | ((with_reducible show wpList _ _ _ (Oper.mk _ (Op.box _ _) _ _ _ _ :: _) _ _); (refine bxA hm ?_; clear hm; intro n w hn hz hm ho; (try simp only [List.cons_append, List.nil_append] at hm))) | ((with_reducible show wpList _ _ _ (Oper.mk _ (Op.load _ _) _ _ _ _ :: _) _ _); first | (refine ldA hm ?_) | (refine laA hm ?_)) | ((with_reducible show wpList _ _ _ (Oper.mk _ (Op.store _ _ _) _ _ _ _ :: _) _ _); (refine stA hm ?_; clear hm; intro w hz hm ho)) | ((with_reducible show wpList _ _ _ (Oper.mk _ (Op.alloc _) _ _ _ _ :: _) _ _); (refine alA hm ?_; clear hm; intro n w hn hz hm ho; (try simp only [List.cons_append, List.nil_append] at hm)))); try simp only [Act.put, sxQ]))
  go_ret
  exact ⟨rfl, (HC.out.resync hm).low⟩
set_option maxRecDepth 100000 in
theorem mod_out2 (a : SnS) (s : Sec.S) (C : Option Addr) (cn cc : Nat) (w0 : World) (hg : HasEt w0) (hs : SnAt w0 a s C cn cc) (A : Option Addr) (nl c : Nat) (l : List Opn) (hl : Opns w0 A nl c l) (h0 : nl ≤ 12) (h1 : cn ≤ 100) (h2 : 100 < a.en) : Calls Tryz.prog 3 #[snV a s.lvl, .slice C cn cc, .slice A nl c] w0 fun e w' => e = .returned (.bool true) ∧ Below w0.heap.size w0 w' := by
  have HG := Lib.hid hg
  have HP := Lib.hid hg.pos
  clear hg
  have i0 : decide ((12 : Int) < (nl : Int)) = false := decide_eq_false (by omega)
  have i1 : decide ((100 : Int) < (cn : Int)) = false := decide_eq_false (by omega)
  have i2 : decide ((100 : Int) < (a.en : Int)) = true := decide_eq_true (by omega)
  clear h0 h1 h2 hs hl
  have HC := Lib.hid (Scn.start w0)
  have hm := HC.out.rebase
  unfold snV
  go_enter Tryz.func3, Tryz.ntmps3
  go_wp2_with (first | go_skip | ((with_reducible show wpList _ _ _ _ _ (World.alloc _ _)); refine wpList_up hm ?_; clear hm; intro n w hn hn2 hk hm hd hd2 ho; (try rw [← hn]); replace hn := Nat.le_of_eq hn.symm) | ((first | ((with_reducible show wpList _ _ _ (Oper.mk _ (Op.box _ _) _ _ _ _ :: _) _ _); (refine bxA hm ?_; clear hm; intro n w hn hz hm ho; (try simp only [List.cons_append, List.nil_append] at hm))) | ((with_reducible show wpList _ _ _ (Oper.mk _ (Op.load _ _) _ _ _ _ :: _) _ _); first | (refine ldA hm ?_) | (refine laA hm ?_)) | ((with_reducible show wpList _ _ _ (Oper.mk _ (Op.store _ _ _) _ _ _ _ :: _) _ _); (refine stA hm ?_; clear hm; intro w hz hm ho)) | ((with_reducible show wpList _ _ _ (Oper.mk _ (Op.alloc _) _ _ _ _ :: _) _ _); (refine alA hm ?_; clear hm; intro n w hn hz hm ho; (try simp only [List.cons_append, List.nil_append] at hm)))); try simp only [Act.put, sxQ]))
  go_ret
  exact ⟨rfl, (HC.out.resync hm).low⟩
set_option maxRecDepth 100000 in
theorem mod_out3 (a : SnS) (s : Sec.S) (C : Option Addr) (cn cc : Nat) (w0 : World) (hg : HasEt w0) (hs : SnAt w0 a s C cn cc) (A : Option Addr) (nl c : Nat) (l : List Opn) (hl : Opns w0 A nl c l) (h0 : nl ≤ 12) (h1 : cn ≤ 100) (h2 : a.en ≤ 100) (h3 : 100 < a.mn) : Calls Tryz.prog 3 #[snV a s.lvl, .slice C cn cc, .slice A nl c] w0 fun e w' => e = .returned (.bool true) ∧ Below w0.heap.size w0 w' := by
  have HG := Lib.hid hg
  have HP := Lib.hid hg.pos
  clear hg
  have i0 : decide ((12 : Int) < (nl : Int)) = false := decide_eq_false (by omega)
  have i1 : decide ((100 : Int) < (cn : Int)) = false := decide_eq_false (by omega)
  have i2 : decide ((100 : Int) < (a.en : Int)) = false := decide_eq_false (by omega)
  have i3 : decide ((100 : Int) < (a.mn : Int)) = true := decide_eq_true (by omega)
  clear h0 h1 h2 h3 hs hl
  have HC := Lib.hid (Scn.start w0)
  have hm := HC.out.rebase
  unfold snV
  go_enter Tryz.func3, Tryz.ntmps3
  go_wp2_with (first | go_skip | ((with_reducible show wpList _ _ _ _ _ (World.alloc _ _)); refine wpList_up hm ?_; clear hm; intro n w hn hn2 hk hm hd hd2 ho; (try rw [← hn]); replace hn := Nat.le_of_eq hn.symm) | ((first | ((with_reducible show wpList _ _ _ (Oper.mk _ (Op.box _ _) _ _ _ _ :: _) _ _); (refine bxA hm ?_; clear hm; intro n w hn hz hm ho; (try simp only [List.cons_append, List.nil_append] at hm))) | ((with_reducible show wpList _ _ _ (Oper.mk _ (Op.load _ _) _ _ _ _ :: _) _ _); first | (refine ldA hm ?_) | (refine laA hm ?_)) | ((with_reducible show wpList _ _ _ (Oper.mk _ (Op.store _ _ _) _ _ _ _ :: _) _ _); (refine stA hm ?_; clear hm; intro w hz hm ho)) | ((with_reducible show wpList _ _ _ (Oper.mk _ (Op.alloc _) _ _ _ _ :: _) _ _); (refine alA hm ?_; clear hm; intro n w hn hz hm ho; (try simp only [List.cons_append, List.nil_append] at hm)))); try simp only [Act.put, sxQ]))
  go_ret
  exact ⟨rfl, (HC.out.resync hm).low⟩
set_option maxRecDepth 100000 in
theorem mod_out4 (a : SnS) (s : Sec.S) (C : Option Addr) (cn cc : Nat) (w0 : World) (hg : HasEt w0) (hs : SnAt w0 a s C cn cc) (A : Option Addr) (nl c : Nat) (l : List Opn) (hl : Opns w0 A nl c l) (h0 : nl ≤ 12) (h1 : cn ≤ 100) (h2 : a.en ≤ 100) (h3 : a.mn ≤ 100) (h4 : 100 < a.rn) : Calls Tryz.prog 3 #[snV a s.lvl, .slice C cn cc, .slice A nl c] w0 fun e w' => e = .returned (.bool true) ∧ Below w0.heap.size w0 w' := by
  have HG := Lib.hid hg
  have HP := Lib.hid hg.pos
  clear hg
  have i0 : decide ((12 : Int) < (nl : Int)) = false := decide_eq_false (by omega)
  have i1 : decide ((100 : Int) < (cn : Int)) = false := decide_eq_false (by omega)
  have i2 : decide ((100 : Int) < (a.en : Int)) = false := decide_eq_false (by omega)
  have i3 : decide ((100 : Int) < (a.mn : Int)) = false := decide_eq_false (by omega)
  have i4 : decide ((100 : Int) < (a.rn : Int)) = true := decide_eq_true (by omega)
  clear h0 h1 h2 h3 h4 hs hl
  have HC := Lib.hid (Scn.start w0)
  have hm := HC.out.rebase
  unfold snV
  go_enter Tryz.func3, Tryz.ntmps3
  go_wp2_with (first | go_skip | ((with_reducible show wpList _ _ _ _ _ (World.alloc _ _)); refine wpList_up hm ?_; clear hm; intro n w hn hn2 hk hm hd hd2 ho; (try rw [← hn]); replace hn := Nat.le_of_eq hn.symm) | ((first | ((with_reducible show wpList _ _ _ (Oper.mk _ (Op.box _ _) _ _ _ _ :: _) _ _); (refine bxA hm ?_; clear hm; intro n w hn hz hm ho; (try simp only [List.cons_append, List.nil_append] at hm))) | ((with_reducible show wpList _ _ _ (Oper.mk _ (Op.load _ _) _ _ _ _ :: _) _ _); first | (refine ldA hm ?_) | (refine laA hm ?_)) | ((with_reducible show wpList _ _ _ (Oper.mk _ (Op.store _ _ _) _ _ _ _ :: _) _ _); (refine stA hm ?_; clear hm; intro w hz hm ho)) | ((with_reducible show wpList _ _ _ (Oper.mk _ (Op.alloc _) _ _ _ _ :: _) _ _); (refine alA hm ?_; clear hm; intro n w hn hz hm ho; (try simp only [List.cons_append, List.nil_append] at hm)))); try simp only [Act.put, sxQ]))
  go_ret
  exact ⟨rfl, (HC.out.resync hm).low⟩
set_option maxRecDepth 100000 in
theorem mod_out5 (a : SnS) (s : Sec.S) (C : Option Addr) (cn cc : Nat) (w0 : World) (hg : HasEt w0) (hs : SnAt w0 a s C cn cc) (A : Option Addr) (nl c : Nat) (l : List Opn) (hl : Opns w0 A nl c l) (h0 : nl ≤ 12) (h1 : cn ≤ 100) (h2 : a.en ≤ 100) (h3 : a.mn ≤ 100) (h4 : a.rn ≤ 100) (h5 : 100 < a.dn) : Calls Tryz.prog 3 #[snV a s.lvl, .slice C cn cc, .slice A nl c] w0 fun e w' => e = .returned (.bool true) ∧ Below w0.heap.size w0 w' := by
  have HG := Lib.hid hg
  have HP := Lib.hid hg.pos
  clear hg
  have i0 : decide ((12 : Int) < (nl : Int)) = false := decide_eq_false (by omega)
  have i1 : decide ((100 : Int) < (cn : Int)) = false := decide_eq_false (by omega)
  have i2 : decide ((100 : Int) < (a.en : Int)) = false := decide_eq_false (by omega)
  have i3 : decide ((100 : Int) < (a.mn : Int)) = false := decide_eq_false (by omega)
  have i4 : decide ((100 : Int) < (a.rn : Int)) = false := decide_eq_false (by omega)
  have i5 : decide ((100 : Int) < (a.dn : Int)) = true := decide_eq_true (by omega)
  clear h0 h1 h2 h3 h4 h5 hs hl
  have HC := Lib.hid (Scn.start w0)
  have hm := HC.out.rebase
  unfold snV
  go_enter Tryz.func3, Tryz.ntmps3
  go_wp2_with (first | go_skip | ((with_reducible show wpList _ _ _ _ _ (World.alloc _ _)); refine wpList_up hm ?_; clear hm; intro n w hn hn2 hk hm hd hd2 ho; (try rw [← hn]); replace hn := Nat.le_of_eq hn.symm) | ((first | ((with_reducible show wpList _ _ _ (Oper.mk _ (Op.box _ _) _ _ _ _ :: _) _ _); (refine bxA hm ?_; clear hm; intro n w hn hz hm ho; (try simp only [List.cons_append, List.nil_append] at hm))) | ((with_reducible show wpList _ _ _ (Oper.mk _ (Op.load _ _) _ _ _ _ :: _) _ _); first | (refine ldA hm ?_) | (refine laA hm ?_)) | ((with_reducible show wpList _ _ _ (Oper.mk _ (Op.store _ _ _) _ _ _ _ :: _) _ _); (refine stA hm ?_; clear hm; intro w hz hm ho)) | ((with_reducible show wpList _ _ _ (Oper.mk _ (Op.alloc _) _ _ _ _ :: _) _ _); (refine alA hm ?_; clear hm; intro n w hn hz hm ho; (try simp only [List.cons_append, List.nil_append] at hm)))); try simp only [Act.put, sxQ]))
  go_ret
  exact ⟨rfl, (HC.out.resync hm).low⟩
set_option maxRecDepth 100000 in
theorem mod_no (a : SnS) (s : Sec.S) (C : Option Addr) (cn cc : Nat) (w0 : World) (hg : HasEt w0) (hs : SnAt w0 a s C cn cc) (A : Option Addr) (nl c : Nat) (l : List Opn) (hl : Opns w0 A nl c l) (h0 : nl ≤ 12) (h1 : cn ≤ 100) (h2 : a.en ≤ 100) (h3 : a.mn ≤ 100) (h4 : a.rn ≤ 100) (h5 : a.dn ≤ 100) (hk : okSn a s.lvl cn = false) : Calls Tryz.prog 3 #[snV a s.lvl, .slice C cn cc, .slice A nl c] w0 fun e w' => e = .returned (.bool true) ∧ Below w0.heap.size w0 w' := by
  have HG := Lib.hid hg
  have HP := Lib.hid hg.pos
  clear hg
  have i0 : decide ((12 : Int) < (nl : Int)) = false := decide_eq_false (by omega)
  have i1 : decide ((100 : Int) < (cn : Int)) = false := decide_eq_false (by omega)
  have i2 : decide ((100 : Int) < (a.en : Int)) = false := decide_eq_false (by omega)
  have i3 : decide ((100 : Int) < (a.mn : Int)) = false := decide_eq_false (by omega)
  have i4 : decide ((100 : Int) < (a.rn : Int)) = false := decide_eq_false (by omega)
  have i5 : decide ((100 : Int) < (a.dn : Int)) = false := decide_eq_false (by omega)
  clear h1 h2 h3 h4 h5
  have HT := Lib.hid hl
  have hnw := fun u (hu : Below w0.heap.size w0 u) => (hs.below hu).new
  have hfi := fun u => ref24_First u a s.lvl C cn cc
  rw [hk] at hnw hfi
  unfold snV at hnw
  unfold snV stV snZ at hfi
  simp only [Bool.false_eq_true, if_false] at hfi
  have HNW := Lib.hid hnw
  have HF := Lib.hid hfi
  clear hs hl hnw hfi hk
  have HC := Lib.hid (Scn.start w0)
  have hm := HC.out.rebase
  unfold snV
  go_enter Tryz.func3, Tryz.ntmps3
  go_wp2_with (first | go_skip | ((with_reducible show wpList _ _ _ _ _ (World.alloc _ _)); refine wpList_up hm ?_; clear hm; intro n w hn hn2 hk hm hd hd2 ho; (try rw [← hn]); replace hn := Nat.le_of_eq hn.symm) | ((first | ((with_reducible show wpList _ _ _ (Oper.mk _ (Op.box _ _) _ _ _ _ :: _) _ _); (refine bxA hm ?_; clear hm; intro n w hn hz hm ho; (try simp only [List.cons_append, List.nil_append] at hm))) | ((with_reducible show wpList _ _ _ (Oper.mk _ (Op.load _ _) _ _ _ _ :: _) _ _); first | (refine ldA hm ?_) | (refine laA hm ?_)) | ((with_reducible show wpList _ _ _ (Oper.mk _ (Op.store _ _ _) _ _ _ _ :: _) _ _); (refine stA hm ?_; clear hm; intro w hz hm ho)) | ((with_reducible show wpList _ _ _ (Oper.mk _ (Op.alloc _) _ _ _ _ :: _) _ _); (refine alA hm ?_; clear hm; intro n w hn hz hm ho; (try simp only [List.cons_append, List.nil_append] at hm)))); try simp only [Act.put, sxQ]))
  obtain ⟨n3, h9⟩ := hm.nm 0 rfl
  dsimp only at h9
  subst h9
  go_loopg [7] nl (fun j v7 wr => SInv w0 ⟨n3, _, _⟩ l nl j v7 wr)
  case atStart => exact ⟨0, by omega, rfl, fun j y hj _ => absurd hj (Nat.not_lt_zero _), HC.out.resync hm⟩
  case round =>
    clear HC hm
    obtain ⟨k, hkg, rfl, hsh, hsc⟩ := hrel
    have HC := Lib.hid hsc
    clear hsc
    have hm := HC.out.rebase
    have HKG := Lib.hid hkg
    have HSS := Lib.hid hsh
    cases gk with
    | zero =>
      obtain rfl : k = nl := by omega
      have ik : decide ((k : Int) < (k : Int)) = false := decide_eq_false (by omega)
      clear hkg hsh
      go_wp2_with (first | go_skip | ((with_reducible show wpList _ _ _ _ _ (World.alloc _ _)); refine wpList_up hm ?_; clear hm; intro n w hn hn2 hk hm hd hd2 ho; (try rw [← hn]); replace hn := Nat.le_of_eq hn.symm) | ((first | ((with_reducible show wpList _ _ _ (Oper.mk _ (Op.box _ _) _ _ _ _ :: _) _ _); (refine bxA hm ?_; clear hm; intro n w hn hz hm ho; (try simp only [List.cons_append, List.nil_append] at hm))) | ((with_reducible show wpList _ _ _ (Oper.mk _ (Op.load _ _) _ _ _ _ :: _) _ _); first | (refine ldA hm ?_) | (refine laA hm ?_)) | ((with_reducible show wpList _ _ _ (Oper.mk _ (Op.store _ _ _) _ _ _ _ :: _) _ _); (refine stA hm ?_; clear hm; intro w hz hm ho)) | ((with_reducible show wpList _ _ _ (Oper.mk _ (Op.alloc _) _ _ _ _ :: _) _ _); (refine alA hm ?_; clear hm; intro n w hn hz hm ho; (try simp only [List.cons_append, List.nil_append] at hm)))); try simp only [Act.put, sxQ]))
      go_at_call 5
      refine (HNW.out _ (HC.out.resync hm).low).mono ?_
      rintro e w2 ⟨hbl, ⟨_, rfl⟩ | ⟨hv, _⟩⟩
      rotate_left 1
      · cases hv
      replace hm := hm.below hbl
      go_wp2_with (first | go_skip | ((with_reducible show wpList _ _ _ _ _ (World.alloc _ _)); refine wpList_up hm ?_; clear hm; intro n w hn hn2 hk hm hd hd2 ho; (try rw [← hn]); replace hn := Nat.le_of_eq hn.symm) | ((first | ((with_reducible show wpList _ _ _ (Oper.mk _ (Op.box _ _) _ _ _ _ :: _) _ _); (refine bxA hm ?_; clear hm; intro n w hn hz hm ho; (try simp only [List.cons_append, List.nil_append] at hm))) | ((with_reducible show wpList _ _ _ (Oper.mk _ (Op.load _ _) _ _ _ _ :: _) _ _); first | (refine ldA hm ?_) | (refine laA hm ?_)) | ((with_reducible show wpList _ _ _ (Oper.mk _ (Op.store _ _ _) _ _ _ _ :: _) _ _); (refine stA hm ?_; clear hm; intro w hz hm ho)) | ((with_reducible show wpList _ _ _ (Oper.mk _ (Op.alloc _) _ _ _ _ :: _) _ _); (refine alA hm ?_; clear hm; intro n w hn hz hm ho; (try simp only [List.cons_append, List.nil_append] at hm)))); try simp only [Act.put, sxQ]) | (go_at_call 6; refine (HF.out _).mono ?_; rintro e w2 ⟨rfl, hbl⟩; replace hm := hm.below hbl) | (go_at_call 7; refine (law24_awake _ (HG.out.below (HC.out.resync hm).low HP.out)).mono ?_; rintro e w9 ⟨rfl, hb9⟩; replace hm := hm.below hb9))
      go_ret
      exact ⟨rfl, (HC.out.resync hm).low⟩
    | succ g =>
      have hkn : k < nl := by omega
      have ik : decide ((k : Int) < (nl : Int)) = true := decide_eq_true (by omega)
      obtain ⟨bb, oo, y, hA, hyo, hyl, hrg⟩ := HT.out.at_ hkn
      subst hA
      have RK : Hid (∀ u : World, Below w0.heap.size w0 u → Rngs [⟨bb, oo + k * 10, y.cells⟩] u) := by
        show ∀ u, _
        intro u hu
        refine Rngs.below (w := w0) ?_ hu
        intro r hr
        obtain rfl := List.mem_singleton.1 hr
        exact hrg
      obtain ⟨kk, x⟩ := y
      have HSR := Lib.hid (law24_short kk x)
      unfold Opn.cells at RK
      clear hkg hsh hrg hyo
      cases hq : decide (x.dn ≤ 600 ∧ x.n' ≤ 600) with
      | false =>
        rw [hq] at HSR
        clear hq
        go_wp2_with (first | go_skip | ((with_reducible show wpList _ _ _ _ _ (World.alloc _ _)); refine wpList_up hm ?_; clear hm; intro n w hn hn2 hk hm hd hd2 ho; (try rw [← hn]); replace hn := Nat.le_of_eq hn.symm) | ((first | ((with_reducible show wpList _ _ _ (Oper.mk _ (Op.box _ _) _ _ _ _ :: _) _ _); (refine bxA hm ?_; clear hm; intro n w hn hz hm ho; (try simp only [List.cons_append, List.nil_append] at hm))) | ((with_reducible show wpList _ _ _ (Oper.mk _ (Op.load _ _) _ _ _ _ :: _) _ _); first | (refine ldA hm ?_) | (refine laA hm ?_) | (refine lcA (RK.out _ (HC.out.resync hm).low) ?_) | (refine lrA (RK.out _ (HC.out.resync hm).low) ?_)) | ((with_reducible show wpList _ _ _ (Oper.mk _ (Op.store _ _ _) _ _ _ _ :: _) _ _); (refine stA hm ?_; clear hm; intro w hz hm ho)) | ((with_reducible show wpList _ _ _ (Oper.mk _ (Op.alloc _) _ _ _ _ :: _) _ _); (refine alA hm ?_; clear hm; intro n w hn hz hm ho; (try simp only [List.cons_append, List.nil_append] at hm)))); try simp only [Act.put, sxQ]) | (go_at_call 4; refine (HSR.out _).mono ?_; rintro e w9 ⟨rfl, hb9⟩; replace hm := hm.below hb9))
        go_ret
        exact ⟨rfl, (HC.out.resync hm).low⟩
      | true =>
        rw [hq] at HSR
        have HQQ := Lib.hid (of_decide_eq_true hq)
        have HYL := Lib.hid hyl
        clear hq hyl
        go_wp2_with (first | go_skip | ((with_reducible show wpList _ _ _ _ _ (World.alloc _ _)); refine wpList_up hm ?_; clear hm; intro n w hn hn2 hk hm hd hd2 ho; (try rw [← hn]); replace hn := Nat.le_of_eq hn.symm) | ((first | ((with_reducible show wpList _ _ _ (Oper.mk _ (Op.box _ _) _ _ _ _ :: _) _ _); (refine bxA hm ?_; clear hm; intro n w hn hz hm ho; (try simp only [List.cons_append, List.nil_append] at hm))) | ((with_reducible show wpList _ _ _ (Oper.mk _ (Op.load _ _) _ _ _ _ :: _) _ _); first | (refine ldA hm ?_) | (refine laA hm ?_) | (refine lcA (RK.out _ (HC.out.resync hm).low) ?_) | (refine lrA (RK.out _ (HC.out.resync hm).low) ?_)) | ((with_reducible show wpList _ _ _ (Oper.mk _ (Op.store _ _ _) _ _ _ _ :: _) _ _); (refine stA hm ?_; clear hm; intro w hz hm ho)) | ((with_reducible show wpList _ _ _ (Oper.mk _ (Op.alloc _) _ _ _ _ :: _) _ _); (refine alA hm ?_; clear hm; intro n w hn hz hm ho; (try simp only [List.cons_append, List.nil_append] at hm)))); try simp only [Act.put, sxQ]) | (go_at_call 4; refine (HSR.out _).mono ?_; rintro e w9 ⟨rfl, hb9⟩; replace hm := hm.below hb9))
        go_roundg g
        case rel => exact ⟨k + 1, by have := HKG.out; omega, by go_num, fun j y hj hy => by
          rcases Nat.lt_or_ge j k with h | h
          · exact HSS.out j y h hy
          · obtain rfl : j = k := by omega
            rw [HYL.out] at hy; cases hy
            exact HQQ.out, HC.out.resync hm⟩
        case measure => omega
set_option maxRecDepth 100000 in
theorem mod_go (a : SnS) (s : Sec.S) (C : Option Addr) (cn cc : Nat) (w0 : World) (hg : HasEt w0) (hs : SnAt w0 a s C cn cc) (A : Option Addr) (nl c : Nat) (l : List Opn) (hl : Opns w0 A nl c l) (h0 : nl ≤ 12) (h1 : cn ≤ 100) (h2 : a.en ≤ 100) (h3 : a.mn ≤ 100) (h4 : a.rn ≤ 100) (h5 : a.dn ≤ 100) (hk : okSn a s.lvl cn = true) : Calls Tryz.prog 3 #[snV a s.lvl, .slice C cn cc, .slice A nl c] w0 fun e w' => e = .returned (.bool true) ∧ Below w0.heap.size w0 w' := by
  have HG := Lib.hid hg
  have HP := Lib.hid hg.pos
  clear hg
  have i0 : decide ((12 : Int) < (nl : Int)) = false := decide_eq_false (by omega)
  have i1 : decide ((100 : Int) < (cn : Int)) = false := decide_eq_false (by omega)
  have i2 : decide ((100 : Int) < (a.en : Int)) = false := decide_eq_false (by omega)
  have i3 : decide ((100 : Int) < (a.mn : Int)) = false := decide_eq_false (by omega)
  have i4 : decide ((100 : Int) < (a.rn : Int)) = false := decide_eq_false (by omega)
  have i5 : decide ((100 : Int) < (a.dn : Int)) = false := decide_eq_false (by omega)
  clear h1 h2 h3 h4 h5
  have HT := Lib.hid hl
  have hnw := fun u (hu : Below w0.heap.size w0 u) => (hs.below hu).new
  have hfi := fun u => ref24_First u a s.lvl C cn cc
  rw [hk] at hnw hfi
  obtain ⟨a2, hst, hR⟩ := rst_first hs hk
  have HR0 := Lib.hid (fun u (hu : Below w0.heap.size w0 u) => hR.below hu)
  have HRL := Lib.hid hR.sup.lt
  have HCN := Lib.hid hs.cnt
  simp only [if_true] at hfi
  rw [hst] at hfi
  unfold snV at hnw hfi
  have HNW := Lib.hid hnw
  have HF := Lib.hid hfi
  clear hs hl hnw hfi hk hR hst
  generalize hlv : s.lvl = lv at HNW HF ⊢
  clear hlv
  have HC := Lib.hid (Scn.start w0)
  have hm := HC.out.rebase
  unfold snV
  go_enter Tryz.func3, Tryz.ntmps3
  go_wp2_with (first | go_skip | ((with_reducible show wpList _ _ _ _ _ (World.alloc _ _)); refine wpList_up hm ?_; clear hm; intro n w hn hn2 hk hm hd hd2 ho; (try rw [← hn]); replace hn := Nat.le_of_eq hn.symm) | ((first | ((with_reducible show wpList _ _ _ (Oper.mk _ (Op.box _ _) _ _ _ _ :: _) _ _); (refine bxA hm ?_; clear hm; intro n w hn hz hm ho; (try simp only [List.cons_append, List.nil_append] at hm))) | ((with_reducible show wpList _ _ _ (Oper.mk _ (Op.load _ _) _ _ _ _ :: _) _ _); first | (refine ldA hm ?_) | (refine laA hm ?_)) | ((with_reducible show wpList _ _ _ (Oper.mk _ (Op.store _ _ _) _ _ _ _ :: _) _ _); (refine stA hm ?_; clear hm; intro w hz hm ho)) | ((with_reducible show wpList _ _ _ (Oper.mk _ (Op.alloc _) _ _ _ _ :: _) _ _); (refine alA hm ?_; clear hm; intro n w hn hz hm ho; (try simp only [List.cons_append, List.nil_append] at hm)))); try simp only [Act.put, sxQ]))
  obtain ⟨n3, h9⟩ := hm.nm 0 rfl
  dsimp only at h9
  subst h9
  go_loopg [7] nl (fun j v7 wr => SInv w0 ⟨n3, _, _⟩ l nl j v7 wr)
  case atStart => exact ⟨0, by omega, rfl, fun j y hj _ => absurd hj (Nat.not_lt_zero _), HC.out.resync hm⟩
  case round =>
    clear HC hm
    obtain ⟨k, hkg, rfl, hsh, hsc⟩ := hrel
    have HC := Lib.hid hsc
    clear hsc
    have hm := HC.out.rebase
    have HKG := Lib.hid hkg
    have HSS := Lib.hid hsh
    cases gk with
    | zero =>
      obtain rfl : k = nl := by omega
      have ik : decide ((k : Int) < (k : Int)) = false := decide_eq_false (by omega)
      clear hkg hsh
      go_wp2_with (first | go_skip | ((with_reducible show wpList _ _ _ _ _ (World.alloc _ _)); refine wpList_up hm ?_; clear hm; intro n w hn hn2 hk hm hd hd2 ho; (try rw [← hn]); replace hn := Nat.le_of_eq hn.symm) | ((first | ((with_reducible show wpList _ _ _ (Oper.mk _ (Op.box _ _) _ _ _ _ :: _) _ _); (refine bxA hm ?_; clear hm; intro n w hn hz hm ho; (try simp only [List.cons_append, List.nil_append] at hm))) | ((with_reducible show wpList _ _ _ (Oper.mk _ (Op.load _ _) _ _ _ _ :: _) _ _); first | (refine ldA hm ?_) | (refine laA hm ?_)) | ((with_reducible show wpList _ _ _ (Oper.mk _ (Op.store _ _ _) _ _ _ _ :: _) _ _); (refine stA hm ?_; clear hm; intro w hz hm ho)) | ((with_reducible show wpList _ _ _ (Oper.mk _ (Op.alloc _) _ _ _ _ :: _) _ _); (refine alA hm ?_; clear hm; intro n w hn hz hm ho; (try simp only [List.cons_append, List.nil_append] at hm)))); try simp only [Act.put, sxQ]))
      have HSN : Hid (Shs l k) := HSS
      clear HSS
      go_at_call 5
      refine (HNW.out _ (HC.out.resync hm).low).mono ?_
      rintro e w2 ⟨hbl, ⟨hv, _⟩ | ⟨_, g1, F1, rfl, hch, hF⟩⟩
      · cases hv
      have hc2 := (HC.out.resync hm).born hbl hch.sup hF
      clear hch hF hbl
      clear HC hm
      simp only [List.nil_append, List.cons_append, List.set_cons_zero, List.set_cons_succ] at hc2
      have HC := Lib.hid hc2
      clear hc2
      have hm := HC.out.rebase
      go_wp2_with (first | go_skip | ((with_reducible show wpList _ _ _ _ _ (World.alloc _ _)); refine wpList_up hm ?_; clear hm; intro n w hn hn2 hk hm hd hd2 ho; (try rw [← hn]); replace hn := Nat.le_of_eq hn.symm) | ((first | ((with_reducible show wpList _ _ _ (Oper.mk _ (Op.box _ _) _ _ _ _ :: _) _ _); (refine bxA hm ?_; clear hm; intro n w hn hz hm ho; (try simp only [List.cons_append, List.nil_append] at hm))) | ((with_reducible show wpList _ _ _ (Oper.mk _ (Op.load _ _) _ _ _ _ :: _) _ _); first | (refine ldA hm ?_) | (refine laA hm ?_)) | ((with_reducible show wpList _ _ _ (Oper.mk _ (Op.store _ _ _) _ _ _ _ :: _) _ _); (refine stA hm ?_; clear hm; intro w hz hm ho)) | ((with_reducible show wpList _ _ _ (Oper.mk _ (Op.alloc _) _ _ _ _ :: _) _ _); (refine alA hm ?_; clear hm; intro n w hn hz hm ho; (try simp only [List.cons_append, List.nil_append] at hm)))); try simp only [Act.put, sxQ]))
      go_at_call 6
      refine (HF.out _).mono ?_
      rintro e w2 ⟨rfl, hbl⟩
      replace hm := hm.below hbl
      unfold rst cch
      go_wp2_with (first | go_skip | ((with_reducible show wpList _ _ _ _ _ (World.alloc _ _)); refine wpList_up hm ?_; clear hm; intro n w hn hn2 hk hm hd hd2 ho; (try rw [← hn]); replace hn := Nat.le_of_eq hn.symm) | ((first | ((with_reducible show wpList _ _ _ (Oper.mk _ (Op.box _ _) _ _ _ _ :: _) _ _); (refine bxA hm ?_; clear hm; intro n w hn hz hm ho; (try simp only [List.cons_append, List.nil_append] at hm))) | ((with_reducible show wpList _ _ _ (Oper.mk _ (Op.load _ _) _ _ _ _ :: _) _ _); first | (refine ldA hm ?_) | (refine laA hm ?_)) | ((with_reducible show wpList _ _ _ (Oper.mk _ (Op.store _ _ _) _ _ _ _ :: _) _ _); (refine stA hm ?_; clear hm; intro w hz hm ho)) | ((with_reducible show wpList _ _ _ (Oper.mk _ (Op.alloc _) _ _ _ _ :: _) _ _); (refine alA hm ?_; clear hm; intro n w hn hz hm ho; (try simp only [List.cons_append, List.nil_append] at hm)))); try simp only [Act.put, sxQ]))
      obtain ⟨n9, h9⟩ := hm.nm 1 rfl
      dsimp only at h9
      subst h9
      obtain ⟨n11, h9⟩ := hm.nm 2 rfl
      dsimp only at h9
      subst h9
      go_loopg [10, 12] k (fun j v10 v12 wr => MInv w0 g1 ⟨n3, _, _⟩ n9 n11 k j v10 v12 wr)
      case atStart =>
        have hsc := HC.out.resync hm
        have h1 := hsc.plus hsc (RSt.sup (HR0.out _ hsc.low)) (fun q hq => .inr (.inr (HRL.out q hq)))
        have h2 := hsc.plus h1 (Trn.sup (x := zTrn) ⟨Byt.empty, Byt.empty⟩) (fun q hq => by
          rcases blks_trn hq with ⟨_, _, hn, _⟩ | ⟨_, _, hn, _⟩ <;> exact absurd hn (Nat.lt_irrefl 0))
        exact ⟨0, s, a2, zTrn, F1, _, _, by omega, rfl, rfl, by rw [HCN.out]; exact Nat.le_refl _, by decide, by decide, rfl, rfl, h2⟩
      case round =>
        clear HC hm
        obtain ⟨k2, s9, a9, l9, F9, c9, c11, hkg, rfl, rfl, hck, hl1, hl2, h9, h11, hsc⟩ := hrel
        obtain ⟨lcla, lins, lp1, lp2, LA, ln, lc, lb, lle, llong, LB, lm, lk, lrb, lsw⟩ := l9
        unfold rst cch at h9
        dsimp only [Trn.cells] at h11
        subst h9
        subst h11
        have HC := Lib.hid hsc
        clear hsc
        have hm := HC.out.rebase
        have HKG2 := Lib.hid hkg
        have HCK := Lib.hid hck
        have HL12 := Lib.hid (And.intro hl1 hl2)
        clear hck hl1 hl2
        cases gk with
        | zero =>
          obtain rfl : k2 = k := by omega
          clear hkg
          go_wp2_with (first | go_skip | ((with_reducible show wpList _ _ _ _ _ (World.alloc _ _)); refine wpList_up hm ?_; clear hm; intro n w hn hn2 hk hm hd hd2 ho; (try rw [← hn]); replace hn := Nat.le_of_eq hn.symm) | ((first | ((with_reducible show wpList _ _ _ (Oper.mk _ (Op.box _ _) _ _ _ _ :: _) _ _); (refine bxA hm ?_; clear hm; intro n w hn hz hm ho; (try simp only [List.cons_append, List.nil_append] at hm))) | ((with_reducible show wpList _ _ _ (Oper.mk _ (Op.load _ _) _ _ _ _ :: _) _ _); first | (refine ldA hm ?_) | (refine laA hm ?_)) | ((with_reducible show wpList _ _ _ (Oper.mk _ (Op.store _ _ _) _ _ _ _ :: _) _ _); (refine stA hm ?_; clear hm; intro w hz hm ho)) | ((with_reducible show wpList _ _ _ (Oper.mk _ (Op.alloc _) _ _ _ _ :: _) _ _); (refine alA hm ?_; clear hm; intro n w hn hz hm ho; (try simp only [List.cons_append, List.nil_append] at hm)))); try simp only [Act.put, sxQ]) | (go_at_call 7; refine (law24_awake _ (HG.out.below (HC.out.resync hm).low HP.out)).mono ?_; rintro e w9 ⟨rfl, hb9⟩; replace hm := hm.below hb9))
          go_ret
          exact ⟨rfl, (HC.out.resync hm).low⟩
        | succ g =>
          have hkn : k2 < k := by omega
          have ik2 : decide ((k2 : Int) < (k : Int)) = true := decide_eq_true (by omega)
          obtain ⟨bb, oo, y, hA, hyo, hyl, hrg⟩ := HT.out.at_ hkn
          subst hA
          have RK : Hid (∀ u : World, Below w0.heap.size w0 u → Rngs [⟨bb, oo + k2 * 10, y.cells⟩] u) := by
            show ∀ u, _
            intro u hu
            refine Rngs.below (w := w0) ?_ hu
            intro r hr
            obtain rfl := List.mem_singleton.1 hr
            exact hrg
          obtain ⟨kk, x⟩ := y
          have HXO := Lib.hid hyo
          have HXB := Lib.hid (HSN.out k2 _ hkn hyl)
          have HK12 : Hid (k2 < 12) := Lib.hid (by omega)
          unfold Opn.cells at RK
          clear hkg hrg hyo hyl
          go_wp2_with (first | go_skip | ((with_reducible show wpList _ _ _ _ _ (World.alloc _ _)); refine wpList_up hm ?_; clear hm; intro n w hn hn2 hk hm hd hd2 ho; (try rw [← hn]); replace hn := Nat.le_of_eq hn.symm) | ((first | ((with_reducible show wpList _ _ _ (Oper.mk _ (Op.box _ _) _ _ _ _ :: _) _ _); (refine bxA hm ?_; clear hm; intro n w hn hz hm ho; (try simp only [List.cons_append, List.nil_append] at hm))) | ((with_reducible show wpList _ _ _ (Oper.mk _ (Op.load _ _) _ _ _ _ :: _) _ _); first | (refine ldA hm ?_) | (refine laA hm ?_) | (refine lcA (RK.out _ (HC.out.resync hm).low) ?_) | (refine lrA (RK.out _ (HC.out.resync hm).low) ?_)) | ((with_reducible show wpList _ _ _ (Oper.mk _ (Op.store _ _ _) _ _ _ _ :: _) _ _); (refine stA hm ?_; clear hm; intro w hz hm ho)) | ((with_reducible show wpList _ _ _ (Oper.mk _ (Op.alloc _) _ _ _ _ :: _) _ _); (refine alA hm ?_; clear hm; intro n w hn hz hm ho; (try simp only [List.cons_append, List.nil_append] at hm)))); try simp only [Act.put, sxQ]))
          refine wp_region_noPanic ?_
          refine wp_region_phase (S := KnS _ _) [12, 13] (by kernel_rfl) (KnS.of hm.drew (RK.out _ (HC.out.resync hm.drew).low)) (fun hHeld => ?_)
          refine wpAnyP_fresh (by repeat (first | apply Fresh.a | apply Fresh.b)) ?_
          replace hm := hm.drew
          iterate 7 (first | (refine takePN 0 hHeld ?_) | (refine takePY 0 ?_ hHeld ?_ ?_; rotate_left 1; (first | (intro w9 h9; (with_reducible show (execOp _ (Oper.mk _ (Op.load _ _) _ _ _ _)).run _ _ = _); first | exact h9.ldA | exact h9.laA | exact h9.lrA) | focus (intro w9 hSw; go_simp; (try (with_reducible rfl)); done))); try simp only [Act.put, sxQ])
          refine wpAnyP_one 7 (by kernel_rfl) (by simp only [sxN]; first | done | exact rfl) (fun K hK => ?_)
          rw [if_pos (by rfl)]
          go_simp
          refine (law24_do w0 _ g1 F9 s9 a9 ⟨lcla, lins, lp1, lp2, LA, ln, lc, lb, lle, llong, LB, lm, lk, lrb, lsw⟩ _ _ _ (HC.out.resync hm) HG.out (by have h1 := HCK.out; have h2 := HK12.out; omega) kk x HXO.out HXB.out.1 HXB.out.2 HL12.out.1 HL12.out.2).mono ?_
          rintro e w9 ⟨s8, a8, l8, F8, rfl, hc8, hl81, hl82, hsc8⟩
          clear HC hm
          have HC := Lib.hid hsc8
          clear hsc8
          have hm := HC.out.rebase
          have HC8 := Lib.hid (Nat.le_trans hc8 (Nat.succ_le_succ HCK.out))
          have HL8 := Lib.hid (And.intro hl81 hl82)
          clear hc8 hl81 hl82
          obtain ⟨mcla, mins, mp1, mp2, MA, mn, mc, mb, mle, mlong, MB, mm, mk, mrb, msw⟩ := l8
          unfold rst cch
          dsimp only [Trn.cells]
          go_simp
          refine hK.out _ _ (KnS.of hm (RK.out _ (HC.out.resync hm).low)) (fun hHeld => ?_)
          clear hK K
          try simp only [Act.put, sxQ]
          iterate 2 (first | (refine takePN 8 hHeld ?_) | (refine takePY 8 ?_ hHeld ?_ ?_; rotate_left 1; (first | (intro w9 h9; (with_reducible show (execOp _ (Oper.mk _ (Op.load _ _) _ _ _ _)).run _ _ = _); first | exact h9.ldA | exact h9.laA | exact h9.lrA) | focus (intro w9 hSw; go_simp; (try (with_reducible rfl)); done))); try simp only [Act.put, sxQ])
          iterate 2 (refine wpAnyP_takeP (b := 10) (by repeat (first | apply Seek.a | apply Seek.b | apply Seek.c)) (by simp only [sxN]; first | done | exact rfl) ⟨?_, by kernel_rfl, by kernel_rfl, by kernel_rfl, by kernel_rfl, fun _ _ _ h => h, Or.inl ⟨by rfl, ?_⟩, (by first | exact Early.of hHeld | exact Early.off (by kernel_rfl)), ?_⟩; rotate_left 1; focus (intro w9 hSw; go_simp; (try (with_reducible rfl)); done); try simp only [Act.put, sxQ])
          try simp only [Act.put, sxQ]
          refine wpAnyP_last 12 (by kernel_rfl) (by simp only [sxN]; first | done | exact rfl) (by kernel_rfl) (fun K hK => ?_)
          refine stB hm ?_
          clear hm; intro w hz hm ho
          refine hK.out _ _ ?_
          clear hK K
          try simp only [Act.put, sxQ]
          refine wpAnyP_last 13 (by kernel_rfl) (by simp only [sxN]; first | done | exact rfl) (by kernel_rfl) (fun K hK => ?_)
          refine stB hm ?_
          clear hm; intro w hz hm ho
          refine hK.out _ _ ?_
          clear hK K
          try simp only [Act.put, sxQ]
          iterate 1 (refine wpAnyP_takeP (b := 14) (by repeat (first | apply Seek.a | apply Seek.b | apply Seek.c)) (by simp only [sxN]; first | done | exact rfl) ⟨?_, by kernel_rfl, by kernel_rfl, by kernel_rfl, by kernel_rfl, fun _ _ _ h => h, Or.inl ⟨by rfl, ?_⟩, (by first | exact Early.of hHeld | exact Early.off (by kernel_rfl)), ?_⟩; rotate_left 1; focus (intro w9 hSw; go_simp; (try (with_reducible rfl)); done); try simp only [Act.put, sxQ])
          try simp only [Act.put, sxQ]
          refine wpAnyP_done (by kernel_rfl) ?_ _
          refine NoPanic.normal ?_
          go_wp2_with (first | go_skip | ((with_reducible show wpList _ _ _ _ _ (World.alloc _ _)); refine wpList_up hm ?_; clear hm; intro n w hn hn2 hk hm hd hd2 ho; (try rw [← hn]); replace hn := Nat.le_of_eq hn.symm) | ((first | ((with_reducible show wpList _ _ _ (Oper.mk _ (Op.box _ _) _ _ _ _ :: _) _ _); (refine bxA hm ?_; clear hm; intro n w hn hz hm ho; (try simp only [List.cons_append, List.nil_append] at hm))) | ((with_reducible show wpList _ _ _ (Oper.mk _ (Op.load _ _) _ _ _ _ :: _) _ _); first | (refine ldA hm ?_) | (refine laA hm ?_)) | ((with_reducible show wpList _ _ _ (Oper.mk _ (Op.store _ _ _) _ _ _ _ :: _) _ _); (refine stA hm ?_; clear hm; intro w hz hm ho)) | ((with_reducible show wpList _ _ _ (Oper.mk _ (Op.alloc _) _ _ _ _ :: _) _ _); (refine alA hm ?_; clear hm; intro n w hn hz hm ho; (try simp only [List.cons_append, List.nil_append] at hm)))); try simp only [Act.put, sxQ]) | (go_at_call 9; refine (law24_seen _ g1 F8 s8 ((HC.out.resync hm).obj 0 rfl) a8 ((HC.out.resync hm).val 0 rfl)).mono ?_; rintro e w9 ⟨rfl, hb9⟩; replace hm := hm.below hb9))
          go_roundg g
          case rel => exact ⟨k2 + 1, s8, a8, ⟨mcla, mins, mp1, mp2, MA, mn, mc, mb, mle, mlong, MB, mm, mk, mrb, msw⟩, F8, _, _, by have := HKG2.out; omega, rfl, by go_num, HC8.out, HL8.out.1, HL8.out.2, rfl, rfl, HC.out.resync hm⟩
          case measure => omega
    | succ g =>
      have hkn : k < nl := by omega
      have ik : decide ((k : Int) < (nl : Int)) = true := decide_eq_true (by omega)
      obtain ⟨bb, oo, y, hA, hyo, hyl, hrg⟩ := HT.out.at_ hkn
      subst hA
      have RK : Hid (∀ u : World, Below w0.heap.size w0 u → Rngs [⟨bb, oo + k * 10, y.cells⟩] u) := by
        show ∀ u, _
        intro u hu
        refine Rngs.below (w := w0) ?_ hu
        intro r hr
        obtain rfl := List.mem_singleton.1 hr
        exact hrg
      obtain ⟨kk, x⟩ := y
      have HSR := Lib.hid (law24_short kk x)
      unfold Opn.cells at RK
      clear hkg hsh hrg hyo
      cases hq : decide (x.dn ≤ 600 ∧ x.n' ≤ 600) with
      | false =>
        rw [hq] at HSR
        clear hq
        go_wp2_with (first | go_skip | ((with_reducible show wpList _ _ _ _ _ (World.alloc _ _)); refine wpList_up hm ?_; clear hm; intro n w hn hn2 hk hm hd hd2 ho; (try rw [← hn]); replace hn := Nat.le_of_eq hn.symm) | ((first | ((with_reducible show wpList _ _ _ (Oper.mk _ (Op.box _ _) _ _ _ _ :: _) _ _); (refine bxA hm ?_; clear hm; intro n w hn hz hm ho; (try simp only [List.cons_append, List.nil_append] at hm))) | ((with_reducible show wpList _ _ _ (Oper.mk _ (Op.load _ _) _ _ _ _ :: _) _ _); first | (refine ldA hm ?_) | (refine laA hm ?_) | (refine lcA (RK.out _ (HC.out.resync hm).low) ?_) | (refine lrA (RK.out _ (HC.out.resync hm).low) ?_)) | ((with_reducible show wpList _ _ _ (Oper.mk _ (Op.store _ _ _) _ _ _ _ :: _) _ _); (refine stA hm ?_; clear hm; intro w hz hm ho)) | ((with_reducible show wpList _ _ _ (Oper.mk _ (Op.alloc _) _ _ _ _ :: _) _ _); (refine alA hm ?_; clear hm; intro n w hn hz hm ho; (try simp only [List.cons_append, List.nil_append] at hm)))); try simp only [Act.put, sxQ]) | (go_at_call 4; refine (HSR.out _).mono ?_; rintro e w9 ⟨rfl, hb9⟩; replace hm := hm.below hb9))
        go_ret
        exact ⟨rfl, (HC.out.resync hm).low⟩
      | true =>
        rw [hq] at HSR
        have HQQ := Lib.hid (of_decide_eq_true hq)
        have HYL := Lib.hid hyl
        clear hq hyl
        go_wp2_with (first | go_skip | ((with_reducible show wpList _ _ _ _ _ (World.alloc _ _)); refine wpList_up hm ?_; clear hm; intro n w hn hn2 hk hm hd hd2 ho; (try rw [← hn]); replace hn := Nat.le_of_eq hn.symm) | ((first | ((with_reducible show wpList _ _ _ (Oper.mk _ (Op.box _ _) _ _ _ _ :: _) _ _); (refine bxA hm ?_; clear hm; intro n w hn hz hm ho; (try simp only [List.cons_append, List.nil_append] at hm))) | ((with_reducible show wpList _ _ _ (Oper.mk _ (Op.load _ _) _ _ _ _ :: _) _ _); first | (refine ldA hm ?_) | (refine laA hm ?_) | (refine lcA (RK.out _ (HC.out.resync hm).low) ?_) | (refine lrA (RK.out _ (HC.out.resync hm).low) ?_)) | ((with_reducible show wpList _ _ _ (Oper.mk _ (Op.store _ _ _) _ _ _ _ :: _) _ _); (refine stA hm ?_; clear hm; intro w hz hm ho)) | ((with_reducible show wpList _ _ _ (Oper.mk _ (Op.alloc _) _ _ _ _ :: _) _ _); (refine alA hm ?_; clear hm; intro n w hn hz hm ho; (try simp only [List.cons_append, List.nil_append] at hm)))); try simp only [Act.put, sxQ]) | (go_at_call 4; refine (HSR.out _).mono ?_; rintro e w9 ⟨rfl, hb9⟩; replace hm := hm.below hb9))
        go_roundg g
        case rel => exact ⟨k + 1, by have := HKG.out; omega, by go_num, fun j y hj hy => by
          rcases Nat.lt_or_ge j k with h | h
          · exact HSS.out j y h hy
          · obtain rfl : j = k := by omega
            rw [HYL.out] at hy; cases hy
            exact HQQ.out, HC.out.resync hm⟩
        case measure => omega
theorem law_SecureModel (a : SnS) (s : Sec.S) (C : Option Addr) (cn cc : Nat) (w0 : World) (hg : HasEt w0) (hs : SnAt w0 a s C cn cc) (A : Option Addr) (nl c : Nat) (l : List Opn) (hl : Opns w0 A nl c l) : Calls Tryz.prog 3 #[snV a s.lvl, .slice C cn cc, .slice A nl c] w0 fun e w' => e = .returned (.bool true) ∧ Below w0.heap.size w0 w' := by
  by_cases h0 : 12 < nl
  · exact mod_out0 a s C cn cc w0 hg hs A nl c l hl h0
  have h0 : nl ≤ 12 := by omega
  by_cases h1 : 100 < cn
  · exact mod_out1 a s C cn cc w0 hg hs A nl c l hl h0 h1
  have h1 : cn ≤ 100 := by omega
  by_cases h2 : 100 < a.en
  · exact mod_out2 a s C cn cc w0 hg hs A nl c l hl h0 h1 h2
  have h2 : a.en ≤ 100 := by omega
  by_cases h3 : 100 < a.mn
  · exact mod_out3 a s C cn cc w0 hg hs A nl c l hl h0 h1 h2 h3
  have h3 : a.mn ≤ 100 := by omega
  by_cases h4 : 100 < a.rn
  · exact mod_out4 a s C cn cc w0 hg hs A nl c l hl h0 h1 h2 h3 h4
  have h4 : a.rn ≤ 100 := by omega
  by_cases h5 : 100 < a.dn
  · exact mod_out5 a s C cn cc w0 hg hs A nl c l hl h0 h1 h2 h3 h4 h5
  have h5 : a.dn ≤ 100 := by omega
  cases hk : okSn a s.lvl cn with
  | false => exact mod_no a s C cn cc w0 hg hs A nl c l hl h0 h1 h2 h3 h4 h5 hk
  | true => exact mod_go a s C cn cc w0 hg hs A nl c l hl h0 h1 h2 h3 h4 h5 hk
end Go.Proofs.YtibaibdgpnkdnaaGreatDoor
