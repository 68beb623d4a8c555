/-
  The reference of the channel: Seal, Open, Level, Data.
-/
import Derived.Test.YtibaibdgpnkdnaaGreatDoorZ1
import Derived.Test.YtibaibdgpnkdnaaGreatDoorSecRE
namespace Go.Proofs.YtibaibdgpnkdnaaGreatDoor
set_option maxRecDepth 100000
set_option linter.unusedSimpArgs false
set_option linter.unusedVariables false
open Go.RowKit
set_option maxHeartbeats 8000000

/-- What Seal and Open of the reference leave. -/
def RRs (w : World) (a : ChS) (A : Option Addr) (dn : Nat) (r : Sec.S × List UInt8 × Int) (er : Int) (e : Ending) (w' : World) : Prop :=
  ∃ A' c', e = .returned (.tuple #[.agg (rst a r.1), rspV A' r.2.1.length c' r.2.2, .int .i64 er]) ∧ RSt w' a r.1 ∧ Byt w' w'.heap.size A' r.2.1.length c' r.2.1 ∧ (∀ F, FarS F A dn → FarS (fun q => F q ∨ w.heap.size ≤ q) A' r.2.1.length) ∧ Below w.heap.size w w'
theorem rst_two {a : ChS} {s : Sec.S} {u v : Bool} (h : s.exp = u) (h' : s.shut = v) : rst a s = cch a s.lvl s.cnt u v := by unfold rst; rw [h, h']
theorem RRs.mk {w w' : World} {a : ChS} {s : Sec.S} {A : Option Addr} {dn : Nat} {r : Sec.S × List UInt8 × Int} {er : Int} (H : RSt w a s) {u v : Bool} {d : List UInt8} {sw : Int} (hr : r = ({ s with exp := u, shut := v }, d, sw)) {m c' : Nat} {A' : Option Addr} (hm : d.length = m) (hb : Byt w' w'.heap.size A' m c' d)
    (hf : ∀ F, FarS F A dn → FarS (fun q => F q ∨ w.heap.size ≤ q) A' m) (hl : Below w.heap.size w w') {k : Int} (hk : er = k) : RRs w a A dn r er (.returned (.tuple #[.agg (cch a s.lvl s.cnt u v), rspV A' m c' sw, .int .i64 k])) w' := by
  subst hr; subst hm; subst hk
  exact ⟨A', c', rfl, (H.below hl).flags s.cnt u v, hb, hf, hl⟩
theorem RRs.no {w w' : World} {a : ChS} {s : Sec.S} {A : Option Addr} {dn : Nat} {r : Sec.S × List UInt8 × Int} {er : Int} (H : RSt w a s) {u v : Bool} (hr : r = ({ s with exp := u, shut := v }, [], 0)) (hl : Below w.heap.size w w') {k : Int} (hk : er = k) :
    RRs w a A dn r er (.returned (.tuple #[.agg (cch a s.lvl s.cnt u v), rspV none 0 0 0, .int .i64 k])) w' :=
  RRs.mk H hr rfl Byt.empty (fun F _ hn => absurd hn (Nat.lt_irrefl 0)) hl hk
theorem S_two {s : Sec.S} {u v : Bool} (h : s.exp = u) (h' : s.shut = v) : s = { s with exp := u, shut := v } := by
  obtain ⟨_, _, _, _, _, _, _, _, _⟩ := s
  simp only at h h'
  subst h; subst h'
  rfl
theorem own_new {w w' : World} {t : TypeId} {A : Option Addr} {n c : Nat} {cs : List Value} (h : Own w' w.heap.size t 1 A n c cs) {A0 : Option Addr} {n0 : Nat} (F : Nat → Prop) (_ : FarS F A0 n0) : FarS (fun q => F q ∨ w.heap.size ≤ q) A n := fun hn x e =>
  .inr (h.lt x.block (by have := h.le; unfold ownAt; rw [if_neg (by omega), e]; rfl)).1
set_option maxRecDepth 100000 in
theorem rsea_shut (w0 : World) (a : ChS) (s : Sec.S) (H : RSt w0 a s) (hc : s.cnt < 200) (A : Option Addr) (dn c : Nat) (b : List UInt8) (h : Byt w0 w0.heap.size A dn c b) (hdn : dn ≤ 1000) (sw : Int) (u : Bool) (hu : s.exp = u) (hs : s.shut = true) :
    Calls Tryz.prog 22 #[.agg (rst a s), rspV A dn c sw] w0 (RRs w0 a A dn (Sec.sea s b sw) (Sec.sealE s b sw)) := by
  have hE : Sec.sealE s b sw = 14 := by unfold Sec.sealE; rw [if_pos (.inl hs)]
  have hU : Sec.sea s b sw = ({ s with exp := u, shut := true }, [], 0) := by rw [← S_two hu hs]; unfold Sec.sea; rw [if_pos (by rw [hE]; decide)]
  have HE := Lib.hid hE
  have HU := Lib.hid hU
  rw [rst_two hu hs]
  clear hs hu h hE hU
  have HH := Lib.hid H
  have hm := Mem.nil (fun _ => False) w0
  clear H hc
  unfold cch
  obtain ⟨E, ce, M, cm, R, cr, D, cd, C, cc⟩ := a
  unfold rspV
  dsimp only
  go_enter Tryz.func22, Tryz.ntmps22
  go_wp2_with (first | go_skip | ((with_reducible show wpList _ _ _ _ _ (World.alloc _ _)); refine wpList_up hm ?_; clear hm; intro n w hn hn2 hk hm hd hd2 ho; (try rw [← hn]); replace hn := Nat.le_of_eq hn.symm) | ((first | ((with_reducible show wpList _ _ _ (Oper.mk _ (Op.box _ _) _ _ _ _ :: _) _ _); (refine bxA hm ?_; clear hm; intro n w hn hz hm ho; (try simp only [List.cons_append, List.nil_append] at hm))) | ((with_reducible show wpList _ _ _ (Oper.mk _ (Op.load _ _) _ _ _ _ :: _) _ _); first | (refine ldA hm ?_) | (refine laA hm ?_)) | ((with_reducible show wpList _ _ _ (Oper.mk _ (Op.store _ _ _) _ _ _ _ :: _) _ _); (refine stA hm ?_; clear hm; intro w hz hm ho)) | ((with_reducible show wpList _ _ _ (Oper.mk _ (Op.alloc _) _ _ _ _ :: _) _ _); (refine alA hm ?_; clear hm; intro n w hn hz hm ho; (try simp only [List.cons_append, List.nil_append] at hm)))); try simp only [Act.put, sxQ]))
  refine bodyPost_ret (results_row_row_tmp rfl _ _ _ 36 _ (0, 0) _ rfl (by exact hm.at_ 2 rfl) Tryz.underlying36 rfl (by kernel_rfl) _ 30 _ (0, 0) _ rfl (by exact hm.at_ 3 rfl) Tryz.underlying30 rfl (by kernel_rfl)) rfl ?_
  exact RRs.no HH.out HU.out hm.low HE.out
set_option maxRecDepth 100000 in
theorem rsea_idle (w0 : World) (a : ChS) (s : Sec.S) (H : RSt w0 a s) (hc : s.cnt < 200) (A : Option Addr) (dn c : Nat) (b : List UInt8) (h : Byt w0 w0.heap.size A dn c b) (hdn : dn ≤ 1000) (sw : Int) (hu : s.exp = false) (hs : s.shut = false) :
    Calls Tryz.prog 22 #[.agg (rst a s), rspV A dn c sw] w0 (RRs w0 a A dn (Sec.sea s b sw) (Sec.sealE s b sw)) := by
  have hE : Sec.sealE s b sw = 14 := by unfold Sec.sealE; rw [if_pos (.inr hu)]
  have hU : Sec.sea s b sw = ({ s with exp := false, shut := false }, [], 0) := by rw [← S_two hu hs]; unfold Sec.sea; rw [if_pos (by rw [hE]; decide)]
  have HE := Lib.hid hE
  have HU := Lib.hid hU
  rw [rst_two hu hs]
  clear hs hu h hE hU
  have HH := Lib.hid H
  have hm := Mem.nil (fun _ => False) w0
  clear H hc
  unfold cch
  obtain ⟨E, ce, M, cm, R, cr, D, cd, C, cc⟩ := a
  unfold rspV
  dsimp only
  go_enter Tryz.func22, Tryz.ntmps22
  go_wp2_with (first | go_skip | ((with_reducible show wpList _ _ _ _ _ (World.alloc _ _)); refine wpList_up hm ?_; clear hm; intro n w hn hn2 hk hm hd hd2 ho; (try rw [← hn]); replace hn := Nat.le_of_eq hn.symm) | ((first | ((with_reducible show wpList _ _ _ (Oper.mk _ (Op.box _ _) _ _ _ _ :: _) _ _); (refine bxA hm ?_; clear hm; intro n w hn hz hm ho; (try simp only [List.cons_append, List.nil_append] at hm))) | ((with_reducible show wpList _ _ _ (Oper.mk _ (Op.load _ _) _ _ _ _ :: _) _ _); first | (refine ldA hm ?_) | (refine laA hm ?_)) | ((with_reducible show wpList _ _ _ (Oper.mk _ (Op.store _ _ _) _ _ _ _ :: _) _ _); (refine stA hm ?_; clear hm; intro w hz hm ho)) | ((with_reducible show wpList _ _ _ (Oper.mk _ (Op.alloc _) _ _ _ _ :: _) _ _); (refine alA hm ?_; clear hm; intro n w hn hz hm ho; (try simp only [List.cons_append, List.nil_append] at hm)))); try simp only [Act.put, sxQ]))
  refine bodyPost_ret (results_row_row_tmp rfl _ _ _ 36 _ (0, 0) _ rfl (by exact hm.at_ 2 rfl) Tryz.underlying36 rfl (by kernel_rfl) _ 30 _ (0, 0) _ rfl (by exact hm.at_ 3 rfl) Tryz.underlying30 rfl (by kernel_rfl)) rfl ?_
  exact RRs.no HH.out HU.out hm.low HE.out
set_option maxRecDepth 100000 in
theorem rsea_sw (w0 : World) (a : ChS) (s : Sec.S) (H : RSt w0 a s) (hc : s.cnt < 200) (A : Option Addr) (dn c : Nat) (b : List UInt8) (h : Byt w0 w0.heap.size A dn c b) (hdn : dn ≤ 1000) (sw : Int) (hu : s.exp = true) (hs : s.shut = false) (hw : sw < 0 ∨ 65535 < sw) :
    Calls Tryz.prog 22 #[.agg (rst a s), rspV A dn c sw] w0 (RRs w0 a A dn (Sec.sea s b sw) (Sec.sealE s b sw)) := by
  have hE : Sec.sealE s b sw = 1 := by unfold Sec.sealE; rw [if_neg (by rw [hs, hu]; decide), if_pos hw]
  have hU : Sec.sea s b sw = ({ s with exp := true, shut := false }, [], 0) := by rw [← S_two hu hs]; unfold Sec.sea; rw [if_pos (by rw [hE]; decide)]
  have HE := Lib.hid hE
  have HU := Lib.hid hU
  rw [rst_two hu hs]
  have hd : decide (sw < 0) = true ∨ (decide (sw < 0) = false ∧ decide (65535 < sw) = true) := by
    rcases hw with h1 | h1
    · exact .inl (decide_eq_true h1)
    · exact .inr ⟨decide_eq_false (by omega), decide_eq_true h1⟩
  clear hs hu h hE hU hw
  have HH := Lib.hid H
  have hm := Mem.nil (fun _ => False) w0
  clear H hc
  unfold cch
  obtain ⟨E, ce, M, cm, R, cr, D, cd, C, cc⟩ := a
  unfold rspV
  dsimp only
  rcases hd with i0 | ⟨i0, i1⟩
  all_goals
    go_enter Tryz.func22, Tryz.ntmps22
    go_wp2_with (first | go_skip | ((with_reducible show wpList _ _ _ _ _ (World.alloc _ _)); refine wpList_up hm ?_; clear hm; intro n w hn hn2 hk hm hd hd2 ho; (try rw [← hn]); replace hn := Nat.le_of_eq hn.symm) | ((first | ((with_reducible show wpList _ _ _ (Oper.mk _ (Op.box _ _) _ _ _ _ :: _) _ _); (refine bxA hm ?_; clear hm; intro n w hn hz hm ho; (try simp only [List.cons_append, List.nil_append] at hm))) | ((with_reducible show wpList _ _ _ (Oper.mk _ (Op.load _ _) _ _ _ _ :: _) _ _); first | (refine ldA hm ?_) | (refine laA hm ?_)) | ((with_reducible show wpList _ _ _ (Oper.mk _ (Op.store _ _ _) _ _ _ _ :: _) _ _); (refine stA hm ?_; clear hm; intro w hz hm ho)) | ((with_reducible show wpList _ _ _ (Oper.mk _ (Op.alloc _) _ _ _ _ :: _) _ _); (refine alA hm ?_; clear hm; intro n w hn hz hm ho; (try simp only [List.cons_append, List.nil_append] at hm)))); try simp only [Act.put, sxQ]))
    refine bodyPost_ret (results_row_row_tmp rfl _ _ _ 36 _ (0, 0) _ rfl (by exact hm.at_ 2 rfl) Tryz.underlying36 rfl (by kernel_rfl) _ 30 _ (0, 0) _ rfl (by exact hm.at_ 3 rfl) Tryz.underlying30 rfl (by kernel_rfl)) rfl ?_
    exact RRs.no HH.out HU.out hm.low HE.out
set_option maxRecDepth 100000 in
theorem ropn_shut (w0 : World) (a : ChS) (s : Sec.S) (H : RSt w0 a s) (hc : s.cnt < 200) (A : Option Addr) (dn c : Nat) (b : List UInt8) (h : Byt w0 w0.heap.size A dn c b) (hdn : dn ≤ 1000) (sw : Int) (u : Bool) (hu : s.exp = u) (hs : s.shut = true) :
    Calls Tryz.prog 25 #[.agg (rst a s), rspV A dn c sw] w0 (RRs w0 a A dn (Sec.opn s b sw) (Sec.openE s b sw)) := by
  have hE : Sec.openE s b sw = 14 := by unfold Sec.openE; rw [if_pos (.inl hs)]
  have hU : Sec.opn s b sw = ({ s with exp := u, shut := true }, [], 0) := by rw [← S_two hu hs]; unfold Sec.opn; rw [if_pos (.inl hs)]
  have HE := Lib.hid hE
  have HU := Lib.hid hU
  rw [rst_two hu hs]
  clear hs hu h hE hU
  have HH := Lib.hid H
  have hm := Mem.nil (fun _ => False) w0
  clear H hc
  unfold cch
  obtain ⟨E, ce, M, cm, R, cr, D, cd, C, cc⟩ := a
  unfold rspV
  dsimp only
  go_enter Tryz.func25, Tryz.ntmps25
  go_wp2_with (first | go_skip | ((with_reducible show wpList _ _ _ _ _ (World.alloc _ _)); refine wpList_up hm ?_; clear hm; intro n w hn hn2 hk hm hd hd2 ho; (try rw [← hn]); replace hn := Nat.le_of_eq hn.symm) | ((first | ((with_reducible show wpList _ _ _ (Oper.mk _ (Op.box _ _) _ _ _ _ :: _) _ _); (refine bxA hm ?_; clear hm; intro n w hn hz hm ho; (try simp only [List.cons_append, List.nil_append] at hm))) | ((with_reducible show wpList _ _ _ (Oper.mk _ (Op.load _ _) _ _ _ _ :: _) _ _); first | (refine ldA hm ?_) | (refine laA hm ?_)) | ((with_reducible show wpList _ _ _ (Oper.mk _ (Op.store _ _ _) _ _ _ _ :: _) _ _); (refine stA hm ?_; clear hm; intro w hz hm ho)) | ((with_reducible show wpList _ _ _ (Oper.mk _ (Op.alloc _) _ _ _ _ :: _) _ _); (refine alA hm ?_; clear hm; intro n w hn hz hm ho; (try simp only [List.cons_append, List.nil_append] at hm)))); try simp only [Act.put, sxQ]))
  refine bodyPost_ret (results_row_row_tmp rfl _ _ _ 36 _ (0, 0) _ rfl (by exact hm.at_ 2 rfl) Tryz.underlying36 rfl (by kernel_rfl) _ 30 _ (0, 0) _ rfl (by exact hm.at_ 3 rfl) Tryz.underlying30 rfl (by kernel_rfl)) rfl ?_
  exact RRs.no HH.out HU.out hm.low HE.out
set_option maxRecDepth 100000 in
theorem ropn_idle (w0 : World) (a : ChS) (s : Sec.S) (H : RSt w0 a s) (hc : s.cnt < 200) (A : Option Addr) (dn c : Nat) (b : List UInt8) (h : Byt w0 w0.heap.size A dn c b) (hdn : dn ≤ 1000) (sw : Int) (hu : s.exp = false) (hs : s.shut = false) :
    Calls Tryz.prog 25 #[.agg (rst a s), rspV A dn c sw] w0 (RRs w0 a A dn (Sec.opn s b sw) (Sec.openE s b sw)) := by
  have hE : Sec.openE s b sw = 14 := by unfold Sec.openE; rw [if_pos (.inr hu)]
  have hU : Sec.opn s b sw = ({ s with exp := false, shut := false }, [], 0) := by rw [← S_two hu hs]; unfold Sec.opn; rw [if_pos (.inr hu)]
  have HE := Lib.hid hE
  have HU := Lib.hid hU
  rw [rst_two hu hs]
  clear hs hu h hE hU
  have HH := Lib.hid H
  have hm := Mem.nil (fun _ => False) w0
  clear H hc
  unfold cch
  obtain ⟨E, ce, M, cm, R, cr, D, cd, C, cc⟩ := a
  unfold rspV
  dsimp only
  go_enter Tryz.func25, Tryz.ntmps25
  go_wp2_with (first | go_skip | ((with_reducible show wpList _ _ _ _ _ (World.alloc _ _)); refine wpList_up hm ?_; clear hm; intro n w hn hn2 hk hm hd hd2 ho; (try rw [← hn]); replace hn := Nat.le_of_eq hn.symm) | ((first | ((with_reducible show wpList _ _ _ (Oper.mk _ (Op.box _ _) _ _ _ _ :: _) _ _); (refine bxA hm ?_; clear hm; intro n w hn hz hm ho; (try simp only [List.cons_append, List.nil_append] at hm))) | ((with_reducible show wpList _ _ _ (Oper.mk _ (Op.load _ _) _ _ _ _ :: _) _ _); first | (refine ldA hm ?_) | (refine laA hm ?_)) | ((with_reducible show wpList _ _ _ (Oper.mk _ (Op.store _ _ _) _ _ _ _ :: _) _ _); (refine stA hm ?_; clear hm; intro w hz hm ho)) | ((with_reducible show wpList _ _ _ (Oper.mk _ (Op.alloc _) _ _ _ _ :: _) _ _); (refine alA hm ?_; clear hm; intro n w hn hz hm ho; (try simp only [List.cons_append, List.nil_append] at hm)))); try simp only [Act.put, sxQ]))
  refine bodyPost_ret (results_row_row_tmp rfl _ _ _ 36 _ (0, 0) _ rfl (by exact hm.at_ 2 rfl) Tryz.underlying36 rfl (by kernel_rfl) _ 30 _ (0, 0) _ rfl (by exact hm.at_ 3 rfl) Tryz.underlying30 rfl (by kernel_rfl)) rfl ?_
  exact RRs.no HH.out HU.out hm.low HE.out
set_option maxRecDepth 100000 in
theorem ropn_sw (w0 : World) (a : ChS) (s : Sec.S) (H : RSt w0 a s) (hc : s.cnt < 200) (A : Option Addr) (dn c : Nat) (b : List UInt8) (h : Byt w0 w0.heap.size A dn c b) (hdn : dn ≤ 1000) (sw : Int) (hu : s.exp = true) (hs : s.shut = false) (hw : sw < 0 ∨ 65535 < sw) :
    Calls Tryz.prog 25 #[.agg (rst a s), rspV A dn c sw] w0 (RRs w0 a A dn (Sec.opn s b sw) (Sec.openE s b sw)) := by
  have hE : Sec.openE s b sw = 1 := by unfold Sec.openE; rw [if_neg (by rw [hs, hu]; decide), if_pos hw]
  have hU : Sec.opn s b sw = ({ s with exp := true, shut := true }, [], 0) := by unfold Sec.opn; rw [if_neg (by rw [hs, hu]; decide), if_pos (by rw [hE]; decide), ← hu]
  have HE := Lib.hid hE
  have HU := Lib.hid hU
  rw [rst_two hu hs]
  have hd : decide (sw < 0) = true ∨ (decide (sw < 0) = false ∧ decide (65535 < sw) = true) := by
    rcases hw with h1 | h1
    · exact .inl (decide_eq_true h1)
    · exact .inr ⟨decide_eq_false (by omega), decide_eq_true h1⟩
  clear hs hu h hE hU hw
  have HH := Lib.hid H
  have hm := Mem.nil (fun _ => False) w0
  clear H hc
  unfold cch
  obtain ⟨E, ce, M, cm, R, cr, D, cd, C, cc⟩ := a
  unfold rspV
  dsimp only
  rcases hd with i0 | ⟨i0, i1⟩
  all_goals
    go_enter Tryz.func25, Tryz.ntmps25
    go_wp2_with (first | go_skip | ((with_reducible show wpList _ _ _ _ _ (World.alloc _ _)); refine wpList_up hm ?_; clear hm; intro n w hn hn2 hk hm hd hd2 ho; (try rw [← hn]); replace hn := Nat.le_of_eq hn.symm) | ((first | ((with_reducible show wpList _ _ _ (Oper.mk _ (Op.box _ _) _ _ _ _ :: _) _ _); (refine bxA hm ?_; clear hm; intro n w hn hz hm ho; (try simp only [List.cons_append, List.nil_append] at hm))) | ((with_reducible show wpList _ _ _ (Oper.mk _ (Op.load _ _) _ _ _ _ :: _) _ _); first | (refine ldA hm ?_) | (refine laA hm ?_)) | ((with_reducible show wpList _ _ _ (Oper.mk _ (Op.store _ _ _) _ _ _ _ :: _) _ _); (refine stA hm ?_; clear hm; intro w hz hm ho)) | ((with_reducible show wpList _ _ _ (Oper.mk _ (Op.alloc _) _ _ _ _ :: _) _ _); (refine alA hm ?_; clear hm; intro n w hn hz hm ho; (try simp only [List.cons_append, List.nil_append] at hm)))); try simp only [Act.put, sxQ]))
    refine bodyPost_ret (results_row_row_tmp rfl _ _ _ 36 _ (0, 0) _ rfl (by exact hm.at_ 2 rfl) Tryz.underlying36 rfl (by kernel_rfl) _ 30 _ (0, 0) _ rfl (by exact hm.at_ 3 rfl) Tryz.underlying30 rfl (by kernel_rfl)) rfl ?_
    exact RRs.no HH.out HU.out hm.low HE.out
set_option maxRecDepth 100000 in
theorem rsea_no (w0 : World) (a : ChS) (s : Sec.S) (H : RSt w0 a s) (hc : s.cnt < 200) (A : Option Addr) (dn c : Nat) (b : List UInt8) (h : Byt w0 w0.heap.size A dn c b) (hdn : dn ≤ 1000) (sw : Int) (hu : s.exp = true) (hs : s.shut = false) (hw : 0 ≤ sw ∧ sw ≤ 65535) (h1 : Sec.hb s.lvl 16 = false) :
    Calls Tryz.prog 22 #[.agg (rst a s), rspV A dn c sw] w0 (RRs w0 a A dn (Sec.sea s b sw) (Sec.sealE s b sw)) := by
  have hE : Sec.sealE s b sw = 0 := by
    have hsz : Sec.sz b.length (Sec.hb s.lvl 32) ≤ b.length + 8 := by unfold Sec.sz; split <;> omega
    unfold Sec.sealE
    rw [if_neg (by rw [hs, hu]; decide), if_neg (by omega), if_neg (by have := h.1; omega)]
  have HE := Lib.hid hE
  have HB16 := Lib.hid (ref24_has H.ok.lvl (.inr (.inr (.inl rfl))) h1)
  have HB32 := Lib.hid (ref24_has H.ok.lvl (.inr (.inr (.inr rfl))) (v := Sec.hb s.lvl 32) rfl)
  have HZC := Lib.hid (ref24_size dn (by omega) false (Sec.hb s.lvl 32))
  have hz : Sec.sz dn (Sec.hb s.lvl 32) + (if false then 8 else 0) ≤ 65536 := by
    have hsz : Sec.sz dn (Sec.hb s.lvl 32) ≤ dn + 8 := by unfold Sec.sz; split <;> omega
    split <;> omega
  have HX := Lib.hid h
  have HH1 := Lib.hid h1
  rw [rst_two hu hs]
  obtain ⟨hw0, hw1⟩ := hw
  have HSW := Lib.hid (⟨hw0, hw1⟩ : 0 ≤ sw ∧ sw ≤ 65535)
  have i0 : decide (sw < 0) = false := decide_eq_false (by omega)
  have i1 : decide (65535 < sw) = false := decide_eq_false (by omega)
  have i2 : decide ((65536 : Int) < (dn : Int)) = false := decide_eq_false (by omega)
  have hU : Sec.sea s b sw = ({ s with exp := false, shut := false }, b, sw) := by unfold Sec.sea; rw [if_neg (fun e => e hE), if_pos h1, ← hs]
  have HU := Lib.hid hU
  generalize Sec.hb s.lvl 32 = v2 at *
  generalize Sec.sz dn v2 + (if false then 8 else 0) = z at *
  have i3 : decide ((65536 : Int) < (z : Int)) = false := decide_eq_false (by omega)
  generalize (z : Int) = zi at *
  clear hs hu h hE hU h1 hz
  have HH := Lib.hid H
  have hm := Mem.nil (fun _ => False) w0
  clear H hc
  unfold cch
  obtain ⟨E, ce, M, cm, R, cr, D, cd, C, cc⟩ := a
  unfold rspV
  dsimp only
  go_enter Tryz.func22, Tryz.ntmps22
  go_wp2_with (first | go_skip | ((with_reducible show wpList _ _ _ _ _ (World.alloc _ _)); refine wpList_up hm ?_; clear hm; intro n w hn hn2 hk hm hd hd2 ho; (try rw [← hn]); replace hn := Nat.le_of_eq hn.symm) | ((first | ((with_reducible show wpList _ _ _ (Oper.mk _ (Op.box _ _) _ _ _ _ :: _) _ _); (refine bxA hm ?_; clear hm; intro n w hn hz hm ho; (try simp only [List.cons_append, List.nil_append] at hm))) | ((with_reducible show wpList _ _ _ (Oper.mk _ (Op.load _ _) _ _ _ _ :: _) _ _); first | (refine ldA hm ?_) | (refine laA hm ?_)) | ((with_reducible show wpList _ _ _ (Oper.mk _ (Op.store _ _ _) _ _ _ _ :: _) _ _); (refine stA hm ?_; clear hm; intro w hz hm ho)) | ((with_reducible show wpList _ _ _ (Oper.mk _ (Op.alloc _) _ _ _ _ :: _) _ _); (refine alA hm ?_; clear hm; intro n w hn hz hm ho; (try simp only [List.cons_append, List.nil_append] at hm)))); try simp only [Act.put, sxQ]) | ((with_reducible show Calls _ 43 #[_, Value.int _ 16] _ _); refine (HB16.out _).mono ?_; rintro e w2 ⟨rfl, rfl⟩) | ((with_reducible show Calls _ 43 #[_, Value.int _ 32] _ _); refine (HB32.out _).mono ?_; rintro e w2 ⟨rfl, rfl⟩) | (go_at_call 44; refine (HZC.out _).mono ?_; rintro e w2 ⟨rfl, rfl⟩))
  have hw9 := (hm.drew.wo 3).wo 2
  simp only [List.eraseIdx_cons_zero, List.eraseIdx_cons_succ] at hw9
  refine wp_region_noPanic ?_
  refine wp_region_held_drew (S := MemS _ _ _ _) (by kernel_rfl) (MemS.of hw9) (fun hHeld => ?_)
  refine wpAnyH_fresh (by repeat (first | apply Fresh.a | apply Fresh.b)) ?_
  clear hw9
  replace hm := hm.drew
  iterate 2 (first | (refine takeN 0 hHeld ?_) | (refine takeY 0 ?_ hHeld ?_ ?_; rotate_left 1; (first | (intro w9 h9; (with_reducible show (execOp _ (Oper.mk _ (Op.load _ _) _ _ _ _)).run _ _ = _); first | exact h9.ldA | exact h9.laA) | focus (intro w9 hSw; go_simp; (try (with_reducible rfl)); done))); try simp only [Act.put, sxQ])
  refine wpAnyH_ready (rs := [2]) (by kernel_rfl) (by simp) ?_
  refine AllReadyH.cons2 (by simp only [sxN]; first | done | exact rfl) (fun K hK => ?_)
  refine stB hm ?_
  clear hm; intro w hz hm ho
  refine hK.out _ _ (MemS.of ((hm.wo 3).wo 2)) (fun hHeld => ?_)
  clear hK K
  try simp only [Act.put, sxQ]
  refine wpAnyH_ready (rs := [3]) (by kernel_rfl) (by simp) ?_
  refine AllReadyH.cons2 (by simp only [sxN]; first | done | exact rfl) (fun K hK => ?_)
  refine stB hm ?_
  clear hm; intro w hz hm ho
  refine hK.out _ _ (MemS.of ((hm.wo 3).wo 2)) (fun hHeld => ?_)
  clear hK K
  try simp only [Act.put, sxQ]
  iterate 1 (first | (refine takeN 4 hHeld ?_) | (refine takeY 4 ?_ hHeld ?_ ?_; rotate_left 1; (first | (intro w9 h9; (with_reducible show (execOp _ (Oper.mk _ (Op.load _ _) _ _ _ _)).run _ _ = _); first | exact h9.ldA) | focus (intro w9 hSw; go_simp; (try (with_reducible rfl)); done))); try simp only [Act.put, sxQ])
  refine wpAnyH_done (by kernel_rfl) ?_ _
  refine NoPanic.normal ?_
  go_wp2_with fail
  refine bodyPost_ret (results_row_row_tmp rfl _ _ _ 36 _ (0, 0) _ rfl (by exact hm.at_ 2 rfl) Tryz.underlying36 rfl (by kernel_rfl) _ 30 _ (0, 0) _ rfl (by exact hm.at_ 3 rfl) Tryz.underlying30 rfl (by kernel_rfl)) rfl ?_
  exact RRs.mk HH.out HU.out HX.out.1 (HX.out.low hm) (fun F h hn x e => .inl (h hn x e)) hm.low HE.out
set_option maxRecDepth 100000 in
theorem rsea_mac (w0 : World) (a : ChS) (s : Sec.S) (H : RSt w0 a s) (hc : s.cnt < 200) (A : Option Addr) (dn c : Nat) (b : List UInt8) (h : Byt w0 w0.heap.size A dn c b) (hdn : dn ≤ 1000) (sw : Int) (hu : s.exp = true) (hs : s.shut = false) (hw : 0 ≤ sw ∧ sw ≤ 65535) (h1 : Sec.hb s.lvl 16 = true) (h2 : Sec.hb s.lvl 32 = false) :
    Calls Tryz.prog 22 #[.agg (rst a s), rspV A dn c sw] w0 (RRs w0 a A dn (Sec.sea s b sw) (Sec.sealE s b sw)) := by
  have hE : Sec.sealE s b sw = 0 := by
    have hsz : Sec.sz b.length (Sec.hb s.lvl 32) ≤ b.length + 8 := by unfold Sec.sz; split <;> omega
    unfold Sec.sealE
    rw [if_neg (by rw [hs, hu]; decide), if_neg (by omega), if_neg (by have := h.1; omega)]
  have HE := Lib.hid hE
  have HB16 := Lib.hid (ref24_has H.ok.lvl (.inr (.inr (.inl rfl))) h1)
  have HB32 := Lib.hid (ref24_has H.ok.lvl (.inr (.inr (.inr rfl))) (v := Sec.hb s.lvl 32) rfl)
  have HZC := Lib.hid (ref24_size dn (by omega) true (Sec.hb s.lvl 32))
  have hz : Sec.sz dn (Sec.hb s.lvl 32) + (if true then 8 else 0) ≤ 65536 := by
    have hsz : Sec.sz dn (Sec.hb s.lvl 32) ≤ dn + 8 := by unfold Sec.sz; split <;> omega
    split <;> omega
  have HX := Lib.hid h
  have HH1 := Lib.hid h1
  rw [rst_two hu hs]
  obtain ⟨hw0, hw1⟩ := hw
  have HSW := Lib.hid (⟨hw0, hw1⟩ : 0 ≤ sw ∧ sw ≤ 65535)
  have i0 : decide (sw < 0) = false := decide_eq_false (by omega)
  have i1 : decide (65535 < sw) = false := decide_eq_false (by omega)
  have i2 : decide ((65536 : Int) < (dn : Int)) = false := decide_eq_false (by omega)
  have hU : Sec.sea s b sw = ({ s with exp := false, shut := false }, Sec.sealD s b ++ Sec.rmc s (Sec.sealD s b) sw, sw) := by rw [Sec.sea_mac hE h1, ← hs]
  rw [show Sec.sealD s b = b by unfold Sec.sealD; rw [if_neg (by rw [h2]; decide)]] at hU
  have htg : ∀ (u : World) (hu : Below w0.heap.size w0 u), Calls Tryz.prog 54 #[.agg (cch a s.lvl s.cnt false false), .slice A dn c, .int .i64 sw] u fun e w' => ∃ A1 c1, e = .returned (.slice A1 8 c1) ∧ Byt w' w'.heap.size A1 8 c1 (Sec.rmc s b sw) ∧ (∀ a, A1 = some a → u.heap.size ≤ a.block) ∧ Below u.heap.size u w' := fun u hu => by
    have h9 := ref24_tag u a { s with exp := false } ((H.below hu).flags s.cnt false s.shut) A dn c b ((h.below hu).more hu.size) (by omega) sw HSW.out
    rw [rst_two (s := { s with exp := false }) rfl hs] at h9
    exact h9
  have HXL := Lib.hid h.1
  have HML := Lib.hid (Sec.rmc_length s b sw H.ok)
  have HU := Lib.hid hU
  rw [h2] at HB32 HZC hz
  generalize Sec.sz dn false + (if true then 8 else 0) = z at *
  have i3 : decide ((65536 : Int) < (z : Int)) = false := decide_eq_false (by omega)
  generalize (z : Int) = zi at *
  unfold cch at htg
  have HTG := Lib.hid htg
  clear hs hu h hE hU h1 h2 hz htg
  have HH := Lib.hid H
  have hm := Mem.nil (fun _ => False) w0
  clear H hc
  unfold cch
  obtain ⟨E, ce, M, cm, R, cr, D, cd, C, cc⟩ := a
  unfold rspV
  dsimp only at HTG ⊢
  go_enter Tryz.func22, Tryz.ntmps22
  go_wp2_with (first | go_skip | ((with_reducible show wpList _ _ _ _ _ (World.alloc _ _)); refine wpList_up hm ?_; clear hm; intro n w hn hn2 hk hm hd hd2 ho; (try rw [← hn]); replace hn := Nat.le_of_eq hn.symm) | ((first | ((with_reducible show wpList _ _ _ (Oper.mk _ (Op.box _ _) _ _ _ _ :: _) _ _); (refine bxA hm ?_; clear hm; intro n w hn hz hm ho; (try simp only [List.cons_append, List.nil_append] at hm))) | ((with_reducible show wpList _ _ _ (Oper.mk _ (Op.load _ _) _ _ _ _ :: _) _ _); first | (refine ldA hm ?_) | (refine laA hm ?_)) | ((with_reducible show wpList _ _ _ (Oper.mk _ (Op.store _ _ _) _ _ _ _ :: _) _ _); (refine stA hm ?_; clear hm; intro w hz hm ho)) | ((with_reducible show wpList _ _ _ (Oper.mk _ (Op.alloc _) _ _ _ _ :: _) _ _); (refine alA hm ?_; clear hm; intro n w hn hz hm ho; (try simp only [List.cons_append, List.nil_append] at hm)))); try simp only [Act.put, sxQ]) | ((with_reducible show Calls _ 43 #[_, Value.int _ 16] _ _); refine (HB16.out _).mono ?_; rintro e w2 ⟨rfl, rfl⟩) | ((with_reducible show Calls _ 43 #[_, Value.int _ 32] _ _); refine (HB32.out _).mono ?_; rintro e w2 ⟨rfl, rfl⟩) | (go_at_call 44; refine (HZC.out _).mono ?_; rintro e w2 ⟨rfl, rfl⟩))
  refine wp_region_noPanic ?_
  refine wp_region_phase (S := MemS _ _ _ _) [11] (by kernel_rfl) (MemS.of hm.drew) (fun hHeld => ?_)
  refine wpAnyP_fresh (by repeat (first | apply Fresh.a | apply Fresh.b)) ?_
  replace hm := hm.drew
  iterate 7 (first | (refine takePN 0 hHeld ?_) | (refine takePY 0 ?_ hHeld ?_ ?_; rotate_left 1; (first | (intro w9 h9; (with_reducible show (execOp _ (Oper.mk _ (Op.load _ _) _ _ _ _)).run _ _ = _); first | exact h9.ldA | exact h9.laA) | focus (intro w9 hSw; go_simp; (try (with_reducible rfl)); done))); try simp only [Act.put, sxQ])
  refine wpAnyP_one 7 (by kernel_rfl) (by simp only [sxN]; first | done | exact rfl) (fun K hK => ?_)
  rw [if_pos (by rfl)]
  go_simp
  refine (HTG.out _ hm.low).mono ?_
  rintro e w8 ⟨A8, c8, rfl, hby, hnew, hbl8⟩
  replace hm := hm.below hbl8
  have HB8 := Lib.hid (fun u (hu : Below w8.heap.size w8 u) => (hby.below hu).more hu.size)
  clear hby hnew
  go_simp
  refine hK.out _ _ (MemS.of hm) (fun hHeld => ?_)
  clear hK K
  try simp only [Act.put, sxQ]
  refine wpAnyP_one 8 (by kernel_rfl) (by simp only [sxN]; first | done | exact rfl) (fun K hK => ?_)
  rw [if_pos (by rfl)]
  go_simp
  refine K_up hm ?_
  intro n6 w6 hn hn6s hn6 hm1 hn6d hn6d2 hb6
  first | rw [← hn] | rw [← (show n6 = w8.heap.size from hn)]
  have HB9 := Lib.hid (HB8.out _ hb6)
  clear hn hm
  have hm := hm1.row hn6 hn6s hn6d hn6d2 1 2 [.slice A dn c, .slice A8 8 c8] rfl rfl (by unfold maxLen; omega)
  clear hm1
  refine hK.out _ _ (MemS.of hm.less) (fun hHeld => ?_)
  clear hK K
  try simp only [Act.put, sxQ]
  refine wpAnyP_one 9 (by kernel_rfl) (by simp only [sxN]; first | done | exact rfl) (fun K hK => ?_)
  rw [if_pos (by rfl)]
  go_simp
  refine (rjoin_list n6 [⟨A, dn, c, b⟩, ⟨A8, 8, c8, Sec.rmc s b sw⟩] 2 (dn + 8) rfl _ (by exact (hm.sl_ 0 rfl).row) (by
    intro v hv
    simp only [List.mem_cons, List.not_mem_nil, or_false] at hv
    rcases hv with rfl | rfl
    · exact HX.out.low hm
    · exact HB9.out) (by simp [joined, HXL.out, HML.out]) (by omega) (by omega)).mono ?_
  rintro e w9 ⟨A9, c9, rfl, hown, hbl⟩
  rw [show joined [⟨A, dn, c, b⟩, ⟨A8, 8, c8, Sec.rmc s b sw⟩] = b ++ Sec.rmc s b sw by simp [joined]] at hown
  replace hm := hm.got hbl hown
  clear hown
  go_simp
  refine hK.out _ _ (MemS.of hm.less.less) (fun hHeld => ?_)
  clear hK K
  try simp only [Act.put, sxQ]
  iterate 1 (first | (refine takePN 10 hHeld ?_) | (refine takePY 10 ?_ hHeld ?_ ?_; rotate_left 1; (first | (intro w9 h9; (with_reducible show (execOp _ (Oper.mk _ (Op.load _ _) _ _ _ _)).run _ _ = _); first | exact h9.ldA | exact h9.laA) | focus (intro w9 hSw; go_simp; (try (with_reducible rfl)); done))); try simp only [Act.put, sxQ])
  refine wpAnyP_last 11 (by kernel_rfl) (by simp only [sxN]; first | done | exact rfl) (by kernel_rfl) (fun K hK => ?_)
  refine stB hm ?_
  clear hm; intro w hz hm ho
  refine hK.out _ _ ?_
  clear hK K
  try simp only [Act.put, sxQ]
  refine wpAnyP_done (by kernel_rfl) ?_ _
  refine NoPanic.normal ?_
  go_wp2_with (first | go_skip | ((with_reducible show wpList _ _ _ _ _ (World.alloc _ _)); refine wpList_up hm ?_; clear hm; intro n w hn hn2 hk hm hd hd2 ho; (try rw [← hn]); replace hn := Nat.le_of_eq hn.symm) | ((first | ((with_reducible show wpList _ _ _ (Oper.mk _ (Op.box _ _) _ _ _ _ :: _) _ _); (refine bxA hm ?_; clear hm; intro n w hn hz hm ho; (try simp only [List.cons_append, List.nil_append] at hm))) | ((with_reducible show wpList _ _ _ (Oper.mk _ (Op.load _ _) _ _ _ _ :: _) _ _); first | (refine ldA hm ?_) | (refine laA hm ?_)) | ((with_reducible show wpList _ _ _ (Oper.mk _ (Op.store _ _ _) _ _ _ _ :: _) _ _); (refine stA hm ?_; clear hm; intro w hz hm ho)) | ((with_reducible show wpList _ _ _ (Oper.mk _ (Op.alloc _) _ _ _ _ :: _) _ _); (refine alA hm ?_; clear hm; intro n w hn hz hm ho; (try simp only [List.cons_append, List.nil_append] at hm)))); try simp only [Act.put, sxQ]))
  have hw9 := (hm.drew.wo 3).wo 2
  simp only [List.eraseIdx_cons_zero, List.eraseIdx_cons_succ] at hw9
  refine wp_region_noPanic ?_
  refine wp_region_held_drew (S := MemS _ _ _ _) (by kernel_rfl) (MemS.of hw9) (fun hHeld => ?_)
  refine wpAnyH_fresh (by repeat (first | apply Fresh.a | apply Fresh.b)) ?_
  clear hw9
  replace hm := hm.drew
  iterate 2 (first | (refine takeN 0 hHeld ?_) | (refine takeY 0 ?_ hHeld ?_ ?_; rotate_left 1; (first | (intro w9 h9; (with_reducible show (execOp _ (Oper.mk _ (Op.load _ _) _ _ _ _)).run _ _ = _); first | exact h9.ldA | exact h9.laA) | focus (intro w9 hSw; go_simp; (try (with_reducible rfl)); done))); try simp only [Act.put, sxQ])
  refine wpAnyH_ready (rs := [2]) (by kernel_rfl) (by simp) ?_
  refine AllReadyH.cons2 (by simp only [sxN]; first | done | exact rfl) (fun K hK => ?_)
  refine stB hm ?_
  clear hm; intro w hz hm ho
  refine hK.out _ _ (MemS.of ((hm.wo 3).wo 2)) (fun hHeld => ?_)
  clear hK K
  try simp only [Act.put, sxQ]
  refine wpAnyH_ready (rs := [3]) (by kernel_rfl) (by simp) ?_
  refine AllReadyH.cons2 (by simp only [sxN]; first | done | exact rfl) (fun K hK => ?_)
  refine stB hm ?_
  clear hm; intro w hz hm ho
  refine hK.out _ _ (MemS.of ((hm.wo 3).wo 2)) (fun hHeld => ?_)
  clear hK K
  try simp only [Act.put, sxQ]
  iterate 1 (first | (refine takeN 4 hHeld ?_) | (refine takeY 4 ?_ hHeld ?_ ?_; rotate_left 1; (first | (intro w9 h9; (with_reducible show (execOp _ (Oper.mk _ (Op.load _ _) _ _ _ _)).run _ _ = _); first | exact h9.ldA) | focus (intro w9 hSw; go_simp; (try (with_reducible rfl)); done))); try simp only [Act.put, sxQ])
  refine wpAnyH_done (by kernel_rfl) ?_ _
  refine NoPanic.normal ?_
  go_wp2_with fail
  refine bodyPost_ret (results_row_row_tmp rfl _ _ _ 36 _ (0, 0) _ rfl (by exact hm.at_ 2 rfl) Tryz.underlying36 rfl (by kernel_rfl) _ 30 _ (0, 0) _ rfl (by exact hm.at_ 3 rfl) Tryz.underlying30 rfl (by kernel_rfl)) rfl ?_
  have ho9 := hm.own_ 1 rfl
  exact RRs.mk HH.out HU.out (by rw [List.length_append, HXL.out, HML.out]) (ho9.byt (Nat.le_refl _)) (own_new ho9) hm.low HE.out
set_option maxRecDepth 100000 in
theorem rsea_enc (w0 : World) (a : ChS) (s : Sec.S) (H : RSt w0 a s) (hc : s.cnt < 200) (A : Option Addr) (dn c : Nat) (b : List UInt8) (h : Byt w0 w0.heap.size A dn c b) (hdn : dn ≤ 1000) (sw : Int) (hu : s.exp = true) (hs : s.shut = false) (hw : 0 ≤ sw ∧ sw ≤ 65535) (h1 : Sec.hb s.lvl 16 = true) (h2 : Sec.hb s.lvl 32 = true) :
    Calls Tryz.prog 22 #[.agg (rst a s), rspV A dn c sw] w0 (RRs w0 a A dn (Sec.sea s b sw) (Sec.sealE s b sw)) := by
  have hE : Sec.sealE s b sw = 0 := by
    have hsz : Sec.sz b.length (Sec.hb s.lvl 32) ≤ b.length + 8 := by unfold Sec.sz; split <;> omega
    unfold Sec.sealE
    rw [if_neg (by rw [hs, hu]; decide), if_neg (by omega), if_neg (by have := h.1; omega)]
  have HE := Lib.hid hE
  have HB16 := Lib.hid (ref24_has H.ok.lvl (.inr (.inr (.inl rfl))) h1)
  have HB32 := Lib.hid (ref24_has H.ok.lvl (.inr (.inr (.inr rfl))) (v := Sec.hb s.lvl 32) rfl)
  have HZC := Lib.hid (ref24_size dn (by omega) true (Sec.hb s.lvl 32))
  have hz : Sec.sz dn (Sec.hb s.lvl 32) + (if true then 8 else 0) ≤ 65536 := by
    have hsz : Sec.sz dn (Sec.hb s.lvl 32) ≤ dn + 8 := by unfold Sec.sz; split <;> omega
    split <;> omega
  have HX := Lib.hid h
  have HH1 := Lib.hid h1
  rw [rst_two hu hs]
  obtain ⟨hw0, hw1⟩ := hw
  have HSW := Lib.hid (⟨hw0, hw1⟩ : 0 ≤ sw ∧ sw ≤ 65535)
  have i0 : decide (sw < 0) = false := decide_eq_false (by omega)
  have i1 : decide (65535 < sw) = false := decide_eq_false (by omega)
  have i2 : decide ((65536 : Int) < (dn : Int)) = false := decide_eq_false (by omega)
  have hU : Sec.sea s b sw = ({ s with exp := false, shut := false }, Sec.sealD s b ++ Sec.rmc s (Sec.sealD s b) sw, sw) := by rw [Sec.sea_mac hE h1, ← hs]
  rw [show Sec.sealD s b = Sec.hide s true b by unfold Sec.sealD; rw [if_pos h2]] at hU
  have hhi : ∀ u, Below w0.heap.size w0 u → Calls Tryz.prog 47 #[.agg (cch a s.lvl s.cnt false false), .int .i64 128, .slice A dn c] u (ORes u (Sec.hide s true b)) := fun u hu => by
    have h9 := ref24_hide u a { s with exp := false } ((H.below hu).flags s.cnt false s.shut) (by show s.cnt < 256; omega) A dn c b ((h.below hu).more hu.size) (by omega) true
    rw [rst_two (s := { s with exp := false }) rfl hs] at h9
    exact h9
  have hhl : (Sec.hide s true b).length ≤ dn + 8 := by
    rw [Sec.hide_length s true b H.ok.enc, h.1]
    split <;> omega
  generalize Sec.hide s true b = X5 at *
  obtain ⟨m5, hm5⟩ : ∃ m, X5.length = m := ⟨_, rfl⟩
  rw [hm5] at hhl
  have HXL := Lib.hid hm5
  have HHI := Lib.hid (fun u hu => (hhi u hu).mono fun e u' h9 => h9.len hm5)
  unfold cch at HHI
  have htg : ∀ (A' : Option Addr) (c' : Nat) (u : World) (hu : Below w0.heap.size w0 u), Byt u u.heap.size A' m5 c' X5 → Calls Tryz.prog 54 #[.agg (cch a s.lvl s.cnt false false), .slice A' m5 c', .int .i64 sw] u fun e w' => ∃ A1 c1, e = .returned (.slice A1 8 c1) ∧ Byt w' w'.heap.size A1 8 c1 (Sec.rmc s X5 sw) ∧ (∀ a, A1 = some a → u.heap.size ≤ a.block) ∧ Below u.heap.size u w' := fun A' c' u hu hb9 => by
    have h9 := ref24_tag u a { s with exp := false } ((H.below hu).flags s.cnt false s.shut) A' m5 c' X5 hb9 (by omega) sw HSW.out
    rw [rst_two (s := { s with exp := false }) rfl hs] at h9
    exact h9
  have HML := Lib.hid (Sec.rmc_length s X5 sw H.ok)
  clear hhi hm5
  have HU := Lib.hid hU
  rw [h2] at HB32 HZC hz
  generalize Sec.sz dn true + (if true then 8 else 0) = z at *
  have i3 : decide ((65536 : Int) < (z : Int)) = false := decide_eq_false (by omega)
  generalize (z : Int) = zi at *
  unfold cch at htg
  have HTG := Lib.hid htg
  clear hs hu h hE hU h1 h2 hz htg
  have HH := Lib.hid H
  have hm := Mem.nil (fun _ => False) w0
  clear H hc
  unfold cch
  obtain ⟨E, ce, M, cm, R, cr, D, cd, C, cc⟩ := a
  unfold rspV
  dsimp only at HTG HHI ⊢
  go_enter Tryz.func22, Tryz.ntmps22
  go_wp2_with (first | go_skip | ((with_reducible show wpList _ _ _ _ _ (World.alloc _ _)); refine wpList_up hm ?_; clear hm; intro n w hn hn2 hk hm hd hd2 ho; (try rw [← hn]); replace hn := Nat.le_of_eq hn.symm) | ((first | ((with_reducible show wpList _ _ _ (Oper.mk _ (Op.box _ _) _ _ _ _ :: _) _ _); (refine bxA hm ?_; clear hm; intro n w hn hz hm ho; (try simp only [List.cons_append, List.nil_append] at hm))) | ((with_reducible show wpList _ _ _ (Oper.mk _ (Op.load _ _) _ _ _ _ :: _) _ _); first | (refine ldA hm ?_) | (refine laA hm ?_)) | ((with_reducible show wpList _ _ _ (Oper.mk _ (Op.store _ _ _) _ _ _ _ :: _) _ _); (refine stA hm ?_; clear hm; intro w hz hm ho)) | ((with_reducible show wpList _ _ _ (Oper.mk _ (Op.alloc _) _ _ _ _ :: _) _ _); (refine alA hm ?_; clear hm; intro n w hn hz hm ho; (try simp only [List.cons_append, List.nil_append] at hm)))); try simp only [Act.put, sxQ]) | ((with_reducible show Calls _ 43 #[_, Value.int _ 16] _ _); refine (HB16.out _).mono ?_; rintro e w2 ⟨rfl, rfl⟩) | ((with_reducible show Calls _ 43 #[_, Value.int _ 32] _ _); refine (HB32.out _).mono ?_; rintro e w2 ⟨rfl, rfl⟩) | (go_at_call 44; refine (HZC.out _).mono ?_; rintro e w2 ⟨rfl, rfl⟩) | (go_at_call 47; refine (HHI.out _ hm.low).mono ?_; rintro e w4 ⟨A5e, c5e, rfl, hown, hbl⟩; replace hm := hm.got hbl hown; clear hown))
  refine wp_region_noPanic ?_
  refine wp_region_phase (S := MemS _ _ _ _) [11] (by kernel_rfl) (MemS.of hm.drew) (fun hHeld => ?_)
  refine wpAnyP_fresh (by repeat (first | apply Fresh.a | apply Fresh.b)) ?_
  replace hm := hm.drew
  iterate 7 (first | (refine takePN 0 hHeld ?_) | (refine takePY 0 ?_ hHeld ?_ ?_; rotate_left 1; (first | (intro w9 h9; (with_reducible show (execOp _ (Oper.mk _ (Op.load _ _) _ _ _ _)).run _ _ = _); first | exact h9.ldA | exact h9.laA) | focus (intro w9 hSw; go_simp; (try (with_reducible rfl)); done))); try simp only [Act.put, sxQ])
  refine wpAnyP_one 7 (by kernel_rfl) (by simp only [sxN]; first | done | exact rfl) (fun K hK => ?_)
  rw [if_pos (by rfl)]
  go_simp
  refine (HTG.out A5e c5e _ hm.low (byt_of_blk hm 0 rfl)).mono ?_
  rintro e w8 ⟨A8, c8, rfl, hby, hnew, hbl8⟩
  replace hm := hm.below hbl8
  have HB8 := Lib.hid (fun u (hu : Below w8.heap.size w8 u) => (hby.below hu).more hu.size)
  clear hby hnew
  go_simp
  refine hK.out _ _ (MemS.of hm) (fun hHeld => ?_)
  clear hK K
  try simp only [Act.put, sxQ]
  refine wpAnyP_one 8 (by kernel_rfl) (by simp only [sxN]; first | done | exact rfl) (fun K hK => ?_)
  rw [if_pos (by rfl)]
  go_simp
  refine K_up hm ?_
  intro n6 w6 hn hn6s hn6 hm1 hn6d hn6d2 hb6
  first | rw [← hn] | rw [← (show n6 = w8.heap.size from hn)]
  have HB9 := Lib.hid (HB8.out _ hb6)
  clear hn hm
  have hm := hm1.row hn6 hn6s hn6d hn6d2 1 2 [.slice A5e m5 c5e, .slice A8 8 c8] rfl rfl (by unfold maxLen; omega)
  clear hm1
  refine hK.out _ _ (MemS.of hm.less) (fun hHeld => ?_)
  clear hK K
  try simp only [Act.put, sxQ]
  refine wpAnyP_one 9 (by kernel_rfl) (by simp only [sxN]; first | done | exact rfl) (fun K hK => ?_)
  rw [if_pos (by rfl)]
  go_simp
  refine (rjoin_list n6 [⟨A5e, m5, c5e, X5⟩, ⟨A8, 8, c8, Sec.rmc s X5 sw⟩] 2 (m5 + 8) rfl _ (by exact (hm.sl_ 1 rfl).row) (by
    intro v hv
    simp only [List.mem_cons, List.not_mem_nil, or_false] at hv
    rcases hv with rfl | rfl
    · exact byt_of_blk hm 0 rfl
    · exact HB9.out) (by simp [joined, HXL.out, HML.out]) (by omega) (by omega)).mono ?_
  rintro e w9 ⟨A9, c9, rfl, hown, hbl⟩
  rw [show joined [⟨A5e, m5, c5e, X5⟩, ⟨A8, 8, c8, Sec.rmc s X5 sw⟩] = X5 ++ Sec.rmc s X5 sw by simp [joined]] at hown
  replace hm := hm.got hbl hown
  clear hown
  go_simp
  refine hK.out _ _ (MemS.of hm.less.less) (fun hHeld => ?_)
  clear hK K
  try simp only [Act.put, sxQ]
  iterate 1 (first | (refine takePN 10 hHeld ?_) | (refine takePY 10 ?_ hHeld ?_ ?_; rotate_left 1; (first | (intro w9 h9; (with_reducible show (execOp _ (Oper.mk _ (Op.load _ _) _ _ _ _)).run _ _ = _); first | exact h9.ldA | exact h9.laA) | focus (intro w9 hSw; go_simp; (try (with_reducible rfl)); done))); try simp only [Act.put, sxQ])
  refine wpAnyP_last 11 (by kernel_rfl) (by simp only [sxN]; first | done | exact rfl) (by kernel_rfl) (fun K hK => ?_)
  refine stB hm ?_
  clear hm; intro w hz hm ho
  refine hK.out _ _ ?_
  clear hK K
  try simp only [Act.put, sxQ]
  refine wpAnyP_done (by kernel_rfl) ?_ _
  refine NoPanic.normal ?_
  go_wp2_with (first | go_skip | ((with_reducible show wpList _ _ _ _ _ (World.alloc _ _)); refine wpList_up hm ?_; clear hm; intro n w hn hn2 hk hm hd hd2 ho; (try rw [← hn]); replace hn := Nat.le_of_eq hn.symm) | ((first | ((with_reducible show wpList _ _ _ (Oper.mk _ (Op.box _ _) _ _ _ _ :: _) _ _); (refine bxA hm ?_; clear hm; intro n w hn hz hm ho; (try simp only [List.cons_append, List.nil_append] at hm))) | ((with_reducible show wpList _ _ _ (Oper.mk _ (Op.load _ _) _ _ _ _ :: _) _ _); first | (refine ldA hm ?_) | (refine laA hm ?_)) | ((with_reducible show wpList _ _ _ (Oper.mk _ (Op.store _ _ _) _ _ _ _ :: _) _ _); (refine stA hm ?_; clear hm; intro w hz hm ho)) | ((with_reducible show wpList _ _ _ (Oper.mk _ (Op.alloc _) _ _ _ _ :: _) _ _); (refine alA hm ?_; clear hm; intro n w hn hz hm ho; (try simp only [List.cons_append, List.nil_append] at hm)))); try simp only [Act.put, sxQ]))
  have hw9 := (hm.drew.wo 3).wo 2
  simp only [List.eraseIdx_cons_zero, List.eraseIdx_cons_succ] at hw9
  refine wp_region_noPanic ?_
  refine wp_region_held_drew (S := MemS _ _ _ _) (by kernel_rfl) (MemS.of hw9) (fun hHeld => ?_)
  refine wpAnyH_fresh (by repeat (first | apply Fresh.a | apply Fresh.b)) ?_
  clear hw9
  replace hm := hm.drew
  iterate 2 (first | (refine takeN 0 hHeld ?_) | (refine takeY 0 ?_ hHeld ?_ ?_; rotate_left 1; (first | (intro w9 h9; (with_reducible show (execOp _ (Oper.mk _ (Op.load _ _) _ _ _ _)).run _ _ = _); first | exact h9.ldA | exact h9.laA) | focus (intro w9 hSw; go_simp; (try (with_reducible rfl)); done))); try simp only [Act.put, sxQ])
  refine wpAnyH_ready (rs := [2]) (by kernel_rfl) (by simp) ?_
  refine AllReadyH.cons2 (by simp only [sxN]; first | done | exact rfl) (fun K hK => ?_)
  refine stB hm ?_
  clear hm; intro w hz hm ho
  refine hK.out _ _ (MemS.of ((hm.wo 3).wo 2)) (fun hHeld => ?_)
  clear hK K
  try simp only [Act.put, sxQ]
  refine wpAnyH_ready (rs := [3]) (by kernel_rfl) (by simp) ?_
  refine AllReadyH.cons2 (by simp only [sxN]; first | done | exact rfl) (fun K hK => ?_)
  refine stB hm ?_
  clear hm; intro w hz hm ho
  refine hK.out _ _ (MemS.of ((hm.wo 3).wo 2)) (fun hHeld => ?_)
  clear hK K
  try simp only [Act.put, sxQ]
  iterate 1 (first | (refine takeN 4 hHeld ?_) | (refine takeY 4 ?_ hHeld ?_ ?_; rotate_left 1; (first | (intro w9 h9; (with_reducible show (execOp _ (Oper.mk _ (Op.load _ _) _ _ _ _)).run _ _ = _); first | exact h9.ldA) | focus (intro w9 hSw; go_simp; (try (with_reducible rfl)); done))); try simp only [Act.put, sxQ])
  refine wpAnyH_done (by kernel_rfl) ?_ _
  refine NoPanic.normal ?_
  go_wp2_with fail
  refine bodyPost_ret (results_row_row_tmp rfl _ _ _ 36 _ (0, 0) _ rfl (by exact hm.at_ 2 rfl) Tryz.underlying36 rfl (by kernel_rfl) _ 30 _ (0, 0) _ rfl (by exact hm.at_ 3 rfl) Tryz.underlying30 rfl (by kernel_rfl)) rfl ?_
  have ho9 := hm.own_ 2 rfl
  exact RRs.mk HH.out HU.out (by rw [List.length_append, HXL.out, HML.out]) (ho9.byt (Nat.le_refl _)) (own_new ho9) hm.low HE.out
set_option maxRecDepth 100000 in
theorem ropn_no (w0 : World) (a : ChS) (s : Sec.S) (H : RSt w0 a s) (hc : s.cnt < 200) (A : Option Addr) (dn c : Nat) (b : List UInt8) (h : Byt w0 w0.heap.size A dn c b) (hdn : dn ≤ 1000) (sw : Int) (hu : s.exp = true) (hs : s.shut = false) (hw : 0 ≤ sw ∧ sw ≤ 65535) (h1 : Sec.hb s.lvl 16 = false) :
    Calls Tryz.prog 25 #[.agg (rst a s), rspV A dn c sw] w0 (RRs w0 a A dn (Sec.opn s b sw) (Sec.openE s b sw)) := by
  have hE : Sec.openE s b sw = 0 := by unfold Sec.openE; rw [if_neg (by rw [hs, hu]; decide), if_neg (by omega), if_pos h1]
  have hU : Sec.opn s b sw = ({ s with exp := false, shut := false }, b, sw) := by
    unfold Sec.opn
    rw [if_neg (by rw [hs, hu]; decide), if_neg (fun e => e hE), ← hs, show Sec.openD s b = b by unfold Sec.openD; rw [if_pos h1]]
  have HE := Lib.hid hE
  have HU := Lib.hid hU
  have HB16 := Lib.hid (ref24_has H.ok.lvl (.inr (.inr (.inl rfl))) h1)
  have HX := Lib.hid h
  rw [rst_two hu hs]
  obtain ⟨hw0, hw1⟩ := hw
  have i0 : decide (sw < 0) = false := decide_eq_false (by omega)
  have i1 : decide (65535 < sw) = false := decide_eq_false (by omega)
  clear hs hu h hE hU h1
  have HH := Lib.hid H
  have hm := Mem.nil (fun _ => False) w0
  clear H hc
  unfold cch
  obtain ⟨E, ce, M, cm, R, cr, D, cd, C, cc⟩ := a
  unfold rspV
  dsimp only
  go_enter Tryz.func25, Tryz.ntmps25
  go_wp2_with (first | go_skip | ((with_reducible show wpList _ _ _ _ _ (World.alloc _ _)); refine wpList_up hm ?_; clear hm; intro n w hn hn2 hk hm hd hd2 ho; (try rw [← hn]); replace hn := Nat.le_of_eq hn.symm) | ((first | ((with_reducible show wpList _ _ _ (Oper.mk _ (Op.box _ _) _ _ _ _ :: _) _ _); (refine bxA hm ?_; clear hm; intro n w hn hz hm ho; (try simp only [List.cons_append, List.nil_append] at hm))) | ((with_reducible show wpList _ _ _ (Oper.mk _ (Op.load _ _) _ _ _ _ :: _) _ _); first | (refine ldA hm ?_) | (refine laA hm ?_)) | ((with_reducible show wpList _ _ _ (Oper.mk _ (Op.store _ _ _) _ _ _ _ :: _) _ _); (refine stA hm ?_; clear hm; intro w hz hm ho)) | ((with_reducible show wpList _ _ _ (Oper.mk _ (Op.alloc _) _ _ _ _ :: _) _ _); (refine alA hm ?_; clear hm; intro n w hn hz hm ho; (try simp only [List.cons_append, List.nil_append] at hm)))); try simp only [Act.put, sxQ]) | ((with_reducible show Calls _ 43 #[_, Value.int _ 16] _ _); refine (HB16.out _).mono ?_; rintro e w2 ⟨rfl, rfl⟩))
  have hw9 := (hm.drew.wo 3).wo 2
  simp only [List.eraseIdx_cons_zero, List.eraseIdx_cons_succ] at hw9
  refine wp_region_noPanic ?_
  refine wp_region_held_drew (S := MemS _ _ _ _) (by kernel_rfl) (MemS.of hw9) (fun hHeld => ?_)
  refine wpAnyH_fresh (by repeat (first | apply Fresh.a | apply Fresh.b)) ?_
  clear hw9
  replace hm := hm.drew
  iterate 2 (first | (refine takeN 0 hHeld ?_) | (refine takeY 0 ?_ hHeld ?_ ?_; rotate_left 1; (first | (intro w9 h9; (with_reducible show (execOp _ (Oper.mk _ (Op.load _ _) _ _ _ _)).run _ _ = _); first | exact h9.ldA | exact h9.laA) | focus (intro w9 hSw; go_simp; (try (with_reducible rfl)); done))); try simp only [Act.put, sxQ])
  refine wpAnyH_ready (rs := [2]) (by kernel_rfl) (by simp) ?_
  refine AllReadyH.cons2 (by simp only [sxN]; first | done | exact rfl) (fun K hK => ?_)
  refine stB hm ?_
  clear hm; intro w hz hm ho
  refine hK.out _ _ (MemS.of ((hm.wo 3).wo 2)) (fun hHeld => ?_)
  clear hK K
  try simp only [Act.put, sxQ]
  refine wpAnyH_ready (rs := [3]) (by kernel_rfl) (by simp) ?_
  refine AllReadyH.cons2 (by simp only [sxN]; first | done | exact rfl) (fun K hK => ?_)
  refine stB hm ?_
  clear hm; intro w hz hm ho
  refine hK.out _ _ (MemS.of ((hm.wo 3).wo 2)) (fun hHeld => ?_)
  clear hK K
  try simp only [Act.put, sxQ]
  iterate 1 (first | (refine takeN 4 hHeld ?_) | (refine takeY 4 ?_ hHeld ?_ ?_; rotate_left 1; (first | (intro w9 h9; (with_reducible show (execOp _ (Oper.mk _ (Op.load _ _) _ _ _ _)).run _ _ = _); first | exact h9.ldA) | focus (intro w9 hSw; go_simp; (try (with_reducible rfl)); done))); try simp only [Act.put, sxQ])
  refine wpAnyH_done (by kernel_rfl) ?_ _
  refine NoPanic.normal ?_
  go_wp2_with fail
  refine bodyPost_ret (results_row_row_tmp rfl _ _ _ 36 _ (0, 0) _ rfl (by exact hm.at_ 2 rfl) Tryz.underlying36 rfl (by kernel_rfl) _ 30 _ (0, 0) _ rfl (by exact hm.at_ 3 rfl) Tryz.underlying30 rfl (by kernel_rfl)) rfl ?_
  exact RRs.mk HH.out HU.out HX.out.1 (HX.out.low hm) (fun F h hn x e => .inl (h hn x e)) hm.low HE.out
set_option maxRecDepth 100000 in
theorem ropn_short (w0 : World) (a : ChS) (s : Sec.S) (H : RSt w0 a s) (hc : s.cnt < 200) (A : Option Addr) (dn c : Nat) (b : List UInt8) (h : Byt w0 w0.heap.size A dn c b) (hdn : dn ≤ 1000) (sw : Int) (hu : s.exp = true) (hs : s.shut = false) (hw : 0 ≤ sw ∧ sw ≤ 65535) (h1 : Sec.hb s.lvl 16 = true) (h8 : dn < 8) :
    Calls Tryz.prog 25 #[.agg (rst a s), rspV A dn c sw] w0 (RRs w0 a A dn (Sec.opn s b sw) (Sec.openE s b sw)) := by
  have hE : Sec.openE s b sw = 5 := by unfold Sec.openE; rw [if_neg (by rw [hs, hu]; decide), if_neg (by omega), if_neg (by rw [h1]; decide), if_pos (by rw [h.1]; exact h8)]
  have hU : Sec.opn s b sw = ({ s with exp := true, shut := true }, [], 0) := by unfold Sec.opn; rw [if_neg (by rw [hs, hu]; decide), if_pos (by rw [hE]; decide), ← hu]
  have HE := Lib.hid hE
  have HU := Lib.hid hU
  have HB16 := Lib.hid (ref24_has H.ok.lvl (.inr (.inr (.inl rfl))) h1)
  rw [rst_two hu hs]
  obtain ⟨hw0, hw1⟩ := hw
  have i0 : decide (sw < 0) = false := decide_eq_false (by omega)
  have i1 : decide (65535 < sw) = false := decide_eq_false (by omega)
  have i2 : decide ((dn : Int) < 8) = true := decide_eq_true (by omega)
  clear hs hu h hE hU h1 h8
  have HH := Lib.hid H
  have hm := Mem.nil (fun _ => False) w0
  clear H hc
  unfold cch
  obtain ⟨E, ce, M, cm, R, cr, D, cd, C, cc⟩ := a
  unfold rspV
  dsimp only
  go_enter Tryz.func25, Tryz.ntmps25
  go_wp2_with (first | go_skip | ((with_reducible show wpList _ _ _ _ _ (World.alloc _ _)); refine wpList_up hm ?_; clear hm; intro n w hn hn2 hk hm hd hd2 ho; (try rw [← hn]); replace hn := Nat.le_of_eq hn.symm) | ((first | ((with_reducible show wpList _ _ _ (Oper.mk _ (Op.box _ _) _ _ _ _ :: _) _ _); (refine bxA hm ?_; clear hm; intro n w hn hz hm ho; (try simp only [List.cons_append, List.nil_append] at hm))) | ((with_reducible show wpList _ _ _ (Oper.mk _ (Op.load _ _) _ _ _ _ :: _) _ _); first | (refine ldA hm ?_) | (refine laA hm ?_)) | ((with_reducible show wpList _ _ _ (Oper.mk _ (Op.store _ _ _) _ _ _ _ :: _) _ _); (refine stA hm ?_; clear hm; intro w hz hm ho)) | ((with_reducible show wpList _ _ _ (Oper.mk _ (Op.alloc _) _ _ _ _ :: _) _ _); (refine alA hm ?_; clear hm; intro n w hn hz hm ho; (try simp only [List.cons_append, List.nil_append] at hm)))); try simp only [Act.put, sxQ]) | ((with_reducible show Calls _ 43 #[_, Value.int _ 16] _ _); refine (HB16.out _).mono ?_; rintro e w2 ⟨rfl, rfl⟩))
  refine bodyPost_ret (results_row_row_tmp rfl _ _ _ 36 _ (0, 0) _ rfl (by exact hm.at_ 2 rfl) Tryz.underlying36 rfl (by kernel_rfl) _ 30 _ (0, 0) _ rfl (by exact hm.at_ 3 rfl) Tryz.underlying30 rfl (by kernel_rfl)) rfl ?_
  exact RRs.no HH.out HU.out hm.low HE.out
set_option maxRecDepth 100000 in
theorem ropn_wrong (w0 : World) (a : ChS) (s : Sec.S) (H : RSt w0 a s) (hc : s.cnt < 200) (A : Option Addr) (dn c : Nat) (b : List UInt8) (h : Byt w0 w0.heap.size A dn c b) (hdn : dn ≤ 1000) (sw : Int) (hu : s.exp = true) (hs : s.shut = false) (hw : 0 ≤ sw ∧ sw ≤ 65535) (h1 : Sec.hb s.lvl 16 = true) (h8 : 8 ≤ dn) (hq : ¬ b.drop (dn - 8) = Sec.rmc s (b.take (dn - 8)) sw) :
    Calls Tryz.prog 25 #[.agg (rst a s), rspV A dn c sw] w0 (RRs w0 a A dn (Sec.opn s b sw) (Sec.openE s b sw)) := by
  have hE : Sec.openE s b sw = 17 := by
    unfold Sec.openE
    rw [if_neg (by rw [hs, hu]; decide), if_neg (by omega), if_neg (by rw [h1]; decide), if_neg (by rw [h.1]; omega), h.1, if_pos hq]
  have hU : Sec.opn s b sw = ({ s with exp := true, shut := true }, [], 0) := by unfold Sec.opn; rw [if_neg (by rw [hs, hu]; decide), if_pos (by rw [hE]; decide), ← hu]
  have HE := Lib.hid hE
  have HB16 := Lib.hid (ref24_has H.ok.lvl (.inr (.inr (.inl rfl))) h1)
  have HB32 := Lib.hid (ref24_has H.ok.lvl (.inr (.inr (.inr rfl))) (v := Sec.hb s.lvl 32) rfl)
  rw [rst_two hu hs]
  obtain ⟨k, rfl⟩ : ∃ k, dn = k + 8 := ⟨dn - 8, by omega⟩
  rw [Nat.add_sub_cancel] at hq
  have HU := Lib.hid hU
  obtain ⟨q, o, rfl, _⟩ := h.at_ (by omega)
  have hcc := h.2.1
  have j3 : ¬ c = k := by omega
  have j4 : k ≤ c := by omega
  have j5 : k < c := by omega
  have j6 : (k : Int) ≤ (k : Int) + 8 := by omega
  have j7 : decide ((k : Int) + 8 < 8) = false := decide_eq_false (by omega)
  have HCU := Lib.hid (fun u (hu : Below w0.heap.size w0 u) => byt_cut ((h.below hu).more hu.size))
  have HTL := Lib.hid (show (b.take k).length = k by rw [List.length_take, h.1]; omega)
  have HTG := Lib.hid (fun u (hu : Below w0.heap.size w0 u) => (by
    have h9 := ref24_tag u a { s with exp := false } ((H.below hu).flags s.cnt false s.shut) (some ⟨q, o, none⟩) k c (b.take k) (byt_cut ((h.below hu).more hu.size)).1 (by omega) sw hw
    rw [rst_two (s := { s with exp := false }) rfl hs] at h9
    exact h9 : Calls Tryz.prog 54 #[.agg (cch a s.lvl s.cnt false false), .slice (some ⟨q, o, none⟩) k c, .int .i64 sw] u fun e w' => ∃ A1 c1, e = .returned (.slice A1 8 c1) ∧ Byt w' w'.heap.size A1 8 c1 (Sec.rmc s (b.take k) sw) ∧ (∀ a, A1 = some a → u.heap.size ≤ a.block) ∧ Below u.heap.size u w'))
  unfold cch at HTG
  obtain ⟨hw0, hw1⟩ := hw
  have i0 : decide (sw < 0) = false := decide_eq_false (by omega)
  have i1 : decide (65535 < sw) = false := decide_eq_false (by omega)
  have hsm : Oct.same (Sec.rmc s (b.take k) sw) (b.drop k) = false := by rw [Bool.eq_false_iff]; exact fun e => hq ((Oct.same_iff _ _).1 e).symm
  have HSM := Lib.hid hsm
  clear hs hu h hE hU h1 h8 hsm hq
  have HH := Lib.hid H
  have hm := Mem.nil (fun _ => False) w0
  clear H hc
  unfold cch
  obtain ⟨E, ce, M, cm, R, cr, D, cd, C, cc⟩ := a
  unfold rspV
  dsimp only at HTG ⊢
  go_enter Tryz.func25, Tryz.ntmps25
  go_wp2_with (first | go_skip | ((with_reducible show wpList _ _ _ _ _ (World.alloc _ _)); refine wpList_up hm ?_; clear hm; intro n w hn hn2 hk hm hd hd2 ho; (try rw [← hn]); replace hn := Nat.le_of_eq hn.symm) | ((first | ((with_reducible show wpList _ _ _ (Oper.mk _ (Op.box _ _) _ _ _ _ :: _) _ _); (refine bxA hm ?_; clear hm; intro n w hn hz hm ho; (try simp only [List.cons_append, List.nil_append] at hm))) | ((with_reducible show wpList _ _ _ (Oper.mk _ (Op.load _ _) _ _ _ _ :: _) _ _); first | (refine ldA hm ?_) | (refine laA hm ?_)) | ((with_reducible show wpList _ _ _ (Oper.mk _ (Op.store _ _ _) _ _ _ _ :: _) _ _); (refine stA hm ?_; clear hm; intro w hz hm ho)) | ((with_reducible show wpList _ _ _ (Oper.mk _ (Op.alloc _) _ _ _ _ :: _) _ _); (refine alA hm ?_; clear hm; intro n w hn hz hm ho; (try simp only [List.cons_append, List.nil_append] at hm)))); try simp only [Act.put, sxQ]) | ((with_reducible show Calls _ 43 #[_, Value.int _ 16] _ _); refine (HB16.out _).mono ?_; rintro e w2 ⟨rfl, rfl⟩) | ((with_reducible show Calls _ 43 #[_, Value.int _ 32] _ _); refine (HB32.out _).mono ?_; rintro e w2 ⟨rfl, rfl⟩))
  refine wp_region_noPanic ?_
  refine wp_region_held_drew (S := MemS _ _ _ _) (by kernel_rfl) (MemS.of hm.drew) (fun hHeld => ?_)
  refine wpAnyH_fresh (by repeat (first | apply Fresh.a | apply Fresh.b)) ?_
  replace hm := hm.drew
  iterate 7 (first | (refine takeN 0 hHeld ?_) | (refine takeY 0 ?_ hHeld ?_ ?_; rotate_left 1; (first | (intro w9 h9; (with_reducible show (execOp _ (Oper.mk _ (Op.load _ _) _ _ _ _)).run _ _ = _); first | exact h9.ldA | exact h9.laA) | focus (intro w9 hSw; go_simp; (try (with_reducible rfl)); done))); try simp only [Act.put, sxQ])
  iterate 4 (first | (refine takeN 8 hHeld ?_) | (refine takeY 8 ?_ hHeld ?_ ?_; rotate_left 1; (first | (intro w9 h9; (with_reducible show (execOp _ (Oper.mk _ (Op.load _ _) _ _ _ _)).run _ _ = _); first | exact h9.ldA) | focus (intro w9 hSw; go_simp; (try (with_reducible rfl)); done))); try simp only [Act.put, sxQ])
  refine wpAnyH_ready (rs := [7]) (by kernel_rfl) (by simp) ?_
  refine AllReadyH.cons2 (by simp only [sxN]; first | done | exact rfl) (fun K hK => ?_)
  rw [if_pos (by rfl)]
  go_simp
  refine (HTG.out _ hm.low).mono ?_
  rintro e w8 ⟨A8, c8, rfl, hby, hnew, hbl8⟩
  have hlo8 := hm.low.trans (hbl8.mono hm.only.size)
  replace hm := hm.below hbl8
  clear hnew
  go_simp
  refine hK.out _ _ (MemS.of hm) (fun hHeld => ?_)
  clear hK K
  try simp only [Act.put, sxQ]
  refine wpAnyH_ready (rs := [12]) (by kernel_rfl) (by simp) ?_
  refine AllReadyH.cons2 (by simp only [sxN]; first | done | exact rfl) (fun K hK => ?_)
  rw [if_pos (by rfl)]
  go_simp
  refine (ref01_Same A8 (some ⟨q, o + k, none⟩) 8 8 c8 (c - k) _ (b.drop k) _ hby (HCU.out _ hlo8).2 (by omega) (by omega)).mono ?_
  rw [HSM.out]
  rintro e w9 ⟨rfl, k9, hk9⟩
  replace hm := hm.drewN k9
  rw [← hk9] at hm
  clear hk9 hby
  go_simp
  refine hK.out _ _ (MemS.of hm) (fun hHeld => ?_)
  clear hK K
  try simp only [Act.put, sxQ]
  iterate 1 (first | (refine takeN 13 hHeld ?_) | (refine takeY 13 ?_ hHeld ?_ ?_; rotate_left 1; (first | (intro w9 h9; (with_reducible show (execOp _ (Oper.mk _ (Op.load _ _) _ _ _ _)).run _ _ = _); first | exact h9.ldA) | focus (intro w9 hSw; go_simp; (try (with_reducible rfl)); done))); try simp only [Act.put, sxQ])
  refine wpAnyH_done (by kernel_rfl) ?_ _
  refine NoPanic.normal ?_
  go_wp2_with (first | go_skip | ((with_reducible show wpList _ _ _ _ _ (World.alloc _ _)); refine wpList_up hm ?_; clear hm; intro n w hn hn2 hk hm hd hd2 ho; (try rw [← hn]); replace hn := Nat.le_of_eq hn.symm) | ((first | ((with_reducible show wpList _ _ _ (Oper.mk _ (Op.box _ _) _ _ _ _ :: _) _ _); (refine bxA hm ?_; clear hm; intro n w hn hz hm ho; (try simp only [List.cons_append, List.nil_append] at hm))) | ((with_reducible show wpList _ _ _ (Oper.mk _ (Op.load _ _) _ _ _ _ :: _) _ _); first | (refine ldA hm ?_) | (refine laA hm ?_)) | ((with_reducible show wpList _ _ _ (Oper.mk _ (Op.store _ _ _) _ _ _ _ :: _) _ _); (refine stA hm ?_; clear hm; intro w hz hm ho)) | ((with_reducible show wpList _ _ _ (Oper.mk _ (Op.alloc _) _ _ _ _ :: _) _ _); (refine alA hm ?_; clear hm; intro n w hn hz hm ho; (try simp only [List.cons_append, List.nil_append] at hm)))); try simp only [Act.put, sxQ]) | ((with_reducible show Calls _ 43 #[_, Value.int _ 16] _ _); refine (HB16.out _).mono ?_; rintro e w2 ⟨rfl, rfl⟩) | ((with_reducible show Calls _ 43 #[_, Value.int _ 32] _ _); refine (HB32.out _).mono ?_; rintro e w2 ⟨rfl, rfl⟩))
  refine bodyPost_ret (results_row_row_tmp rfl _ _ _ 36 _ (0, 0) _ rfl (by exact hm.at_ 2 rfl) Tryz.underlying36 rfl (by kernel_rfl) _ 30 _ (0, 0) _ rfl (by exact hm.at_ 3 rfl) Tryz.underlying30 rfl (by kernel_rfl)) rfl ?_
  exact RRs.no HH.out HU.out hm.low HE.out
set_option maxRecDepth 100000 in
theorem ropn_mac (w0 : World) (a : ChS) (s : Sec.S) (H : RSt w0 a s) (hc : s.cnt < 200) (A : Option Addr) (dn c : Nat) (b : List UInt8) (h : Byt w0 w0.heap.size A dn c b) (hdn : dn ≤ 1000) (sw : Int) (hu : s.exp = true) (hs : s.shut = false) (hw : 0 ≤ sw ∧ sw ≤ 65535) (h1 : Sec.hb s.lvl 16 = true) (h8 : 8 ≤ dn) (hq : b.drop (dn - 8) = Sec.rmc s (b.take (dn - 8)) sw) (h2 : Sec.hb s.lvl 32 = false) :
    Calls Tryz.prog 25 #[.agg (rst a s), rspV A dn c sw] w0 (RRs w0 a A dn (Sec.opn s b sw) (Sec.openE s b sw)) := by
  have hE : Sec.openE s b sw = 0 := by
    unfold Sec.openE
    rw [if_neg (by rw [hs, hu]; decide), if_neg (by omega), if_neg (by rw [h1]; decide), if_neg (by rw [h.1]; omega), h.1, if_neg (fun e => e hq), if_neg (by rw [h2]; rintro ⟨e, _⟩; cases e)]
  have hU : Sec.opn s b sw = ({ s with exp := false, shut := false }, b.take (dn - 8), sw) := by
    unfold Sec.opn
    rw [if_neg (by rw [hs, hu]; decide), if_neg (fun e => e hE), ← hs, show Sec.openD s b = b.take (dn - 8) by unfold Sec.openD; rw [if_neg (by rw [h1]; decide), h.1, if_neg (by rw [h2]; decide)]]
  have HE := Lib.hid hE
  have HB16 := Lib.hid (ref24_has H.ok.lvl (.inr (.inr (.inl rfl))) h1)
  have HB32 := Lib.hid (ref24_has H.ok.lvl (.inr (.inr (.inr rfl))) (v := Sec.hb s.lvl 32) rfl)
  rw [rst_two hu hs]
  obtain ⟨k, rfl⟩ : ∃ k, dn = k + 8 := ⟨dn - 8, by omega⟩
  rw [Nat.add_sub_cancel] at hq hU
  have HU := Lib.hid hU
  obtain ⟨q, o, rfl, _⟩ := h.at_ (by omega)
  have hcc := h.2.1
  have j3 : ¬ c = k := by omega
  have j4 : k ≤ c := by omega
  have j5 : k < c := by omega
  have j6 : (k : Int) ≤ (k : Int) + 8 := by omega
  have j7 : decide ((k : Int) + 8 < 8) = false := decide_eq_false (by omega)
  have HCU := Lib.hid (fun u (hu : Below w0.heap.size w0 u) => byt_cut ((h.below hu).more hu.size))
  have HTL := Lib.hid (show (b.take k).length = k by rw [List.length_take, h.1]; omega)
  have HTG := Lib.hid (fun u (hu : Below w0.heap.size w0 u) => (by
    have h9 := ref24_tag u a { s with exp := false } ((H.below hu).flags s.cnt false s.shut) (some ⟨q, o, none⟩) k c (b.take k) (byt_cut ((h.below hu).more hu.size)).1 (by omega) sw hw
    rw [rst_two (s := { s with exp := false }) rfl hs] at h9
    exact h9 : Calls Tryz.prog 54 #[.agg (cch a s.lvl s.cnt false false), .slice (some ⟨q, o, none⟩) k c, .int .i64 sw] u fun e w' => ∃ A1 c1, e = .returned (.slice A1 8 c1) ∧ Byt w' w'.heap.size A1 8 c1 (Sec.rmc s (b.take k) sw) ∧ (∀ a, A1 = some a → u.heap.size ≤ a.block) ∧ Below u.heap.size u w'))
  unfold cch at HTG
  obtain ⟨hw0, hw1⟩ := hw
  have i0 : decide (sw < 0) = false := decide_eq_false (by omega)
  have i1 : decide (65535 < sw) = false := decide_eq_false (by omega)
  have hsm : Oct.same (Sec.rmc s (b.take k) sw) (b.drop k) = true := (Oct.same_iff _ _).2 hq.symm
  rw [h2] at HB32
  have HSM := Lib.hid hsm
  clear hs hu h hE hU h1 h8 hsm hq h2
  have HH := Lib.hid H
  have hm := Mem.nil (fun _ => False) w0
  clear H hc
  unfold cch
  obtain ⟨E, ce, M, cm, R, cr, D, cd, C, cc⟩ := a
  unfold rspV
  dsimp only at HTG ⊢
  go_enter Tryz.func25, Tryz.ntmps25
  go_wp2_with (first | go_skip | ((with_reducible show wpList _ _ _ _ _ (World.alloc _ _)); refine wpList_up hm ?_; clear hm; intro n w hn hn2 hk hm hd hd2 ho; (try rw [← hn]); replace hn := Nat.le_of_eq hn.symm) | ((first | ((with_reducible show wpList _ _ _ (Oper.mk _ (Op.box _ _) _ _ _ _ :: _) _ _); (refine bxA hm ?_; clear hm; intro n w hn hz hm ho; (try simp only [List.cons_append, List.nil_append] at hm))) | ((with_reducible show wpList _ _ _ (Oper.mk _ (Op.load _ _) _ _ _ _ :: _) _ _); first | (refine ldA hm ?_) | (refine laA hm ?_)) | ((with_reducible show wpList _ _ _ (Oper.mk _ (Op.store _ _ _) _ _ _ _ :: _) _ _); (refine stA hm ?_; clear hm; intro w hz hm ho)) | ((with_reducible show wpList _ _ _ (Oper.mk _ (Op.alloc _) _ _ _ _ :: _) _ _); (refine alA hm ?_; clear hm; intro n w hn hz hm ho; (try simp only [List.cons_append, List.nil_append] at hm)))); try simp only [Act.put, sxQ]) | ((with_reducible show Calls _ 43 #[_, Value.int _ 16] _ _); refine (HB16.out _).mono ?_; rintro e w2 ⟨rfl, rfl⟩) | ((with_reducible show Calls _ 43 #[_, Value.int _ 32] _ _); refine (HB32.out _).mono ?_; rintro e w2 ⟨rfl, rfl⟩))
  refine wp_region_noPanic ?_
  refine wp_region_held_drew (S := MemS _ _ _ _) (by kernel_rfl) (MemS.of hm.drew) (fun hHeld => ?_)
  refine wpAnyH_fresh (by repeat (first | apply Fresh.a | apply Fresh.b)) ?_
  replace hm := hm.drew
  iterate 7 (first | (refine takeN 0 hHeld ?_) | (refine takeY 0 ?_ hHeld ?_ ?_; rotate_left 1; (first | (intro w9 h9; (with_reducible show (execOp _ (Oper.mk _ (Op.load _ _) _ _ _ _)).run _ _ = _); first | exact h9.ldA | exact h9.laA) | focus (intro w9 hSw; go_simp; (try (with_reducible rfl)); done))); try simp only [Act.put, sxQ])
  iterate 4 (first | (refine takeN 8 hHeld ?_) | (refine takeY 8 ?_ hHeld ?_ ?_; rotate_left 1; (first | (intro w9 h9; (with_reducible show (execOp _ (Oper.mk _ (Op.load _ _) _ _ _ _)).run _ _ = _); first | exact h9.ldA) | focus (intro w9 hSw; go_simp; (try (with_reducible rfl)); done))); try simp only [Act.put, sxQ])
  refine wpAnyH_ready (rs := [7]) (by kernel_rfl) (by simp) ?_
  refine AllReadyH.cons2 (by simp only [sxN]; first | done | exact rfl) (fun K hK => ?_)
  rw [if_pos (by rfl)]
  go_simp
  refine (HTG.out _ hm.low).mono ?_
  rintro e w8 ⟨A8, c8, rfl, hby, hnew, hbl8⟩
  have hlo8 := hm.low.trans (hbl8.mono hm.only.size)
  replace hm := hm.below hbl8
  clear hnew
  go_simp
  refine hK.out _ _ (MemS.of hm) (fun hHeld => ?_)
  clear hK K
  try simp only [Act.put, sxQ]
  refine wpAnyH_ready (rs := [12]) (by kernel_rfl) (by simp) ?_
  refine AllReadyH.cons2 (by simp only [sxN]; first | done | exact rfl) (fun K hK => ?_)
  rw [if_pos (by rfl)]
  go_simp
  refine (ref01_Same A8 (some ⟨q, o + k, none⟩) 8 8 c8 (c - k) _ (b.drop k) _ hby (HCU.out _ hlo8).2 (by omega) (by omega)).mono ?_
  rw [HSM.out]
  rintro e w9 ⟨rfl, k9, hk9⟩
  replace hm := hm.drewN k9
  rw [← hk9] at hm
  clear hk9 hby
  go_simp
  refine hK.out _ _ (MemS.of hm) (fun hHeld => ?_)
  clear hK K
  try simp only [Act.put, sxQ]
  iterate 1 (first | (refine takeN 13 hHeld ?_) | (refine takeY 13 ?_ hHeld ?_ ?_; rotate_left 1; (first | (intro w9 h9; (with_reducible show (execOp _ (Oper.mk _ (Op.load _ _) _ _ _ _)).run _ _ = _); first | exact h9.ldA) | focus (intro w9 hSw; go_simp; (try (with_reducible rfl)); done))); try simp only [Act.put, sxQ])
  refine wpAnyH_done (by kernel_rfl) ?_ _
  refine NoPanic.normal ?_
  go_wp2_with (first | go_skip | ((with_reducible show wpList _ _ _ _ _ (World.alloc _ _)); refine wpList_up hm ?_; clear hm; intro n w hn hn2 hk hm hd hd2 ho; (try rw [← hn]); replace hn := Nat.le_of_eq hn.symm) | ((first | ((with_reducible show wpList _ _ _ (Oper.mk _ (Op.box _ _) _ _ _ _ :: _) _ _); (refine bxA hm ?_; clear hm; intro n w hn hz hm ho; (try simp only [List.cons_append, List.nil_append] at hm))) | ((with_reducible show wpList _ _ _ (Oper.mk _ (Op.load _ _) _ _ _ _ :: _) _ _); first | (refine ldA hm ?_) | (refine laA hm ?_)) | ((with_reducible show wpList _ _ _ (Oper.mk _ (Op.store _ _ _) _ _ _ _ :: _) _ _); (refine stA hm ?_; clear hm; intro w hz hm ho)) | ((with_reducible show wpList _ _ _ (Oper.mk _ (Op.alloc _) _ _ _ _ :: _) _ _); (refine alA hm ?_; clear hm; intro n w hn hz hm ho; (try simp only [List.cons_append, List.nil_append] at hm)))); try simp only [Act.put, sxQ]) | ((with_reducible show Calls _ 43 #[_, Value.int _ 16] _ _); refine (HB16.out _).mono ?_; rintro e w2 ⟨rfl, rfl⟩) | ((with_reducible show Calls _ 43 #[_, Value.int _ 32] _ _); refine (HB32.out _).mono ?_; rintro e w2 ⟨rfl, rfl⟩))
  have hw9 := (hm.drew.wo 3).wo 2
  simp only [List.eraseIdx_cons_zero, List.eraseIdx_cons_succ] at hw9
  refine wp_region_noPanic ?_
  refine wp_region_held_drew (S := MemS _ _ _ _) (by kernel_rfl) (MemS.of hw9) (fun hHeld => ?_)
  refine wpAnyH_fresh (by repeat (first | apply Fresh.a | apply Fresh.b)) ?_
  clear hw9
  replace hm := hm.drew
  iterate 2 (first | (refine takeN 0 hHeld ?_) | (refine takeY 0 ?_ hHeld ?_ ?_; rotate_left 1; (first | (intro w9 h9; (with_reducible show (execOp _ (Oper.mk _ (Op.load _ _) _ _ _ _)).run _ _ = _); first | exact h9.ldA | exact h9.laA) | focus (intro w9 hSw; go_simp; (try (with_reducible rfl)); done))); try simp only [Act.put, sxQ])
  refine wpAnyH_ready (rs := [2]) (by kernel_rfl) (by simp) ?_
  refine AllReadyH.cons2 (by simp only [sxN]; first | done | exact rfl) (fun K hK => ?_)
  refine stB hm ?_
  clear hm; intro w hz hm ho
  refine hK.out _ _ (MemS.of ((hm.wo 3).wo 2)) (fun hHeld => ?_)
  clear hK K
  try simp only [Act.put, sxQ]
  refine wpAnyH_ready (rs := [3]) (by kernel_rfl) (by simp) ?_
  refine AllReadyH.cons2 (by simp only [sxN]; first | done | exact rfl) (fun K hK => ?_)
  refine stB hm ?_
  clear hm; intro w hz hm ho
  refine hK.out _ _ (MemS.of ((hm.wo 3).wo 2)) (fun hHeld => ?_)
  clear hK K
  try simp only [Act.put, sxQ]
  iterate 1 (first | (refine takeN 4 hHeld ?_) | (refine takeY 4 ?_ hHeld ?_ ?_; rotate_left 1; (first | (intro w9 h9; (with_reducible show (execOp _ (Oper.mk _ (Op.load _ _) _ _ _ _)).run _ _ = _); first | exact h9.ldA) | focus (intro w9 hSw; go_simp; (try (with_reducible rfl)); done))); try simp only [Act.put, sxQ])
  refine wpAnyH_done (by kernel_rfl) ?_ _
  refine NoPanic.normal ?_
  go_wp2_with fail
  refine bodyPost_ret (results_row_row_tmp rfl _ _ _ 36 _ (0, 0) _ rfl (by exact hm.at_ 2 rfl) Tryz.underlying36 rfl (by kernel_rfl) _ 30 _ (0, 0) _ rfl (by exact hm.at_ 3 rfl) Tryz.underlying30 rfl (by kernel_rfl)) rfl ?_
  exact RRs.mk HH.out HU.out HTL.out (HCU.out _ hm.low).1 (fun F hF => hF.cut (by omega)) hm.low HE.out
set_option maxRecDepth 100000 in
theorem ropn_bad (w0 : World) (a : ChS) (s : Sec.S) (H : RSt w0 a s) (hc : s.cnt < 200) (A : Option Addr) (dn c : Nat) (b : List UInt8) (h : Byt w0 w0.heap.size A dn c b) (hdn : dn ≤ 1000) (sw : Int) (hu : s.exp = true) (hs : s.shut = false) (hw : 0 ≤ sw ∧ sw ≤ 65535) (h1 : Sec.hb s.lvl 16 = true) (h8 : 8 ≤ dn) (hq : b.drop (dn - 8) = Sec.rmc s (b.take (dn - 8)) sw) (h2 : Sec.hb s.lvl 32 = true) (hd : Sec.show? s true (b.take (dn - 8)) = none) :
    Calls Tryz.prog 25 #[.agg (rst a s), rspV A dn c sw] w0 (RRs w0 a A dn (Sec.opn s b sw) (Sec.openE s b sw)) := by
  have hE : Sec.openE s b sw = 4 := by
    unfold Sec.openE
    rw [if_neg (by rw [hs, hu]; decide), if_neg (by omega), if_neg (by rw [h1]; decide), if_neg (by rw [h.1]; omega), h.1, if_neg (fun e => e hq), if_pos ⟨h2, hd⟩]
  have hU : Sec.opn s b sw = ({ s with exp := true, shut := true }, [], 0) := by unfold Sec.opn; rw [if_neg (by rw [hs, hu]; decide), if_pos (by rw [hE]; decide), ← hu]
  have HE := Lib.hid hE
  have HB16 := Lib.hid (ref24_has H.ok.lvl (.inr (.inr (.inl rfl))) h1)
  have HB32 := Lib.hid (ref24_has H.ok.lvl (.inr (.inr (.inr rfl))) (v := Sec.hb s.lvl 32) rfl)
  rw [rst_two hu hs]
  obtain ⟨k, rfl⟩ : ∃ k, dn = k + 8 := ⟨dn - 8, by omega⟩
  rw [Nat.add_sub_cancel] at hq hd
  have HU := Lib.hid hU
  obtain ⟨q, o, rfl, _⟩ := h.at_ (by omega)
  have hcc := h.2.1
  have j3 : ¬ c = k := by omega
  have j4 : k ≤ c := by omega
  have j5 : k < c := by omega
  have j6 : (k : Int) ≤ (k : Int) + 8 := by omega
  have j7 : decide ((k : Int) + 8 < 8) = false := decide_eq_false (by omega)
  have HCU := Lib.hid (fun u (hu : Below w0.heap.size w0 u) => byt_cut ((h.below hu).more hu.size))
  have HTL := Lib.hid (show (b.take k).length = k by rw [List.length_take, h.1]; omega)
  have HTG := Lib.hid (fun u (hu : Below w0.heap.size w0 u) => (by
    have h9 := ref24_tag u a { s with exp := false } ((H.below hu).flags s.cnt false s.shut) (some ⟨q, o, none⟩) k c (b.take k) (byt_cut ((h.below hu).more hu.size)).1 (by omega) sw hw
    rw [rst_two (s := { s with exp := false }) rfl hs] at h9
    exact h9 : Calls Tryz.prog 54 #[.agg (cch a s.lvl s.cnt false false), .slice (some ⟨q, o, none⟩) k c, .int .i64 sw] u fun e w' => ∃ A1 c1, e = .returned (.slice A1 8 c1) ∧ Byt w' w'.heap.size A1 8 c1 (Sec.rmc s (b.take k) sw) ∧ (∀ a, A1 = some a → u.heap.size ≤ a.block) ∧ Below u.heap.size u w'))
  unfold cch at HTG
  obtain ⟨hw0, hw1⟩ := hw
  have i0 : decide (sw < 0) = false := decide_eq_false (by omega)
  have i1 : decide (65535 < sw) = false := decide_eq_false (by omega)
  have hsm : Oct.same (Sec.rmc s (b.take k) sw) (b.drop k) = true := (Oct.same_iff _ _).2 hq.symm
  rw [h2] at HB32
  have HSM := Lib.hid hsm
  have hsh : ∀ (u : World) (hu : Below w0.heap.size w0 u), Calls Tryz.prog 52 #[.agg (cch a s.lvl s.cnt false false), .int .i64 128, .slice (some ⟨q, o, none⟩) k c] u (ShowR u (none)) := fun u hu => by
    have h9 := ref24_show u a { s with exp := false } ((H.below hu).flags s.cnt false s.shut) (by show s.cnt < 256; omega) (some ⟨q, o, none⟩) k c (b.take k) (byt_cut ((h.below hu).more hu.size)).1 (by omega) true
    rw [rst_two (s := { s with exp := false }) rfl hs, show Sec.show? { s with exp := false } true (b.take k) = none from hd] at h9
    exact h9
  unfold cch at hsh
  have HSH := Lib.hid hsh
  clear hs hu h hE hU h1 h8 hsm hq h2 hd hsh
  have HH := Lib.hid H
  have hm := Mem.nil (fun _ => False) w0
  clear H hc
  unfold cch
  obtain ⟨E, ce, M, cm, R, cr, D, cd, C, cc⟩ := a
  unfold rspV
  dsimp only at HTG HSH ⊢
  go_enter Tryz.func25, Tryz.ntmps25
  go_wp2_with (first | go_skip | ((with_reducible show wpList _ _ _ _ _ (World.alloc _ _)); refine wpList_up hm ?_; clear hm; intro n w hn hn2 hk hm hd hd2 ho; (try rw [← hn]); replace hn := Nat.le_of_eq hn.symm) | ((first | ((with_reducible show wpList _ _ _ (Oper.mk _ (Op.box _ _) _ _ _ _ :: _) _ _); (refine bxA hm ?_; clear hm; intro n w hn hz hm ho; (try simp only [List.cons_append, List.nil_append] at hm))) | ((with_reducible show wpList _ _ _ (Oper.mk _ (Op.load _ _) _ _ _ _ :: _) _ _); first | (refine ldA hm ?_) | (refine laA hm ?_)) | ((with_reducible show wpList _ _ _ (Oper.mk _ (Op.store _ _ _) _ _ _ _ :: _) _ _); (refine stA hm ?_; clear hm; intro w hz hm ho)) | ((with_reducible show wpList _ _ _ (Oper.mk _ (Op.alloc _) _ _ _ _ :: _) _ _); (refine alA hm ?_; clear hm; intro n w hn hz hm ho; (try simp only [List.cons_append, List.nil_append] at hm)))); try simp only [Act.put, sxQ]) | ((with_reducible show Calls _ 43 #[_, Value.int _ 16] _ _); refine (HB16.out _).mono ?_; rintro e w2 ⟨rfl, rfl⟩) | ((with_reducible show Calls _ 43 #[_, Value.int _ 32] _ _); refine (HB32.out _).mono ?_; rintro e w2 ⟨rfl, rfl⟩))
  refine wp_region_noPanic ?_
  refine wp_region_held_drew (S := MemS _ _ _ _) (by kernel_rfl) (MemS.of hm.drew) (fun hHeld => ?_)
  refine wpAnyH_fresh (by repeat (first | apply Fresh.a | apply Fresh.b)) ?_
  replace hm := hm.drew
  iterate 7 (first | (refine takeN 0 hHeld ?_) | (refine takeY 0 ?_ hHeld ?_ ?_; rotate_left 1; (first | (intro w9 h9; (with_reducible show (execOp _ (Oper.mk _ (Op.load _ _) _ _ _ _)).run _ _ = _); first | exact h9.ldA | exact h9.laA) | focus (intro w9 hSw; go_simp; (try (with_reducible rfl)); done))); try simp only [Act.put, sxQ])
  iterate 4 (first | (refine takeN 8 hHeld ?_) | (refine takeY 8 ?_ hHeld ?_ ?_; rotate_left 1; (first | (intro w9 h9; (with_reducible show (execOp _ (Oper.mk _ (Op.load _ _) _ _ _ _)).run _ _ = _); first | exact h9.ldA) | focus (intro w9 hSw; go_simp; (try (with_reducible rfl)); done))); try simp only [Act.put, sxQ])
  refine wpAnyH_ready (rs := [7]) (by kernel_rfl) (by simp) ?_
  refine AllReadyH.cons2 (by simp only [sxN]; first | done | exact rfl) (fun K hK => ?_)
  rw [if_pos (by rfl)]
  go_simp
  refine (HTG.out _ hm.low).mono ?_
  rintro e w8 ⟨A8, c8, rfl, hby, hnew, hbl8⟩
  have hlo8 := hm.low.trans (hbl8.mono hm.only.size)
  replace hm := hm.below hbl8
  clear hnew
  go_simp
  refine hK.out _ _ (MemS.of hm) (fun hHeld => ?_)
  clear hK K
  try simp only [Act.put, sxQ]
  refine wpAnyH_ready (rs := [12]) (by kernel_rfl) (by simp) ?_
  refine AllReadyH.cons2 (by simp only [sxN]; first | done | exact rfl) (fun K hK => ?_)
  rw [if_pos (by rfl)]
  go_simp
  refine (ref01_Same A8 (some ⟨q, o + k, none⟩) 8 8 c8 (c - k) _ (b.drop k) _ hby (HCU.out _ hlo8).2 (by omega) (by omega)).mono ?_
  rw [HSM.out]
  rintro e w9 ⟨rfl, k9, hk9⟩
  replace hm := hm.drewN k9
  rw [← hk9] at hm
  clear hk9 hby
  go_simp
  refine hK.out _ _ (MemS.of hm) (fun hHeld => ?_)
  clear hK K
  try simp only [Act.put, sxQ]
  iterate 1 (first | (refine takeN 13 hHeld ?_) | (refine takeY 13 ?_ hHeld ?_ ?_; rotate_left 1; (first | (intro w9 h9; (with_reducible show (execOp _ (Oper.mk _ (Op.load _ _) _ _ _ _)).run _ _ = _); first | exact h9.ldA) | focus (intro w9 hSw; go_simp; (try (with_reducible rfl)); done))); try simp only [Act.put, sxQ])
  refine wpAnyH_done (by kernel_rfl) ?_ _
  refine NoPanic.normal ?_
  go_wp2_with (first | go_skip | ((with_reducible show wpList _ _ _ _ _ (World.alloc _ _)); refine wpList_up hm ?_; clear hm; intro n w hn hn2 hk hm hd hd2 ho; (try rw [← hn]); replace hn := Nat.le_of_eq hn.symm) | ((first | ((with_reducible show wpList _ _ _ (Oper.mk _ (Op.box _ _) _ _ _ _ :: _) _ _); (refine bxA hm ?_; clear hm; intro n w hn hz hm ho; (try simp only [List.cons_append, List.nil_append] at hm))) | ((with_reducible show wpList _ _ _ (Oper.mk _ (Op.load _ _) _ _ _ _ :: _) _ _); first | (refine ldA hm ?_) | (refine laA hm ?_)) | ((with_reducible show wpList _ _ _ (Oper.mk _ (Op.store _ _ _) _ _ _ _ :: _) _ _); (refine stA hm ?_; clear hm; intro w hz hm ho)) | ((with_reducible show wpList _ _ _ (Oper.mk _ (Op.alloc _) _ _ _ _ :: _) _ _); (refine alA hm ?_; clear hm; intro n w hn hz hm ho; (try simp only [List.cons_append, List.nil_append] at hm)))); try simp only [Act.put, sxQ]) | ((with_reducible show Calls _ 43 #[_, Value.int _ 16] _ _); refine (HB16.out _).mono ?_; rintro e w2 ⟨rfl, rfl⟩) | ((with_reducible show Calls _ 43 #[_, Value.int _ 32] _ _); refine (HB32.out _).mono ?_; rintro e w2 ⟨rfl, rfl⟩))
  go_at_call 52
  refine (HSH.out _ hm.low).mono ?_
  rintro e w2 ⟨hbl, (⟨_, A9, c9, rfl⟩ | ⟨d9, A9, n9, c9, e9, _⟩)⟩
  rotate_left 1
  · cases e9
  replace hm := hm.below hbl
  go_wp2_with (first | go_skip | ((with_reducible show wpList _ _ _ _ _ (World.alloc _ _)); refine wpList_up hm ?_; clear hm; intro n w hn hn2 hk hm hd hd2 ho; (try rw [← hn]); replace hn := Nat.le_of_eq hn.symm) | ((first | ((with_reducible show wpList _ _ _ (Oper.mk _ (Op.box _ _) _ _ _ _ :: _) _ _); (refine bxA hm ?_; clear hm; intro n w hn hz hm ho; (try simp only [List.cons_append, List.nil_append] at hm))) | ((with_reducible show wpList _ _ _ (Oper.mk _ (Op.load _ _) _ _ _ _ :: _) _ _); first | (refine ldA hm ?_) | (refine laA hm ?_)) | ((with_reducible show wpList _ _ _ (Oper.mk _ (Op.store _ _ _) _ _ _ _ :: _) _ _); (refine stA hm ?_; clear hm; intro w hz hm ho)) | ((with_reducible show wpList _ _ _ (Oper.mk _ (Op.alloc _) _ _ _ _ :: _) _ _); (refine alA hm ?_; clear hm; intro n w hn hz hm ho; (try simp only [List.cons_append, List.nil_append] at hm)))); try simp only [Act.put, sxQ]))
  refine bodyPost_ret (results_row_row_tmp rfl _ _ _ 36 _ (0, 0) _ rfl (by exact hm.at_ 2 rfl) Tryz.underlying36 rfl (by kernel_rfl) _ 30 _ (0, 0) _ rfl (by exact hm.at_ 3 rfl) Tryz.underlying30 rfl (by kernel_rfl)) rfl ?_
  exact RRs.no HH.out HU.out hm.low HE.out
set_option maxRecDepth 100000 in
theorem ropn_enc (w0 : World) (a : ChS) (s : Sec.S) (H : RSt w0 a s) (hc : s.cnt < 200) (A : Option Addr) (dn c : Nat) (b : List UInt8) (h : Byt w0 w0.heap.size A dn c b) (hdn : dn ≤ 1000) (sw : Int) (hu : s.exp = true) (hs : s.shut = false) (hw : 0 ≤ sw ∧ sw ≤ 65535) (h1 : Sec.hb s.lvl 16 = true) (h8 : 8 ≤ dn) (dd : List UInt8) (hq : b.drop (dn - 8) = Sec.rmc s (b.take (dn - 8)) sw) (h2 : Sec.hb s.lvl 32 = true) (hd : Sec.show? s true (b.take (dn - 8)) = some dd) :
    Calls Tryz.prog 25 #[.agg (rst a s), rspV A dn c sw] w0 (RRs w0 a A dn (Sec.opn s b sw) (Sec.openE s b sw)) := by
  have hE : Sec.openE s b sw = 0 := by
    unfold Sec.openE
    rw [if_neg (by rw [hs, hu]; decide), if_neg (by omega), if_neg (by rw [h1]; decide), if_neg (by rw [h.1]; omega), h.1, if_neg (fun e => e hq), if_neg (by rw [hd]; rintro ⟨_, e⟩; cases e)]
  have hU : Sec.opn s b sw = ({ s with exp := false, shut := false }, dd, sw) := by
    unfold Sec.opn
    rw [if_neg (by rw [hs, hu]; decide), if_neg (fun e => e hE), ← hs, show Sec.openD s b = dd by unfold Sec.openD; rw [if_neg (by rw [h1]; decide), h.1, if_pos h2, hd]; rfl]
  have HE := Lib.hid hE
  have HB16 := Lib.hid (ref24_has H.ok.lvl (.inr (.inr (.inl rfl))) h1)
  have HB32 := Lib.hid (ref24_has H.ok.lvl (.inr (.inr (.inr rfl))) (v := Sec.hb s.lvl 32) rfl)
  rw [rst_two hu hs]
  obtain ⟨k, rfl⟩ : ∃ k, dn = k + 8 := ⟨dn - 8, by omega⟩
  rw [Nat.add_sub_cancel] at hq hd
  have HU := Lib.hid hU
  obtain ⟨q, o, rfl, _⟩ := h.at_ (by omega)
  have hcc := h.2.1
  have j3 : ¬ c = k := by omega
  have j4 : k ≤ c := by omega
  have j5 : k < c := by omega
  have j6 : (k : Int) ≤ (k : Int) + 8 := by omega
  have j7 : decide ((k : Int) + 8 < 8) = false := decide_eq_false (by omega)
  have HCU := Lib.hid (fun u (hu : Below w0.heap.size w0 u) => byt_cut ((h.below hu).more hu.size))
  have HTL := Lib.hid (show (b.take k).length = k by rw [List.length_take, h.1]; omega)
  have HTG := Lib.hid (fun u (hu : Below w0.heap.size w0 u) => (by
    have h9 := ref24_tag u a { s with exp := false } ((H.below hu).flags s.cnt false s.shut) (some ⟨q, o, none⟩) k c (b.take k) (byt_cut ((h.below hu).more hu.size)).1 (by omega) sw hw
    rw [rst_two (s := { s with exp := false }) rfl hs] at h9
    exact h9 : Calls Tryz.prog 54 #[.agg (cch a s.lvl s.cnt false false), .slice (some ⟨q, o, none⟩) k c, .int .i64 sw] u fun e w' => ∃ A1 c1, e = .returned (.slice A1 8 c1) ∧ Byt w' w'.heap.size A1 8 c1 (Sec.rmc s (b.take k) sw) ∧ (∀ a, A1 = some a → u.heap.size ≤ a.block) ∧ Below u.heap.size u w'))
  unfold cch at HTG
  obtain ⟨hw0, hw1⟩ := hw
  have i0 : decide (sw < 0) = false := decide_eq_false (by omega)
  have i1 : decide (65535 < sw) = false := decide_eq_false (by omega)
  have hsm : Oct.same (Sec.rmc s (b.take k) sw) (b.drop k) = true := (Oct.same_iff _ _).2 hq.symm
  rw [h2] at HB32
  have HSM := Lib.hid hsm
  have hsh : ∀ (u : World) (hu : Below w0.heap.size w0 u), Calls Tryz.prog 52 #[.agg (cch a s.lvl s.cnt false false), .int .i64 128, .slice (some ⟨q, o, none⟩) k c] u (ShowR u (some dd)) := fun u hu => by
    have h9 := ref24_show u a { s with exp := false } ((H.below hu).flags s.cnt false s.shut) (by show s.cnt < 256; omega) (some ⟨q, o, none⟩) k c (b.take k) (byt_cut ((h.below hu).more hu.size)).1 (by omega) true
    rw [rst_two (s := { s with exp := false }) rfl hs, show Sec.show? { s with exp := false } true (b.take k) = some dd from hd] at h9
    exact h9
  unfold cch at hsh
  have HSH := Lib.hid hsh
  clear hs hu h hE hU h1 h8 hsm hq h2 hd hsh
  have HH := Lib.hid H
  have hm := Mem.nil (fun _ => False) w0
  clear H hc
  unfold cch
  obtain ⟨E, ce, M, cm, R, cr, D, cd, C, cc⟩ := a
  unfold rspV
  dsimp only at HTG HSH ⊢
  go_enter Tryz.func25, Tryz.ntmps25
  go_wp2_with (first | go_skip | ((with_reducible show wpList _ _ _ _ _ (World.alloc _ _)); refine wpList_up hm ?_; clear hm; intro n w hn hn2 hk hm hd hd2 ho; (try rw [← hn]); replace hn := Nat.le_of_eq hn.symm) | ((first | ((with_reducible show wpList _ _ _ (Oper.mk _ (Op.box _ _) _ _ _ _ :: _) _ _); (refine bxA hm ?_; clear hm; intro n w hn hz hm ho; (try simp only [List.cons_append, List.nil_append] at hm))) | ((with_reducible show wpList _ _ _ (Oper.mk _ (Op.load _ _) _ _ _ _ :: _) _ _); first | (refine ldA hm ?_) | (refine laA hm ?_)) | ((with_reducible show wpList _ _ _ (Oper.mk _ (Op.store _ _ _) _ _ _ _ :: _) _ _); (refine stA hm ?_; clear hm; intro w hz hm ho)) | ((with_reducible show wpList _ _ _ (Oper.mk _ (Op.alloc _) _ _ _ _ :: _) _ _); (refine alA hm ?_; clear hm; intro n w hn hz hm ho; (try simp only [List.cons_append, List.nil_append] at hm)))); try simp only [Act.put, sxQ]) | ((with_reducible show Calls _ 43 #[_, Value.int _ 16] _ _); refine (HB16.out _).mono ?_; rintro e w2 ⟨rfl, rfl⟩) | ((with_reducible show Calls _ 43 #[_, Value.int _ 32] _ _); refine (HB32.out _).mono ?_; rintro e w2 ⟨rfl, rfl⟩))
  refine wp_region_noPanic ?_
  refine wp_region_held_drew (S := MemS _ _ _ _) (by kernel_rfl) (MemS.of hm.drew) (fun hHeld => ?_)
  refine wpAnyH_fresh (by repeat (first | apply Fresh.a | apply Fresh.b)) ?_
  replace hm := hm.drew
  iterate 7 (first | (refine takeN 0 hHeld ?_) | (refine takeY 0 ?_ hHeld ?_ ?_; rotate_left 1; (first | (intro w9 h9; (with_reducible show (execOp _ (Oper.mk _ (Op.load _ _) _ _ _ _)).run _ _ = _); first | exact h9.ldA | exact h9.laA) | focus (intro w9 hSw; go_simp; (try (with_reducible rfl)); done))); try simp only [Act.put, sxQ])
  iterate 4 (first | (refine takeN 8 hHeld ?_) | (refine takeY 8 ?_ hHeld ?_ ?_; rotate_left 1; (first | (intro w9 h9; (with_reducible show (execOp _ (Oper.mk _ (Op.load _ _) _ _ _ _)).run _ _ = _); first | exact h9.ldA) | focus (intro w9 hSw; go_simp; (try (with_reducible rfl)); done))); try simp only [Act.put, sxQ])
  refine wpAnyH_ready (rs := [7]) (by kernel_rfl) (by simp) ?_
  refine AllReadyH.cons2 (by simp only [sxN]; first | done | exact rfl) (fun K hK => ?_)
  rw [if_pos (by rfl)]
  go_simp
  refine (HTG.out _ hm.low).mono ?_
  rintro e w8 ⟨A8, c8, rfl, hby, hnew, hbl8⟩
  have hlo8 := hm.low.trans (hbl8.mono hm.only.size)
  replace hm := hm.below hbl8
  clear hnew
  go_simp
  refine hK.out _ _ (MemS.of hm) (fun hHeld => ?_)
  clear hK K
  try simp only [Act.put, sxQ]
  refine wpAnyH_ready (rs := [12]) (by kernel_rfl) (by simp) ?_
  refine AllReadyH.cons2 (by simp only [sxN]; first | done | exact rfl) (fun K hK => ?_)
  rw [if_pos (by rfl)]
  go_simp
  refine (ref01_Same A8 (some ⟨q, o + k, none⟩) 8 8 c8 (c - k) _ (b.drop k) _ hby (HCU.out _ hlo8).2 (by omega) (by omega)).mono ?_
  rw [HSM.out]
  rintro e w9 ⟨rfl, k9, hk9⟩
  replace hm := hm.drewN k9
  rw [← hk9] at hm
  clear hk9 hby
  go_simp
  refine hK.out _ _ (MemS.of hm) (fun hHeld => ?_)
  clear hK K
  try simp only [Act.put, sxQ]
  iterate 1 (first | (refine takeN 13 hHeld ?_) | (refine takeY 13 ?_ hHeld ?_ ?_; rotate_left 1; (first | (intro w9 h9; (with_reducible show (execOp _ (Oper.mk _ (Op.load _ _) _ _ _ _)).run _ _ = _); first | exact h9.ldA) | focus (intro w9 hSw; go_simp; (try (with_reducible rfl)); done))); try simp only [Act.put, sxQ])
  refine wpAnyH_done (by kernel_rfl) ?_ _
  refine NoPanic.normal ?_
  go_wp2_with (first | go_skip | ((with_reducible show wpList _ _ _ _ _ (World.alloc _ _)); refine wpList_up hm ?_; clear hm; intro n w hn hn2 hk hm hd hd2 ho; (try rw [← hn]); replace hn := Nat.le_of_eq hn.symm) | ((first | ((with_reducible show wpList _ _ _ (Oper.mk _ (Op.box _ _) _ _ _ _ :: _) _ _); (refine bxA hm ?_; clear hm; intro n w hn hz hm ho; (try simp only [List.cons_append, List.nil_append] at hm))) | ((with_reducible show wpList _ _ _ (Oper.mk _ (Op.load _ _) _ _ _ _ :: _) _ _); first | (refine ldA hm ?_) | (refine laA hm ?_)) | ((with_reducible show wpList _ _ _ (Oper.mk _ (Op.store _ _ _) _ _ _ _ :: _) _ _); (refine stA hm ?_; clear hm; intro w hz hm ho)) | ((with_reducible show wpList _ _ _ (Oper.mk _ (Op.alloc _) _ _ _ _ :: _) _ _); (refine alA hm ?_; clear hm; intro n w hn hz hm ho; (try simp only [List.cons_append, List.nil_append] at hm)))); try simp only [Act.put, sxQ]) | ((with_reducible show Calls _ 43 #[_, Value.int _ 16] _ _); refine (HB16.out _).mono ?_; rintro e w2 ⟨rfl, rfl⟩) | ((with_reducible show Calls _ 43 #[_, Value.int _ 32] _ _); refine (HB32.out _).mono ?_; rintro e w2 ⟨rfl, rfl⟩))
  go_at_call 52
  refine (HSH.out _ hm.low).mono ?_
  rintro e w2 ⟨hbl, (⟨e9, _⟩ | ⟨d9, A9, n9, c9, e9, hl9, rfl, hown⟩)⟩
  · cases e9
  injection e9 with e9
  subst e9
  have HL9 := Lib.hid hl9
  replace hm := hm.got hbl hown
  clear hown hl9
  go_wp2_with (first | go_skip | ((with_reducible show wpList _ _ _ _ _ (World.alloc _ _)); refine wpList_up hm ?_; clear hm; intro n w hn hn2 hk hm hd hd2 ho; (try rw [← hn]); replace hn := Nat.le_of_eq hn.symm) | ((first | ((with_reducible show wpList _ _ _ (Oper.mk _ (Op.box _ _) _ _ _ _ :: _) _ _); (refine bxA hm ?_; clear hm; intro n w hn hz hm ho; (try simp only [List.cons_append, List.nil_append] at hm))) | ((with_reducible show wpList _ _ _ (Oper.mk _ (Op.load _ _) _ _ _ _ :: _) _ _); first | (refine ldA hm ?_) | (refine laA hm ?_)) | ((with_reducible show wpList _ _ _ (Oper.mk _ (Op.store _ _ _) _ _ _ _ :: _) _ _); (refine stA hm ?_; clear hm; intro w hz hm ho)) | ((with_reducible show wpList _ _ _ (Oper.mk _ (Op.alloc _) _ _ _ _ :: _) _ _); (refine alA hm ?_; clear hm; intro n w hn hz hm ho; (try simp only [List.cons_append, List.nil_append] at hm)))); try simp only [Act.put, sxQ]))
  have hw9 := (hm.drew.wo 3).wo 2
  simp only [List.eraseIdx_cons_zero, List.eraseIdx_cons_succ] at hw9
  refine wp_region_noPanic ?_
  refine wp_region_held_drew (S := MemS _ _ _ _) (by kernel_rfl) (MemS.of hw9) (fun hHeld => ?_)
  refine wpAnyH_fresh (by repeat (first | apply Fresh.a | apply Fresh.b)) ?_
  clear hw9
  replace hm := hm.drew
  iterate 2 (first | (refine takeN 0 hHeld ?_) | (refine takeY 0 ?_ hHeld ?_ ?_; rotate_left 1; (first | (intro w9 h9; (with_reducible show (execOp _ (Oper.mk _ (Op.load _ _) _ _ _ _)).run _ _ = _); first | exact h9.ldA | exact h9.laA) | focus (intro w9 hSw; go_simp; (try (with_reducible rfl)); done))); try simp only [Act.put, sxQ])
  refine wpAnyH_ready (rs := [2]) (by kernel_rfl) (by simp) ?_
  refine AllReadyH.cons2 (by simp only [sxN]; first | done | exact rfl) (fun K hK => ?_)
  refine stB hm ?_
  clear hm; intro w hz hm ho
  refine hK.out _ _ (MemS.of ((hm.wo 3).wo 2)) (fun hHeld => ?_)
  clear hK K
  try simp only [Act.put, sxQ]
  refine wpAnyH_ready (rs := [3]) (by kernel_rfl) (by simp) ?_
  refine AllReadyH.cons2 (by simp only [sxN]; first | done | exact rfl) (fun K hK => ?_)
  refine stB hm ?_
  clear hm; intro w hz hm ho
  refine hK.out _ _ (MemS.of ((hm.wo 3).wo 2)) (fun hHeld => ?_)
  clear hK K
  try simp only [Act.put, sxQ]
  iterate 1 (first | (refine takeN 4 hHeld ?_) | (refine takeY 4 ?_ hHeld ?_ ?_; rotate_left 1; (first | (intro w9 h9; (with_reducible show (execOp _ (Oper.mk _ (Op.load _ _) _ _ _ _)).run _ _ = _); first | exact h9.ldA) | focus (intro w9 hSw; go_simp; (try (with_reducible rfl)); done))); try simp only [Act.put, sxQ])
  refine wpAnyH_done (by kernel_rfl) ?_ _
  refine NoPanic.normal ?_
  go_wp2_with fail
  refine bodyPost_ret (results_row_row_tmp rfl _ _ _ 36 _ (0, 0) _ rfl (by exact hm.at_ 2 rfl) Tryz.underlying36 rfl (by kernel_rfl) _ 30 _ (0, 0) _ rfl (by exact hm.at_ 3 rfl) Tryz.underlying30 rfl (by kernel_rfl)) rfl ?_
  have ho9 := hm.own_ 0 rfl
  exact RRs.mk HH.out HU.out HL9.out (ho9.byt (Nat.le_refl _)) (own_new ho9) hm.low HE.out
set_option maxRecDepth 100000 in
theorem ref24_Level (w0 : World) (a : ChS) (s : Sec.S) : Calls Tryz.prog 26 #[.agg (rst a s)] w0 fun e w' => e = .returned (.int .i64 (if s.shut = true then 0 else s.lvl)) ∧ Below w0.heap.size w0 w' := by
  have hm := Mem.nil (fun _ => False) w0
  unfold rst cch
  cases s.shut with
  | false =>
    go_enter Tryz.func26, Tryz.ntmps26
    go_wp2_with (first | go_skip | ((with_reducible show wpList _ _ _ _ _ (World.alloc _ _)); refine wpList_up hm ?_; clear hm; intro n w hn hn2 hk hm hd hd2 ho; (try rw [← hn]); replace hn := Nat.le_of_eq hn.symm) | ((first | ((with_reducible show wpList _ _ _ (Oper.mk _ (Op.box _ _) _ _ _ _ :: _) _ _); (refine bxA hm ?_; clear hm; intro n w hn hz hm ho; (try simp only [List.cons_append, List.nil_append] at hm))) | ((with_reducible show wpList _ _ _ (Oper.mk _ (Op.load _ _) _ _ _ _ :: _) _ _); first | (refine ldA hm ?_) | (refine laA hm ?_)) | ((with_reducible show wpList _ _ _ (Oper.mk _ (Op.store _ _ _) _ _ _ _ :: _) _ _); (refine stA hm ?_; clear hm; intro w hz hm ho)) | ((with_reducible show wpList _ _ _ (Oper.mk _ (Op.alloc _) _ _ _ _ :: _) _ _); (refine alA hm ?_; clear hm; intro n w hn hz hm ho; (try simp only [List.cons_append, List.nil_append] at hm)))); try simp only [Act.put, sxQ]))
    go_ret
    exact ⟨rfl, hm.low⟩
  | true =>
    go_enter Tryz.func26, Tryz.ntmps26
    go_wp2_with (first | go_skip | ((with_reducible show wpList _ _ _ _ _ (World.alloc _ _)); refine wpList_up hm ?_; clear hm; intro n w hn hn2 hk hm hd hd2 ho; (try rw [← hn]); replace hn := Nat.le_of_eq hn.symm) | ((first | ((with_reducible show wpList _ _ _ (Oper.mk _ (Op.box _ _) _ _ _ _ :: _) _ _); (refine bxA hm ?_; clear hm; intro n w hn hz hm ho; (try simp only [List.cons_append, List.nil_append] at hm))) | ((with_reducible show wpList _ _ _ (Oper.mk _ (Op.load _ _) _ _ _ _ :: _) _ _); first | (refine ldA hm ?_) | (refine laA hm ?_)) | ((with_reducible show wpList _ _ _ (Oper.mk _ (Op.store _ _ _) _ _ _ _ :: _) _ _); (refine stA hm ?_; clear hm; intro w hz hm ho)) | ((with_reducible show wpList _ _ _ (Oper.mk _ (Op.alloc _) _ _ _ _ :: _) _ _); (refine alA hm ?_; clear hm; intro n w hn hz hm ho; (try simp only [List.cons_append, List.nil_append] at hm)))); try simp only [Act.put, sxQ]))
    go_ret
    exact ⟨rfl, hm.low⟩
set_option maxRecDepth 100000 in
theorem ref24_Data (w0 : World) (a : ChS) (s : Sec.S) (H : RSt w0 a s) : Calls Tryz.prog 29 #[.agg (rst a s)] w0 fun e w' => ∃ A n c, e = .returned (.slice A n c) ∧ Byt w' w'.heap.size A n c (if s.shut = true then [] else s.dat) ∧ n ≤ 16 ∧ Below w0.heap.size w0 w' := by
  have HH := Lib.hid H.dat
  clear H
  have hm := Mem.nil (fun _ => False) w0
  unfold rst cch
  cases s.shut with
  | false =>
    go_enter Tryz.func29, Tryz.ntmps29
    go_wp2_with (first | go_skip | ((with_reducible show wpList _ _ _ _ _ (World.alloc _ _)); refine wpList_up hm ?_; clear hm; intro n w hn hn2 hk hm hd hd2 ho; (try rw [← hn]); replace hn := Nat.le_of_eq hn.symm) | ((first | ((with_reducible show wpList _ _ _ (Oper.mk _ (Op.box _ _) _ _ _ _ :: _) _ _); (refine bxA hm ?_; clear hm; intro n w hn hz hm ho; (try simp only [List.cons_append, List.nil_append] at hm))) | ((with_reducible show wpList _ _ _ (Oper.mk _ (Op.load _ _) _ _ _ _ :: _) _ _); first | (refine ldA hm ?_) | (refine laA hm ?_)) | ((with_reducible show wpList _ _ _ (Oper.mk _ (Op.store _ _ _) _ _ _ _ :: _) _ _); (refine stA hm ?_; clear hm; intro w hz hm ho)) | ((with_reducible show wpList _ _ _ (Oper.mk _ (Op.alloc _) _ _ _ _ :: _) _ _); (refine alA hm ?_; clear hm; intro n w hn hz hm ho; (try simp only [List.cons_append, List.nil_append] at hm)))); try simp only [Act.put, sxQ]))
    go_ret
    exact ⟨_, _, _, rfl, HH.out.low hm, by omega, hm.low⟩
  | true =>
    go_enter Tryz.func29, Tryz.ntmps29
    go_wp2_with (first | go_skip | ((with_reducible show wpList _ _ _ _ _ (World.alloc _ _)); refine wpList_up hm ?_; clear hm; intro n w hn hn2 hk hm hd hd2 ho; (try rw [← hn]); replace hn := Nat.le_of_eq hn.symm) | ((first | ((with_reducible show wpList _ _ _ (Oper.mk _ (Op.box _ _) _ _ _ _ :: _) _ _); (refine bxA hm ?_; clear hm; intro n w hn hz hm ho; (try simp only [List.cons_append, List.nil_append] at hm))) | ((with_reducible show wpList _ _ _ (Oper.mk _ (Op.load _ _) _ _ _ _ :: _) _ _); first | (refine ldA hm ?_) | (refine laA hm ?_)) | ((with_reducible show wpList _ _ _ (Oper.mk _ (Op.store _ _ _) _ _ _ _ :: _) _ _); (refine stA hm ?_; clear hm; intro w hz hm ho)) | ((with_reducible show wpList _ _ _ (Oper.mk _ (Op.alloc _) _ _ _ _ :: _) _ _); (refine alA hm ?_; clear hm; intro n w hn hz hm ho; (try simp only [List.cons_append, List.nil_append] at hm)))); try simp only [Act.put, sxQ]))
    go_ret
    exact ⟨_, _, _, rfl, Byt.empty, by omega, hm.low⟩
set_option maxRecDepth 100000 in
theorem ref24_Seal (w0 : World) (a : ChS) (s : Sec.S) (H : RSt w0 a s) (hc : s.cnt < 200) (A : Option Addr) (dn c : Nat) (b : List UInt8) (h : Byt w0 w0.heap.size A dn c b) (hdn : dn ≤ 1000) (sw : Int)  :
    Calls Tryz.prog 22 #[.agg (rst a s), rspV A dn c sw] w0 (RRs w0 a A dn (Sec.sea s b sw) (Sec.sealE s b sw)) := by
  cases hs : s.shut with
  | true => exact rsea_shut w0 a s H hc A dn c b h hdn sw _ rfl hs
  | false =>
  cases hu : s.exp with
  | false => exact rsea_idle w0 a s H hc A dn c b h hdn sw hu hs
  | true =>
  by_cases hw : sw < 0 ∨ 65535 < sw
  · exact rsea_sw w0 a s H hc A dn c b h hdn sw hu hs hw
  have hw : 0 ≤ sw ∧ sw ≤ 65535 := by omega
  cases h1 : Sec.hb s.lvl 16 with
  | false => exact rsea_no w0 a s H hc A dn c b h hdn sw hu hs hw h1
  | true =>
  cases h2 : Sec.hb s.lvl 32 with
  | false => exact rsea_mac w0 a s H hc A dn c b h hdn sw hu hs hw h1 h2
  | true => exact rsea_enc w0 a s H hc A dn c b h hdn sw hu hs hw h1 h2
set_option maxRecDepth 100000 in
theorem ref24_Open (w0 : World) (a : ChS) (s : Sec.S) (H : RSt w0 a s) (hc : s.cnt < 200) (A : Option Addr) (dn c : Nat) (b : List UInt8) (h : Byt w0 w0.heap.size A dn c b) (hdn : dn ≤ 1000) (sw : Int)  :
    Calls Tryz.prog 25 #[.agg (rst a s), rspV A dn c sw] w0 (RRs w0 a A dn (Sec.opn s b sw) (Sec.openE s b sw)) := by
  cases hs : s.shut with
  | true => exact ropn_shut w0 a s H hc A dn c b h hdn sw _ rfl hs
  | false =>
  cases hu : s.exp with
  | false => exact ropn_idle w0 a s H hc A dn c b h hdn sw hu hs
  | true =>
  by_cases hw : sw < 0 ∨ 65535 < sw
  · exact ropn_sw w0 a s H hc A dn c b h hdn sw hu hs hw
  have hw : 0 ≤ sw ∧ sw ≤ 65535 := by omega
  cases h1 : Sec.hb s.lvl 16 with
  | false => exact ropn_no w0 a s H hc A dn c b h hdn sw hu hs hw h1
  | true =>
  by_cases h8 : dn < 8
  · exact ropn_short w0 a s H hc A dn c b h hdn sw hu hs hw h1 h8
  have h8 : 8 ≤ dn := by omega
  by_cases hq : b.drop (dn - 8) = Sec.rmc s (b.take (dn - 8)) sw
  rotate_left 1
  · exact ropn_wrong w0 a s H hc A dn c b h hdn sw hu hs hw h1 h8 hq
  cases h2 : Sec.hb s.lvl 32 with
  | false => exact ropn_mac w0 a s H hc A dn c b h hdn sw hu hs hw h1 h8 hq h2
  | true =>
  cases hd : Sec.show? s true (b.take (dn - 8)) with
  | none => exact ropn_bad w0 a s H hc A dn c b h hdn sw hu hs hw h1 h8 hq h2 hd
  | some dd => exact ropn_enc w0 a s H hc A dn c b h hdn sw hu hs hw h1 h8 dd hq h2 hd
end Go.Proofs.YtibaibdgpnkdnaaGreatDoor
