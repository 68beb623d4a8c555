/-
  The walk of Open.
-/
import Derived.Test.YtibaibdgpnkdnaaGreatDoorZ1
import Derived.Test.YtibaibdgpnkdnaaGreatDoorSecB
namespace Go.Proofs.YtibaibdgpnkdnaaGreatDoor
set_option maxRecDepth 100000
set_option linter.unusedSimpArgs false
set_option linter.unusedVariables false
open Go.RowKit
set_option maxHeartbeats 8000000
theorem ch_examine (w0 : World) (g : Nat) (F : Nat → Prop) (s : Sec.S) (H : ChAt' w0 g F s) (hcnt : s.cnt ≤ 1000000) (A : Option Addr) (dn c : Nat) (b : List UInt8) (h : Byt w0 w0.heap.size A dn c b) (hdn : dn ≤ 70000) (sw : Int) (hs : s.shut = false) (he : s.exp = true) :
    Calls Tryz.prog 55 #[.pointer (some ⟨g, 0, none⟩), rspV A dn c sw] w0 (ExRes w0 s b sw) := by
  by_cases hsw : sw < 0 ∨ 65535 < sw
  · exact ex_arg w0 g F s H hcnt A dn c b h hdn sw hs he hsw
  have hsw : 0 ≤ sw ∧ sw ≤ 65535 := by omega
  cases h16 : Sec.hb s.lvl 16 with
  | false => exact ex_no w0 g F s H hcnt A dn c b h hdn sw hs he hsw h16
  | true =>
  by_cases h8 : dn < 8
  · exact ex_short w0 g F s H hcnt A dn c b h hdn sw hs he hsw h16 h8
  have h8 : 8 ≤ dn := by omega
  by_cases hq : b.drop (dn - 8) = Sec.rmc s (b.take (dn - 8)) sw
  rotate_left 1
  · exact ex_wrong w0 g F s H hcnt A dn c b h hdn sw hs he hsw h16 h8 hq
  cases h32 : Sec.hb s.lvl 32 with
  | false => exact ex_mac w0 g F s H hcnt A dn c b h hdn sw hs he hsw h16 h8 hq h32
  | true =>
  cases hsw2 : Sec.show? s true (b.take (dn - 8)) with
  | none => exact ex_bad w0 g F s H hcnt A dn c b h hdn sw hs he hsw h16 h8 hq h32 hsw2
  | some d => exact ex_enc w0 g F s H hcnt A dn c b h hdn sw hs he hsw h16 h8 hq h32 d hsw2
/-- What Open leaves. -/
def OpRes (w : World) (g : Nat) (F : Nat → Prop) (s : Sec.S) (d : List UInt8) (sw : Int) (e : Ending) (w' : World) : Prop :=
  ∃ A c, e = .returned (.tuple #[rspV A (Sec.opn s d sw).2.1.length c (Sec.opn s d sw).2.2, .int .i64 (Sec.openE s d sw)]) ∧
    Own w' w.heap.size 5 1 A (Sec.opn s d sw).2.1.length c (bcells (Sec.opn s d sw).2.1) ∧ ChAt' w' g F (Sec.opn s d sw).1 ∧ Only F w w'
theorem OpRes.closed {w w' : World} {g : Nat} {F : Nat → Prop} {s : Sec.S} {d : List UInt8} {sw : Int} (H : ChAt' w g F s) (h0 : s.shut = true ∨ s.exp = false) (hb : Below w.heap.size w w') : OpRes w g F s d sw (.returned (.tuple #[rspV none 0 0 0, .int .i64 14])) w' := by
  have e : Sec.opn s d sw = (s, [], 0) := by unfold Sec.opn; rw [if_pos h0]
  have e2 : Sec.openE s d sw = 14 := by unfold Sec.openE; rw [if_pos h0]
  unfold OpRes
  rw [e, e2]
  exact ⟨none, 0, rfl, Own.none_ _ _ _ _ _, H.away (R := fun _ => False) (Only.of_below hb) (fun _ _ e => e), Only.of_below hb⟩
theorem OpRes.bad {w w' : World} {g : Nat} {F : Nat → Prop} {s : Sec.S} {d : List UInt8} {sw k : Int} (h0 : ¬ (s.shut = true ∨ s.exp = false)) (hk : Sec.openE s d sw = k) (hk0 : k ≠ 0) (H : ChAt' w' g F { s with shut := true }) (ho : Only F w w') : OpRes w g F s d sw (.returned (.tuple #[rspV none 0 0 0, .int .i64 k])) w' := by
  have e : Sec.opn s d sw = ({ s with shut := true }, [], 0) := by unfold Sec.opn; rw [if_neg h0, if_pos (by rw [hk]; exact hk0)]
  unfold OpRes
  rw [e, hk]
  exact ⟨none, 0, rfl, Own.none_ _ _ _ _ _, H, ho⟩
theorem OpRes.good {w w' : World} {g : Nat} {F : Nat → Prop} {s : Sec.S} {d D : List UInt8} {sw : Int} (h0 : ¬ (s.shut = true ∨ s.exp = false)) (hk : Sec.openE s d sw = 0) (hD : Sec.openD s d = D) {A : Option Addr} {m c : Nat} (hm : D.length = m) (hown : Own w' w.heap.size 5 1 A m c (bcells D)) (H : ChAt' w' g F { s with exp := false }) (ho : Only F w w') : OpRes w g F s d sw (.returned (.tuple #[rspV A m c sw, .int .i64 0])) w' := by
  subst hD; subst hm
  have e : Sec.opn s d sw = ({ s with exp := false }, Sec.openD s d, sw) := by unfold Sec.opn; rw [if_neg h0, if_neg (fun e => e hk)]
  unfold OpRes
  rw [e, hk]
  exact ⟨A, c, rfl, hown, H, ho⟩
set_option maxRecDepth 100000 in
theorem open_shut (w0 : World) (g : Nat) (F : Nat → Prop) (s : Sec.S) (H : ChAt' w0 g F s) (hg : HasEt w0) (h0 : ¬ F 0) (hcnt : s.cnt ≤ 1000000) (A : Option Addr) (dn c : Nat) (b : List UInt8) (h : Byt w0 w0.heap.size A dn c b) (hdn : dn ≤ 70000) (sw : Int) (hs : s.shut = true) :
    Calls Tryz.prog 24 #[.pointer (some ⟨g, 0, none⟩), rspV A dn c sw] w0 (OpRes w0 g F s b sw) := by
  have HS := Lib.hid hs
  have HH := Lib.hid H
  have HG := Lib.hid hg
  obtain ⟨a, H⟩ := H
  have HA := Lib.hid H
  obtain ⟨AC, hC⟩ := H.chainAt
  have hg0 : g ≠ 0 := fun e => h0 (e ▸ H.fg)
  have hm := H.mem
  have hK := H.blk
  rw [hs] at hm hK
  have HK := Lib.hid hK
  have HG0 := Lib.hid hg0
  clear H hs hK hg h0 h hg0 hcnt
  obtain ⟨E, ce, M, cm, R, cr, D, cd, C, cc⟩ := a
  have hC : C = some AC := hC
  subst hC
  simp only [cch] at hm HK
  unfold rspV
  go_enter Tryz.func24, Tryz.ntmps24
  go_wp2_with (first | go_skip | ((with_reducible show wpList _ _ _ _ _ (World.alloc _ _)); refine wpList_up hm ?_; clear hm; intro n w hn hn2 hk hm hd hd2 ho; (try rw [← hn]); replace hn := Nat.le_of_eq hn.symm) | ((first | ((with_reducible show wpList _ _ _ (Oper.mk _ (Op.box _ _) _ _ _ _ :: _) _ _); (refine bxA hm ?_; clear hm; intro n w hn hz hm ho; (try simp only [List.cons_append, List.nil_append] at hm))) | ((with_reducible show wpList _ _ _ (Oper.mk _ (Op.load _ _) _ _ _ _ :: _) _ _); first | (refine ldA hm ?_) | (refine laA hm ?_)) | ((with_reducible show wpList _ _ _ (Oper.mk _ (Op.store _ _ _) _ _ _ _ :: _) _ _); (refine stA hm ?_; clear hm; intro w hz hm ho)) | ((with_reducible show wpList _ _ _ (Oper.mk _ (Op.alloc _) _ _ _ _ :: _) _ _); (refine alA hm ?_; clear hm; intro n w hn hz hm ho; (try simp only [List.cons_append, List.nil_append] at hm)))); try simp only [Act.put, sxQ]) | (go_at_call 30; refine (ch_made (by exact hm.at_ 0 rfl)).mono ?_; rintro e w2 ⟨rfl, rfl⟩))
  refine bodyPost_ret (results_row_tmp rfl _ _ _ 30 _ (0, 0) _ rfl (by exact hm.at_ 2 rfl) Tryz.underlying30 rfl (by kernel_rfl)) rfl ?_
  exact OpRes.closed HH.out (.inl HS.out) (hm.still 0 rfl HK.out)
set_option maxRecDepth 100000 in
theorem open_noexp (w0 : World) (g : Nat) (F : Nat → Prop) (s : Sec.S) (H : ChAt' w0 g F s) (hg : HasEt w0) (h0 : ¬ F 0) (hcnt : s.cnt ≤ 1000000) (A : Option Addr) (dn c : Nat) (b : List UInt8) (h : Byt w0 w0.heap.size A dn c b) (hdn : dn ≤ 70000) (sw : Int) (hs : s.shut = false) (he : s.exp = false) :
    Calls Tryz.prog 24 #[.pointer (some ⟨g, 0, none⟩), rspV A dn c sw] w0 (OpRes w0 g F s b sw) := by
  have HS := Lib.hid he
  have HH := Lib.hid H
  have HG := Lib.hid hg
  obtain ⟨a, H⟩ := H
  have HA := Lib.hid H
  obtain ⟨AC, hC⟩ := H.chainAt
  have hg0 : g ≠ 0 := fun e => h0 (e ▸ H.fg)
  have hm := H.mem
  have hK := H.blk
  rw [hs, he] at hm hK
  have HK := Lib.hid hK
  have HG0 := Lib.hid hg0
  clear H hs he hK hg h0 h hg0 hcnt
  obtain ⟨E, ce, M, cm, R, cr, D, cd, C, cc⟩ := a
  have hC : C = some AC := hC
  subst hC
  simp only [cch] at hm HK
  unfold rspV
  go_enter Tryz.func24, Tryz.ntmps24
  go_wp2_with (first | go_skip | ((with_reducible show wpList _ _ _ _ _ (World.alloc _ _)); refine wpList_up hm ?_; clear hm; intro n w hn hn2 hk hm hd hd2 ho; (try rw [← hn]); replace hn := Nat.le_of_eq hn.symm) | ((first | ((with_reducible show wpList _ _ _ (Oper.mk _ (Op.box _ _) _ _ _ _ :: _) _ _); (refine bxA hm ?_; clear hm; intro n w hn hz hm ho; (try simp only [List.cons_append, List.nil_append] at hm))) | ((with_reducible show wpList _ _ _ (Oper.mk _ (Op.load _ _) _ _ _ _ :: _) _ _); first | (refine ldA hm ?_) | (refine laA hm ?_)) | ((with_reducible show wpList _ _ _ (Oper.mk _ (Op.store _ _ _) _ _ _ _ :: _) _ _); (refine stA hm ?_; clear hm; intro w hz hm ho)) | ((with_reducible show wpList _ _ _ (Oper.mk _ (Op.alloc _) _ _ _ _ :: _) _ _); (refine alA hm ?_; clear hm; intro n w hn hz hm ho; (try simp only [List.cons_append, List.nil_append] at hm)))); try simp only [Act.put, sxQ]) | (go_at_call 30; refine (ch_made (by exact hm.at_ 0 rfl)).mono ?_; rintro e w2 ⟨rfl, rfl⟩))
  refine bodyPost_ret (results_row_tmp rfl _ _ _ 30 _ (0, 0) _ rfl (by exact hm.at_ 2 rfl) Tryz.underlying30 rfl (by kernel_rfl)) rfl ?_
  exact OpRes.closed HH.out (.inr HS.out) (hm.still 0 rfl HK.out)
set_option maxRecDepth 100000 in
theorem open_go (w0 : World) (g : Nat) (F : Nat → Prop) (s : Sec.S) (H : ChAt' w0 g F s) (hg : HasEt w0) (h0 : ¬ F 0) (hcnt : s.cnt ≤ 1000000) (A : Option Addr) (dn c : Nat) (b : List UInt8) (h : Byt w0 w0.heap.size A dn c b) (hdn : dn ≤ 70000) (sw : Int) (hs : s.shut = false) (he : s.exp = true) :
    Calls Tryz.prog 24 #[.pointer (some ⟨g, 0, none⟩), rspV A dn c sw] w0 (OpRes w0 g F s b sw) := by
  have HN := Lib.hid (show ¬ (s.shut = true ∨ s.exp = false) by rw [hs, he]; rintro (e | e) <;> cases e)
  have HS := Lib.hid hs
  have HH := Lib.hid H
  have HG := Lib.hid hg
  obtain ⟨a, H⟩ := H
  have HA := Lib.hid H
  obtain ⟨AC, hC⟩ := H.chainAt
  have hg0 : g ≠ 0 := fun e => h0 (e ▸ H.fg)
  have hex := fun u (hu : Below w0.heap.size w0 u) => ch_examine u g F s ⟨a, H.away (R := fun _ => False) (Only.of_below hu) (fun _ _ e => e)⟩ hcnt A dn c b ((h.below hu).more hu.size) hdn sw hs he
  have HEX := Lib.hid hex
  clear hex
  have hm := H.mem
  have hK := H.blk
  rw [hs, he] at hm hK
  have HK := Lib.hid hK
  have HG0 := Lib.hid hg0
  clear H hs he hK hg h0 h hg0 hcnt
  obtain ⟨E, ce, M, cm, R, cr, D, cd, C, cc⟩ := a
  have hC : C = some AC := hC
  subst hC
  simp only [cch] at hm HK
  unfold rspV
  unfold rspV at HEX
  go_enter Tryz.func24, Tryz.ntmps24
  go_wp2_with (first | go_skip | ((with_reducible show wpList _ _ _ _ _ (World.alloc _ _)); refine wpList_up hm ?_; clear hm; intro n w hn hn2 hk hm hd hd2 ho; (try rw [← hn]); replace hn := Nat.le_of_eq hn.symm) | ((first | ((with_reducible show wpList _ _ _ (Oper.mk _ (Op.box _ _) _ _ _ _ :: _) _ _); (refine bxA hm ?_; clear hm; intro n w hn hz hm ho; (try simp only [List.cons_append, List.nil_append] at hm))) | ((with_reducible show wpList _ _ _ (Oper.mk _ (Op.load _ _) _ _ _ _ :: _) _ _); first | (refine ldA hm ?_) | (refine laA hm ?_)) | ((with_reducible show wpList _ _ _ (Oper.mk _ (Op.store _ _ _) _ _ _ _ :: _) _ _); (refine stA hm ?_; clear hm; intro w hz hm ho)) | ((with_reducible show wpList _ _ _ (Oper.mk _ (Op.alloc _) _ _ _ _ :: _) _ _); (refine alA hm ?_; clear hm; intro n w hn hz hm ho; (try simp only [List.cons_append, List.nil_append] at hm)))); try simp only [Act.put, sxQ]) | (go_at_call 30; refine (ch_made (by exact hm.at_ 0 rfl)).mono ?_; rintro e w2 ⟨rfl, rfl⟩))
  go_at_call 55
  refine (HEX.out _ (hm.still 0 rfl HK.out)).mono ?_
  rintro e w2 ⟨hbl, ⟨hne, z, rfl⟩ | ⟨hk0, A5, c5, rfl, hown⟩⟩
  · replace hm := hm.below hbl
    generalize hE : Sec.openE s b sw = er at *
    have HE := Lib.hid hE
    have HNE := Lib.hid hne
    clear hE hne
    unfold rspV
    go_wp2_with (first | go_skip | ((with_reducible show wpList _ _ _ _ _ (World.alloc _ _)); refine wpList_up hm ?_; clear hm; intro n w hn hn2 hk hm hd hd2 ho; (try rw [← hn]); replace hn := Nat.le_of_eq hn.symm) | ((first | ((with_reducible show wpList _ _ _ (Oper.mk _ (Op.box _ _) _ _ _ _ :: _) _ _); (refine bxA hm ?_; clear hm; intro n w hn hz hm ho; (try simp only [List.cons_append, List.nil_append] at hm))) | ((with_reducible show wpList _ _ _ (Oper.mk _ (Op.load _ _) _ _ _ _ :: _) _ _); first | (refine ldA hm ?_) | (refine laA hm ?_)) | ((with_reducible show wpList _ _ _ (Oper.mk _ (Op.store _ _ _) _ _ _ _ :: _) _ _); (refine stA hm ?_; clear hm; intro w hz hm ho)) | ((with_reducible show wpList _ _ _ (Oper.mk _ (Op.alloc _) _ _ _ _ :: _) _ _); (refine alA hm ?_; clear hm; intro n w hn hz hm ho; (try simp only [List.cons_append, List.nil_append] at hm)))); try simp only [Act.put, sxQ]) | (go_at_call 41; refine (secure_code er _ (HG.out.only hm.only (fun e => HG0.out e.symm))).mono ?_; rintro e w2 ⟨rfl, hbl⟩; replace hm := hm.below hbl))
    refine bodyPost_ret (results_row_tmp rfl _ _ _ 30 _ (0, 0) _ rfl (by exact hm.at_ 2 rfl) Tryz.underlying30 rfl (by kernel_rfl)) rfl ?_
    have hfl := HA.out.flags hm.only (cnt := s.cnt) (exp := true) (shut := true) (by exact hm.at_ 0 rfl)
    have he2 : ({ s with cnt := s.cnt, exp := true, shut := true } : Sec.S) = { s with shut := true } := by
      have hn := HN.out
      obtain ⟨_, _, _, _, _, _, _, ex, _⟩ := s
      cases ex with
      | true => rfl
      | false => exact absurd (.inr rfl) hn
    rw [he2] at hfl
    exact OpRes.bad HN.out HE.out HNE.out ⟨_, hfl⟩ (hm.only.mono fun q _ e => by rw [e]; exact HA.out.fg)
  · replace hm := hm.got hbl hown
    have HE := Lib.hid hk0
    clear hown hk0
    simp only [List.nil_append, List.cons_append] at hm
    generalize hD : Sec.openD s b = D5 at *
    have HD := Lib.hid hD
    clear hD
    generalize hn5 : D5.length = n5 at *
    have HN5 := Lib.hid hn5
    clear hn5
    unfold rspV
    go_wp2_with (first | go_skip | ((with_reducible show wpList _ _ _ _ _ (World.alloc _ _)); refine wpList_up hm ?_; clear hm; intro n w hn hn2 hk hm hd hd2 ho; (try rw [← hn]); replace hn := Nat.le_of_eq hn.symm) | ((first | ((with_reducible show wpList _ _ _ (Oper.mk _ (Op.box _ _) _ _ _ _ :: _) _ _); (refine bxA hm ?_; clear hm; intro n w hn hz hm ho; (try simp only [List.cons_append, List.nil_append] at hm))) | ((with_reducible show wpList _ _ _ (Oper.mk _ (Op.load _ _) _ _ _ _ :: _) _ _); first | (refine ldA hm ?_) | (refine laA hm ?_)) | ((with_reducible show wpList _ _ _ (Oper.mk _ (Op.store _ _ _) _ _ _ _ :: _) _ _); (refine stA hm ?_; clear hm; intro w hz hm ho)) | ((with_reducible show wpList _ _ _ (Oper.mk _ (Op.alloc _) _ _ _ _ :: _) _ _); (refine alA hm ?_; clear hm; intro n w hn hz hm ho; (try simp only [List.cons_append, List.nil_append] at hm)))); try simp only [Act.put, sxQ]))
    refine bodyPost_ret (results_row_tmp rfl _ _ _ 30 _ (0, 0) _ rfl (by exact hm.at_ 2 rfl) Tryz.underlying30 rfl (by kernel_rfl)) rfl ?_
    have hfl := HA.out.flags hm.only (cnt := s.cnt) (exp := false) (shut := false) (by exact hm.at_ 0 rfl)
    rw [S_eq3 HS.out] at hfl
    exact OpRes.good HN.out HE.out HD.out HN5.out (hm.freshG 0 0 rfl rfl) ⟨_, hfl⟩ (hm.only.mono fun q _ e => by rw [e]; exact HA.out.fg)
set_option maxRecDepth 100000 in
theorem ch_open (w0 : World) (g : Nat) (F : Nat → Prop) (s : Sec.S) (H : ChAt' w0 g F s) (hg : HasEt w0) (h0 : ¬ F 0) (hcnt : s.cnt ≤ 1000000) (A : Option Addr) (dn c : Nat) (b : List UInt8) (h : Byt w0 w0.heap.size A dn c b) (hdn : dn ≤ 70000) (sw : Int)  :
    Calls Tryz.prog 24 #[.pointer (some ⟨g, 0, none⟩), rspV A dn c sw] w0 (OpRes w0 g F s b sw) := by
  cases hs : s.shut with
  | true => exact open_shut w0 g F s H hg h0 hcnt A dn c b h hdn sw hs
  | false =>
  cases he : s.exp with
  | false => exact open_noexp w0 g F s H hg h0 hcnt A dn c b h hdn sw hs he
  | true => exact open_go w0 g F s H hg h0 hcnt A dn c b h hdn sw hs he
end Go.Proofs.YtibaibdgpnkdnaaGreatDoor
