/-
  The walk of Unwrap.
-/
import Derived.Test.YtibaibdgpnkdnaaGreatDoorZ1
import Derived.Test.YtibaibdgpnkdnaaGreatDoorSecV
namespace Go.Proofs.YtibaibdgpnkdnaaGreatDoor
set_option maxRecDepth 100000
set_option linter.unusedSimpArgs false
set_option linter.unusedVariables false
open Go.RowKit
set_option maxHeartbeats 8000000

/-- Known memory, from here on. -/
theorem Mem.base {R : Nat → Prop} {s w : World} {L : List Ent} {O : List Osl} (h : Mem R s w L O) : Mem (fun q => ∃ e ∈ L, e.g = q) w w L [] :=
  ⟨Only.refl _ _, h.blk, fun e he => .inl ⟨e, he, rfl⟩, h.diff, fun x hx => (by cases hx), fun x hx => (by cases hx), fun x hx => (by cases hx), List.Pairwise.nil⟩
/-- Behind a call of the object and steps among the variables. -/
theorem good_end {w0 w w2 w' : World} {g : Nat} {F F' : Nat → Prop} {s' : Sec.S} {L : List Ent} {t tb : TypeId} {cs0 : Array Value} {A : Option Addr} {n c : Nat} {cs : List Value} (hmc : Mem (fun q => q = g) w0 w (⟨g, t, cs0⟩ :: L) []) (hb1 : Below w0.heap.size w0 w) (hon : Only (fun q => q = g) w w2)
    (ho2 : Only (fun q => ∃ e ∈ L, e.g = q) w2 w') (fg : F g) (hlt : ∀ q, F q → q < w0.heap.size) (hF : ∀ q, F' q → F q ∨ w.heap.size ≤ q) (hch : ChAt' w2 g F' s') (hown : Own w2 w.heap.size tb 1 A n c cs) :
    ChAt' w' g F' s' ∧ Own w' w0.heap.size tb 1 A n c cs ∧ Only F w0 w' ∧ ∀ q, F' q → F q ∨ w0.heap.size ≤ q := by
  have hL : ∀ e ∈ L, w0.heap.size ≤ e.g ∧ e.g < w.heap.size := fun e he => by
    have hm2 : e ∈ (⟨g, t, cs0⟩ : Ent) :: L := List.mem_cons_of_mem _ he
    refine ⟨?_, hmc.lt hm2⟩
    rcases hmc.own e hm2 with h1 | h1
    · have hd := hmc.diff
      rw [List.map_cons, List.nodup_cons] at hd
      exact absurd (List.mem_map.2 ⟨e, he, h1⟩) hd.1
    · exact h1
  have hz := hb1.size
  refine ⟨hch.away ho2 ?_, (hown.mono hz).only' ho2 ?_, ?_, ?_⟩
  · rintro q hq ⟨e, he, rfl⟩
    have := hL e he
    rcases hF _ hq with h1 | h1
    · have := hlt _ h1; omega
    · omega
  · rintro q hq ⟨e, he, rfl⟩
    have := hL e he
    have := (hown.lt _ hq).1
    omega
  · refine ((Only.of_below (R := F) hb1).more hon (fun q _ e => .inl (by rw [e]; exact fg))).more ho2 ?_
    rintro q _ ⟨e, he, rfl⟩
    exact .inr (hL e he).1
  · intro q hq
    rcases hF _ hq with h1 | h1
    · exact .inl h1
    · exact .inr (Nat.le_trans hz h1)
theorem HasEt.only {w w' : World} {R : Nat → Prop} (h : HasEt w) (ho : Only R w w') (h0 : ¬ R 0) : HasEt w' := by
  have hp := h.pos
  unfold HasEt at h ⊢
  rw [World.cell?_of_block (ho.block 0 hp h0)]
  exact h
/-- What Unwrap leaves. -/
def UnRes (w : World) (g : Nat) (F : Nat → Prop) (s : Sec.S) (x : Apd.Cmd) (e : Ending) (w' : World) : Prop :=
  ∃ A c F', e = .returned (.tuple #[cmdV (Sec.unwrap s x).2.cla (Sec.unwrap s x).2.ins (Sec.unwrap s x).2.p1 (Sec.unwrap s x).2.p2 A (Sec.unwrap s x).2.d.length c (Sec.unwrap s x).2.le (Sec.unwrap s x).2.long, .int .i64 (Sec.unwrapE s x)]) ∧
    Own w' w.heap.size 5 1 A (Sec.unwrap s x).2.d.length c (bcells (Sec.unwrap s x).2.d) ∧ ChAt' w' g F' (Sec.unwrap s x).1 ∧ Only F w w' ∧ (∀ q, F' q → F q ∨ w.heap.size ≤ q) ∧ ∀ q, F' q → ownAt A c ≠ some q
theorem UnRes.bad {w w' : World} {g : Nat} {F : Nat → Prop} {s : Sec.S} {x : Apd.Cmd} {k : Int} (hs : s.shut = false) (hk : Sec.unwrapE s x = k) (h0 : k ≠ 0) (H : ChAt' w' g F { s with shut := true }) (ho : Only F w w') : UnRes w g F s x (.returned (.tuple #[cmdV 0 0 0 0 none 0 0 0 false, .int .i64 k])) w' := by
  have e : Sec.unwrap s x = ({ s with shut := true }, Sec.cz) := by unfold Sec.unwrap; rw [if_neg (by rw [hs]; decide), if_pos (by rw [hk]; exact h0)]
  unfold UnRes
  rw [e, hk]
  exact ⟨none, 0, F, rfl, Own.none_ _ _ _ _ _, H, ho, fun q hq => .inl hq, fun q _ e => (by cases e)⟩
theorem UnRes.closed {w w' : World} {g : Nat} {F : Nat → Prop} {s : Sec.S} {x : Apd.Cmd} (hs : s.shut = true) (H : ChAt' w g F s) (hb : Below w.heap.size w w') : UnRes w g F s x (.returned (.tuple #[cmdV 0 0 0 0 none 0 0 0 false, .int .i64 14])) w' := by
  have e : Sec.unwrap s x = (s, Sec.cz) := by unfold Sec.unwrap; rw [if_pos hs]
  have e2 : Sec.unwrapE s x = 14 := by unfold Sec.unwrapE; rw [if_pos hs]
  unfold UnRes
  rw [e, e2]
  exact ⟨none, 0, F, rfl, Own.none_ _ _ _ _ _, H.away (R := fun _ => False) (Only.of_below hb) (fun _ _ e => e), Only.of_below hb, fun q hq => .inl hq, fun q _ e => (by cases e)⟩
set_option maxRecDepth 100000 in
theorem ch_unwrap (w0 : World) (g : Nat) (F : Nat → Prop) (s : Sec.S) (H : ChAt' w0 g F s) (hg : HasEt w0) (h0 : ¬ F 0) (hcnt : s.cnt < 1000000) (cla ins p1 p2 : Int) (A : Option Addr) (dn c : Nat) (b : List UInt8) (h : Byt w0 w0.heap.size A dn c b) (hfar : ∀ a, A = some a → 0 < dn → ¬ F a.block) (hdn : dn ≤ 70000) (le : Int) (long : Bool) :
    Calls Tryz.prog 15 #[.pointer (some ⟨g, 0, none⟩), cmdV cla ins p1 p2 A dn c le long] w0 (UnRes w0 g F s ⟨cla, ins, p1, p2, b, le, long⟩) := by
  have HH := Lib.hid H
  have HG := Lib.hid hg
  obtain ⟨a, H⟩ := H
  have HA := Lib.hid H
  obtain ⟨AC, hC⟩ := H.chainAt
  have hg0 : g ≠ 0 := fun e => h0 (e ▸ H.fg)
  cases hs : s.shut with
  | true =>
    have hm := H.mem
    have hK := H.blk
    rw [hs] at hm hK
    have HK := Lib.hid hK
    have HS := Lib.hid hs
    clear H hs hK hg h0 h hfar hg0 hcnt
    obtain ⟨E, ce, M, cm, R, cr, D, cd, C, cc⟩ := a
    have hC : C = some AC := hC
    subst hC
    simp only [cch] at hm HK
    unfold cmdV
    go_enter Tryz.func15, Tryz.ntmps15
    go_wp2_with (first | go_skip | ((with_reducible show wpList _ _ _ _ _ (World.alloc _ _)); refine wpList_up hm ?_; clear hm; intro n w hn hn2 hk hm hd hd2 ho; (try rw [← hn]); replace hn := Nat.le_of_eq hn.symm) | ((first | ((with_reducible show wpList _ _ _ (Oper.mk _ (Op.box _ _) _ _ _ _ :: _) _ _); (refine bxA hm ?_; clear hm; intro n w hn hz hm ho; (try simp only [List.cons_append, List.nil_append] at hm))) | ((with_reducible show wpList _ _ _ (Oper.mk _ (Op.load _ _) _ _ _ _ :: _) _ _); first | (refine ldA hm ?_) | (refine laA hm ?_)) | ((with_reducible show wpList _ _ _ (Oper.mk _ (Op.store _ _ _) _ _ _ _ :: _) _ _); (refine stA hm ?_; clear hm; intro w hz hm ho)) | ((with_reducible show wpList _ _ _ (Oper.mk _ (Op.alloc _) _ _ _ _ :: _) _ _); (refine alA hm ?_; clear hm; intro n w hn hz hm ho; (try simp only [List.cons_append, List.nil_append] at hm)))); try simp only [Act.put, sxQ]) | (go_at_call 30; refine (ch_made (by exact hm.at_ 0 rfl)).mono ?_; rintro e w2 ⟨rfl, rfl⟩))
    refine bodyPost_ret (results_row_tmp rfl _ _ _ 28 _ (0, 0) _ rfl (by exact hm.at_ 2 rfl) Tryz.underlying28 rfl (by kernel_rfl)) rfl ?_
    exact UnRes.closed HS.out HH.out (hm.still 0 rfl HK.out)
  | false =>
    have hac := fun u (hu : Below w0.heap.size w0 u) => ch_accept u g F s a (H.away (R := fun _ => False) (Only.of_below hu) (fun _ _ e => e)) hcnt cla ins p1 p2 A dn c b ((h.below hu).more hu.size) hfar hdn le long hs
    have HAC := Lib.hid hac
    have hm := H.mem
    have hK := H.blk
    rw [hs] at hm hK
    have HK := Lib.hid hK
    have HS := Lib.hid hs
    have HFG := Lib.hid H.fg
    have HLT := Lib.hid H.lt
    have HG0 := Lib.hid hg0
    clear H hs hK hg h0 h hfar hac hg0 hcnt
    obtain ⟨E, ce, M, cm, R, cr, D, cd, C, cc⟩ := a
    have hC : C = some AC := hC
    subst hC
    simp only [cch] at hm HK
    unfold cmdV at HAC ⊢
    go_enter Tryz.func15, Tryz.ntmps15
    go_wp2_with (first | go_skip | ((with_reducible show wpList _ _ _ _ _ (World.alloc _ _)); refine wpList_up hm ?_; clear hm; intro n w hn hn2 hk hm hd hd2 ho; (try rw [← hn]); replace hn := Nat.le_of_eq hn.symm) | ((first | ((with_reducible show wpList _ _ _ (Oper.mk _ (Op.box _ _) _ _ _ _ :: _) _ _); (refine bxA hm ?_; clear hm; intro n w hn hz hm ho; (try simp only [List.cons_append, List.nil_append] at hm))) | ((with_reducible show wpList _ _ _ (Oper.mk _ (Op.load _ _) _ _ _ _ :: _) _ _); first | (refine ldA hm ?_) | (refine laA hm ?_)) | ((with_reducible show wpList _ _ _ (Oper.mk _ (Op.store _ _ _) _ _ _ _ :: _) _ _); (refine stA hm ?_; clear hm; intro w hz hm ho)) | ((with_reducible show wpList _ _ _ (Oper.mk _ (Op.alloc _) _ _ _ _ :: _) _ _); (refine alA hm ?_; clear hm; intro n w hn hz hm ho; (try simp only [List.cons_append, List.nil_append] at hm)))); try simp only [Act.put, sxQ]) | (go_at_call 30; refine (ch_made (by exact hm.at_ 0 rfl)).mono ?_; rintro e w2 ⟨rfl, rfl⟩))
    have HST := Lib.hid (hm.still 0 rfl HK.out)
    go_at_call 40
    refine (HAC.out _ HST.out).mono ?_
    rintro e w2 (⟨hne, rfl, hon, k, H2⟩ | ⟨he0, A5, c5, F5, rfl, hown, hch, hon, hF, hd⟩)
    · have hK2 := H2.blk
      dsimp only [cch] at hK2
      rw [HS.out] at hK2
      replace hm := hm.put 0 rfl hon hK2
      simp only [List.set_cons_zero] at hm
      clear H2 hK2 hon
      generalize hE : Sec.unwrapE s ⟨cla, ins, p1, p2, b, le, long⟩ = er at *
      have HE := Lib.hid hE
      have HNE := Lib.hid hne
      clear hE hne
      unfold cmdV
      go_wp2_with (first | go_skip | ((with_reducible show wpList _ _ _ _ _ (World.alloc _ _)); refine wpList_up hm ?_; clear hm; intro n w hn hn2 hk hm hd hd2 ho; (try rw [← hn]); replace hn := Nat.le_of_eq hn.symm) | ((first | ((with_reducible show wpList _ _ _ (Oper.mk _ (Op.box _ _) _ _ _ _ :: _) _ _); (refine bxA hm ?_; clear hm; intro n w hn hz hm ho; (try simp only [List.cons_append, List.nil_append] at hm))) | ((with_reducible show wpList _ _ _ (Oper.mk _ (Op.load _ _) _ _ _ _ :: _) _ _); first | (refine ldA hm ?_) | (refine laA hm ?_)) | ((with_reducible show wpList _ _ _ (Oper.mk _ (Op.store _ _ _) _ _ _ _ :: _) _ _); (refine stA hm ?_; clear hm; intro w hz hm ho)) | ((with_reducible show wpList _ _ _ (Oper.mk _ (Op.alloc _) _ _ _ _ :: _) _ _); (refine alA hm ?_; clear hm; intro n w hn hz hm ho; (try simp only [List.cons_append, List.nil_append] at hm)))); try simp only [Act.put, sxQ]) | (go_at_call 41; refine (secure_code er _ (HG.out.only hm.only (fun e => HG0.out e.symm))).mono ?_; rintro e w2 ⟨rfl, hbl⟩; replace hm := hm.below hbl))
      refine bodyPost_ret (results_row_tmp rfl _ _ _ 28 _ (0, 0) _ rfl (by exact hm.at_ 2 rfl) Tryz.underlying28 rfl (by kernel_rfl)) rfl ?_
      have hfl := HA.out.flags hm.only (cnt := s.cnt) (exp := s.exp) (shut := true) (by exact hm.at_ 0 rfl)
      exact UnRes.bad HS.out HE.out HNE.out ⟨_, hfl⟩ (hm.only.mono fun q _ e => by rw [e]; exact HFG.out)
    · have hmc := hm
      obtain ⟨a5, hch⟩ := hch
      replace hm := ((hm.put 0 rfl hon hch.blk).wo 0).base
      simp only [List.set_cons_zero, List.eraseIdx_cons_zero] at hm
      have HCH := Lib.hid (⟨a5, hch⟩ : ChAt' _ g F5 _)
      have HOW := Lib.hid hown
      have HON := Lib.hid hon
      have HF := Lib.hid hF
      have HD := Lib.hid hd
      have HE := Lib.hid he0
      have HMC := Lib.hid hmc
      clear hch hown hon hF hd he0 hmc
      generalize hr : Sec.unwrap s ⟨cla, ins, p1, p2, b, le, long⟩ = r at *
      have HR := Lib.hid hr
      clear hr
      obtain ⟨s5, cla5, ins5, p15, p25, d5, le5, long5⟩ := r
      dsimp only at *
      generalize hl5 : d5.length = n5 at *
      have HL5 := Lib.hid hl5
      clear hl5
      unfold cmdV
      go_wp2_with (first | go_skip | ((with_reducible show wpList _ _ _ _ _ (World.alloc _ _)); refine wpList_up hm ?_; clear hm; intro n w hn hn2 hk hm hd hd2 ho; (try rw [← hn]); replace hn := Nat.le_of_eq hn.symm) | ((first | ((with_reducible show wpList _ _ _ (Oper.mk _ (Op.box _ _) _ _ _ _ :: _) _ _); (refine bxA hm ?_; clear hm; intro n w hn hz hm ho; (try simp only [List.cons_append, List.nil_append] at hm))) | ((with_reducible show wpList _ _ _ (Oper.mk _ (Op.load _ _) _ _ _ _ :: _) _ _); first | (refine ldA hm ?_) | (refine laA hm ?_)) | ((with_reducible show wpList _ _ _ (Oper.mk _ (Op.store _ _ _) _ _ _ _ :: _) _ _); (refine stA hm ?_; clear hm; intro w hz hm ho)) | ((with_reducible show wpList _ _ _ (Oper.mk _ (Op.alloc _) _ _ _ _ :: _) _ _); (refine alA hm ?_; clear hm; intro n w hn hz hm ho; (try simp only [List.cons_append, List.nil_append] at hm)))); try simp only [Act.put, sxQ]))
      refine bodyPost_ret (results_row_tmp rfl _ _ _ 28 _ (0, 0) _ rfl (by exact hm.at_ 1 rfl) Tryz.underlying28 rfl (by kernel_rfl)) rfl ?_
      have hfin := good_end HMC.out HST.out HON.out hm.only HFG.out HLT.out HF.out HCH.out HOW.out
      have hl5 := HL5.out
      subst hl5
      unfold UnRes
      rw [HR.out, HE.out]
      exact ⟨A5, c5, F5, rfl, hfin.2.1, hfin.1, hfin.2.2.1, hfin.2.2.2, HD.out⟩
end Go.Proofs.YtibaibdgpnkdnaaGreatDoor
