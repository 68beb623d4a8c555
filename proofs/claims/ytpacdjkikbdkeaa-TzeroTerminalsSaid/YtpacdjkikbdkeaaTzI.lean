/-
  The walks of the card's Command and Wait.
-/
import Derived.Test.YtpacdjkikbdkeaaZ0
import Derived.Test.YtpacdjkikbdkeaaTzH
namespace Go.Proofs.Ytpacdjkikbdkeaa
set_option maxRecDepth 100000
set_option linter.unusedSimpArgs false
set_option linter.unusedVariables false
open Go.RowKit Go.Maps
set_option maxHeartbeats 8000000

def Tz.S.cmdOf (s : Tz.S) : Tz.Cmd := if s.ph = 2 then s.cmd else Tz.S.zero.cmd
/-- What Command leaves: a command of the caller's own, and whether there is one. -/
def CmRes (w : World) (x : Tz.Cmd) (b : Bool) (e : Ending) (w' : World) : Prop :=
  ∃ A c, e = .returned (.tuple #[.agg #[.int .i64 x.cla, .int .i64 x.ins, .int .i64 x.p1, .int .i64 x.p2, .slice A x.d.length c, .int .i64 x.le, .bool false], .bool b]) ∧ Own w' w.heap.size 5 1 A x.d.length c (bcells x.d) ∧ Below w.heap.size w w'
theorem Only.same {w w' : World} {g : Nat} {t : TypeId} {cs : Array Value} (ho : Only (fun q => q = g) w w') (h : Blk w g t cs) (h' : Blk w' g t cs) : Below w.heap.size w w' :=
  ⟨ho.os, ho.tape, ho.output, ho.size, fun k hk => by
    by_cases e : k = g
    · subst e; unfold Blk at h h'; rw [h, h']
    · exact ho.block k hk e⟩
theorem CardAt'.getc {w : World} {g : Nat} {F : Nat → Prop} {l : List Int} {s : Tz.S} (H : CardAt' w g F l s) (h2 : s.ph = 2) : ∃ (gm : Nat) (got : Value) (h : Hd) (Ad : Option Addr) (nd cd : Nat) (data : Value) (sw : Int),
    Blk w g 78 #[.map (some gm), .nilFunc, got, .int .i64 h.h0, .int .i64 h.h1, .int .i64 h.h2, .int .i64 h.h3, .int .i64 h.h4, .int .i64 s.cmd.cla, .int .i64 s.cmd.ins, .int .i64 s.cmd.p1, .int .i64 s.cmd.p2, .slice Ad nd cd, .int .i64 s.cmd.le, .bool false, .bool (Tz.inc l s.cmd.cla s.cmd.ins), data, .int .i64 sw] ∧ Byt w w.heap.size Ad nd cd s.cmd.d ∧ nd ≤ 255 := by
  obtain ⟨gm, m, A, c, h, x, inc, Ad, cd, H⟩ := H
  obtain ⟨f0, f1, f2, f3, f4, f5, f6, f7, f8⟩ := H.fine.wait h2
  refine ⟨gm, .slice A s.gotc.length c, h, x.d.a, x.d.n, x.d.c, .slice Ad s.kept.length cd, s.sw, ?_, f4 ▸ f7.1, ?_⟩
  · have := H.blk
    rw [h2] at this
    simp only [ccard, phV, SV.val, f0, f1, f2, f3, f5, f6, f8] at this
    exact this
  · have := f7.1.1; have := H.ok.cd; rw [← f4] at this; omega

set_option maxRecDepth 100000 in
theorem card_Command (w0 : World) (g : Nat) (F : Nat → Prop) (l : List Int) (s : Tz.S) (H : CardAt' w0 g F l s) :
    Calls Try.prog 12 #[.pointer (some ⟨g, 0, none⟩)] w0 (CmRes w0 s.cmdOf (s.ph == 2)) := by
  have hfn1 := fun (fn : Fn) (a b : Array Value) (w : World) => neq_func_nil (P := Try.prog) Try.underlying74 fn a b w
  have hfn2 := fun (w : World) => neq_nil_nil (P := Try.prog) Try.underlying74 w
  by_cases h2 : s.ph = 2
  · obtain ⟨gm, got, h, Ad, nd, cd, data, sw, hblk, hbyt, hnd⟩ := H.getc h2
    have e1 : s.cmdOf = s.cmd := if_pos h2
    have e2 : (s.ph == 2) = true := by rw [h2]; rfl
    rw [e1, e2]
    clear e1 e2 h2 H
    obtain ⟨ph, gt, ⟨cla, ins, p1, p2, d, le⟩, kp, sw'⟩ := s
    have hl := hbyt.1
    have hm : Mem (fun q => q = g) w0 w0 [⟨g, _, _⟩] [] := Mem.one hblk rfl
    have HB := Lib.hid hbyt
    have HK := Lib.hid hblk
    have HL := Lib.hid hl
    clear hbyt hl hblk
    simp only at hm
    generalize Tz.inc l cla ins = ic at *
    go_enter Try.func12, Try.ntmps12
    go_wp2_with (first | go_skip | ((with_reducible show wpList _ _ _ _ _ (World.alloc _ _)); refine wpList_up hm ?_; clear hm; intro n w hn hn2 hk hm hd hd2 ho; (try rw [← hn]); replace hn := Nat.le_of_eq hn.symm) | ((first | ((with_reducible show wpList _ _ _ (Oper.mk _ (Op.box _ _) _ _ _ _ :: _) _ _); (refine wpList_bx (by rfl) _ _ rfl _ (by simp only [Act.eval, Array.getD_eq_getD_getElem?, List.getElem?_toArray, List.getElem?_cons_succ, List.getElem?_cons_zero, Option.getD_some]; first | done | exact rfl) _ (by simp only [Value.cells]; first | done | exact rfl) hm ?_; clear hm; intro n w hn hz hm ho; (try simp only [List.cons_append, List.nil_append] at hm))) | ((with_reducible show wpList _ _ _ (Oper.mk _ (Op.load _ _) _ _ _ _ :: _) _ _); first | (refine wpList_ldS (by rfl) _ _ rfl _ _ rfl hm _ _ (by repeat (first | apply In.a | apply In.b)) (by decide +kernel) _ (by simp only [List.getElem?_toArray, List.getElem?_cons_succ, List.getElem?_cons_zero]; first | done | exact rfl) ?_) | (refine wpList_laS (by rfl) _ _ rfl _ _ rfl hm _ _ (by repeat (first | apply In.a | apply In.b)) (by kernel_rfl) _ (by rfl) (by kernel_rfl) (by simp) _ (by simp only [List.toList_toArray, List.drop_succ_cons, List.drop_zero, List.size_toArray, List.length_cons, List.length_nil, Nat.reduceAdd, List.take_succ_cons, List.take_zero]; first | done | exact rfl) ?_)) | ((with_reducible show wpList _ _ _ (Oper.mk _ (Op.store _ _ _) _ _ _ _ :: _) _ _); (refine wpList_stS (by rfl) _ _ _ rfl _ _ rfl _ (by simp only [Act.eval, Array.getD_eq_getD_getElem?, List.getElem?_toArray, List.getElem?_cons_succ, List.getElem?_cons_zero, Option.getD_some]; first | done | exact rfl) hm _ (by simp only [Value.cells]; first | done | exact rfl) _ _ _ _ (by repeat (first | apply Put.a | apply Put.b)) (by kernel_rfl) (by simp [Value.oneCell']) (by simp) (by simp only [List.set_cons_zero, List.set_cons_succ, spl, List.toList_toArray, List.size_toArray, List.length_cons, List.length_nil, Nat.reduceAdd, Nat.zero_add, List.take_succ_cons, List.take_zero, List.drop_succ_cons, List.drop_zero, List.drop_nil, List.cons_append, List.nil_append, List.append_nil]; first | done | exact rfl) ?_; clear hm; intro w hz hm ho)) | ((with_reducible show wpList _ _ _ (Oper.mk _ (Op.alloc _) _ _ _ _ :: _) _ _); (refine wpList_al (by rfl) _ rfl _ rfl _ (by simp only [Value.cells]; first | done | exact rfl) hm ?_; clear hm; intro n w hn hz hm ho; (try simp only [List.cons_append, List.nil_append] at hm)))); try simp only [Act.put, List.setIfInBounds_toArray, List.set_cons_zero, List.set_cons_succ]) | (go_at_call 38; refine (card_made g gm _ (by exact (hm.at_ 0 rfl).cell 0)).mono ?_; rintro e w' ⟨rfl, rfl⟩) | (go_at_call 39; refine (slices_Clone Ad nd cd d _ (by exact (HB.out.below (Only.same hm.only HK.out (hm.at_ 0 rfl))).more hm.only.size) (by omega)).mono ?_; rintro e w2 ⟨A2, c2, rfl, hown, hbl⟩; replace hm := hm.got hbl hown; clear hown hbl))
    refine bodyPost_ret (results_row_tmp rfl _ _ _ _ _ (0, 0) _ rfl (by exact hm.at_ 1 rfl) Try.underlying30 rfl (by kernel_rfl)) rfl ?_
    have hL := HL.out
    subst hL
    exact ⟨A2, c2, rfl, hm.fresh 0 rfl (fun q hq => ⟨_, List.mem_cons_self, hq.symm⟩), Only.same hm.only HK.out (hm.at_ 0 rfl)⟩
  · have e1 : s.cmdOf = Tz.S.zero.cmd := if_neg h2
    have e2 : (s.ph == 2) = false := beq_eq_false_iff_ne.2 h2
    have hph := H.ok.ph
    obtain ⟨gm, cs, hblk, hfg, hc0, hc1⟩ := H.fields
    rw [e1, e2]
    have HB := Lib.hid (fun o => (Below.refl w0.heap.size w0).alloc (Nat.le_refl _) o)
    have hc0 : w0.cell? ⟨g, 0, none⟩ = some (.map (some gm)) := (hblk.cell 0).trans hc0
    have hc1 : ∃ k, w0.cell? ⟨g, 1, none⟩ = some (.func (.func k) #[.pointer (some ⟨g, 0, none⟩)] #[]) := by
      rcases (show s.ph = 0 ∨ s.ph = 1 by omega) with e | e <;> rw [e] at hc1
      · exact ⟨_, (hblk.cell 1).trans hc1⟩
      · exact ⟨_, (hblk.cell 1).trans hc1⟩
    obtain ⟨k, hc1⟩ := hc1
    have hlt := hblk.lt
    have hm0 := Mem.nil (fun q => q = g) w0
    have k0 : ∀ o, (w0.alloc o).cell? ⟨g, 0, none⟩ = some (.map (some gm)) := fun o => (World.cell?_of_block (Below.heap_alloc w0 o g hlt)).trans hc0
    have k1 : ∀ o, (w0.alloc o).cell? ⟨g, 1, none⟩ = some (.func (.func k) #[.pointer (some ⟨g, 0, none⟩)] #[]) := fun o => (World.cell?_of_block (Below.heap_alloc w0 o g hlt)).trans hc1
    have HK := Lib.hid (fun o => Blk.new w0 30 o)
    clear e1 e2 h2 hblk hfg H
    go_enter Try.func12, Try.ntmps12
    go_wp2_with (go_at_call 38; refine (card_made g gm _ (k0 _)).mono ?_; rintro e w' ⟨rfl, rfl⟩)
    refine bodyPost_ret (results_row_tmp rfl _ _ _ _ _ (0, 0) _ rfl (by exact HK.out _) Try.underlying30 rfl (by kernel_rfl)) rfl ?_
    exact ⟨none, 0, rfl, Own.none_ _ _ _ _ _, HB.out _⟩

def Tz.S.wait (s : Tz.S) : List UInt8 := if s.ph = 2 then [0x60] else []
set_option maxRecDepth 100000 in
theorem card_Wait (w0 : World) (g : Nat) (F : Nat → Prop) (l : List Int) (s : Tz.S) (H : CardAt' w0 g F l s) :
    Calls Try.prog 19 #[.pointer (some ⟨g, 0, none⟩)] w0 (ORes w0 s.wait) := by
  have hfn1 := fun (fn : Fn) (a b : Array Value) (w : World) => neq_func_nil (P := Try.prog) Try.underlying74 fn a b w
  have hfn2 := fun (w : World) => neq_nil_nil (P := Try.prog) Try.underlying74 w
  have hph := H.ok.ph
  obtain ⟨gm, cs, hblk, hfg, hc0, hc1⟩ := H.fields
  have hc0 : w0.cell? ⟨g, 0, none⟩ = some (.map (some gm)) := (hblk.cell 0).trans hc0
  have hcp := (hblk.cell 1).trans hc1
  clear hc1
  by_cases h2 : s.ph = 2
  · have e1 : s.wait = [0x60] := if_pos h2
    rw [h2] at hcp
    have hc1 : w0.cell? ⟨g, 1, none⟩ = some .nilFunc := hcp
    clear hcp
    rw [e1]
    clear e1 h2 H hblk
    have HB := Lib.hid (fun o => (Below.refl w0.heap.size w0).alloc (Nat.le_refl _) o)
    have HK := Lib.hid (own_blk (base := w0.heap.size) (n := 1) (bs := [0x60]) (Blk.new w0 5 #[.int .u8 96]) (Nat.le_refl _) (by simp [bcells, B8]) rfl (by decide))
    go_enter Try.func19, Try.ntmps19
    go_wp2_with (go_at_call 38; refine (card_made g gm _ hc0).mono ?_; rintro e w' ⟨rfl, rfl⟩)
    go_ret
    exact ⟨_, _, rfl, HK.out, HB.out _⟩
  · have e1 : s.wait = [] := if_neg h2
    have hc1 : ∃ k, w0.cell? ⟨g, 1, none⟩ = some (.func (.func k) #[.pointer (some ⟨g, 0, none⟩)] #[]) := by
      rcases (show s.ph = 0 ∨ s.ph = 1 by omega) with e | e <;> rw [e] at hcp
      · exact ⟨_, hcp⟩
      · exact ⟨_, hcp⟩
    obtain ⟨k, hc1⟩ := hc1
    clear hcp
    rw [e1]
    clear e1 h2 H hblk
    go_enter Try.func19, Try.ntmps19
    go_wp2_with (go_at_call 38; refine (card_made g gm _ hc0).mono ?_; rintro e w' ⟨rfl, rfl⟩)
    go_ret
    exact ⟨none, 0, rfl, Own.none_ _ _ _ _ _, Below.refl _ _⟩
end Go.Proofs.Ytpacdjkikbdkeaa
