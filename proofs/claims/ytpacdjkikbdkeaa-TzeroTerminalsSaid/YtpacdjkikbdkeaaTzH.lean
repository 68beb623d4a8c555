/-
  The walk of NewCard.
-/
import Derived.Test.YtpacdjkikbdkeaaZ0
import Derived.Test.YtpacdjkikbdkeaaTzG
import Derived.Test.YtpacdjkikbdkeaaZ1
namespace Go.Proofs.Ytpacdjkikbdkeaa
set_option maxRecDepth 100000
set_option linter.unusedSimpArgs false
set_option linter.unusedVariables false
open Go.RowKit Go.Maps
set_option maxHeartbeats 8000000

theorem InAt.made (w : World) : InAt (w.alloc (.map #[] 0)) w.heap.size 0 (.map []) := World.ownsMap_made w _ _ _
theorem InAt.update {w : World} {gm n : Nat} {D : DataW Unit} (h : InAt w gm n D) (i : Int) (hi : (Lit.int .i64 i).wf = true) (hn : n < 1000000) :
    ∃ w', (Instr.mapUpdate 73 (.map (some gm)) (.int .i64 i) (.bool true)).run Try.prog w = .ok () w' ∧ InAt w' gm (n + 1) (D.put (.int .i64 i) (.lit (.bool true))) ∧ w.grownBy w' (some gm) :=
  World.ownsMap.update (t := 73) (e := 4) h law_int Try.underlying73 (by unfold maxLen; omega) (keyOf_int_mk Try.underlying3 hi) (plainElem_bool Try.underlying4 true)

set_option maxRecDepth 100000 in
theorem tzero_NewCard (w0 : World) (B : Option Addr) (n c : Nat) (xs : List Int) (hb : Ints w0 w0.heap.size B n c xs) (hx : ∀ z ∈ xs, (Lit.int .i64 z).wf = true) (hn : n ≤ 1000) :
    Calls Try.prog 9 #[.slice B n c] w0 fun e w' => ∃ g F, e = .returned (.pointer (some ⟨g, 0, none⟩)) ∧ CardAt' w' g F xs Tz.S.zero ∧ Below w0.heap.size w0 w' ∧ ∀ q, F q → w0.heap.size ≤ q := by
  have hmf := fun fn a b u => make_func (P := Try.prog) fn a b u
  have hlen := Lib.hid hb.1
  have HB := Lib.hid hb
  clear hb
  go_enter Try.func9, Try.ntmps9
  have hmk : ∀ u : World, (Instr.makeMap 73 none).run Try.prog u = .ok (.map (some u.heap.size)) (u.alloc (.map #[] 0)) := fun u => rfl
  have HM := Lib.hid (InAt.made w0)
  have HBe := Lib.hid (fun (o o' : Obj) => ((Below.refl w0.heap.size w0).alloc (Nat.le_refl _) o).alloc (by simp) o')
  have HK := Lib.hid (Blk.new (w0.alloc (.map #[] 0)) 78 #[.map (some w0.heap.size), .nilFunc, .slice none 0 0, .int .i64 0, .int .i64 0, .int .i64 0, .int .i64 0, .int .i64 0, .int .i64 0, .int .i64 0, .int .i64 0, .int .i64 0, .slice none 0 0, .int .i64 0, .bool false, .bool false, .slice none 0 0, .int .i64 0])
  go_wp2_with fail
  go_loopg [11] n (fun g i wr => ∃ k : Nat, k + g = n ∧ i = .int .i64 k ∧ InAt wr w0.heap.size k (tmapD (xs.take k) (.map [])) ∧ Blk wr (w0.heap.size + 1) 78 #[.map (some w0.heap.size), .nilFunc, .slice none 0 0, .int .i64 0, .int .i64 0, .int .i64 0, .int .i64 0, .int .i64 0, .int .i64 0, .int .i64 0, .int .i64 0, .int .i64 0, .slice none 0 0, .int .i64 0, .bool false, .bool false, .slice none 0 0, .int .i64 0] ∧ Below w0.heap.size w0 wr)
  case atStart => exact ⟨0, by omega, rfl, HM.out.below ((Below.refl _ _).alloc (Nat.le_refl _) _), by have := HK.out; simpa using this, HBe.out _ _⟩
  case round =>
    obtain ⟨k, hk, rfl, hin, hblk, hbw⟩ := hrel
    cases gk with
    | zero =>
      obtain rfl : k = n := by omega
      have e1 : xs.take k = xs := List.take_of_length_le (by rw [hlen.out]; omega)
      rw [e1] at hin
      have hlt := hblk.lt
      have hm : Mem (fun q => q = w0.heap.size + 1) wr wr [⟨w0.heap.size + 1, _, _⟩] [] := Mem.one hblk rfl
      have HI := Lib.hid (fun (w' : World) (ho : Only (fun q => q = w0.heap.size + 1) wr w') => hin.only ho (by omega))
      have HW := Lib.hid (fun (w' : World) (ho : Only (fun q => q = w0.heap.size + 1) wr w') => hbw.trans (ho.below hbw.size (fun q hq => by omega)))
      clear hin hblk hbw
      go_wp2_with (first | go_skip | ((with_reducible show wpList _ _ _ _ _ (World.alloc _ _)); refine wpList_up hm ?_; clear hm; intro n w hn hn2 hk hm hd hd2 ho; (try rw [← hn]); replace hn := Nat.le_of_eq hn.symm) | ((first | ((with_reducible show wpList _ _ _ (Oper.mk _ (Op.box _ _) _ _ _ _ :: _) _ _); (refine wpList_bx (by rfl) _ _ rfl _ (by simp only [Act.eval, Array.getD_eq_getD_getElem?, List.getElem?_toArray, List.getElem?_cons_succ, List.getElem?_cons_zero, Option.getD_some]; first | done | exact rfl) _ (by simp only [Value.cells]; first | done | exact rfl) hm ?_; clear hm; intro n w hn hz hm ho; (try simp only [List.cons_append, List.nil_append] at hm))) | ((with_reducible show wpList _ _ _ (Oper.mk _ (Op.load _ _) _ _ _ _ :: _) _ _); first | (refine wpList_ldS (by rfl) _ _ rfl _ _ rfl hm _ _ (by repeat (first | apply In.a | apply In.b)) (by decide +kernel) _ (by simp only [List.getElem?_toArray, List.getElem?_cons_succ, List.getElem?_cons_zero]; first | done | exact rfl) ?_) | (refine wpList_laS (by rfl) _ _ rfl _ _ rfl hm _ _ (by repeat (first | apply In.a | apply In.b)) (by kernel_rfl) _ (by rfl) (by kernel_rfl) (by simp) _ (by simp only [List.toList_toArray, List.drop_succ_cons, List.drop_zero, List.size_toArray, List.length_cons, List.length_nil, Nat.reduceAdd, List.take_succ_cons, List.take_zero]; first | done | exact rfl) ?_)) | ((with_reducible show wpList _ _ _ (Oper.mk _ (Op.store _ _ _) _ _ _ _ :: _) _ _); (refine wpList_stS (by rfl) _ _ _ rfl _ _ rfl _ (by simp only [Act.eval, Array.getD_eq_getD_getElem?, List.getElem?_toArray, List.getElem?_cons_succ, List.getElem?_cons_zero, Option.getD_some]; first | done | exact rfl) hm _ (by simp only [Value.cells]; first | done | exact rfl) _ _ _ _ (by repeat (first | apply Put.a | apply Put.b)) (by kernel_rfl) (by simp [Value.oneCell']) (by simp) (by simp only [List.set_cons_zero, List.set_cons_succ, spl, List.toList_toArray, List.size_toArray, List.length_cons, List.length_nil, Nat.reduceAdd, Nat.zero_add, List.take_succ_cons, List.take_zero, List.drop_succ_cons, List.drop_zero, List.drop_nil, List.cons_append, List.nil_append, List.append_nil]; first | done | exact rfl) ?_; clear hm; intro w hz hm ho)) | ((with_reducible show wpList _ _ _ (Oper.mk _ (Op.alloc _) _ _ _ _ :: _) _ _); (refine wpList_al (by rfl) _ rfl _ rfl _ (by simp only [Value.cells]; first | done | exact rfl) hm ?_; clear hm; intro n w hn hz hm ho; (try simp only [List.cons_append, List.nil_append] at hm)))); try simp only [Act.put, List.setIfInBounds_toArray, List.set_cons_zero, List.set_cons_succ]))
      go_ret
      have hs := hm.only.size
      refine ⟨w0.heap.size + 1, fun q => q = w0.heap.size ∨ q = w0.heap.size + 1, rfl, ⟨w0.heap.size, k, none, 0, ⟨0, 0, 0, 0, 0⟩, ⟨0, 0, 0, 0, ⟨none, 0, 0, []⟩, 0, false⟩, false, none, 0,
        { ok := Tz.Ok.zero, blk := hm.at_ 0 rfl, fg := .inr rfl, fm := .inl rfl, mp := HI.out _ hm.only, got := Own.none_ _ _ _ _ _, fa := fun q e => (by cases e), kept := ⟨⟨rfl, Nat.le_refl _, Row.nil _ _ _⟩, fun a ha => (by cases ha)⟩, row := fun q ⟨a, ha, _⟩ => (by cases ha), fine := ⟨fun e => (by cases e), fun e => (by cases e)⟩, frow := fun e => (by cases e), lt := fun q hq => (by omega), gm_ne := by omega }⟩, HW.out _ hm.only, fun q hq => by omega⟩
    | succ g =>
      have hkn : k < n := by omega
      have hw := hx (xs.getD k 0) (by
        have : k < xs.length := by rw [hlen.out]; exact hkn
        simp [List.getD, List.getElem?_eq_getElem this])
      obtain ⟨b, o, rfl, hbb, hc⟩ := (HB.out.below hbw).at_ hkn
      have p0 : (0 : Int) ≤ (k : Int) := by omega
      have p1 : (k : Int) < (n : Int) := by omega
      have c0 : wr.cell? ⟨w0.heap.size + 1, 0, none⟩ = some (.map (some w0.heap.size)) := hblk.cell 0
      have HT : Hid (xs.take (k + 1) = xs.take k ++ [xs.getD k 0]) := by
        have hlt : k < xs.length := by rw [hlen.out]; exact hkn
        show _ = _
        rw [List.take_succ_eq_append_getElem hlt]; simp [List.getD, List.getElem?_eq_getElem hlt]
      generalize xs.getD k 0 = z at *
      obtain ⟨w', hrun, hin2, hg⟩ := hin.update z hw (by omega)
      have HBL := Lib.hid (And.intro hblk (And.intro hbw (And.intro hin2 hg)))
      have hlt := hin.lt
      clear hin hin2 hblk hbw hg
      go_wp2_with fail
      go_roundg g
      case measure => omega
      case rel =>
        obtain ⟨hblk, hbw, hin2, hg⟩ := HBL.out
        have ho : Only (fun q => q = w0.heap.size) wr w' := (Only.refl _ _).grown hg (fun q e => by injection e with e; exact e.symm)
        refine ⟨k + 1, by omega, by go_num, by rw [HT.out, tmapD_snoc]; exact hin2, hblk.only ho (by omega), hbw.trans (ho.below hbw.size (fun q hq => by omega))⟩
end Go.Proofs.Ytpacdjkikbdkeaa
