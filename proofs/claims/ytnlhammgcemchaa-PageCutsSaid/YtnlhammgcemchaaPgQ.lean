/-
  The walks of a page's content and of Read.
-/
import Derived.Test.YtnlhammgcemchaaZ0
import Derived.Test.YtnlhammgcemchaaPgY
namespace Go.Proofs.Ytnlhammgcemchaa
set_option maxRecDepth 100000
set_option linter.unusedSimpArgs false
set_option linter.unusedVariables false
open Go.RowKit
set_option maxHeartbeats 8000000

theorem PAt.atc {w : World} {g : Nat} {G : Nat → Prop} {s : PgS} {p : Pg.P} (H : PAt w g G s p) {i : Nat} (hi : i < p.at_.length) : w.cell? ⟨s.A, i, none⟩ = some (.int .i64 (Pg.enc (p.at_.getD i none))) := by
  rw [H.at_.cell]; simp [ecells, List.getD, List.getElem?_append_left, hi, I64]
theorem PAt.holdc {w : World} {g : Nat} {G : Nat → Prop} {s : PgS} {p : Pg.P} (H : PAt w g G s p) {i : Nat} (hi : i < p.holds.length) : w.cell? ⟨s.Ho, i, none⟩ = some (.int .i64 (Pg.enc (p.holds.getD i none))) := by
  rw [H.holds.cell]; simp [ecells, List.getD, List.getElem?_append_left, hi, I64]
/-- Bytes, and an error; only the count of fixed words turns. -/
def CtRes (w : World) (g : Nat) (G : Nat → Prop) (s : PgS) (p : Pg.P) (bs : List UInt8) (er : Int) (c : Nat) (e : Ending) (w' : World) : Prop :=
  ∃ A m, e = .returned (.tuple #[.slice A bs.length m, .int .i64 er]) ∧ Own w' w.heap.size 5 1 A bs.length m (bcells bs) ∧ PAt w' g G s (p.more c) ∧ Only (fun q => q = g) w w'
theorem three_cells (d : Nat) (h : d < 16777216) : #[Value.int .u8 ((d : Int) / 65536), .int .u8 ((d : Int) / 256 % 256), .int .u8 ((d : Int) % 256)].toList = bcells (Pg.three d) := by
  simp [bcells, Pg.three, B8]
  omega
theorem u8_inf : (Try.prog.info? 5).map (fun i => (i.zero, i.size, i.bytes)) = some (some (.int .u8 0), 1, 1) := by kernel_rfl
theorem enc_some (f : Nat) : Pg.enc (some f) = (f : Int) := rfl
theorem flat_take (l : List Nat) (k : Nat) (hk : k < l.length) : (l.take (k + 1)).flatMap Pg.three = (l.take k).flatMap Pg.three ++ Pg.three (l.getD k 0) := by
  have e : l.getD k 0 = l[k] := by simp [List.getD, List.getElem?_eq_getElem hk]
  rw [List.take_succ_eq_append_getElem hk, e, List.flatMap_append]
  congr 1
theorem flat_length (l : List Nat) : (l.flatMap Pg.three).length = 3 * l.length := by
  induction l with
  | nil => rfl
  | cons x l ih => rw [List.flatMap_cons, List.length_append, ih]; simp [Pg.three]; omega
theorem page_content {w0 : World} {g : Nat} {G : Nat → Prop} {s : PgS} {p : Pg.P} (H : PAt w0 g G s p) (i : Nat) (hi : i < p.at_.length) (hf : ∀ f, p.at_.getD i none = some f → f < 100000000) (hfx : p.fixed + 20 < 4611686018427387904) :
    Calls Try.prog 41 #[.pointer (some ⟨g, 0, none⟩), .int .i64 (i : Int)] w0 (CtRes w0 g G s p (p.content i).1 (p.content i).2.1 (p.content i).2.2) := by
  obtain ⟨ti, hi0, hz0, hz1, hz2⟩ := info_parts u8_inf
  have hm : Mem (fun q => q = g) w0 w0 [⟨g, _, _⟩] [] := Mem.one H.blk rfl
  have HK := Lib.hid H.blk
  have HH := Lib.hid H
  have m48 : ∀ u : World, (Instr.makeSlice 39 (.int .i64 0) (.int .i64 48)).run Try.prog u = .ok (.slice (some ⟨u.heap.size, 0, none⟩) 0 48) (u.alloc (.cells (zc 48) 5)) := fun _ => by kernel_rfl
  have hg : g < w0.heap.size := H.lt g (H.hg g (by simp))
  clear H
  simp only [pcs] at hm HK
  cases ha : p.at_.getD i none with
  | none =>
    have e1 : p.content i = (Pg.zero48, 0, 0) := by unfold Pg.P.content; rw [ha]
    rw [e1]
    have HA := Lib.hid ha
    have HI := Lib.hid hi
    have i0 : (i : Int) < (p.at_.length : Int) := by omega
    have CA := Lib.hid (fun (u : World) (h : PAt u g G s p) => show u.cell? ⟨s.A, i, none⟩ = some (.int .i64 (-1)) by have := h.atc hi; rwa [ha] at this)
    clear e1 ha hf hi
    go_enter Try.func41, Try.ntmps41
    go_wp2_with (first | go_skip | ((with_reducible show wpList _ _ _ _ _ (World.alloc _ _)); refine wpList_up hm ?_; clear hm; intro n w hn hn2 hk hm hd hd2 ho; (try rw [← hn]); replace hn := Nat.le_of_eq hn.symm) | ((first | ((with_reducible show wpList _ _ _ (Oper.mk _ (Op.box _ _) _ _ _ _ :: _) _ _); (refine bxA hm ?_; clear hm; intro n w hn hz hm ho; (try simp only [List.cons_append, List.nil_append] at hm))) | ((with_reducible show wpList _ _ _ (Oper.mk _ (Op.load _ _) _ _ _ _ :: _) _ _); first | (refine ldA hm ?_) | (refine laA hm ?_)) | ((with_reducible show wpList _ _ _ (Oper.mk _ (Op.store _ _ _) _ _ _ _ :: _) _ _); (refine stA hm ?_; clear hm; intro w hz hm ho)) | ((with_reducible show wpList _ _ _ (Oper.mk _ (Op.alloc _) _ _ _ _ :: _) _ _); (refine alA hm ?_; clear hm; intro n w hn hz hm ho; (try simp only [List.cons_append, List.nil_append] at hm)))); try simp only [Act.put, sxQ]) | ((with_reducible show wpList _ _ _ (Oper.mk _ (Op.load _ _) _ _ _ _ :: _) _ _); refine wpList_lc (by rfl) _ _ rfl _ rfl (by decide +kernel) _ (CA.out _ (HH.out.below (hm.still 0 rfl HK.out))) ?_; (try simp only [Act.put, sxQ])))
    go_ret2
    refine ⟨some ⟨n, 0, none⟩, 48, rfl, ?_, HH.out.below (hm.still 0 rfl HK.out), hm.only⟩
    have h48 := Own.blk (s := 1) (n := 48) (c := 48) hk hn (by omega) (by unfold maxLen; omega) (by simp [zc, bcells, zs]) (by simp [zc, bcells, zs])
    rwa [show ((zc 48).toList.take (48 * 1)) = bcells Pg.zero48 by rw [List.take_of_length_le (by simp [zc, bcells, zs])]; rfl] at h48
  | some f =>
    have hf1 := hf f ha
    have e1 : p.content i = if (Pg.read p.m f).2.1 then (((Pg.read p.m f).1.take 16).flatMap Pg.three, 0, (Pg.read p.m f).2.2) else ([], p.failure, (Pg.read p.m f).2.2) := by unfold Pg.P.content; rw [ha]
    have HR := Lib.hid (fun (u : World) (h : PAt u g G s p) => page_read h f hf1 hfx)
    have hrl := Lib.hid (@read_length p.m f)
    have hrt := Lib.hid (read_lt p.m f)
    rw [e1]
    have HA := Lib.hid ha
    have HI := Lib.hid hi
    have i0 : (i : Int) < (p.at_.length : Int) := by omega
    have hfn : ((f : Int) == -1) = false := by rw [beq_eq_false_iff_ne]; omega
    have CA := Lib.hid (fun (u : World) (h : PAt u g G s p) => show u.cell? ⟨s.A, i, none⟩ = some (.int .i64 (f : Int)) by have := h.atc hi; rwa [ha] at this)
    clear e1 ha hf hi hfx
    generalize hRe : Pg.read p.m f = R at *
    obtain ⟨l, ok, c⟩ := R
    dsimp only at *
    clear hRe
    cases ok with
    | false =>
      have HF := Lib.hid (fun (u : World) (h : PAt u g G s (p.more c)) => page_failure h)
      rw [if_neg (by decide)]
      go_enter Try.func41, Try.ntmps41
      go_wp2_with (first | go_skip | ((with_reducible show wpList _ _ _ _ _ (World.alloc _ _)); refine wpList_up hm ?_; clear hm; intro n w hn hn2 hk hm hd hd2 ho; (try rw [← hn]); replace hn := Nat.le_of_eq hn.symm) | ((first | ((with_reducible show wpList _ _ _ (Oper.mk _ (Op.box _ _) _ _ _ _ :: _) _ _); (refine bxA hm ?_; clear hm; intro n w hn hz hm ho; (try simp only [List.cons_append, List.nil_append] at hm))) | ((with_reducible show wpList _ _ _ (Oper.mk _ (Op.load _ _) _ _ _ _ :: _) _ _); first | (refine ldA hm ?_) | (refine laA hm ?_)) | ((with_reducible show wpList _ _ _ (Oper.mk _ (Op.store _ _ _) _ _ _ _ :: _) _ _); (refine stA hm ?_; clear hm; intro w hz hm ho)) | ((with_reducible show wpList _ _ _ (Oper.mk _ (Op.alloc _) _ _ _ _ :: _) _ _); (refine alA hm ?_; clear hm; intro n w hn hz hm ho; (try simp only [List.cons_append, List.nil_append] at hm)))); try simp only [Act.put, sxQ]) | ((with_reducible show wpList _ _ _ (Oper.mk _ (Op.load _ _) _ _ _ _ :: _) _ _); refine wpList_lc (by rfl) _ _ rfl _ rfl (by decide +kernel) _ (CA.out _ (HH.out.below (hm.still 0 rfl HK.out))) ?_; (try simp only [Act.put, sxQ])))
      go_at_call 54
      refine (HR.out _ (HH.out.below (hm.still 0 rfl HK.out))).mono ?_
      rintro e w3 ⟨A, m, rfl, hown, hp3, ho3⟩
      go_wp2_with fail
      go_at_call 35
      refine (HF.out _ hp3).mono ?_
      rintro e w4 ⟨rfl, hb4⟩
      go_wp2_with fail
      go_ret2
      exact ⟨none, 0, rfl, Own.none_ _ _ _ _ _, hp3.below hb4, (hm.only.trans ho3).trans (Only.of_below hb4)⟩
    | true =>
      rw [if_pos rfl]
      have hll := hrl.out rfl
      go_enter Try.func41, Try.ntmps41
      go_wp2_with (first | go_skip | ((with_reducible show wpList _ _ _ _ _ (World.alloc _ _)); refine wpList_up hm ?_; clear hm; intro n w hn hn2 hk hm hd hd2 ho; (try rw [← hn]); replace hn := Nat.le_of_eq hn.symm) | ((first | ((with_reducible show wpList _ _ _ (Oper.mk _ (Op.box _ _) _ _ _ _ :: _) _ _); (refine bxA hm ?_; clear hm; intro n w hn hz hm ho; (try simp only [List.cons_append, List.nil_append] at hm))) | ((with_reducible show wpList _ _ _ (Oper.mk _ (Op.load _ _) _ _ _ _ :: _) _ _); first | (refine ldA hm ?_) | (refine laA hm ?_)) | ((with_reducible show wpList _ _ _ (Oper.mk _ (Op.store _ _ _) _ _ _ _ :: _) _ _); (refine stA hm ?_; clear hm; intro w hz hm ho)) | ((with_reducible show wpList _ _ _ (Oper.mk _ (Op.alloc _) _ _ _ _ :: _) _ _); (refine alA hm ?_; clear hm; intro n w hn hz hm ho; (try simp only [List.cons_append, List.nil_append] at hm)))); try simp only [Act.put, sxQ]) | ((with_reducible show wpList _ _ _ (Oper.mk _ (Op.load _ _) _ _ _ _ :: _) _ _); refine wpList_lc (by rfl) _ _ rfl _ rfl (by decide +kernel) _ (CA.out _ (HH.out.below (hm.still 0 rfl HK.out))) ?_; (try simp only [Act.put, sxQ])))
      go_at_call 54
      refine (HR.out _ (HH.out.below (hm.still 0 rfl HK.out))).mono ?_
      rintro e w3 ⟨A, m, rfl, hown, hp3, ho3⟩
      have hz := hm.only.size
      have h0 : Own w 0 5 1 (some ⟨n, 0, none⟩) 0 48 [] := Own.blk (s := 1) (n := 0) (c := 48) hk (Nat.zero_le _) (by omega) (by unfold maxLen; omega) (by simp [zc, bcells, zs]) (by simp)
      replace hm := hm.more (x := ⟨5, 1, some ⟨n, 0, none⟩, 0, 48, []⟩) h0 (fun q e => .inr (by cases e; exact hn)) (fun e he e1 => hd e he (by cases e1; rfl)) (fun y hy => by cases hy)
      replace hm := hm.put 0 rfl ho3 hp3.blk
      rw [hll] at hown ⊢
      replace hm := hm.more (x := ⟨3, 1, A, 19, m, ncells l⟩) (hown.mono (Nat.zero_le _)) (fun q e => .inr (Nat.le_trans hz (hown.lt q e).1)) (fun e he e1 => by
        obtain rfl := List.mem_singleton.1 he
        have := (hown.lt _ e1).1; have := hm.only.size; dsimp only at *; omega) (fun y hy q e e1 => by
        obtain rfl := List.mem_singleton.1 hy
        have := (hown.lt _ e1).1; cases e; have := hk.lt; dsimp only at *; omega)
      simp only [List.set_cons_zero, List.nil_append, List.cons_append] at hm
      have hmm := hown.le
      have HL := Lib.hid hll
      have HP := Lib.hid hp3
      clear hown hll hp3 h0 hd hd2 hk ho
      go_wp2_with fail
      go_loopg [6, 41] 16 (fun g2 v i wr => ∃ (k : Nat) (A2 : Option Addr) (c2 : Nat), k + g2 = 16 ∧ i = .int .i64 k ∧ v = .slice A2 (3 * k) c2 ∧ Mem (fun q => q = g) w0 wr [⟨g, 69, pcs s (p.more c)⟩] [⟨5, 1, A2, 3 * k, c2, bcells ((l.take k).flatMap Pg.three)⟩, ⟨3, 1, A, 19, m, ncells l⟩] ∧ Only (fun q => w0.heap.size ≤ q) w3 wr)
      case atStart => exact ⟨0, some ⟨n, 0, none⟩, 48, by omega, rfl, rfl, hm, Only.refl _ _⟩
      case round =>
        clear hm
        obtain ⟨k, A2, c2, hkg, rfl, rfl, hm, ho7⟩ := hrel
        cases gk with
        | zero =>
          obtain rfl : k = 16 := by omega
          go_wp2_with fail
          go_ret2
          have h48 : ((l.take 16).flatMap Pg.three).length = 48 := by rw [flat_length, List.length_take, HL.out]; rfl
          refine ⟨A2, c2, by rw [h48]; rfl, ?_, HP.out.away ho7 (fun q hq h2 => by have := HH.out.lt q hq; omega), hm.only⟩
          rw [h48]
          exact hm.freshG 0 0 rfl rfl
        | succ g2 =>
          have hown1 : ∀ q, ownAt A2 c2 = some q → w0.heap.size ≤ q := fun q e => ((hm.freshG 0 0 rfl rfl).lt q e).1
          have i1 : (k : Int) < 16 := by omega
          have p0 : (0 : Int) ≤ (k : Int) := by omega
          obtain ⟨b, o, rfl, hb, ck⟩ := (hm.sl_ 1 rfl).nrow.at_ (k := k) (show k < 19 by omega)
          have hxl := hrt.out (l.getD k 0) (by rw [List.getD, List.getElem?_eq_getElem (by rw [HL.out]; omega)]; exact List.getElem_mem _)
          have HT := Lib.hid (flat_take l k (by rw [HL.out]; omega))
          generalize l.getD k 0 = x at *
          have hc3 := Lib.hid (three_cells x hxl)
          go_wp2_with (first | go_skip | ((with_reducible show wpList _ _ _ _ _ (World.alloc _ _)); refine wpList_up hm ?_; clear hm; intro n w hn hn2 hk hm hd hd2 ho; (try rw [← hn]); replace hn := Nat.le_of_eq hn.symm) | ((first | ((with_reducible show wpList _ _ _ (Oper.mk _ (Op.box _ _) _ _ _ _ :: _) _ _); (refine bxA hm ?_; clear hm; intro n w hn hz hm ho; (try simp only [List.cons_append, List.nil_append] at hm))) | ((with_reducible show wpList _ _ _ (Oper.mk _ (Op.load _ _) _ _ _ _ :: _) _ _); first | (refine ldA hm ?_) | (refine laA hm ?_)) | ((with_reducible show wpList _ _ _ (Oper.mk _ (Op.store _ _ _) _ _ _ _ :: _) _ _); (refine stA hm ?_; clear hm; intro w hz hm ho)) | ((with_reducible show wpList _ _ _ (Oper.mk _ (Op.alloc _) _ _ _ _ :: _) _ _); (refine alA hm ?_; clear hm; intro n w hn hz hm ho; (try simp only [List.cons_append, List.nil_append] at hm)))); try simp only [Act.put, sxQ]) | (at_builtin; refine wpList_ap (by rfl) (.tmp 45) (.tmp 54) 39 rfl 5 ti _ 1 1 Try.underlying39 hi0 hz0 hz1 hz2 rfl (by omega) A2 (3 * k) c2 _ rfl hm 0 rfl _ (some ⟨_, 0, none⟩) 3 3 (bcells (Pg.three x)) rfl (by have := hk.row; rw [hc3.out] at this; exact this) (by simp [Pg.three]) (bcells_one _) (by unfold maxLen; omega) (by omega) ?_; clear hm; intro A3 c3 w hm ho9 hat; (try simp only [Act.put, sxQ])))
          go_roundg g2
          case measure => omega
          case rel =>
            simp only [List.set_cons_zero] at hm
            refine ⟨k + 1, A3, c3, by omega, by go_num, rfl, by rw [HT.out, bcells_append]; exact hm, ?_⟩
            exact (ho7.trans (Only.of_below ho)).trans (ho9.mono fun q _ e => hown1 q e)
theorem page_Read {w0 : World} {g : Nat} {G : Nat → Prop} {s : PgS} {p : Pg.P} (H : PAt w0 g G s p) (i : Int) (hc : p.at_.length = p.count) (hf : ∀ k f, p.at_.getD k none = some f → f < 100000000) (hfx : p.fixed + 20 < 4611686018427387904) :
    Calls Try.prog 17 #[.pointer (some ⟨g, 0, none⟩), .int .i64 i] w0 fun e w' =>
      ∃ A m, e = .returned (.tuple #[.slice A (p.read i).2.1.length m, .int .i64 (p.read i).2.2]) ∧ Own w' w0.heap.size 5 1 A (p.read i).2.1.length m (bcells (p.read i).2.1) ∧ PAt w' g G s (p.read i).1 ∧ Only (fun q => q = g) w0 w' := by
  have HM := Lib.hid (fun (u : World) (h : PAt u g G s p) => page_made h)
  have HA := Lib.hid (fun (u : World) (h : PAt u g G s p) => page_access h i)
  have HH := Lib.hid H
  have e1 : p.read i = if p.access i ≠ 0 then (p, [], p.access i) else (p.more (p.content i.toNat).2.2, (p.content i.toNat).1, (p.content i.toNat).2.1) := rfl
  by_cases ha : p.access i = 0
  · rw [if_neg (by rw [ha]; decide)] at e1
    rw [e1, ]
    have hi : 0 ≤ i ∧ i < p.count := by
      unfold Pg.P.access at ha
      split at ha
      · cases ha
      · split at ha
        · cases ha
        · rename_i h; omega
    obtain ⟨k, rfl⟩ := Int.eq_ofNat_of_zero_le hi.1
    have HC := Lib.hid (fun (u : World) (h : PAt u g G s p) => page_content h k (by omega) (hf k) hfx)
    rw [Int.toNat_natCast]
    rw [ha] at HA
    clear e1 hi ha hf hfx hc H
    go_enter Try.func17, Try.ntmps17
    go_wp2_with fail
    go_at_call 37
    refine (HM.out _ HH.out).mono ?_
    rintro e w1 ⟨rfl, hb1⟩
    go_wp2_with fail
    go_at_call 38
    refine (HA.out _ (HH.out.below hb1)).mono ?_
    rintro e w2 ⟨rfl, hb2⟩
    go_wp2_with fail
    go_at_call 41
    refine (HC.out _ ((HH.out.below hb1).below hb2)).mono ?_
    rintro e w3 ⟨A, m, rfl, hown, hp3, ho3⟩
    go_wp2_with fail
    go_ret2
    have hb := hb1.trans (hb2.mono hb1.size)
    exact ⟨A, m, rfl, hown.mono hb.size, hp3, (Only.of_below hb).trans ho3⟩
  · rw [if_pos ha] at e1
    rw [e1]
    have hz : (p.access i != 0) = true := by simpa using ha
    generalize p.access i = z at *
    clear e1 ha hf hfx hc H
    go_enter Try.func17, Try.ntmps17
    go_wp2_with fail
    go_at_call 37
    refine (HM.out _ HH.out).mono ?_
    rintro e w1 ⟨rfl, hb1⟩
    go_wp2_with fail
    go_at_call 38
    refine (HA.out _ (HH.out.below hb1)).mono ?_
    rintro e w2 ⟨rfl, hb2⟩
    go_wp2_with fail
    go_ret2
    have hb := hb1.trans (hb2.mono hb1.size)
    exact ⟨none, 0, rfl, Own.none_ _ _ _ _ _, HH.out.below hb, Only.of_below hb⟩
end Go.Proofs.Ytnlhammgcemchaa
