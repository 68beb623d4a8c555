/-
  The journal: its log is written.
-/
import Derived.Test.YtmhjddmamknglaaGreatZ0
import Derived.Test.YtmhjddmamknglaaGreatJnI
namespace Go.Proofs.YtmhjddmamknglaaGreat
set_option maxRecDepth 100000
set_option linter.unusedSimpArgs false
set_option linter.unusedVariables false
open Go.RowKit
set_option maxHeartbeats 8000000

theorem padJ_cells (bs : List UInt8) : splice (bcells (zs 48)) 0 (bcells (bs.take 48)) = bcells (Jn.padB bs) := by
  simp only [splice, Jn.padB, bcells, List.take_zero, List.nil_append, List.map_append, List.length_map, Nat.zero_add]
  congr 1
  rw [← List.map_drop, zs, List.drop_replicate]
theorem own_padJ {w : World} {g B : Nat} {bs : List UInt8} (h : Blk w g 5 (bcells bs).toArray) (hg : B ≤ g) (hl : bs.length = 48) : Own w B 5 1 (some ⟨g, 0, none⟩) 48 48 (bcells bs) :=
  ⟨by simp [bcells, hl], Nat.le_refl _, by unfold maxLen; omega, fun _ => ⟨g, _, rfl, hg, h, by simp [bcells, hl], List.take_of_length_le (by simp [bcells, hl])⟩⟩
theorem addr_addJ (q o j : Nat) : Addr.add ⟨q, o, none⟩ j = ⟨q, o + j, none⟩ := by
  unfold Addr.add
  split
  · rename_i h; rw [h]; rfl
  · rfl
section
variable {w0 : World} {g gj B : Nat} {G : Nat → Prop} {s : PgS} {p : Pg.P} {st : List (List UInt8)} {q : Prop}
/-- The log is written, or the power was cut. -/
def LogR (q : Prop) (B n : Nat) (l : List Jn.C) (S : List UInt8) (p' : Pg.P) (er : Int) : Prop :=
  (er = 0 ∧ ∃ st', PL q B p' st' ∧ Jn.Logged st' l ∧ Jn.Ok st' ∧ Jn.flat st' = S ∧ st'.length = n) ∨ (er = 7 ∧ ∃ st', PD q B p' st' ∧ Jn.Means st' S ∧ st'.length = n)
theorem jn_log (hj : JAt w0 gj g) (hd : ¬ G gj) (H : PAt w0 g G s p) (L : PL q B p st) (hB : B ≤ 800000000) (A : Option Addr) (m c : Nat) (l : List Jn.C) (S : List UInt8) (hb : Byt w0 w0.heap.size A m c (Jn.enc l)) (hbd : ∀ a, A = some a → 0 < m → ¬ G a.block)
    (hcl : Jn.Clean st S) (hm0 : 0 < m) (hm1 : m ≤ 1024) (hw : Jn.Within (48 * (st.length - 32)) l) :
    Calls Tryz.prog 33 #[.pointer (some ⟨gj, 0, none⟩), .slice A m c] w0 (JpR w0 g B G s q (LogR q (B + 40000) st.length l S)) := by
  have hE : (Jn.enc l).length = m := hb.1
  have hbig := hcl.ok.big
  have HC : Hid (Mth G w0 w0 [] [] [⟨G, fun u => PAt u g G s p⟩] [⟨fun q => q = gj, fun u => JAt u gj g⟩, ⟨blks #[.slice A m c], fun u => Byt u u.heap.size A m c (Jn.enc l)⟩]) := Lib.hid (Mth.enter w0 G _ _ (fun x hx => by obtain rfl := List.mem_singleton.1 hx; exact H.sup) (List.pairwise_singleton _ _) (fun x hx q hq => by obtain rfl := List.mem_singleton.1 hx; exact hq)
    (fun x hx => by
      rcases List.mem_cons.1 hx with rfl | hx
      · exact ⟨hj.sup, fun y hy q hq e => by obtain rfl := List.mem_singleton.1 hy; exact hd (e ▸ hq)⟩
      · obtain rfl := List.mem_singleton.1 hx
        refine ⟨bytSup hb, fun y hy q hq hq2 => ?_⟩
        obtain rfl := List.mem_singleton.1 hy
        obtain ⟨A1, n1, c1, a1, h1, h2, h3, h4⟩ := hq2
        simp at h1
        obtain ⟨rfl, rfl, rfl⟩ := h1
        exact hbd a1 h3 h2 (h4 ▸ hq)))
  have RKJ := Lib.hid (JAt.rng hj hd)
  have hm := HC.out.rebase
  have HL := Lib.hid L
  have HCL := Lib.hid hcl
  have HB := Lib.hid (And.intro hE (And.intro hm1 (And.intro hbig hw)))
  obtain ⟨ab, ao, hAe, _⟩ := hb.at_ hm0
  have hmc := hb.2.1
  subst hAe
  have m48 : ∀ u : World, (Instr.makeSlice 33 (.int .i64 48) (.int .i64 48)).run Tryz.prog u = .ok (.slice (some ⟨u.heap.size, 0, none⟩) 48 48) (u.alloc (.cells (zc 48) 5)) := fun _ => by kernel_rfl
  clear hj hd H L hb hbd hcl hw
  go_enter Tryz.func33, Tryz.ntmps33
  go_wp2_with (first | go_skip | ((with_reducible show wpList _ _ _ _ _ (World.alloc _ _)); refine wpList_up hm ?_; clear hm; intro n w hn hn2 hk hm hd hd2 ho; (try rw [← hn]); replace hn := Nat.le_of_eq hn.symm) | ((first | ((with_reducible show wpList _ _ _ (Oper.mk _ (Op.box _ _) _ _ _ _ :: _) _ _); (refine bxA hm ?_; clear hm; intro n w hn hz hm ho; (try simp only [List.cons_append, List.nil_append] at hm))) | ((with_reducible show wpList _ _ _ (Oper.mk _ (Op.load _ _) _ _ _ _ :: _) _ _); first | (refine ldA hm ?_) | (refine laA hm ?_) | (refine lcA (RKJ.out _ (HC.out.resync hm).low) ?_) | (refine lrA (RKJ.out _ (HC.out.resync hm).low) ?_)) | ((with_reducible show wpList _ _ _ (Oper.mk _ (Op.store _ _ _) _ _ _ _ :: _) _ _); (refine stA hm ?_; clear hm; intro w hz hm ho)) | ((with_reducible show wpList _ _ _ (Oper.mk _ (Op.alloc _) _ _ _ _ :: _) _ _); (refine alA hm ?_; clear hm; intro n w hn hz hm ho; (try simp only [List.cons_append, List.nil_append] at hm)))); try simp only [Act.put, sxQ]))
  go_loopg [5] (m + 1) (fun gk v5 wr => ∃ i p1 st1 G1 s1, 48 * i < m + 48 ∧ i + gk = m + 1 ∧ v5 = .int .i64 (i : Int) ∧ PL q (B + 1200 * i) p1 st1 ∧ Jn.Clean st1 S ∧ Jn.LogK st1 (Jn.enc l) (48 * i) ∧ st1.length = st.length ∧ s1.gm = s.gm ∧ Mth G w0 wr [] [] [⟨G1, fun u => PAt u g G1 s1 p1⟩] [⟨fun q => q = gj, fun u => JAt u gj g⟩, ⟨blks #[.slice (some ⟨ab, ao, none⟩) m c], fun u => Byt u u.heap.size (some ⟨ab, ao, none⟩) m c (Jn.enc l)⟩])
  case atStart => exact ⟨0, p, st, G, s, by omega, by omega, rfl, HL.out, HCL.out, fun a ha => by omega, rfl, rfl, HC.out⟩
  case round =>
    clear HC hm
    obtain ⟨i, p1, st1, G1, s1, hi48, hig, rfl, hL, hcl, hlk, hsl, hgm, hsc⟩ := hrel
    have HC := Lib.hid hsc
    have HL1 := Lib.hid hL
    have HC1 := Lib.hid (And.intro hcl (And.intro hlk (And.intro hsl hgm)))
    have hm := HC.out.rebase
    clear hsc hL hcl hlk hsl hgm
    have u1 : wrap64 ((i : Int) * 48) = ((i * 48 : Nat) : Int) := by rw [IntWalk.wrap64_in _ (by omega)]; omega
    by_cases hdone : m ≤ i * 48
    · have i1 : decide (i * 48 < m) = false := decide_eq_false (by omega)
      go_wp2_with (first | go_skip | ((with_reducible show wpList _ _ _ _ _ (World.alloc _ _)); refine wpList_up hm ?_; clear hm; intro n w hn hn2 hk hm hd hd2 ho; (try rw [← hn]); replace hn := Nat.le_of_eq hn.symm) | ((first | ((with_reducible show wpList _ _ _ (Oper.mk _ (Op.box _ _) _ _ _ _ :: _) _ _); (refine bxA hm ?_; clear hm; intro n w hn hz hm ho; (try simp only [List.cons_append, List.nil_append] at hm))) | ((with_reducible show wpList _ _ _ (Oper.mk _ (Op.load _ _) _ _ _ _ :: _) _ _); first | (refine ldA hm ?_) | (refine laA hm ?_) | (refine lcA (RKJ.out _ (HC.out.resync hm).low) ?_) | (refine lrA (RKJ.out _ (HC.out.resync hm).low) ?_)) | ((with_reducible show wpList _ _ _ (Oper.mk _ (Op.store _ _ _) _ _ _ _ :: _) _ _); (refine stA hm ?_; clear hm; intro w hz hm ho)) | ((with_reducible show wpList _ _ _ (Oper.mk _ (Op.alloc _) _ _ _ _ :: _) _ _); (refine alA hm ?_; clear hm; intro n w hn hz hm ho; (try simp only [List.cons_append, List.nil_append] at hm)))); try simp only [Act.put, sxQ]))
      go_at_call 52
      have hsc := HC.out.resync hm
      have hcl := HC1.out
      have hE := HB.out
      refine (jn_head (hsc.val 0 rfl) (fun e => (hsc.scn.vs _ List.mem_cons_self).2.1 _ List.mem_cons_self gj e rfl) (hsc.obj 0 rfl) HL1.out (by omega) m (by omega)).mono ?_
      rintro e w5 ⟨p', G', s', er, rfl, hp5, hr5, hF5, ho5, hg5⟩
      have hc2 := hsc.turn 0 rfl ho5 hF5 hp5.sup
      have HR5 := Lib.hid hr5
      have HG5 := Lib.hid (hg5.trans hcl.2.2.2)
      clear hp5 hr5 hF5 ho5 hg5 hsc hcl hE
      clear HC hm
      simp only [List.nil_append, List.cons_append, List.set_cons_zero, List.set_cons_succ] at hc2
      have HC := Lib.hid hc2
      clear hc2
      have hm := HC.out.rebase
      go_wp2_with (first | go_skip | ((with_reducible show wpList _ _ _ _ _ (World.alloc _ _)); refine wpList_up hm ?_; clear hm; intro n w hn hn2 hk hm hd hd2 ho; (try rw [← hn]); replace hn := Nat.le_of_eq hn.symm) | ((first | ((with_reducible show wpList _ _ _ (Oper.mk _ (Op.box _ _) _ _ _ _ :: _) _ _); (refine bxA hm ?_; clear hm; intro n w hn hz hm ho; (try simp only [List.cons_append, List.nil_append] at hm))) | ((with_reducible show wpList _ _ _ (Oper.mk _ (Op.load _ _) _ _ _ _ :: _) _ _); first | (refine ldA hm ?_) | (refine laA hm ?_) | (refine lcA (RKJ.out _ (HC.out.resync hm).low) ?_) | (refine lrA (RKJ.out _ (HC.out.resync hm).low) ?_)) | ((with_reducible show wpList _ _ _ (Oper.mk _ (Op.store _ _ _) _ _ _ _ :: _) _ _); (refine stA hm ?_; clear hm; intro w hz hm ho)) | ((with_reducible show wpList _ _ _ (Oper.mk _ (Op.alloc _) _ _ _ _ :: _) _ _); (refine alA hm ?_; clear hm; intro n w hn hz hm ho; (try simp only [List.cons_append, List.nil_append] at hm)))); try simp only [Act.put, sxQ]))
      go_ret
      have hsc := HC.out.resync hm
      refine ⟨p', G', s', er, rfl, hsc.obj 0 rfl, ?_, hsc.fold _ List.mem_cons_self, hsc.low, HG5.out⟩
      obtain ⟨hcl, hlk, hsl, _⟩ := HC1.out
      obtain ⟨hE, hm1, hbig, hw⟩ := HB.out
      rcases HR5.out with ⟨rfl, hl5⟩ | ⟨rfl, hd5⟩
      · obtain ⟨h1, h2, h3⟩ := hcl.begun (l := l) (fun a ha _ => hlk a (by omega) ha) (by omega) (by omega) (by rw [hsl]; exact hw)
        rw [hE] at h1 h2 h3
        exact .inl ⟨rfl, _, hl5.mono (by omega), h1, h2, h3, by rw [List.length_set]; exact hsl⟩
      · exact .inr ⟨rfl, _, hd5.mono (by omega), hcl.means, hsl⟩
    · have i1 : decide (i * 48 < m) = true := decide_eq_true (by omega)
      have hmi : i * 48 < m := by omega
      have HE := Lib.hid (fun (u : World) (h : Byt u u.heap.size (some ⟨ab, ao, none⟩) m c (Jn.enc l)) => show ∀ j v, (bcells (((Jn.enc l).drop (48 * i)).take 48))[j]? = some v → u.cell? ((⟨ab, ao + i * 48, none⟩ : Addr).add j) = some v by
        have h1 : Row u u.heap.size (some ⟨ab, ao + 48 * i, none⟩) ((bcells (Jn.enc l)).drop (48 * i)) := Row.drop h.2.2 (48 * i)
        have h2 := Row.take h1 48
        have h3 : bcells (((Jn.enc l).drop (48 * i)).take 48) = ((bcells (Jn.enc l)).drop (48 * i)).take 48 := by rw [bcells, List.map_take, List.map_drop]; rfl
        intro j v hv
        rw [h3] at hv
        have hjl := (List.getElem?_eq_some_iff.1 hv).1
        obtain ⟨b2, o2, e2, _, hc2⟩ := h2 (by omega)
        cases e2
        rw [addr_addJ, Nat.mul_comm i 48]
        exact (hc2 j hjl).trans hv)
      have hN : (((Jn.enc l).drop (48 * i)).take 48).length = Nat.min (m - i * 48) 48 := by
        rw [List.length_take, List.length_drop, HB.out.1, Nat.mul_comm i 48]; exact Nat.min_comm _ _
      have hN2 : (((Jn.enc l).drop (48 * i)).take 48).length = Nat.min 48 (m - i * 48) := by rw [hN]; exact Nat.min_comm _ _
      go_upto_region 6 with (first | go_skip | ((with_reducible show wpList _ _ _ _ _ (World.alloc _ _)); refine wpList_up hm ?_; clear hm; intro n w hn hn2 hk hm hd hd2 ho; (try rw [← hn]); replace hn := Nat.le_of_eq hn.symm) | ((first | ((with_reducible show wpList _ _ _ (Oper.mk _ (Op.box _ _) _ _ _ _ :: _) _ _); (refine bxA hm ?_; clear hm; intro n w hn hz hm ho; (try simp only [List.cons_append, List.nil_append] at hm))) | ((with_reducible show wpList _ _ _ (Oper.mk _ (Op.load _ _) _ _ _ _ :: _) _ _); first | (refine ldA hm ?_) | (refine laA hm ?_) | (refine lcA (RKJ.out _ (HC.out.resync hm).low) ?_) | (refine lrA (RKJ.out _ (HC.out.resync hm).low) ?_)) | ((with_reducible show wpList _ _ _ (Oper.mk _ (Op.store _ _ _) _ _ _ _ :: _) _ _); (refine stA hm ?_; clear hm; intro w hz hm ho)) | ((with_reducible show wpList _ _ _ (Oper.mk _ (Op.alloc _) _ _ _ _ :: _) _ _); (refine alA hm ?_; clear hm; intro n w hn hz hm ho; (try simp only [List.cons_append, List.nil_append] at hm)))); try simp only [Act.put, sxQ]))
      go_wp2_with (first | go_skip | ((with_reducible show wpList _ _ _ _ _ (World.alloc _ _)); refine wpList_up hm ?_; clear hm; intro n w hn hn2 hk hm hd hd2 ho; (try rw [← hn]); replace hn := Nat.le_of_eq hn.symm) | ((first | ((with_reducible show wpList _ _ _ (Oper.mk _ (Op.box _ _) _ _ _ _ :: _) _ _); (refine bxA hm ?_; clear hm; intro n w hn hz hm ho; (try simp only [List.cons_append, List.nil_append] at hm))) | ((with_reducible show wpList _ _ _ (Oper.mk _ (Op.load _ _) _ _ _ _ :: _) _ _); first | (refine ldA hm ?_) | (refine laA hm ?_) | (refine lcA (RKJ.out _ (HC.out.resync hm).low) ?_) | (refine lrA (RKJ.out _ (HC.out.resync hm).low) ?_)) | ((with_reducible show wpList _ _ _ (Oper.mk _ (Op.store _ _ _) _ _ _ _ :: _) _ _); (refine stA hm ?_; clear hm; intro w hz hm ho)) | ((with_reducible show wpList _ _ _ (Oper.mk _ (Op.alloc _) _ _ _ _ :: _) _ _); (refine alA hm ?_; clear hm; intro n w hn hz hm ho; (try simp only [List.cons_append, List.nil_append] at hm)))); try simp only [Act.put, sxQ]) | ((with_reducible show wpList _ _ _ (Oper.mk _ (Op.call { callee := Callee.builtin Builtin.copy, args := _, argTypes := _ }) _ _ _ _ :: _) _ _); refine wpList_copy_splice rfl (.tmp 21) (.tmp 22) 33 33 rfl 5 Tryz.underlying33 (by kernel_rfl) _ _ 48 48 (m - i * 48) (c - i * 48) rfl rfl n 0 (bcells (zs 48)) 5 hk (bcells (((Jn.enc l).drop (48 * i)).take 48)) (by rw [bcells, List.length_map]; exact hN) (fun h0 => ⟨rfl, _, rfl, HE.out _ ((HC.out.resync hm).val 1 rfl)⟩) (by simp [bcells, zs]; omega) (fun v hv => bcells_one _ v hv) wr.heap.size wr (hm.only.below (Nat.le_refl _) (by rintro k _ ⟨e, he, _⟩; cases he)) hn2 ?_; intro w3 hw3 hb3; have hc2 := HC.out.got hb3 (own_padJ (bs := Jn.pieceOf (Jn.enc l) i) (by have h9 := hw3.out; rw [padJ_cells] at h9; exact h9) hn2 (Jn.padB_length _)); clear hw3 hb3 HC hm hk hd hd2; simp only [List.nil_append, List.cons_append] at hc2; have HC := Lib.hid hc2; clear hc2; have hm := HC.out.rebase))
      go_at_call 51
      have hsc := HC.out.resync hm
      have hcl := HC1.out
      have hE := HB.out
      have hi1 : 1 + i < st1.length := by rw [hcl.2.2.1]; omega
      refine (jp_Write (hsc.obj 0 rfl) HL1.out (by omega) (1 + i) hi1 (some ⟨n, 0, none⟩) 48 (Jn.pieceOf (Jn.enc l) i) ⟨hsc.byt 0 rfl, fun a e => (hsc.bytO 0 0 rfl rfl).2 a e (by omega)⟩).mono ?_
      rintro e w5 ⟨p', G', s', er, rfl, hp5, hr5, hF5, ho5, hg5⟩
      have hc2 := hsc.turn 0 rfl ho5 hF5 hp5.sup
      have HR5 := Lib.hid hr5
      have HG5 := Lib.hid (hg5.trans hcl.2.2.2)
      have HI1 := Lib.hid hi1
      clear hp5 hr5 hF5 ho5 hg5 hsc hcl hE hi1
      clear HC hm
      simp only [List.nil_append, List.cons_append, List.set_cons_zero, List.set_cons_succ] at hc2
      have HC := Lib.hid hc2
      clear hc2
      have hm := HC.out.rebase
      rcases HR5.out with ⟨rfl, hl5⟩ | ⟨rfl, hd5⟩
      · have HL5 := Lib.hid hl5
        clear hl5 HR5
        go_wp2_with (first | go_skip | ((with_reducible show wpList _ _ _ _ _ (World.alloc _ _)); refine wpList_up hm ?_; clear hm; intro n w hn hn2 hk hm hd hd2 ho; (try rw [← hn]); replace hn := Nat.le_of_eq hn.symm) | ((first | ((with_reducible show wpList _ _ _ (Oper.mk _ (Op.box _ _) _ _ _ _ :: _) _ _); (refine bxA hm ?_; clear hm; intro n w hn hz hm ho; (try simp only [List.cons_append, List.nil_append] at hm))) | ((with_reducible show wpList _ _ _ (Oper.mk _ (Op.load _ _) _ _ _ _ :: _) _ _); first | (refine ldA hm ?_) | (refine laA hm ?_) | (refine lcA (RKJ.out _ (HC.out.resync hm).low) ?_) | (refine lrA (RKJ.out _ (HC.out.resync hm).low) ?_)) | ((with_reducible show wpList _ _ _ (Oper.mk _ (Op.store _ _ _) _ _ _ _ :: _) _ _); (refine stA hm ?_; clear hm; intro w hz hm ho)) | ((with_reducible show wpList _ _ _ (Oper.mk _ (Op.alloc _) _ _ _ _ :: _) _ _); (refine alA hm ?_; clear hm; intro n w hn hz hm ho; (try simp only [List.cons_append, List.nil_append] at hm)))); try simp only [Act.put, sxQ]))
        obtain ⟨hcl, hlk, hsl, _⟩ := HC1.out
        obtain ⟨hE, hm1, hbig, hw⟩ := HB.out
        obtain ⟨j, rfl⟩ : ∃ j, gk = j + 1 := ⟨gk - 1, by omega⟩
        go_roundg j
        case measure => omega
        case rel => exact ⟨i + 1, p', _, G', s', by omega, by omega, by go_num, HL5.out.mono (by omega), hcl.log (by omega) (by omega) (Jn.padB_length _), hlk.next hcl.ok HI1.out, by rw [List.length_set]; exact hsl, HG5.out, (HC.out.resync hm).keep 0 0 0⟩
      · have HD5 := Lib.hid hd5
        clear hd5 HR5
        go_wp2_with (first | go_skip | ((with_reducible show wpList _ _ _ _ _ (World.alloc _ _)); refine wpList_up hm ?_; clear hm; intro n w hn hn2 hk hm hd hd2 ho; (try rw [← hn]); replace hn := Nat.le_of_eq hn.symm) | ((first | ((with_reducible show wpList _ _ _ (Oper.mk _ (Op.box _ _) _ _ _ _ :: _) _ _); (refine bxA hm ?_; clear hm; intro n w hn hz hm ho; (try simp only [List.cons_append, List.nil_append] at hm))) | ((with_reducible show wpList _ _ _ (Oper.mk _ (Op.load _ _) _ _ _ _ :: _) _ _); first | (refine ldA hm ?_) | (refine laA hm ?_) | (refine lcA (RKJ.out _ (HC.out.resync hm).low) ?_) | (refine lrA (RKJ.out _ (HC.out.resync hm).low) ?_)) | ((with_reducible show wpList _ _ _ (Oper.mk _ (Op.store _ _ _) _ _ _ _ :: _) _ _); (refine stA hm ?_; clear hm; intro w hz hm ho)) | ((with_reducible show wpList _ _ _ (Oper.mk _ (Op.alloc _) _ _ _ _ :: _) _ _); (refine alA hm ?_; clear hm; intro n w hn hz hm ho; (try simp only [List.cons_append, List.nil_append] at hm)))); try simp only [Act.put, sxQ]))
        go_ret
        have hsc := HC.out.resync hm
        obtain ⟨hcl, hlk, hsl, _⟩ := HC1.out
        exact ⟨p', G', s', 7, rfl, hsc.obj 0 rfl, .inr ⟨rfl, _, HD5.out.mono (by omega), hcl.means, hsl⟩, hsc.fold _ List.mem_cons_self, hsc.low, HG5.out⟩
end
end Go.Proofs.YtmhjddmamknglaaGreat
