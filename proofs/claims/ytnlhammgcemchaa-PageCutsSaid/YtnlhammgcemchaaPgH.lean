/-
  The walks of headers and of its iterator.
-/
import Derived.Test.YtnlhammgcemchaaZ0
import Derived.Test.YtnlhammgcemchaaPgU
import Derived.Test.YtnlhammgcemchaaPgG
namespace Go.Proofs.Ytnlhammgcemchaa
set_option maxRecDepth 100000
set_option linter.unusedSimpArgs false
set_option linter.unusedVariables false
open Go.RowKit
set_option maxHeartbeats 8000000

theorem page_headers (w0 : World) (g : Nat) : Calls Try.prog 34 #[.pointer (some ⟨g, 0, none⟩)] w0 fun e w' => ∃ pb, e = .returned (.func (.func 45) #[] #[.pointer (some ⟨pb, 0, none⟩)]) ∧ w0.heap.size ≤ pb ∧ Blk w' pb 31 #[.pointer (some ⟨g, 0, none⟩)] ∧ Below w0.heap.size w0 w' := by
  have hmf : ∀ (fn : Fn) (a b : Array Value) (u : World), (Instr.makeFunc fn a b).run Try.prog u = .ok (.func fn a b) u := make_func
  have hm := Mem.nil (fun _ => False) w0
  go_enter Try.func34, Try.ntmps34
  go_wp2_with (first | go_skip | ((with_reducible show wpList _ _ _ _ _ (World.alloc _ _)); refine wpList_up hm ?_; clear hm; intro n w hn hn2 hk hm hd hd2 ho; (try rw [← hn]); replace hn := Nat.le_of_eq hn.symm) | ((first | ((with_reducible show wpList _ _ _ (Oper.mk _ (Op.box _ _) _ _ _ _ :: _) _ _); (refine bxA hm ?_; clear hm; intro n w hn hz hm ho; (try simp only [List.cons_append, List.nil_append] at hm))) | ((with_reducible show wpList _ _ _ (Oper.mk _ (Op.load _ _) _ _ _ _ :: _) _ _); first | (refine ldA hm ?_) | (refine laA hm ?_)) | ((with_reducible show wpList _ _ _ (Oper.mk _ (Op.store _ _ _) _ _ _ _ :: _) _ _); (refine stA hm ?_; clear hm; intro w hz hm ho)) | ((with_reducible show wpList _ _ _ (Oper.mk _ (Op.alloc _) _ _ _ _ :: _) _ _); (refine alA hm ?_; clear hm; intro n w hn hz hm ho; (try simp only [List.cons_append, List.nil_append] at hm)))); try simp only [Act.put, sxQ]))
  go_ret
  exact ⟨_, rfl, hn, hm.at_ 0 rfl, hm.low⟩
/-- Pages that Open makes: their memory is what it has made, and the words. -/
theorem PAt.opened {w0 w : World} {g : Nat} {s : PgS} {p : Pg.P} (hM : MemAt w s.gm s.gw s.gv s.n s.cw s.cv p.m) (hl : s.gm < w0.heap.size ∧ s.gw < w0.heap.size ∧ s.gv < w0.heap.size) (hb : Blk w g 69 (pcs s p)) (hA : Blk w s.A 3 (ecells p.at_ ++ s.ra).toArray) (hH : Blk w s.Ho 3 (ecells p.holds ++ s.rh).toArray)
    (hF : s.F = none) (hf : p.freed = []) (h1 : w0.heap.size ≤ g) (h2 : w0.heap.size ≤ s.A) (h3 : w0.heap.size ≤ s.Ho) (d1 : g ≠ s.A) (d2 : g ≠ s.Ho) (d3 : s.A ≠ s.Ho) : PAt w g (fun q => q ∈ [g, s.gm, s.gw, s.gv, s.A, s.Ho]) s p := by
  obtain ⟨l1, l2, l3⟩ := hl
  have n1 := hM.gw_ne; have n2 := hM.gv_ne; have n3 := hM.wv_ne
  refine { blk := hb, mem := hM, at_ := hA, holds := hH, freed := ?_, cap := by rw [hf]; exact Nat.zero_le _, hg := fun q hq => hq, hF := fun a e => (by rw [hF] at e; cases e), ne := ?_, nF := fun a e => (by rw [hF] at e; cases e), lt := fun q hq => ?_ }
  · rw [hF, hf]
    exact fun hn => absurd hn (Nat.lt_irrefl 0)
  · simp only [List.nodup_cons, List.mem_cons, List.not_mem_nil, or_false, not_or, List.nodup_nil, and_true]
    refine ⟨⟨?_, ?_, ?_, d1, d2⟩, ⟨?_, ?_, ?_, ?_⟩, ⟨?_, ?_, ?_⟩, ⟨?_, ?_⟩, d3, not_false⟩ <;> omega
  · simp only [List.mem_cons, List.not_mem_nil, or_false] at hq
    rcases hq with rfl | rfl | rfl | rfl | rfl | rfl
    · exact hb.lt
    · exact hM.box.lt
    · exact (hM.words.lt _ (ownAt_some (by have := hM.words.le; have := hM.pos; omega) rfl)).2
    · exact (hM.wear.lt _ (ownAt_some (by have := hM.wear.le; have := hM.pos; omega) rfl)).2
    · exact hA.lt
    · exact hH.lt
/-- Where Open's own variables lie. -/
structure OpS where
  n2 : Nat
  n3 : Nat
  g : Nat
  n4 : Nat
  V : Nat
  n5 : Nat
  pb : Nat
/-- What is known between two headers. -/
def opL (x : OpS) (s : PgS) (q : Pg.O) : List Ent := [⟨x.pb, 31, #[.pointer (some ⟨x.g, 0, none⟩)]⟩, ⟨x.V, 3, (ncells q.vs).toArray⟩, ⟨s.Ho, 3, (ecells q.p.holds ++ s.rh).toArray⟩, ⟨s.A, 3, (ecells q.p.at_ ++ s.ra).toArray⟩,
  ⟨x.n2, 31, #[.pointer none]⟩, ⟨x.n3, 26, #[.int .i64 0]⟩, ⟨x.g, 69, pcs s q.p⟩, ⟨x.n4, 31, #[.pointer (some ⟨x.g, 0, none⟩)]⟩, ⟨x.n5, 63, #[.slice (some ⟨x.V, 0, none⟩) q.vs.length q.vs.length]⟩]
theorem Mem.apart {R : Nat → Prop} {s w : World} {L : List Ent} {O : List Osl} (h : Mem R s w L O) (i j : Nat) (hij : i ≠ j) {a b : Ent} (hi : L[i]? = some a) (hj : L[j]? = some b) : a.g ≠ b.g := fun e => by
  obtain ⟨h1, h2⟩ := List.getElem?_eq_some_iff.1 hi
  obtain ⟨h3, h4⟩ := List.getElem?_eq_some_iff.1 hj
  have h5 : (L.map (·.g))[i]'(by simpa using h1) = (L.map (·.g))[j]'(by simpa using h3) := by rw [List.getElem_map, List.getElem_map, h2, h4, e]
  exact hij ((List.getElem_inj h.diff).1 h5)
def OpI (w0 : World) (m : Cel.Mem) (x : OpS) (s : PgS) (k : Nat) (W : World) : Prop := ∃ q, Pg.scan m (Pg.start m) k = some q ∧ Mem (fun _ => False) w0 W (opL x s q) []
/-- Behind the next header. -/
def OpH (w0 : World) (m : Cel.Mem) (x : OpS) (s : PgS) (k : Nat) (W : World) : Prop := ∃ q, Pg.scan m (Pg.start m) k = some q ∧ k < m.words.length / 20 ∧ Mem (fun _ => False) w0 W (opL x s (q.more (Pg.header m (m.words.length / 24) k).2)) []
structure OpOk (w0 : World) (m : Cel.Mem) (x : OpS) (s : PgS) : Prop where
  mem : MemAt w0 s.gm s.gw s.gv s.n s.cw s.cv m
  F : s.F = none
theorem MemAt.lts {w : World} {g gw gv n cw cv : Nat} {m : Cel.Mem} (hM : MemAt w g gw gv n cw cv m) : g < w.heap.size ∧ gw < w.heap.size ∧ gv < w.heap.size :=
  ⟨hM.box.lt, (hM.words.lt _ (ownAt_some (by have := hM.words.le; have := hM.pos; omega) rfl)).2, (hM.wear.lt _ (ownAt_some (by have := hM.wear.le; have := hM.pos; omega) rfl)).2⟩
/-- The pages, as they lie there. -/
theorem OpOk.pat {w0 W : World} {m : Cel.Mem} {x : OpS} {s : PgS} {q : Pg.O} (h : OpOk w0 m x s) (hm : Mem (fun _ => False) w0 W (opL x s q) []) (hq : q.p.m = m) (hf : q.p.freed = []) : PAt W x.g (fun k => k ∈ [x.g, s.gm, s.gw, s.gv, s.A, s.Ho]) s q.p := by
  have hge := fun (k : Nat) (e : Ent) (hk : (opL x s q)[k]? = some e) => (hm.own e (List.mem_of_getElem? hk)).resolve_left id
  have hM : MemAt W s.gm s.gw s.gv s.n s.cw s.cv q.p.m := by rw [hq]; exact h.mem.below hm.low
  exact PAt.opened hM h.mem.lts (hm.at_ 6 rfl) (hm.at_ 3 rfl) (hm.at_ 2 rfl) h.F hf (hge 6 _ rfl) (hge 3 _ rfl) (hge 2 _ rfl) (hm.apart 6 3 (by decide) rfl rfl) (hm.apart 6 2 (by decide) rfl rfl) (hm.apart 3 2 (by decide) rfl rfl)
theorem start_kept {m : Cel.Mem} {q : Pg.O} {k : Nat} (h : Pg.scan m (Pg.start m) k = some q) : q.p.m = m ∧ q.p.cuts = m.cuts ∧ q.p.count = m.words.length / 24 ∧ q.p.frames = m.words.length / 20 ∧ q.p.turn = 0 ∧ q.p.freed = [] ∧ q.p.at_.length = m.words.length / 24 ∧ q.p.holds.length = m.words.length / 20 ∧ q.vs.length = m.words.length / 20 ∧ q.p.fixed ≤ 21 * k := by
  have hk := Pg.scan_kept k q h
  refine ⟨hk.m, hk.cuts, hk.count, hk.frames, hk.turn, hk.freed, hk.la.trans (by simp [Pg.start]), hk.lh.trans (by simp [Pg.start]), hk.lv.trans (by simp [Pg.start]), ?_⟩
  have := hk.fixed
  have e : (Pg.start m).p.fixed = 0 := rfl
  omega
theorem OpI.pat {w0 W : World} {m : Cel.Mem} {x : OpS} {s : PgS} {q : Pg.O} {k : Nat} (h : OpOk w0 m x s) (hq : Pg.scan m (Pg.start m) k = some q) (hm : Mem (fun _ => False) w0 W (opL x s q) []) : PAt W x.g (fun k => k ∈ [x.g, s.gm, s.gw, s.gv, s.A, s.Ho]) s q.p :=
  h.pat hm (start_kept hq).1 (start_kept hq).2.2.2.2.2.1
def OpBad (w0 : World) (m : Cel.Mem) (x : OpS) (c : Code) (W : World) : Prop := c = .ret ∧ Pg.scan m (Pg.start m) (m.words.length / 20) = none ∧ Below w0.heap.size w0 W ∧ W.cell? ⟨x.n2, 0, none⟩ = some (.pointer none) ∧ W.cell? ⟨x.n3, 0, none⟩ = some (.int .i64 9)
theorem page_iter {w0 : World} {m : Cel.Mem} {x : OpS} {s : PgS} (h : OpOk w0 m x s) (B : Nat) :
    Iter Try.prog 45 #[.pointer (some ⟨x.pb, 0, none⟩)] (fun k : Nat => #[.int .i64 (k : Int), hdV (Pg.header m (m.words.length / 24) k).1]) B (OpI w0 m x s 0) (OpI w0 m x s (m.words.length / 20)) (OpH w0 m x s) (fun k => OpI w0 m x s (k + 1)) (OpBad w0 m x) := by
  intro l Y Z W1 hBl hY hZ hr hI hY1
  have hsm := h.mem.small
  have hlen := h.mem.len
  obtain ⟨q0, hq0, hm⟩ := hI
  have hk0 := start_kept hq0
  have HOK := Lib.hid h
  have HYK := Lib.hid hY
  have HR := Lib.hid hr
  have HY1 := Lib.hid hY1
  have HQ0 := Lib.hid hq0
  have hm1 := hm
  have HM1 := Lib.hid hm1
  clear hm1 h hY hr hY1 hZ hq0
  simp only [opL, pcs] at hm
  rw [hk0.2.2.2.1] at hm
  generalize hfr : m.words.length / 20 = fr at *
  refine callsIn_of_wp Try.func45 rfl trivial ((wpIn_wide (n := 0)).2 ?_) rfl
  simp only [Try.ntmps45, List.size_toArray, List.length_cons, List.length_nil, Nat.reduceAdd, Nat.reduceSub, Array.replicate_succ, Array.replicate_zero, List.push_toArray, List.append_toArray, List.nil_append, List.cons_append]
  go_wp2_with (first | go_skip | ((with_reducible show wpList _ _ _ _ _ (World.alloc _ _)); refine wpList_up hm ?_; clear hm; intro n w hn hn2 hk hm hd hd2 ho; (try rw [← hn]); replace hn := Nat.le_of_eq hn.symm) | ((first | ((with_reducible show wpList _ _ _ (Oper.mk _ (Op.box _ _) _ _ _ _ :: _) _ _); (refine bxA hm ?_; clear hm; intro n w hn hz hm ho; (try simp only [List.cons_append, List.nil_append] at hm))) | ((with_reducible show wpList _ _ _ (Oper.mk _ (Op.load _ _) _ _ _ _ :: _) _ _); first | (refine ldA hm ?_) | (refine laA hm ?_)) | ((with_reducible show wpList _ _ _ (Oper.mk _ (Op.store _ _ _) _ _ _ _ :: _) _ _); (refine stA hm ?_; clear hm; intro w hz hm ho)) | ((with_reducible show wpList _ _ _ (Oper.mk _ (Op.alloc _) _ _ _ _ :: _) _ _); (refine alA hm ?_; clear hm; intro n w hn hz hm ho; (try simp only [List.cons_append, List.nil_append] at hm)))); try simp only [Act.put, sxQ]))
  clear hm
  go_loopg [3, 8] fr (fun g2 v3 j wr => ∃ k : Nat, k + g2 = fr ∧ j = .int .i64 (k : Int) ∧ OpI w0 m x s k wr ∧ Y wr)
  case atStart => exact ⟨0, by omega, rfl, ⟨q0, HQ0.out, HM1.out⟩, HY1.out⟩
  case round =>
    clear HY1 HM1 HQ0 hk0
    obtain ⟨k, hkg, rfl, ⟨q, hq, hm⟩, hYk⟩ := hrel
    cases gk with
    | zero =>
      obtain rfl : k = fr := by omega
      go_wp2_with fail
      go_end0
      exact ⟨⟨_, rfl⟩, .inl ⟨⟨q, hq, hm⟩, hYk⟩⟩
    | succ g2 =>
      have ik : (k : Int) < (fr : Int) := by omega
      have hk0 := start_kept hq
      have hp := OpI.pat HOK.out hq hm
      have hHD := page_header hp k (by omega) (by omega)
      rw [hk0.1, hk0.2.2.1] at hHD
      have hHN : ∀ W', PAt W' x.g (fun k => k ∈ [x.g, s.gm, s.gw, s.gv, s.A, s.Ho]) s (q.p.more (Pg.header m (m.words.length / 24) k).2) → Only (fun z => z = x.g) wr W' → OpH w0 m x s k W' ∧ Y W' := fun W' h1 h2 => by
        refine ⟨⟨q, hq, by rw [hfr]; omega, ?_⟩, HYK.out _ _ hYk (KeepsOthers.of_only h2 fun z hz => ⟨_, _, hz ▸ hm.at_ 6 rfl⟩)⟩
        exact hm.put 6 rfl h2 h1.blk
      have hRk := HR.out k
      generalize Pg.header m (m.words.length / 24) k = hd at *
      have HHD := Lib.hid hHD
      have HHN := Lib.hid hHN
      have HRK := Lib.hid hRk
      have hm' := hm
      simp only [opL] at hm'
      clear hm hHD hHN hRk hp hk0 hq
      have hm := hm'
      clear hm'
      go_upto_region 3 with (first | go_skip | ((with_reducible show wpList _ _ _ _ _ (World.alloc _ _)); refine wpList_up hm ?_; clear hm; intro n w hn hn2 hk hm hd hd2 ho; (try rw [← hn]); replace hn := Nat.le_of_eq hn.symm) | ((first | ((with_reducible show wpList _ _ _ (Oper.mk _ (Op.box _ _) _ _ _ _ :: _) _ _); (refine bxA hm ?_; clear hm; intro n w hn hz hm ho; (try simp only [List.cons_append, List.nil_append] at hm))) | ((with_reducible show wpList _ _ _ (Oper.mk _ (Op.load _ _) _ _ _ _ :: _) _ _); first | (refine ldA hm ?_) | (refine laA hm ?_)) | ((with_reducible show wpList _ _ _ (Oper.mk _ (Op.store _ _ _) _ _ _ _ :: _) _ _); (refine stA hm ?_; clear hm; intro w hz hm ho)) | ((with_reducible show wpList _ _ _ (Oper.mk _ (Op.alloc _) _ _ _ _ :: _) _ _); (refine alA hm ?_; clear hm; intro n w hn hz hm ho; (try simp only [List.cons_append, List.nil_append] at hm)))); try simp only [Act.put, sxQ]))
      refine (wpIn_wide (n := 0)).1 (wpIn_region_lit ?_)
      refine list_in_split 5 (by kernel_rfl) ?_
      simp only [List.take_succ_cons, List.take_zero, List.drop_succ_cons, List.drop_zero]
      go_wp2_with (first | go_skip | ((with_reducible show wpList _ _ _ _ _ (World.alloc _ _)); refine wpList_up hm ?_; clear hm; intro n w hn hn2 hk hm hd hd2 ho; (try rw [← hn]); replace hn := Nat.le_of_eq hn.symm) | ((first | ((with_reducible show wpList _ _ _ (Oper.mk _ (Op.box _ _) _ _ _ _ :: _) _ _); (refine bxA hm ?_; clear hm; intro n w hn hz hm ho; (try simp only [List.cons_append, List.nil_append] at hm))) | ((with_reducible show wpList _ _ _ (Oper.mk _ (Op.load _ _) _ _ _ _ :: _) _ _); first | (refine ldA hm ?_) | (refine laA hm ?_)) | ((with_reducible show wpList _ _ _ (Oper.mk _ (Op.store _ _ _) _ _ _ _ :: _) _ _); (refine stA hm ?_; clear hm; intro w hz hm ho)) | ((with_reducible show wpList _ _ _ (Oper.mk _ (Op.alloc _) _ _ _ _ :: _) _ _); (refine alA hm ?_; clear hm; intro n w hn hz hm ho; (try simp only [List.cons_append, List.nil_append] at hm)))); try simp only [Act.put, sxQ]))
      go_at_call 46
      refine HHD.out.mono ?_
      rintro e w3 ⟨rfl, hp3, ho3⟩
      obtain ⟨hH3, hY3⟩ := HHN.out _ hp3 ho3
      go_wp2_with fail
      obtain ⟨fn, tm, asg, bdy, hy, hRd⟩ := HRK.out _ hH3 hY3
      have HRD := Lib.hid hRd
      clear hRd hH3 hY3 HRK HHN HHD hp3 ho3
      unfold Upto
      unfold hdV at hy ⊢
      gi_wp2
      refine ⟨rfl, HRD.out.mono ?_⟩
      clear hy HRD hm
      rintro e W4 (⟨rfl, hI4, hY4⟩ | ⟨rfl, c4, hX4, hZ4⟩)
      · gi_wp2
        go_wp2_with fail
        go_roundg g2
        case measure => omega
        case rel => exact ⟨k + 1, by omega, by go_num, hI4, hY4⟩
      · gi_wp2
        go_wp2_with fail
        refine bodyPost_ret (results_none rfl _ _ _) rfl ?_
        exact ⟨⟨_, rfl⟩, .inr ⟨c4, hX4, hZ4⟩⟩
end Go.Proofs.Ytnlhammgcemchaa
