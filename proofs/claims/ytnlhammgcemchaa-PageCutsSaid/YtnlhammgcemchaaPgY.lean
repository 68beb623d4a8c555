/-
  The walk of a frame's header.
-/
import Derived.Test.YtnlhammgcemchaaZ0
import Derived.Test.YtnlhammgcemchaaPgX
namespace Go.Proofs.Ytnlhammgcemchaa
set_option maxRecDepth 100000
set_option linter.unusedSimpArgs false
set_option linter.unusedVariables false
open Go.RowKit
set_option maxHeartbeats 8000000

def hdV (h : Pg.Hd) : Value := .agg #[.int .i64 (Pg.enc h.page), .int .i64 (h.version : Int), .bool h.bad]
def HdRes (w : World) (g : Nat) (G : Nat → Prop) (s : PgS) (p : Pg.P) (r : Pg.Hd × Nat) (e : Ending) (w' : World) : Prop :=
  e = .returned (hdV r.1) ∧ PAt w' g G s (p.more r.2) ∧ Only (fun q => q = g) w w'
theorem read_length {m : Cel.Mem} {f : Nat} (h : (Pg.read m f).2.1 = true) : (Pg.read m f).1.length = 19 := by
  unfold Pg.read at h ⊢
  split at h
  · rename_i h1
    rw [if_pos h1]; exact rdK_length m f 19 h1
  · cases h
theorem read_lt (m : Cel.Mem) (f : Nat) : ∀ x ∈ (Pg.read m f).1, x < 16777216 := by
  unfold Pg.read
  split
  · exact rdK_lt m f 19
  · intro x hx; cases hx
theorem read_count (m : Cel.Mem) (f : Nat) : (Pg.read m f).2.2 ≤ 20 := by
  have h1 := rdK_count m f 19
  have h2 : (Pg.word m (f * 20 + 19)).2.2 ≤ 1 := by
    unfold Pg.word
    split
    · exact Nat.zero_le _
    · dsimp only; split <;> omega
  unfold Pg.read
  split <;> (dsimp only; omega)
theorem word_count (m : Cel.Mem) (a : Nat) : (Pg.word m a).2.2 ≤ 1 := by
  unfold Pg.word
  split
  · exact Nat.zero_le _
  · dsimp only; split <;> omega
theorem or_version (a b : Nat) (ha : a < 16777216) (hb : b < 16777216) : bits BinOp.or IntKind.i64 ((a : Int) * 16777216) (b : Int) = ((a * 16777216 + b : Nat) : Int) := by
  have e : (a : Int) * 16777216 = ((a * 16777216 : Nat) : Int) := by omega
  rw [e, i64_or_nat _ _ (by omega) (by omega)]
  have := Nat.two_pow_add_eq_or_of_lt (i := 24) (b := b) (by simpa using hb) a
  simp only [Nat.reducePow] at this
  rw [Nat.mul_comm a, ← this]
theorem page_header {w0 : World} {g : Nat} {G : Nat → Prop} {s : PgS} {p : Pg.P} (H : PAt w0 g G s p) (f : Nat) (hf : f < 100000000) (hfx : p.fixed + 21 < 4611686018427387904) :
    Calls Try.prog 46 #[.pointer (some ⟨g, 0, none⟩), .int .i64 (f : Int)] w0 (HdRes w0 g G s p (Pg.header p.m p.count f)) := by
  have hm : Mem (fun q => q = g) w0 w0 [⟨g, _, _⟩] [] := Mem.one H.blk rfl
  have HK := Lib.hid H.blk
  have HH := Lib.hid H
  have HW := (fun (u : World) (h : PAt u g G s p) => page_word h f 19 19 rfl ⟨hf, by omega⟩ (by omega))
  have HR := (fun (u : World) (p2 : Pg.P) (h : PAt u g G s p2) (h2 : p2.fixed ≤ p.fixed + 1) => page_read h f hf (by omega))
  have hc1 := word_count p.m (f * 20 + 19)
  have e1 : Pg.header p.m p.count f = if (Pg.word p.m (f * 20 + 19)).2.1 = true ∧ (Pg.word p.m (f * 20 + 19)).1 = 0 then (⟨none, 0, false⟩, (Pg.word p.m (f * 20 + 19)).2.2)
    else if (Pg.read p.m f).2.1 = false ∨ p.count ≤ (Pg.read p.m f).1.getD 16 0 then (⟨none, 0, true⟩, (Pg.word p.m (f * 20 + 19)).2.2 + (Pg.read p.m f).2.2)
    else (⟨some ((Pg.read p.m f).1.getD 16 0), (Pg.read p.m f).1.getD 17 0 * 16777216 + (Pg.read p.m f).1.getD 18 0, false⟩, (Pg.word p.m (f * 20 + 19)).2.2 + (Pg.read p.m f).2.2) := rfl
  have hrl := @read_length p.m f
  have hrt := read_lt p.m f
  rw [e1]
  clear e1 H
  replace HR : ∀ (u : World) (c : Nat), c ≤ 1 → PAt u g G s (p.more c) → Calls Try.prog 54 #[.pointer (some ⟨g, 0, none⟩), .int .i64 (f : Int)] u (RdRes u g G s (p.more c) (Pg.read p.m f).1 (Pg.read p.m f).2.1 (Pg.read p.m f).2.2) := fun u c hc h => HR u (p.more c) h (by simp only [Pg.P.more]; omega)
  generalize hWe : Pg.word p.m (f * 20 + 19) = W at *
  obtain ⟨x, ok, c1⟩ := W
  dsimp only at *
  clear hWe hfx
  generalize hRe : Pg.read p.m f = R at *
  obtain ⟨l, ok2, c2⟩ := R
  dsimp only at *
  clear hRe
  replace HR := Lib.hid HR
  replace HW := Lib.hid HW
  have HC1 := Lib.hid hc1
  clear hc1
  simp only [pcs] at hm HK
  by_cases h0 : ok = true ∧ x = 0
  · rw [if_pos h0]
    obtain ⟨rfl, rfl⟩ := h0
    clear hrl hrt
    go_enter Try.func46, Try.ntmps46
    go_wp2_with (first | go_skip | ((with_reducible show wpList _ _ _ _ _ (World.alloc _ _)); refine wpList_up hm ?_; clear hm; intro n w hn hn2 hk hm hd hd2 ho; (try rw [← hn]); replace hn := Nat.le_of_eq hn.symm) | ((first | ((with_reducible show wpList _ _ _ (Oper.mk _ (Op.box _ _) _ _ _ _ :: _) _ _); (refine bxA hm ?_; clear hm; intro n w hn hz hm ho; (try simp only [List.cons_append, List.nil_append] at hm))) | ((with_reducible show wpList _ _ _ (Oper.mk _ (Op.load _ _) _ _ _ _ :: _) _ _); first | (refine ldA hm ?_) | (refine laA hm ?_)) | ((with_reducible show wpList _ _ _ (Oper.mk _ (Op.store _ _ _) _ _ _ _ :: _) _ _); (refine stA hm ?_; clear hm; intro w hz hm ho)) | ((with_reducible show wpList _ _ _ (Oper.mk _ (Op.alloc _) _ _ _ _ :: _) _ _); (refine alA hm ?_; clear hm; intro n w hn hz hm ho; (try simp only [List.cons_append, List.nil_append] at hm)))); try simp only [Act.put, sxQ]))
    go_at_call 57
    refine (HW.out _ (HH.out.below (hm.still 0 rfl HK.out))).mono ?_
    rintro e w2 ⟨rfl, hp2, ho2⟩
    replace hm := hm.put 0 rfl ho2 hp2.blk
    simp only [List.set_cons_zero, pcs, Pg.P.more] at hm
    go_wp2_with (first | go_skip | ((with_reducible show wpList _ _ _ _ _ (World.alloc _ _)); refine wpList_up hm ?_; clear hm; intro n w hn hn2 hk hm hd hd2 ho; (try rw [← hn]); replace hn := Nat.le_of_eq hn.symm) | ((first | ((with_reducible show wpList _ _ _ (Oper.mk _ (Op.box _ _) _ _ _ _ :: _) _ _); (refine bxA hm ?_; clear hm; intro n w hn hz hm ho; (try simp only [List.cons_append, List.nil_append] at hm))) | ((with_reducible show wpList _ _ _ (Oper.mk _ (Op.load _ _) _ _ _ _ :: _) _ _); first | (refine ldA hm ?_) | (refine laA hm ?_)) | ((with_reducible show wpList _ _ _ (Oper.mk _ (Op.store _ _ _) _ _ _ _ :: _) _ _); (refine stA hm ?_; clear hm; intro w hz hm ho)) | ((with_reducible show wpList _ _ _ (Oper.mk _ (Op.alloc _) _ _ _ _ :: _) _ _); (refine alA hm ?_; clear hm; intro n w hn hz hm ho; (try simp only [List.cons_append, List.nil_append] at hm)))); try simp only [Act.put, sxQ]))
    refine bodyPost_ret (results_cell_row rfl _ _ _ 75 _ (0, 0) _ rfl (by exact hm.at_ 1 rfl) Try.underlying75 rfl (by kernel_rfl)) rfl ?_
    exact ⟨rfl, hp2.away ho (fun q hq e => by have := HH.out.lt q hq; omega), hm.only⟩
  · rw [if_neg h0]
    have hcase : ok = false ∨ (ok = true ∧ (x == 0) = false) := by
      cases ok
      · exact .inl rfl
      · exact .inr ⟨rfl, by simpa using fun e => h0 ⟨rfl, e⟩⟩
    clear h0
    by_cases hr : ok2 = false ∨ p.count ≤ l.getD 16 0
    · rw [if_pos hr]
      rcases hcase with rfl | ⟨rfl, hx0⟩
      all_goals
        cases ok2 with
        | false =>
          clear hr hrl hrt
          go_enter Try.func46, Try.ntmps46
          go_wp2_with (first | go_skip | ((with_reducible show wpList _ _ _ _ _ (World.alloc _ _)); refine wpList_up hm ?_; clear hm; intro n w hn hn2 hk hm hd hd2 ho; (try rw [← hn]); replace hn := Nat.le_of_eq hn.symm) | ((first | ((with_reducible show wpList _ _ _ (Oper.mk _ (Op.box _ _) _ _ _ _ :: _) _ _); (refine bxA hm ?_; clear hm; intro n w hn hz hm ho; (try simp only [List.cons_append, List.nil_append] at hm))) | ((with_reducible show wpList _ _ _ (Oper.mk _ (Op.load _ _) _ _ _ _ :: _) _ _); first | (refine ldA hm ?_) | (refine laA hm ?_)) | ((with_reducible show wpList _ _ _ (Oper.mk _ (Op.store _ _ _) _ _ _ _ :: _) _ _); (refine stA hm ?_; clear hm; intro w hz hm ho)) | ((with_reducible show wpList _ _ _ (Oper.mk _ (Op.alloc _) _ _ _ _ :: _) _ _); (refine alA hm ?_; clear hm; intro n w hn hz hm ho; (try simp only [List.cons_append, List.nil_append] at hm)))); try simp only [Act.put, sxQ]))
          go_at_call 57
          refine (HW.out _ (HH.out.below (hm.still 0 rfl HK.out))).mono ?_
          rintro e w2 ⟨rfl, hp2, ho2⟩
          replace hm := hm.put 0 rfl ho2 hp2.blk
          simp only [List.set_cons_zero, pcs, Pg.P.more] at hm
          go_wp2_with (first | go_skip | ((with_reducible show wpList _ _ _ _ _ (World.alloc _ _)); refine wpList_up hm ?_; clear hm; intro n w hn hn2 hk hm hd hd2 ho; (try rw [← hn]); replace hn := Nat.le_of_eq hn.symm) | ((first | ((with_reducible show wpList _ _ _ (Oper.mk _ (Op.box _ _) _ _ _ _ :: _) _ _); (refine bxA hm ?_; clear hm; intro n w hn hz hm ho; (try simp only [List.cons_append, List.nil_append] at hm))) | ((with_reducible show wpList _ _ _ (Oper.mk _ (Op.load _ _) _ _ _ _ :: _) _ _); first | (refine ldA hm ?_) | (refine laA hm ?_)) | ((with_reducible show wpList _ _ _ (Oper.mk _ (Op.store _ _ _) _ _ _ _ :: _) _ _); (refine stA hm ?_; clear hm; intro w hz hm ho)) | ((with_reducible show wpList _ _ _ (Oper.mk _ (Op.alloc _) _ _ _ _ :: _) _ _); (refine alA hm ?_; clear hm; intro n w hn hz hm ho; (try simp only [List.cons_append, List.nil_append] at hm)))); try simp only [Act.put, sxQ]))
          go_at_call 54
          refine (HR.out _ c1 HC1.out hp2).mono ?_
          rintro e w3 ⟨A, m, rfl, hown, hp3, ho3⟩
          rw [more_more] at hp3
          replace hm := hm.put 0 rfl ho3 hp3.blk
          simp only [List.set_cons_zero, pcs, Pg.P.more] at hm
          go_wp2_with (first | go_skip | ((with_reducible show wpList _ _ _ _ _ (World.alloc _ _)); refine wpList_up hm ?_; clear hm; intro n w hn hn2 hk hm hd hd2 ho; (try rw [← hn]); replace hn := Nat.le_of_eq hn.symm) | ((first | ((with_reducible show wpList _ _ _ (Oper.mk _ (Op.box _ _) _ _ _ _ :: _) _ _); (refine bxA hm ?_; clear hm; intro n w hn hz hm ho; (try simp only [List.cons_append, List.nil_append] at hm))) | ((with_reducible show wpList _ _ _ (Oper.mk _ (Op.load _ _) _ _ _ _ :: _) _ _); first | (refine ldA hm ?_) | (refine laA hm ?_)) | ((with_reducible show wpList _ _ _ (Oper.mk _ (Op.store _ _ _) _ _ _ _ :: _) _ _); (refine stA hm ?_; clear hm; intro w hz hm ho)) | ((with_reducible show wpList _ _ _ (Oper.mk _ (Op.alloc _) _ _ _ _ :: _) _ _); (refine alA hm ?_; clear hm; intro n w hn hz hm ho; (try simp only [List.cons_append, List.nil_append] at hm)))); try simp only [Act.put, sxQ]))
          refine wp_region_quiet_lit (by kernel_rfl) (by kernel_rfl) ?_
          repeat (first | go_big_quiet_skip | ((with_reducible show wpQuiet _ _ _ _ (Oper.mk _ (Op.load _ _) _ _ _ _ :: _) _); first | (refine wpQuiet_ldS (by rfl) _ _ rfl _ _ rfl hm _ _ (by repeat (first | apply In.a | apply In.b)) (by decide +kernel) _ (by simp only [sxN]; first | done | exact rfl) ?_; (try simp only [Act.put, sxQ]))) | go_big_quiet_step (fail))
          refine wpQuiet_nil ?_
          rintro _ ⟨nq, rfl⟩
          replace hm := hm.drewN nq
          go_wp2_with (first | go_skip | ((with_reducible show wpList _ _ _ _ _ (World.alloc _ _)); refine wpList_up hm ?_; clear hm; intro n w hn hn2 hk hm hd hd2 ho; (try rw [← hn]); replace hn := Nat.le_of_eq hn.symm) | ((first | ((with_reducible show wpList _ _ _ (Oper.mk _ (Op.box _ _) _ _ _ _ :: _) _ _); (refine bxA hm ?_; clear hm; intro n w hn hz hm ho; (try simp only [List.cons_append, List.nil_append] at hm))) | ((with_reducible show wpList _ _ _ (Oper.mk _ (Op.load _ _) _ _ _ _ :: _) _ _); first | (refine ldA hm ?_) | (refine laA hm ?_)) | ((with_reducible show wpList _ _ _ (Oper.mk _ (Op.store _ _ _) _ _ _ _ :: _) _ _); (refine stA hm ?_; clear hm; intro w hz hm ho)) | ((with_reducible show wpList _ _ _ (Oper.mk _ (Op.alloc _) _ _ _ _ :: _) _ _); (refine alA hm ?_; clear hm; intro n w hn hz hm ho; (try simp only [List.cons_append, List.nil_append] at hm)))); try simp only [Act.put, sxQ]))
          refine bodyPost_ret (results_cell_row rfl _ _ _ 75 _ (0, 0) _ rfl (by exact hm.at_ 1 rfl) Try.underlying75 rfl (by kernel_rfl)) rfl ?_
          exact ⟨rfl, (hp3.drewN nq).away ho (fun q hq e => by have := HH.out.lt q hq; omega), hm.only⟩
        | true =>
          have hrc : p.count ≤ l.getD 16 0 := by rcases hr with h | h; cases h; exact h
          have hll := hrl rfl
          clear hr hrl hrt
          go_enter Try.func46, Try.ntmps46
          go_wp2_with (first | go_skip | ((with_reducible show wpList _ _ _ _ _ (World.alloc _ _)); refine wpList_up hm ?_; clear hm; intro n w hn hn2 hk hm hd hd2 ho; (try rw [← hn]); replace hn := Nat.le_of_eq hn.symm) | ((first | ((with_reducible show wpList _ _ _ (Oper.mk _ (Op.box _ _) _ _ _ _ :: _) _ _); (refine bxA hm ?_; clear hm; intro n w hn hz hm ho; (try simp only [List.cons_append, List.nil_append] at hm))) | ((with_reducible show wpList _ _ _ (Oper.mk _ (Op.load _ _) _ _ _ _ :: _) _ _); first | (refine ldA hm ?_) | (refine laA hm ?_)) | ((with_reducible show wpList _ _ _ (Oper.mk _ (Op.store _ _ _) _ _ _ _ :: _) _ _); (refine stA hm ?_; clear hm; intro w hz hm ho)) | ((with_reducible show wpList _ _ _ (Oper.mk _ (Op.alloc _) _ _ _ _ :: _) _ _); (refine alA hm ?_; clear hm; intro n w hn hz hm ho; (try simp only [List.cons_append, List.nil_append] at hm)))); try simp only [Act.put, sxQ]))
          go_at_call 57
          refine (HW.out _ (HH.out.below (hm.still 0 rfl HK.out))).mono ?_
          rintro e w2 ⟨rfl, hp2, ho2⟩
          replace hm := hm.put 0 rfl ho2 hp2.blk
          simp only [List.set_cons_zero, pcs, Pg.P.more] at hm
          go_wp2_with (first | go_skip | ((with_reducible show wpList _ _ _ _ _ (World.alloc _ _)); refine wpList_up hm ?_; clear hm; intro n w hn hn2 hk hm hd hd2 ho; (try rw [← hn]); replace hn := Nat.le_of_eq hn.symm) | ((first | ((with_reducible show wpList _ _ _ (Oper.mk _ (Op.box _ _) _ _ _ _ :: _) _ _); (refine bxA hm ?_; clear hm; intro n w hn hz hm ho; (try simp only [List.cons_append, List.nil_append] at hm))) | ((with_reducible show wpList _ _ _ (Oper.mk _ (Op.load _ _) _ _ _ _ :: _) _ _); first | (refine ldA hm ?_) | (refine laA hm ?_)) | ((with_reducible show wpList _ _ _ (Oper.mk _ (Op.store _ _ _) _ _ _ _ :: _) _ _); (refine stA hm ?_; clear hm; intro w hz hm ho)) | ((with_reducible show wpList _ _ _ (Oper.mk _ (Op.alloc _) _ _ _ _ :: _) _ _); (refine alA hm ?_; clear hm; intro n w hn hz hm ho; (try simp only [List.cons_append, List.nil_append] at hm)))); try simp only [Act.put, sxQ]))
          go_at_call 54
          refine (HR.out _ c1 HC1.out hp2).mono ?_
          rintro e w3 ⟨A, m, rfl, hown, hp3, ho3⟩
          rw [more_more] at hp3
          replace hm := hm.put 0 rfl ho3 hp3.blk
          simp only [List.set_cons_zero, pcs, Pg.P.more] at hm
          have hn19 := hown.nrow
          rw [hll] at hn19 ⊢
          obtain ⟨b, o, rfl, hb, c16⟩ := hn19.at_ (k := 16) (by omega)
          have hrd : decide (p.count ≤ l.getD 16 0) = true := decide_eq_true hrc
          generalize l.getD 16 0 = y at *
          clear hn19 hown
          go_wp2_with (first | go_skip | ((with_reducible show wpList _ _ _ _ _ (World.alloc _ _)); refine wpList_up hm ?_; clear hm; intro n w hn hn2 hk hm hd hd2 ho; (try rw [← hn]); replace hn := Nat.le_of_eq hn.symm) | ((first | ((with_reducible show wpList _ _ _ (Oper.mk _ (Op.box _ _) _ _ _ _ :: _) _ _); (refine bxA hm ?_; clear hm; intro n w hn hz hm ho; (try simp only [List.cons_append, List.nil_append] at hm))) | ((with_reducible show wpList _ _ _ (Oper.mk _ (Op.load _ _) _ _ _ _ :: _) _ _); first | (refine ldA hm ?_) | (refine laA hm ?_)) | ((with_reducible show wpList _ _ _ (Oper.mk _ (Op.store _ _ _) _ _ _ _ :: _) _ _); (refine stA hm ?_; clear hm; intro w hz hm ho)) | ((with_reducible show wpList _ _ _ (Oper.mk _ (Op.alloc _) _ _ _ _ :: _) _ _); (refine alA hm ?_; clear hm; intro n w hn hz hm ho; (try simp only [List.cons_append, List.nil_append] at hm)))); try simp only [Act.put, sxQ]))
          refine wp_region_quiet_lit (by kernel_rfl) (by kernel_rfl) ?_
          repeat (first | go_big_quiet_skip | ((with_reducible show wpQuiet _ _ _ _ (Oper.mk _ (Op.load _ _) _ _ _ _ :: _) _); first | (refine wpQuiet_ldS (by rfl) _ _ rfl _ _ rfl hm _ _ (by repeat (first | apply In.a | apply In.b)) (by decide +kernel) _ (by simp only [sxN]; first | done | exact rfl) ?_; (try simp only [Act.put, sxQ]))) | go_big_quiet_step (fail))
          refine wpQuiet_nil ?_
          rintro _ ⟨nq, rfl⟩
          replace hm := hm.drewN nq
          go_wp2_with (first | go_skip | ((with_reducible show wpList _ _ _ _ _ (World.alloc _ _)); refine wpList_up hm ?_; clear hm; intro n w hn hn2 hk hm hd hd2 ho; (try rw [← hn]); replace hn := Nat.le_of_eq hn.symm) | ((first | ((with_reducible show wpList _ _ _ (Oper.mk _ (Op.box _ _) _ _ _ _ :: _) _ _); (refine bxA hm ?_; clear hm; intro n w hn hz hm ho; (try simp only [List.cons_append, List.nil_append] at hm))) | ((with_reducible show wpList _ _ _ (Oper.mk _ (Op.load _ _) _ _ _ _ :: _) _ _); first | (refine ldA hm ?_) | (refine laA hm ?_)) | ((with_reducible show wpList _ _ _ (Oper.mk _ (Op.store _ _ _) _ _ _ _ :: _) _ _); (refine stA hm ?_; clear hm; intro w hz hm ho)) | ((with_reducible show wpList _ _ _ (Oper.mk _ (Op.alloc _) _ _ _ _ :: _) _ _); (refine alA hm ?_; clear hm; intro n w hn hz hm ho; (try simp only [List.cons_append, List.nil_append] at hm)))); try simp only [Act.put, sxQ]))
          refine bodyPost_ret (results_cell_row rfl _ _ _ 75 _ (0, 0) _ rfl (by exact hm.at_ 1 rfl) Try.underlying75 rfl (by kernel_rfl)) rfl ?_
          exact ⟨rfl, (hp3.drewN nq).away ho (fun q hq e => by have := HH.out.lt q hq; omega), hm.only⟩
    · rw [if_neg hr]
      have hrk : ok2 = true ∧ l.getD 16 0 < p.count := by
        refine ⟨?_, by omega⟩
        cases ok2
        · exact absurd (.inl rfl) hr
        · rfl
      obtain ⟨rfl, hrc⟩ := hrk
      have hll := hrl rfl
      have ht : ∀ k, k < 19 → l.getD k 0 < 16777216 := fun k hk => hrt _ (by rw [List.getD, List.getElem?_eq_getElem (by omega)]; exact List.getElem_mem _)
      have h17 := ht 17 (by omega)
      have h18 := ht 18 (by omega)
      have hov := Lib.hid (or_version _ _ h17 h18)
      have HLL := Lib.hid hll
      generalize hy : l.getD 16 0 = y at *
      generalize hy1 : l.getD 17 0 = y1 at *
      generalize hy2 : l.getD 18 0 = y2 at *
      have HY := Lib.hid hy; have HY1 := Lib.hid hy1; have HY2 := Lib.hid hy2
      have hrd : decide (p.count ≤ y) = false := decide_eq_false (by omega)
      clear hr hrl hrt ht hll hy hy1 hy2 hrc
      rcases hcase with rfl | ⟨rfl, hx0⟩
      all_goals
        go_enter Try.func46, Try.ntmps46
        go_wp2_with (first | go_skip | ((with_reducible show wpList _ _ _ _ _ (World.alloc _ _)); refine wpList_up hm ?_; clear hm; intro n w hn hn2 hk hm hd hd2 ho; (try rw [← hn]); replace hn := Nat.le_of_eq hn.symm) | ((first | ((with_reducible show wpList _ _ _ (Oper.mk _ (Op.box _ _) _ _ _ _ :: _) _ _); (refine bxA hm ?_; clear hm; intro n w hn hz hm ho; (try simp only [List.cons_append, List.nil_append] at hm))) | ((with_reducible show wpList _ _ _ (Oper.mk _ (Op.load _ _) _ _ _ _ :: _) _ _); first | (refine ldA hm ?_) | (refine laA hm ?_)) | ((with_reducible show wpList _ _ _ (Oper.mk _ (Op.store _ _ _) _ _ _ _ :: _) _ _); (refine stA hm ?_; clear hm; intro w hz hm ho)) | ((with_reducible show wpList _ _ _ (Oper.mk _ (Op.alloc _) _ _ _ _ :: _) _ _); (refine alA hm ?_; clear hm; intro n w hn hz hm ho; (try simp only [List.cons_append, List.nil_append] at hm)))); try simp only [Act.put, sxQ]))
        go_at_call 57
        refine (HW.out _ (HH.out.below (hm.still 0 rfl HK.out))).mono ?_
        rintro e w2 ⟨rfl, hp2, ho2⟩
        replace hm := hm.put 0 rfl ho2 hp2.blk
        simp only [List.set_cons_zero, pcs, Pg.P.more] at hm
        go_wp2_with (first | go_skip | ((with_reducible show wpList _ _ _ _ _ (World.alloc _ _)); refine wpList_up hm ?_; clear hm; intro n w hn hn2 hk hm hd hd2 ho; (try rw [← hn]); replace hn := Nat.le_of_eq hn.symm) | ((first | ((with_reducible show wpList _ _ _ (Oper.mk _ (Op.box _ _) _ _ _ _ :: _) _ _); (refine bxA hm ?_; clear hm; intro n w hn hz hm ho; (try simp only [List.cons_append, List.nil_append] at hm))) | ((with_reducible show wpList _ _ _ (Oper.mk _ (Op.load _ _) _ _ _ _ :: _) _ _); first | (refine ldA hm ?_) | (refine laA hm ?_)) | ((with_reducible show wpList _ _ _ (Oper.mk _ (Op.store _ _ _) _ _ _ _ :: _) _ _); (refine stA hm ?_; clear hm; intro w hz hm ho)) | ((with_reducible show wpList _ _ _ (Oper.mk _ (Op.alloc _) _ _ _ _ :: _) _ _); (refine alA hm ?_; clear hm; intro n w hn hz hm ho; (try simp only [List.cons_append, List.nil_append] at hm)))); try simp only [Act.put, sxQ]))
        go_at_call 54
        refine (HR.out _ c1 HC1.out hp2).mono ?_
        rintro e w3 ⟨A, m, rfl, hown, hp3, ho3⟩
        rw [more_more] at hp3
        replace hm := hm.put 0 rfl ho3 hp3.blk
        simp only [List.set_cons_zero, pcs, Pg.P.more] at hm
        have hn19 := hown.nrow
        rw [HLL.out] at hn19 ⊢
        obtain ⟨b, o, rfl, hb, c16⟩ := hn19.at_ (k := 16) (by omega)
        obtain ⟨b', o', e', hb', c17⟩ := hn19.at_ (k := 17) (by omega)
        obtain ⟨rfl, rfl⟩ : b = b' ∧ o = o' := by simpa using e'
        clear e' hb'
        obtain ⟨b', o', e', hb', c18⟩ := hn19.at_ (k := 18) (by omega)
        obtain ⟨rfl, rfl⟩ : b = b' ∧ o = o' := by simpa using e'
        clear e' hb'
        rw [HY.out] at c16
        rw [HY1.out] at c17
        rw [HY2.out] at c18
        clear hn19 hown
        go_wp2_with (first | go_skip | ((with_reducible show wpList _ _ _ _ _ (World.alloc _ _)); refine wpList_up hm ?_; clear hm; intro n w hn hn2 hk hm hd hd2 ho; (try rw [← hn]); replace hn := Nat.le_of_eq hn.symm) | ((first | ((with_reducible show wpList _ _ _ (Oper.mk _ (Op.box _ _) _ _ _ _ :: _) _ _); (refine bxA hm ?_; clear hm; intro n w hn hz hm ho; (try simp only [List.cons_append, List.nil_append] at hm))) | ((with_reducible show wpList _ _ _ (Oper.mk _ (Op.load _ _) _ _ _ _ :: _) _ _); first | (refine ldA hm ?_) | (refine laA hm ?_)) | ((with_reducible show wpList _ _ _ (Oper.mk _ (Op.store _ _ _) _ _ _ _ :: _) _ _); (refine stA hm ?_; clear hm; intro w hz hm ho)) | ((with_reducible show wpList _ _ _ (Oper.mk _ (Op.alloc _) _ _ _ _ :: _) _ _); (refine alA hm ?_; clear hm; intro n w hn hz hm ho; (try simp only [List.cons_append, List.nil_append] at hm)))); try simp only [Act.put, sxQ]))
        refine wp_region_quiet_lit (by kernel_rfl) (by kernel_rfl) ?_
        repeat (first | go_big_quiet_skip | ((with_reducible show wpQuiet _ _ _ _ (Oper.mk _ (Op.load _ _) _ _ _ _ :: _) _); first | (refine wpQuiet_ldS (by rfl) _ _ rfl _ _ rfl hm _ _ (by repeat (first | apply In.a | apply In.b)) (by decide +kernel) _ (by simp only [sxN]; first | done | exact rfl) ?_; (try simp only [Act.put, sxQ]))) | go_big_quiet_step (fail))
        refine wpQuiet_nil ?_
        rintro _ ⟨nq, rfl⟩
        replace hm := hm.drewN nq
        go_wp2_with (first | go_skip | ((with_reducible show wpList _ _ _ _ _ (World.alloc _ _)); refine wpList_up hm ?_; clear hm; intro n w hn hn2 hk hm hd hd2 ho; (try rw [← hn]); replace hn := Nat.le_of_eq hn.symm) | ((first | ((with_reducible show wpList _ _ _ (Oper.mk _ (Op.box _ _) _ _ _ _ :: _) _ _); (refine bxA hm ?_; clear hm; intro n w hn hz hm ho; (try simp only [List.cons_append, List.nil_append] at hm))) | ((with_reducible show wpList _ _ _ (Oper.mk _ (Op.load _ _) _ _ _ _ :: _) _ _); first | (refine ldA hm ?_) | (refine laA hm ?_)) | ((with_reducible show wpList _ _ _ (Oper.mk _ (Op.store _ _ _) _ _ _ _ :: _) _ _); (refine stA hm ?_; clear hm; intro w hz hm ho)) | ((with_reducible show wpList _ _ _ (Oper.mk _ (Op.alloc _) _ _ _ _ :: _) _ _); (refine alA hm ?_; clear hm; intro n w hn hz hm ho; (try simp only [List.cons_append, List.nil_append] at hm)))); try simp only [Act.put, sxQ]))
        refine wp_region_quiet_tail 12 (by kernel_rfl) (by kernel_rfl) ?_
        simp only [List.take_succ_cons, List.take_zero]
        repeat (first | go_big_quiet_skip | ((with_reducible show wpQuiet _ _ _ _ (Oper.mk _ (Op.load _ _) _ _ _ _ :: _) _); first | (refine wpQuiet_ldS (by rfl) _ _ rfl _ _ rfl hm _ _ (by repeat (first | apply In.a | apply In.b)) (by decide +kernel) _ (by simp only [sxN]; first | done | exact rfl) ?_; (try simp only [Act.put, sxQ]))) | go_big_quiet_step (fail))
        refine wpQuiet_nil ?_
        rintro _ ⟨nq, rfl⟩
        simp only [List.drop_succ_cons, List.drop_zero]
        replace hm := hm.drewN nq
        go_wp2_with (first | go_skip | ((with_reducible show wpList _ _ _ _ _ (World.alloc _ _)); refine wpList_up hm ?_; clear hm; intro n w hn hn2 hk hm hd hd2 ho; (try rw [← hn]); replace hn := Nat.le_of_eq hn.symm) | ((first | ((with_reducible show wpList _ _ _ (Oper.mk _ (Op.box _ _) _ _ _ _ :: _) _ _); (refine bxA hm ?_; clear hm; intro n w hn hz hm ho; (try simp only [List.cons_append, List.nil_append] at hm))) | ((with_reducible show wpList _ _ _ (Oper.mk _ (Op.load _ _) _ _ _ _ :: _) _ _); first | (refine ldA hm ?_) | (refine laA hm ?_)) | ((with_reducible show wpList _ _ _ (Oper.mk _ (Op.store _ _ _) _ _ _ _ :: _) _ _); (refine stA hm ?_; clear hm; intro w hz hm ho)) | ((with_reducible show wpList _ _ _ (Oper.mk _ (Op.alloc _) _ _ _ _ :: _) _ _); (refine alA hm ?_; clear hm; intro n w hn hz hm ho; (try simp only [List.cons_append, List.nil_append] at hm)))); try simp only [Act.put, sxQ]))
        refine bodyPost_ret (results_cell_row rfl _ _ _ 75 _ (0, 0) _ rfl (by exact hm.at_ 1 rfl) Try.underlying75 rfl (by kernel_rfl)) rfl ?_
        refine ⟨?_, ((hp3.drewN _).drewN _).away ho (fun q hq e => by have := HH.out.lt q hq; omega), hm.only⟩
        rw [hov.out]
        rfl
end Go.Proofs.Ytnlhammgcemchaa
