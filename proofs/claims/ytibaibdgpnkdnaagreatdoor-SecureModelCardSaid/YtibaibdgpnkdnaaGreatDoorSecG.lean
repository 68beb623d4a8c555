/-
  Closed sides; the small helpers of the laws.
-/
import Derived.Test.YtibaibdgpnkdnaaGreatDoorZ1
import Derived.Test.YtibaibdgpnkdnaaGreatDoorSecD
namespace Go.Proofs.YtibaibdgpnkdnaaGreatDoor
set_option maxRecDepth 100000
set_option linter.unusedSimpArgs false
set_option linter.unusedVariables false
open Go.RowKit
set_option maxHeartbeats 8000000

/-- A block that has been made just ahead of a loop. -/
theorem loop_up {P : Program} {c : Code} {Q : Exit → Act → World → Prop} {a : Act} {R : Nat → Prop} {s w : World} {L : List Ent} {O : List Osl} {t : TypeId} {cs : Array Value} (hm : Mem R s w L O)
    (h : ∀ n w1, n = w.heap.size → s.heap.size ≤ n → Blk w1 n t cs → Mem R s w1 L O → (∀ e ∈ L, e.g ≠ n) → (∀ x ∈ O, ownAt x.A x.c ≠ some n) → Below w.heap.size w w1 → (Code.loop c).wp P Q a w1) : (Code.loop c).wp P Q a (w.alloc (.cells cs t)) :=
  h w.heap.size _ rfl hm.only.size (Blk.new w t cs) (hm.alloc _) (fun e he => by have := hm.lt he; omega) (fun x hx e => by have := hm.slt hx e; omega) ((Below.refl _ _).alloc (Nat.le_refl _) _)
set_option maxRecDepth 100000 in
theorem unwrap_closed (w0 : World) (g : Nat) (F : Nat → Prop) (s : Sec.S) (H : ChAt' w0 g F s) (hs : s.shut = true) (cla ins p1 p2 : Int) (A : Option Addr) (dn c : Nat) (le : Int) (long : Bool) :
    Calls Tryz.prog 15 #[.pointer (some ⟨g, 0, none⟩), cmdV cla ins p1 p2 A dn c le long] w0 fun e w' => e = .returned (.tuple #[cmdV 0 0 0 0 none 0 0 0 false, .int .i64 14]) ∧ Below w0.heap.size w0 w' := by
  have HS := Lib.hid hs
  obtain ⟨a, H⟩ := H
  obtain ⟨AC, hC⟩ := H.chainAt
  have hm := H.mem
  have hK := H.blk
  rw [hs] at hm hK
  have HK := Lib.hid hK
  clear H hs hK
  obtain ⟨E, ce, M, cm, R, cr, D, cd, C, cc⟩ := a
  have hC : C = some AC := hC
  subst hC
  simp only [cch] at hm HK
  unfold cmdV
  go_enter Tryz.func15, Tryz.ntmps15
  go_wp2_with (first | go_skip | ((with_reducible show wpList _ _ _ _ _ (World.alloc _ _)); refine wpList_up hm ?_; clear hm; intro n w hn hn2 hk hm hd hd2 ho; (try rw [← hn]); replace hn := Nat.le_of_eq hn.symm) | ((first | ((with_reducible show wpList _ _ _ (Oper.mk _ (Op.box _ _) _ _ _ _ :: _) _ _); (refine bxA hm ?_; clear hm; intro n w hn hz hm ho; (try simp only [List.cons_append, List.nil_append] at hm))) | ((with_reducible show wpList _ _ _ (Oper.mk _ (Op.load _ _) _ _ _ _ :: _) _ _); first | (refine ldA hm ?_) | (refine laA hm ?_)) | ((with_reducible show wpList _ _ _ (Oper.mk _ (Op.store _ _ _) _ _ _ _ :: _) _ _); (refine stA hm ?_; clear hm; intro w hz hm ho)) | ((with_reducible show wpList _ _ _ (Oper.mk _ (Op.alloc _) _ _ _ _ :: _) _ _); (refine alA hm ?_; clear hm; intro n w hn hz hm ho; (try simp only [List.cons_append, List.nil_append] at hm)))); try simp only [Act.put, sxQ]) | (go_at_call 30; refine (ch_made (by exact hm.at_ 0 rfl)).mono ?_; rintro e w2 ⟨rfl, rfl⟩))
  refine bodyPost_ret (results_row_tmp rfl _ _ _ 28 _ (0, 0) _ rfl (by exact hm.at_ 2 rfl) Tryz.underlying28 rfl (by kernel_rfl)) rfl ⟨rfl, hm.still 0 rfl HK.out⟩
set_option maxRecDepth 100000 in
theorem seal_closed (w0 : World) (g : Nat) (F : Nat → Prop) (s : Sec.S) (H : ChAt' w0 g F s) (hs : s.shut = true) (A : Option Addr) (dn c : Nat) (sw : Int) :
    Calls Tryz.prog 21 #[.pointer (some ⟨g, 0, none⟩), .agg #[.slice A dn c, .int .i64 sw]] w0 fun e w' => e = .returned (.tuple #[.agg #[.slice none 0 0, .int .i64 0], .int .i64 14]) ∧ Below w0.heap.size w0 w' := by
  obtain ⟨b16, h16⟩ : ∃ v, Sec.hb s.lvl 16 = v := ⟨_, rfl⟩
  have HS := Lib.hid hs
  obtain ⟨a, H⟩ := H
  obtain ⟨AC, hC⟩ := H.chainAt
  have hm := H.mem
  have hK := H.blk
  rw [hs] at hm hK
  have HK := Lib.hid hK
  have HB16 := Lib.hid (has_cells (g := g) H.ok.lvl 16 (.inr (.inr (.inl rfl))) h16)
  clear h16
  clear H hs hK
  obtain ⟨E, ce, M, cm, R, cr, D, cd, C, cc⟩ := a
  have hC : C = some AC := hC
  subst hC
  simp only [cch] at hm HK
  go_enter Tryz.func21, Tryz.ntmps21
  go_wp2_with (first | go_skip | ((with_reducible show wpList _ _ _ _ _ (World.alloc _ _)); refine wpList_up hm ?_; clear hm; intro n w hn hn2 hk hm hd hd2 ho; (try rw [← hn]); replace hn := Nat.le_of_eq hn.symm) | ((first | ((with_reducible show wpList _ _ _ (Oper.mk _ (Op.box _ _) _ _ _ _ :: _) _ _); (refine bxA hm ?_; clear hm; intro n w hn hz hm ho; (try simp only [List.cons_append, List.nil_append] at hm))) | ((with_reducible show wpList _ _ _ (Oper.mk _ (Op.load _ _) _ _ _ _ :: _) _ _); first | (refine ldA hm ?_) | (refine laA hm ?_)) | ((with_reducible show wpList _ _ _ (Oper.mk _ (Op.store _ _ _) _ _ _ _ :: _) _ _); (refine stA hm ?_; clear hm; intro w hz hm ho)) | ((with_reducible show wpList _ _ _ (Oper.mk _ (Op.alloc _) _ _ _ _ :: _) _ _); (refine alA hm ?_; clear hm; intro n w hn hz hm ho; (try simp only [List.cons_append, List.nil_append] at hm)))); try simp only [Act.put, sxQ]) | (go_at_call 30; refine (ch_made (by exact hm.at_ 0 rfl)).mono ?_; rintro e w2 ⟨rfl, rfl⟩) | (go_at_call 33; refine (HB16.out _ _ _ _ _ _ _ _ _ (by exact hm.at_ 0 rfl)).mono ?_; rintro e w2 ⟨rfl, rfl⟩))
  refine bodyPost_ret (results_row_tmp rfl _ _ _ 30 _ (0, 0) _ rfl (by exact hm.at_ 2 rfl) Tryz.underlying30 rfl (by kernel_rfl)) rfl ⟨rfl, hm.still 0 rfl HK.out⟩
set_option maxRecDepth 100000 in
theorem law_key (b : UInt8) (w0 : World) : Calls Tryz.prog 13 #[.int .u8 (b.toNat : Int)] w0 (ORes w0 (List.replicate 16 b)) := by
  have m16 : ∀ u : World, (Instr.makeSlice 22 (.int .i64 16) (.int .i64 16)).run Tryz.prog u = .ok (.slice (some ⟨u.heap.size, 0, none⟩) 16 16) (u.alloc (.cells #[.int .u8 0, .int .u8 0, .int .u8 0, .int .u8 0, .int .u8 0, .int .u8 0, .int .u8 0, .int .u8 0, .int .u8 0, .int .u8 0, .int .u8 0, .int .u8 0, .int .u8 0, .int .u8 0, .int .u8 0, .int .u8 0] 5)) := fun _ => by kernel_rfl
  generalize hv : (b.toNat : Int) = v
  have HV := Lib.hid hv
  clear hv
  have hm := Mem.nil (fun _ => False) w0
  go_enter Tryz.func13, Tryz.ntmps13
  go_wp2_with (first | go_skip | ((with_reducible show wpList _ _ _ _ _ (World.alloc _ _)); refine wpList_up hm ?_; clear hm; intro n w hn hn2 hk hm hd hd2 ho; (try rw [← hn]); replace hn := Nat.le_of_eq hn.symm) | ((first | ((with_reducible show wpList _ _ _ (Oper.mk _ (Op.box _ _) _ _ _ _ :: _) _ _); (refine bxA hm ?_; clear hm; intro n w hn hz hm ho; (try simp only [List.cons_append, List.nil_append] at hm))) | ((with_reducible show wpList _ _ _ (Oper.mk _ (Op.load _ _) _ _ _ _ :: _) _ _); first | (refine ldA hm ?_) | (refine laA hm ?_)) | ((with_reducible show wpList _ _ _ (Oper.mk _ (Op.store _ _ _) _ _ _ _ :: _) _ _); (refine stA hm ?_; clear hm; intro w hz hm ho)) | ((with_reducible show wpList _ _ _ (Oper.mk _ (Op.alloc _) _ _ _ _ :: _) _ _); (refine alA hm ?_; clear hm; intro n w hn hz hm ho; (try simp only [List.cons_append, List.nil_append] at hm)))); try simp only [Act.put, sxQ]))
  refine loop_up hm ?_
  clear hm
  intro n w hn hn2 hk hm hd hd2 ho
  rw [← hn]
  clear hn
  replace hm := hm.cons hk (.inr hn2) (fun e he e2 => hd e he e2.symm) hd2
  clear hk hd hd2
  refine wp_loop_rounds 17 ?_
  iterate 17
    rw [rounds_succ]
    go_wp2_with (first | go_skip | ((with_reducible show wpList _ _ _ _ _ (World.alloc _ _)); refine wpList_up hm ?_; clear hm; intro n w hn hn2 hk hm hd hd2 ho; (try rw [← hn]); replace hn := Nat.le_of_eq hn.symm) | ((first | ((with_reducible show wpList _ _ _ (Oper.mk _ (Op.box _ _) _ _ _ _ :: _) _ _); (refine bxA hm ?_; clear hm; intro n w hn hz hm ho; (try simp only [List.cons_append, List.nil_append] at hm))) | ((with_reducible show wpList _ _ _ (Oper.mk _ (Op.load _ _) _ _ _ _ :: _) _ _); first | (refine ldA hm ?_) | (refine laA hm ?_)) | ((with_reducible show wpList _ _ _ (Oper.mk _ (Op.store _ _ _) _ _ _ _ :: _) _ _); (refine stA hm ?_; clear hm; intro w hz hm ho)) | ((with_reducible show wpList _ _ _ (Oper.mk _ (Op.alloc _) _ _ _ _ :: _) _ _); (refine alA hm ?_; clear hm; intro n w hn hz hm ho; (try simp only [List.cons_append, List.nil_append] at hm)))); try simp only [Act.put, sxQ]))
  go_ret
  refine ORes.of (n := 16) (by simp) (bs := List.replicate 16 b) ?_ hm.low
  have hb := Own.blk (s := 1) (n := 16) (c := 16) (base := w0.heap.size) (hm.at_ 0 rfl) (by exact hn2) (by omega) (by unfold maxLen; omega) (by simp) (by simp)
  rw [← HV.out] at hb
  exact hb
set_option maxRecDepth 100000 in
theorem valid_len (w0 : World) (E M R D : Option Addr) (n0 ce n1 cm n2 cr n3 cd : Nat) (lvl : Int) (h : ¬ (n0 = 16 ∧ n1 = 16 ∧ n2 = 16 ∧ n3 = 16)) :
    Calls Tryz.prog 12 #[.agg #[.slice E n0 ce, .slice M n1 cm, .slice R n2 cr, .slice D n3 cd, .int .i64 lvl]] w0 fun e w' => e = .returned (.bool false) ∧ Below w0.heap.size w0 w' := by
  have hn : ∀ k : Nat, k ≠ 16 → ((k : Int) == 16) = false ∧ ((k : Int) != 16) = true := fun k hk => ⟨by rw [beq_eq_false_iff_ne]; omega, by rw [bne_iff_ne]; omega⟩
  have hc : (((n0 : Int) == 16) = false ∧ ((n0 : Int) != 16) = true) ∨ (n0 = 16 ∧ ((n1 : Int) == 16) = false ∧ ((n1 : Int) != 16) = true) ∨ (n0 = 16 ∧ n1 = 16 ∧ ((n2 : Int) == 16) = false ∧ ((n2 : Int) != 16) = true) ∨ (n0 = 16 ∧ n1 = 16 ∧ n2 = 16 ∧ ((n3 : Int) == 16) = false ∧ ((n3 : Int) != 16) = true) := by
    by_cases h0 : n0 = 16
    rotate_left 1
    · exact .inl (hn _ h0)
    by_cases h1 : n1 = 16
    rotate_left 1
    · exact .inr (.inl ⟨h0, hn _ h1⟩)
    by_cases h2 : n2 = 16
    rotate_left 1
    · exact .inr (.inr (.inl ⟨h0, h1, hn _ h2⟩))
    · exact .inr (.inr (.inr ⟨h0, h1, h2, hn _ (fun h3 => h ⟨h0, h1, h2, h3⟩)⟩))
  have hm := Mem.nil (fun _ => False) w0
  clear h hn
  rcases hc with ⟨i0, i1⟩ | ⟨rfl, i0, i1⟩ | ⟨rfl, rfl, i0, i1⟩ | ⟨rfl, rfl, rfl, i0, i1⟩
  all_goals
    go_enter Tryz.func12, Tryz.ntmps12
    go_wp2_with (first | go_skip | ((with_reducible show wpList _ _ _ _ _ (World.alloc _ _)); refine wpList_up hm ?_; clear hm; intro n w hn hn2 hk hm hd hd2 ho; (try rw [← hn]); replace hn := Nat.le_of_eq hn.symm) | ((first | ((with_reducible show wpList _ _ _ (Oper.mk _ (Op.box _ _) _ _ _ _ :: _) _ _); (refine bxA hm ?_; clear hm; intro n w hn hz hm ho; (try simp only [List.cons_append, List.nil_append] at hm))) | ((with_reducible show wpList _ _ _ (Oper.mk _ (Op.load _ _) _ _ _ _ :: _) _ _); first | (refine ldA hm ?_) | (refine laA hm ?_)) | ((with_reducible show wpList _ _ _ (Oper.mk _ (Op.store _ _ _) _ _ _ _ :: _) _ _); (refine stA hm ?_; clear hm; intro w hz hm ho)) | ((with_reducible show wpList _ _ _ (Oper.mk _ (Op.alloc _) _ _ _ _ :: _) _ _); (refine alA hm ?_; clear hm; intro n w hn hz hm ho; (try simp only [List.cons_append, List.nil_append] at hm)))); try simp only [Act.put, sxQ]))
    go_ret
    exact ⟨rfl, hm.low⟩
set_option maxRecDepth 100000 in
theorem valid_lv (w0 : World) (E M R D : Option Addr) (ce cm cr cd : Nat) (lvl : Int) :
    Calls Tryz.prog 12 #[.agg #[.slice E 16 ce, .slice M 16 cm, .slice R 16 cr, .slice D 16 cd, .int .i64 lvl]] w0 fun e w' => e = .returned (.bool (Sec.lvOk lvl)) ∧ Below w0.heap.size w0 w' := by
  have hm := Mem.nil (fun _ => False) w0
  have hc : lvl = 0 ∨ lvl = 1 ∨ lvl = 3 ∨ lvl = 17 ∨ lvl = 19 ∨ lvl = 51 ∨ (Sec.lvOk lvl = false ∧ (lvl == 0) = false ∧ (lvl == 1) = false ∧ (lvl == 3) = false ∧ (lvl == 17) = false ∧ (lvl == 19) = false ∧ (lvl == 51) = false) := by
    cases h : Sec.lvOk lvl with
    | true => rcases Sec.lv_cases h with h | h | h | h | h | h <;> simp [h]
    | false =>
      have hd : ¬ _ := of_decide_eq_false h
      have hn : ∀ k : Int, (k = 0 ∨ k = 1 ∨ k = 3 ∨ k = 17 ∨ k = 19 ∨ k = 51) → (lvl == k) = false := fun k hk => by
        rw [beq_eq_false_iff_ne]
        rintro rfl
        exact hd hk
      exact .inr (.inr (.inr (.inr (.inr (.inr ⟨rfl, hn 0 (by decide), hn 1 (by decide), hn 3 (by decide), hn 17 (by decide), hn 19 (by decide), hn 51 (by decide)⟩)))))
  obtain ⟨v, hv⟩ : ∃ v, Sec.lvOk lvl = v := ⟨_, rfl⟩
  rw [hv]
  have HV := Lib.hid hv
  clear hv
  rcases hc with rfl | rfl | rfl | rfl | rfl | rfl | ⟨h, i0, i1, i3, i17, i19, i51⟩
  all_goals first | (have h := HV.out; clear HV; obtain rfl : v = true := h.symm) | (obtain rfl : v = false := HV.out.symm.trans h; clear HV h)
  all_goals
    go_enter Tryz.func12, Tryz.ntmps12
    go_wp2_with (first | go_skip | ((with_reducible show wpList _ _ _ _ _ (World.alloc _ _)); refine wpList_up hm ?_; clear hm; intro n w hn hn2 hk hm hd hd2 ho; (try rw [← hn]); replace hn := Nat.le_of_eq hn.symm) | ((first | ((with_reducible show wpList _ _ _ (Oper.mk _ (Op.box _ _) _ _ _ _ :: _) _ _); (refine bxA hm ?_; clear hm; intro n w hn hz hm ho; (try simp only [List.cons_append, List.nil_append] at hm))) | ((with_reducible show wpList _ _ _ (Oper.mk _ (Op.load _ _) _ _ _ _ :: _) _ _); first | (refine ldA hm ?_) | (refine laA hm ?_)) | ((with_reducible show wpList _ _ _ (Oper.mk _ (Op.store _ _ _) _ _ _ _ :: _) _ _); (refine stA hm ?_; clear hm; intro w hz hm ho)) | ((with_reducible show wpList _ _ _ (Oper.mk _ (Op.alloc _) _ _ _ _ :: _) _ _); (refine alA hm ?_; clear hm; intro n w hn hz hm ho; (try simp only [List.cons_append, List.nil_append] at hm)))); try simp only [Act.put, sxQ]))
    refine loop_up hm ?_
    clear hm
    intro n w hn hn2 hk hm hd hd2 ho
    rw [← hn]
    clear hn
    replace hm := hm.cons hk (.inr hn2) (fun e he e2 => hd e he e2.symm) hd2
    clear hk hd hd2
    refine wp_loop_rounds 7 ?_
    iterate 6
      try
        rw [rounds_succ]
        go_wp2_with (first | go_skip | ((with_reducible show wpList _ _ _ _ _ (World.alloc _ _)); refine wpList_up hm ?_; clear hm; intro n w hn hn2 hk hm hd hd2 ho; (try rw [← hn]); replace hn := Nat.le_of_eq hn.symm) | ((first | ((with_reducible show wpList _ _ _ (Oper.mk _ (Op.box _ _) _ _ _ _ :: _) _ _); (refine bxA hm ?_; clear hm; intro n w hn hz hm ho; (try simp only [List.cons_append, List.nil_append] at hm))) | ((with_reducible show wpList _ _ _ (Oper.mk _ (Op.load _ _) _ _ _ _ :: _) _ _); first | (refine ldA hm ?_) | (refine laA hm ?_)) | ((with_reducible show wpList _ _ _ (Oper.mk _ (Op.store _ _ _) _ _ _ _ :: _) _ _); (refine stA hm ?_; clear hm; intro w hz hm ho)) | ((with_reducible show wpList _ _ _ (Oper.mk _ (Op.alloc _) _ _ _ _ :: _) _ _); (refine alA hm ?_; clear hm; intro n w hn hz hm ho; (try simp only [List.cons_append, List.nil_append] at hm)))); try simp only [Act.put, sxQ]))
        refine wp_region_noPanic ?_
        refine wp_region_held_drew (S := MemS _ _ _ _) (by kernel_rfl) (MemS.of hm.drew) (fun hHeld => ?_)
        refine wpAnyH_fresh (by repeat (first | apply Fresh.a | apply Fresh.b)) ?_
        replace hm := hm.drew
        iterate 7 (first | (refine takeN 0 hHeld ?_) | (refine takeY 0 ?_ hHeld ?_ ?_; rotate_left 1; (first | (intro w9 h9; (with_reducible show (execOp _ (Oper.mk _ (Op.load _ _) _ _ _ _)).run _ _ = _); first | exact h9.ldA) | focus (intro w9 hSw; go_simp; (try (with_reducible rfl)); done))); try simp only [Act.put, sxQ])
        refine wpAnyH_done (by kernel_rfl) ?_ _
        refine NoPanic.normal ?_
        go_wp2_with (first | go_skip | ((with_reducible show wpList _ _ _ _ _ (World.alloc _ _)); refine wpList_up hm ?_; clear hm; intro n w hn hn2 hk hm hd hd2 ho; (try rw [← hn]); replace hn := Nat.le_of_eq hn.symm) | ((first | ((with_reducible show wpList _ _ _ (Oper.mk _ (Op.box _ _) _ _ _ _ :: _) _ _); (refine bxA hm ?_; clear hm; intro n w hn hz hm ho; (try simp only [List.cons_append, List.nil_append] at hm))) | ((with_reducible show wpList _ _ _ (Oper.mk _ (Op.load _ _) _ _ _ _ :: _) _ _); first | (refine ldA hm ?_) | (refine laA hm ?_)) | ((with_reducible show wpList _ _ _ (Oper.mk _ (Op.store _ _ _) _ _ _ _ :: _) _ _); (refine stA hm ?_; clear hm; intro w hz hm ho)) | ((with_reducible show wpList _ _ _ (Oper.mk _ (Op.alloc _) _ _ _ _ :: _) _ _); (refine alA hm ?_; clear hm; intro n w hn hz hm ho; (try simp only [List.cons_append, List.nil_append] at hm)))); try simp only [Act.put, sxQ]))
    try
      rw [rounds_succ]
      go_wp2_with (first | go_skip | ((with_reducible show wpList _ _ _ _ _ (World.alloc _ _)); refine wpList_up hm ?_; clear hm; intro n w hn hn2 hk hm hd hd2 ho; (try rw [← hn]); replace hn := Nat.le_of_eq hn.symm) | ((first | ((with_reducible show wpList _ _ _ (Oper.mk _ (Op.box _ _) _ _ _ _ :: _) _ _); (refine bxA hm ?_; clear hm; intro n w hn hz hm ho; (try simp only [List.cons_append, List.nil_append] at hm))) | ((with_reducible show wpList _ _ _ (Oper.mk _ (Op.load _ _) _ _ _ _ :: _) _ _); first | (refine ldA hm ?_) | (refine laA hm ?_)) | ((with_reducible show wpList _ _ _ (Oper.mk _ (Op.store _ _ _) _ _ _ _ :: _) _ _); (refine stA hm ?_; clear hm; intro w hz hm ho)) | ((with_reducible show wpList _ _ _ (Oper.mk _ (Op.alloc _) _ _ _ _ :: _) _ _); (refine alA hm ?_; clear hm; intro n w hn hz hm ho; (try simp only [List.cons_append, List.nil_append] at hm)))); try simp only [Act.put, sxQ]))
    go_ret
    exact ⟨rfl, hm.low⟩
theorem ref24_Valid (w0 : World) (E M R D : Option Addr) (en ce mn cm rn cr dn cd : Nat) (lvl : Int) :
    Calls Tryz.prog 12 #[.agg #[.slice E en ce, .slice M mn cm, .slice R rn cr, .slice D dn cd, .int .i64 lvl]] w0 fun e w' => e = .returned (.bool (decide (en = 16 ∧ mn = 16 ∧ rn = 16 ∧ dn = 16 ∧ Sec.lvOk lvl = true))) ∧ Below w0.heap.size w0 w' := by
  by_cases h : en = 16 ∧ mn = 16 ∧ rn = 16 ∧ dn = 16
  · obtain ⟨rfl, rfl, rfl, rfl⟩ := h
    have := valid_lv w0 E M R D ce cm cr cd lvl
    cases h5 : Sec.lvOk lvl with
    | false => rw [decide_eq_false (fun h => by cases h.2.2.2.2)]; rwa [h5] at this
    | true => rw [decide_eq_true ⟨rfl, rfl, rfl, rfl, rfl⟩]; rwa [h5] at this
  · rw [decide_eq_false (fun e => h ⟨e.1, e.2.1, e.2.2.1, e.2.2.2.1⟩)]
    exact valid_len w0 E M R D en ce mn cm rn cr dn cd lvl h
end Go.Proofs.YtibaibdgpnkdnaaGreatDoor
