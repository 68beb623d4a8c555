/-
  The laws' works: the chapter's examples.
-/
import Derived.Test.YtnlhammgcemchaaZ0
import Derived.Test.YtnlhammgcemchaaPgD
import Derived.Test.YtnlhammgcemchaaZ1
namespace Go.Proofs.Ytnlhammgcemchaa
set_option maxRecDepth 100000
set_option linter.unusedSimpArgs false
set_option linter.unusedVariables false
open Go.RowKit
set_option maxHeartbeats 8000000

theorem Pg.Live.writesC {B : Nat} {fr : Pg.Fs} {p : Pg.P} {st : List (List UInt8)} (h : Pg.Live B fr p st) (hB : B ≤ 900000000) (hp : p.m.pending = false) (i : Int) (b : List UInt8) :
    ∃ p' fr', p.write i b = (p', (Pg.rwrite st i b).2) ∧ Pg.Live (B + 1200) fr' p' (Pg.rwrite st i b).1 ∧ p'.m.pending = false ∧ p'.m.words.length = p.m.words.length ∧ p'.m.writes ≤ p.m.writes + 42 ∧ (Pg.Exact p.m.words → Pg.Exact p'.m.words ∧ p'.fixed = p.fixed) := by
  rcases h.writes hB i b with ⟨p', fr', h1, h2, _, _, h3, h4, h5, h6⟩ | ⟨_, _, _, h2, _⟩
  · exact ⟨p', fr', h1, h2, h4 hp, h3, h5, h6⟩
  · rw [hp] at h2; cases h2
/-- A write, the power being sure. -/
theorem live_WriteC {w : World} {g B : Nat} {G : Nat → Prop} {s : PgS} {p : Pg.P} {fr : Pg.Fs} {st : List (List UInt8)} (H : PAt w g G s p) (L : Pg.Live B fr p st) (hB : B ≤ 900000000) (hp : p.m.pending = false) (i : Int) (B0 : Option Addr) (n cb : Nat) (b : List UInt8) (hb : Byt w w.heap.size B0 n cb b ∧ ∀ a, B0 = some a → 0 < n → ¬ G a.block) :
    Calls Try.prog 14 #[.pointer (some ⟨g, 0, none⟩), .int .i64 i, .slice B0 n cb] w fun e w' => ∃ p' fr' G' s', e = .returned (.int .i64 (Pg.rwrite st i b).2) ∧ PAt w' g G' s' p' ∧ Pg.Live (B + 1200) fr' p' (Pg.rwrite st i b).1 ∧ p'.m.pending = false ∧ p'.m.words.length = p.m.words.length ∧ p'.m.writes ≤ p.m.writes + 42 ∧ (Pg.Exact p.m.words → Pg.Exact p'.m.words ∧ p'.fixed = p.fixed) ∧ (∀ q, G' q → G q ∨ w.heap.size ≤ q) ∧ Only G w w' ∧ s'.mm = s.mm ∧ p.write i b = (p', (Pg.rwrite st i b).2) := by
  obtain ⟨p', fr', h1, h2, h3, h4, h5, h6⟩ := L.writesC hB hp i b
  have h := live_Write H L hB i B0 n cb b hb
  rw [h1] at h
  exact h.mono fun e w' ⟨he, G', s', a1, a2, a3, a4⟩ => ⟨p', fr', G', s', he, a1, h2, h3, h4, h5, h6, a2, a3, a4, h1⟩
def Pg.w1 : List (List UInt8) := (Pg.zeros 240).set 3 (Pg.pad [7, 8])
theorem Pg.ex1 : Pg.rwrite (Pg.zeros 240) 3 (Pg.pad [7, 8]) = (Pg.w1, 0) := by decide +kernel
theorem Pg.ex2 : Pg.rwrite Pg.w1 3 (zs 47) = (Pg.w1, 1) := by decide +kernel
theorem Pg.ex3 : Pg.rread Pg.w1 3 = (Pg.pad [7, 8], 0) := by decide +kernel
theorem Pg.ex4 : Pg.rread Pg.w1 2 = (zs 48, 0) := by decide +kernel
theorem Pg.ex5 : Pg.rread Pg.w1 10 = ([], 2) := by decide +kernel
theorem Pg.ex6 : Pg.pad [] = zs 48 := by decide +kernel
/-- The string of bytes. -/
def strOf (bs : List UInt8) : ByteArray := ⟨bs.toArray⟩
theorem byt_str {u : World} {A : Option Addr} {n c : Nat} {bs : List UInt8} (h : Byt u u.heap.size A n c bs) : (convert 39 9 (.slice A n c)).run Try.prog u = .ok (.string (strOf bs)) u :=
  byt_string (P := Try.prog) 39 5 Try.underlying39 Try.underlying5 h 9 Try.underlying9
attribute [irreducible] strOf
theorem exec_cv {P : Program} {o : Oper} {a : Act} {w : World} (src dst : TypeId) (x : Operand) (ho : o.op = .convert src dst x) (v : Value) (hv : (convert src dst (a.eval x)).run P w = .ok v w) : (execOp a.eval o).run P w = .ok (.value v) w := by
  unfold execOp
  simp only [ho, hv, Sem.run_bind, Sem.run_pure, Result.andThen_ok]
set_option maxRecDepth 100000 in
theorem law11_works (w0 : World) : Calls Try.prog 10 #[] w0 fun e w' => e = .returned (.bool true) ∧ Below w0.heap.size w0 w' := by
  have HO := Lib.hid (fun u => law11_open 240 u (by omega) (by omega))
  have m47 : ∀ u : World, (Instr.makeSlice 39 (.int .i64 47) (.int .i64 47)).run Try.prog u = .ok (.slice (some ⟨u.heap.size, 0, none⟩) 47 47) (u.alloc (.cells (zc 47) 5)) := fun _ => by kernel_rfl
  have HC := Lib.hid (Scn.start w0)
  have hm := HC.out.rebase
  go_enter Try.func10, Try.ntmps10
  go_wp2_with (first | go_skip | ((with_reducible show wpList _ _ _ _ _ (World.alloc _ _)); refine wpList_up hm ?_; clear hm; intro n w hn hn2 hk hm hd hd2 ho; (try rw [← hn]); replace hn := Nat.le_of_eq hn.symm) | ((first | ((with_reducible show wpList _ _ _ (Oper.mk _ (Op.box _ _) _ _ _ _ :: _) _ _); (refine bxA hm ?_; clear hm; intro n w hn hz hm ho; (try simp only [List.cons_append, List.nil_append] at hm))) | ((with_reducible show wpList _ _ _ (Oper.mk _ (Op.load _ _) _ _ _ _ :: _) _ _); first | (refine ldA hm ?_) | (refine laA hm ?_)) | ((with_reducible show wpList _ _ _ (Oper.mk _ (Op.store _ _ _) _ _ _ _ :: _) _ _); (refine stA hm ?_; clear hm; intro w hz hm ho)) | ((with_reducible show wpList _ _ _ (Oper.mk _ (Op.alloc _) _ _ _ _ :: _) _ _); (refine alA hm ?_; clear hm; intro n w hn hz hm ho; (try simp only [List.cons_append, List.nil_append] at hm)))); try simp only [Act.put, sxQ]))
  go_at_call 22
  refine (HO.out _).mono ?_
  rintro e w1 ⟨hb1, gm, g, G, s, p, rfl, hp, hgm, hsn, hL, hpm, hfx, hG⟩
  have hc2 := (HC.out.resync hm).born hb1 hp.sup hG
  have HL := Lib.hid hL
  have HPD := Lib.hid (show p.m.pending = false by rw [hpm]; rfl)
  clear hL hpm hfx hG hp hb1 hgm hsn
  clear HC hm
  simp only [List.nil_append, List.cons_append, List.set_cons_zero, List.set_cons_succ] at hc2
  have HC := Lib.hid hc2
  clear hc2
  have hm := HC.out.rebase
  go_wp2_with (first | go_skip | ((with_reducible show wpList _ _ _ _ _ (World.alloc _ _)); refine wpList_up hm ?_; clear hm; intro n w hn hn2 hk hm hd hd2 ho; (try rw [← hn]); replace hn := Nat.le_of_eq hn.symm) | ((first | ((with_reducible show wpList _ _ _ (Oper.mk _ (Op.box _ _) _ _ _ _ :: _) _ _); (refine bxA hm ?_; clear hm; intro n w hn hz hm ho; (try simp only [List.cons_append, List.nil_append] at hm))) | ((with_reducible show wpList _ _ _ (Oper.mk _ (Op.load _ _) _ _ _ _ :: _) _ _); first | (refine ldA hm ?_) | (refine laA hm ?_)) | ((with_reducible show wpList _ _ _ (Oper.mk _ (Op.store _ _ _) _ _ _ _ :: _) _ _); (refine stA hm ?_; clear hm; intro w hz hm ho)) | ((with_reducible show wpList _ _ _ (Oper.mk _ (Op.alloc _) _ _ _ _ :: _) _ _); (refine alA hm ?_; clear hm; intro n w hn hz hm ho; (try simp only [List.cons_append, List.nil_append] at hm)))); try simp only [Act.put, sxQ]))
  go_at_call 24
  refine (live_Count (HC.out.obj 0 rfl) HL.out).mono ?_
  rintro e w2 ⟨rfl, hb2⟩
  rw [show ((Pg.zeros 240).length : Int) = 10 from rfl]
  have hc2 := (HC.out.resync hm).below hb2
  clear hb2
  clear HC hm
  simp only [List.nil_append, List.cons_append, List.set_cons_zero, List.set_cons_succ] at hc2
  have HC := Lib.hid hc2
  clear hc2
  have hm := HC.out.rebase
  go_wp2_with (first | go_skip | ((with_reducible show wpList _ _ _ _ _ (World.alloc _ _)); refine wpList_up hm ?_; clear hm; intro n w hn hn2 hk hm hd hd2 ho; (try rw [← hn]); replace hn := Nat.le_of_eq hn.symm) | ((first | ((with_reducible show wpList _ _ _ (Oper.mk _ (Op.box _ _) _ _ _ _ :: _) _ _); (refine bxA hm ?_; clear hm; intro n w hn hz hm ho; (try simp only [List.cons_append, List.nil_append] at hm))) | ((with_reducible show wpList _ _ _ (Oper.mk _ (Op.load _ _) _ _ _ _ :: _) _ _); first | (refine ldA hm ?_) | (refine laA hm ?_)) | ((with_reducible show wpList _ _ _ (Oper.mk _ (Op.store _ _ _) _ _ _ _ :: _) _ _); (refine stA hm ?_; clear hm; intro w hz hm ho)) | ((with_reducible show wpList _ _ _ (Oper.mk _ (Op.alloc _) _ _ _ _ :: _) _ _); (refine alA hm ?_; clear hm; intro n w hn hz hm ho; (try simp only [List.cons_append, List.nil_append] at hm)))); try simp only [Act.put, sxQ]))
  go_at_call 25
  refine (law11_block _ 2 2 [7, 8] _ (byt_blk (bs := [7, 8]) hk hk.lt rfl)).mono ?_
  rintro e w3 ⟨q3, rfl, ho3, hb3⟩
  have hc2 := (HC.out.resync hm).got hb3 ho3
  clear hb3 ho3 hk hd hd2 ho hn hn2
  clear HC hm
  simp only [List.nil_append, List.cons_append, List.set_cons_zero, List.set_cons_succ] at hc2
  have HC := Lib.hid hc2
  clear hc2
  have hm := HC.out.rebase
  go_wp2_with (first | go_skip | ((with_reducible show wpList _ _ _ _ _ (World.alloc _ _)); refine wpList_up hm ?_; clear hm; intro n w hn hn2 hk hm hd hd2 ho; (try rw [← hn]); replace hn := Nat.le_of_eq hn.symm) | ((first | ((with_reducible show wpList _ _ _ (Oper.mk _ (Op.box _ _) _ _ _ _ :: _) _ _); (refine bxA hm ?_; clear hm; intro n w hn hz hm ho; (try simp only [List.cons_append, List.nil_append] at hm))) | ((with_reducible show wpList _ _ _ (Oper.mk _ (Op.load _ _) _ _ _ _ :: _) _ _); first | (refine ldA hm ?_) | (refine laA hm ?_)) | ((with_reducible show wpList _ _ _ (Oper.mk _ (Op.store _ _ _) _ _ _ _ :: _) _ _); (refine stA hm ?_; clear hm; intro w hz hm ho)) | ((with_reducible show wpList _ _ _ (Oper.mk _ (Op.alloc _) _ _ _ _ :: _) _ _); (refine alA hm ?_; clear hm; intro n w hn hz hm ho; (try simp only [List.cons_append, List.nil_append] at hm)))); try simp only [Act.put, sxQ]))
  go_at_call 14
  refine (live_WriteC (HC.out.obj 0 rfl) HL.out (by omega) HPD.out 3 _ 48 48 (Pg.pad [7, 8]) (HC.out.bytO 0 0 rfl rfl)).mono ?_
  rintro e w4 ⟨p1, fr1, G1, s1, rfl, hp1, hL1, hpd1, _, _, _, hF1, ho4, _, _⟩
  have hc2 := (HC.out.resync hm).turn 0 rfl ho4 hF1 hp1.sup
  rw [Pg.ex1] at hL1 ⊢
  clear HL HPD hp1 ho4 hF1
  have HL := Lib.hid hL1
  have HPD := Lib.hid hpd1
  clear hL1 hpd1
  dsimp only
  clear HC hm
  simp only [List.nil_append, List.cons_append, List.set_cons_zero, List.set_cons_succ] at hc2
  have HC := Lib.hid hc2
  clear hc2
  have hm := HC.out.rebase
  go_wp2_with (first | go_skip | ((with_reducible show wpList _ _ _ _ _ (World.alloc _ _)); refine wpList_up hm ?_; clear hm; intro n w hn hn2 hk hm hd hd2 ho; (try rw [← hn]); replace hn := Nat.le_of_eq hn.symm) | ((first | ((with_reducible show wpList _ _ _ (Oper.mk _ (Op.box _ _) _ _ _ _ :: _) _ _); (refine bxA hm ?_; clear hm; intro n w hn hz hm ho; (try simp only [List.cons_append, List.nil_append] at hm))) | ((with_reducible show wpList _ _ _ (Oper.mk _ (Op.load _ _) _ _ _ _ :: _) _ _); first | (refine ldA hm ?_) | (refine laA hm ?_)) | ((with_reducible show wpList _ _ _ (Oper.mk _ (Op.store _ _ _) _ _ _ _ :: _) _ _); (refine stA hm ?_; clear hm; intro w hz hm ho)) | ((with_reducible show wpList _ _ _ (Oper.mk _ (Op.alloc _) _ _ _ _ :: _) _ _); (refine alA hm ?_; clear hm; intro n w hn hz hm ho; (try simp only [List.cons_append, List.nil_append] at hm)))); try simp only [Act.put, sxQ]))
  have hm2 := hm.row hk hn2 hd hd2 1 47 (bcells (zs 47)) rfl rfl (by unfold maxLen; omega)
  clear hm
  have hm := hm2
  clear hm2
  have hc2 := HC.out.resync hm
  clear hk hd hd2 ho hn hn2
  clear HC hm
  simp only [List.nil_append, List.cons_append, List.set_cons_zero, List.set_cons_succ] at hc2
  have HC := Lib.hid hc2
  clear hc2
  have hm := HC.out.rebase
  go_at_call 14
  refine (live_WriteC (HC.out.obj 0 rfl) HL.out (by omega) HPD.out 3 _ 47 47 (zs 47) (HC.out.bytO 1 0 rfl rfl)).mono ?_
  rintro e w5 ⟨p2, fr2, G2, s2, rfl, hp2, hL2, hpd2, _, _, _, hF2, ho5, _, _⟩
  have hc2 := (HC.out.resync hm).turn 0 rfl ho5 hF2 hp2.sup
  rw [Pg.ex2] at hL2 ⊢
  clear HL HPD hp2 ho5 hF2
  have HL := Lib.hid hL2
  clear hL2 hpd2
  dsimp only
  clear HC hm
  simp only [List.nil_append, List.cons_append, List.set_cons_zero, List.set_cons_succ] at hc2
  have HC := Lib.hid hc2
  clear hc2
  have hm := HC.out.rebase
  go_wp2_with (first | go_skip | ((with_reducible show wpList _ _ _ _ _ (World.alloc _ _)); refine wpList_up hm ?_; clear hm; intro n w hn hn2 hk hm hd hd2 ho; (try rw [← hn]); replace hn := Nat.le_of_eq hn.symm) | ((first | ((with_reducible show wpList _ _ _ (Oper.mk _ (Op.box _ _) _ _ _ _ :: _) _ _); (refine bxA hm ?_; clear hm; intro n w hn hz hm ho; (try simp only [List.cons_append, List.nil_append] at hm))) | ((with_reducible show wpList _ _ _ (Oper.mk _ (Op.load _ _) _ _ _ _ :: _) _ _); first | (refine ldA hm ?_) | (refine laA hm ?_)) | ((with_reducible show wpList _ _ _ (Oper.mk _ (Op.store _ _ _) _ _ _ _ :: _) _ _); (refine stA hm ?_; clear hm; intro w hz hm ho)) | ((with_reducible show wpList _ _ _ (Oper.mk _ (Op.alloc _) _ _ _ _ :: _) _ _); (refine alA hm ?_; clear hm; intro n w hn hz hm ho; (try simp only [List.cons_append, List.nil_append] at hm)))); try simp only [Act.put, sxQ]))
  go_at_call 17
  refine (live_Read (HC.out.obj 0 rfl) HL.out (by omega) 3).mono ?_
  rintro e w6 ⟨A6, k6, m6, c6, rfl, hk6, ho6, hc6, _, hp6, hon6⟩
  rw [Pg.ex3] at hk6 ho6 ⊢
  obtain rfl : k6 = 48 := hk6
  have hc2 := (HC.out.resync hm).turned 0 rfl hon6 (fun q h => .inl h) hp6.sup ho6 (fun q hq e => by have := ((HC.out.resync hm).lt 0 rfl) q hq; have := (ho6.lt _ e).1; omega)
  have hL6 := HL.out.more (c := c6) (by omega)
  clear HL hp6 hon6 ho6 hc6
  have HL := Lib.hid hL6
  clear hL6
  dsimp only
  clear HC hm
  simp only [List.nil_append, List.cons_append, List.set_cons_zero, List.set_cons_succ] at hc2
  have HC := Lib.hid hc2
  clear hc2
  have hm := HC.out.rebase
  go_wp2_with (first | go_skip | ((with_reducible show wpList _ _ _ _ _ (World.alloc _ _)); refine wpList_up hm ?_; clear hm; intro n w hn hn2 hk hm hd hd2 ho; (try rw [← hn]); replace hn := Nat.le_of_eq hn.symm) | ((first | ((with_reducible show wpList _ _ _ (Oper.mk _ (Op.box _ _) _ _ _ _ :: _) _ _); (refine bxA hm ?_; clear hm; intro n w hn hz hm ho; (try simp only [List.cons_append, List.nil_append] at hm))) | ((with_reducible show wpList _ _ _ (Oper.mk _ (Op.load _ _) _ _ _ _ :: _) _ _); first | (refine ldA hm ?_) | (refine laA hm ?_)) | ((with_reducible show wpList _ _ _ (Oper.mk _ (Op.store _ _ _) _ _ _ _ :: _) _ _); (refine stA hm ?_; clear hm; intro w hz hm ho)) | ((with_reducible show wpList _ _ _ (Oper.mk _ (Op.alloc _) _ _ _ _ :: _) _ _); (refine alA hm ?_; clear hm; intro n w hn hz hm ho; (try simp only [List.cons_append, List.nil_append] at hm)))); try simp only [Act.put, sxQ]))
  go_at_call 17
  refine (live_Read (HC.out.obj 0 rfl) HL.out (by omega) 2).mono ?_
  rintro e w7 ⟨A7, k7, m7, c7, rfl, hk7, ho7, hc7, _, hp7, hon7⟩
  rw [Pg.ex4] at hk7 ho7 ⊢
  obtain rfl : k7 = 48 := hk7
  have hc2 := (HC.out.resync hm).turned 0 rfl hon7 (fun q h => .inl h) hp7.sup ho7 (fun q hq e => by have := ((HC.out.resync hm).lt 0 rfl) q hq; have := (ho7.lt _ e).1; omega)
  have hL7 := HL.out.more (c := c7) (by omega)
  clear HL hp7 hon7 ho7 hc7
  have HL := Lib.hid hL7
  clear hL7
  dsimp only
  clear HC hm
  simp only [List.nil_append, List.cons_append, List.set_cons_zero, List.set_cons_succ] at hc2
  have HC := Lib.hid hc2
  clear hc2
  have hm := HC.out.rebase
  go_wp2_with (first | go_skip | ((with_reducible show wpList _ _ _ _ _ (World.alloc _ _)); refine wpList_up hm ?_; clear hm; intro n w hn hn2 hk hm hd hd2 ho; (try rw [← hn]); replace hn := Nat.le_of_eq hn.symm) | ((first | ((with_reducible show wpList _ _ _ (Oper.mk _ (Op.box _ _) _ _ _ _ :: _) _ _); (refine bxA hm ?_; clear hm; intro n w hn hz hm ho; (try simp only [List.cons_append, List.nil_append] at hm))) | ((with_reducible show wpList _ _ _ (Oper.mk _ (Op.load _ _) _ _ _ _ :: _) _ _); first | (refine ldA hm ?_) | (refine laA hm ?_)) | ((with_reducible show wpList _ _ _ (Oper.mk _ (Op.store _ _ _) _ _ _ _ :: _) _ _); (refine stA hm ?_; clear hm; intro w hz hm ho)) | ((with_reducible show wpList _ _ _ (Oper.mk _ (Op.alloc _) _ _ _ _ :: _) _ _); (refine alA hm ?_; clear hm; intro n w hn hz hm ho; (try simp only [List.cons_append, List.nil_append] at hm)))); try simp only [Act.put, sxQ]))
  go_at_call 17
  refine (live_Read (HC.out.obj 0 rfl) HL.out (by omega) 10).mono ?_
  rintro e w8 ⟨A8, k8, m8, c8, rfl, hk8, ho8, hc8, _, hp8, hon8⟩
  rw [Pg.ex5] at hk8 ho8 ⊢
  obtain rfl : k8 = 0 := hk8
  have hc2 := (HC.out.resync hm).turned 0 rfl hon8 (fun q h => .inl h) hp8.sup ho8 (fun q hq e => by have := ((HC.out.resync hm).lt 0 rfl) q hq; have := (ho8.lt _ e).1; omega)
  have hL8 := HL.out.more (c := c8) (by omega)
  clear HL hp8 hon8 ho8 hc8
  have HL := Lib.hid hL8
  clear hL8
  dsimp only
  clear HC hm
  simp only [List.nil_append, List.cons_append, List.set_cons_zero, List.set_cons_succ] at hc2
  have HC := Lib.hid hc2
  clear hc2
  have hm := HC.out.rebase
  go_wp2_with (first | go_skip | ((with_reducible show wpList _ _ _ _ _ (World.alloc _ _)); refine wpList_up hm ?_; clear hm; intro n w hn hn2 hk hm hd hd2 ho; (try rw [← hn]); replace hn := Nat.le_of_eq hn.symm) | ((first | ((with_reducible show wpList _ _ _ (Oper.mk _ (Op.box _ _) _ _ _ _ :: _) _ _); (refine bxA hm ?_; clear hm; intro n w hn hz hm ho; (try simp only [List.cons_append, List.nil_append] at hm))) | ((with_reducible show wpList _ _ _ (Oper.mk _ (Op.load _ _) _ _ _ _ :: _) _ _); first | (refine ldA hm ?_) | (refine laA hm ?_)) | ((with_reducible show wpList _ _ _ (Oper.mk _ (Op.store _ _ _) _ _ _ _ :: _) _ _); (refine stA hm ?_; clear hm; intro w hz hm ho)) | ((with_reducible show wpList _ _ _ (Oper.mk _ (Op.alloc _) _ _ _ _ :: _) _ _); (refine alA hm ?_; clear hm; intro n w hn hz hm ho; (try simp only [List.cons_append, List.nil_append] at hm)))); try simp only [Act.put, sxQ]))
  have HS := Lib.hid (fun (u : World) (A : Option Addr) (n c : Nat) (bs : List UInt8) (h : Byt u u.heap.size A n c bs) => byt_str (n := n) (c := c) h)
  refine wp_region_noPanic ?_
  refine wp_region_held_drew (S := (fun u => (convert 39 9 (.slice A6 48 m6)).run Try.prog u = .ok (.string (strOf (Pg.pad [7, 8]))) u ∧ (convert 39 9 (.slice A7 48 m7)).run Try.prog u = .ok (.string (strOf (zs 48))) u)) (by kernel_rfl) (⟨HS.out _ _ _ _ _ ((HC.out.resync hm.drew).byt 2 rfl), HS.out _ _ _ _ _ ((HC.out.resync hm.drew).byt 3 rfl)⟩) (fun hHeld => ?_)
  refine wpAnyH_fresh (by repeat (first | apply Fresh.a | apply Fresh.b)) ?_
  replace hm := hm.drew
  iterate 12 (first | (refine takeN 0 hHeld ?_) | (refine takeY 0 ?_ hHeld ?_ ?_; rotate_left 1; (first | (intro w9 h9; (with_reducible show (execOp _ (Oper.mk _ (Op.load _ _) _ _ _ _)).run _ _ = _); first | exact h9.ldA | exact h9.lcA | exact h9.laA | exact h9.lrA) | focus (intro w9 hSw; go_simp; (try (with_reducible rfl)); done))); try simp only [Act.put, sxQ])
  refine takeY 12 (.string (strOf (Pg.pad [7, 8]))) hHeld (fun w9 h9 => exec_cv _ _ _ rfl _ h9.1) ?_
  try simp only [Act.put, sxQ]
  refine wpAnyH_ready (rs := [13]) (by kernel_rfl) (by simp) ?_
  refine AllReadyH.cons2 (by simp only [sxN]; first | done | exact rfl) (fun K hK => ?_)
  rw [if_pos (by rfl)]
  go_simp
  refine K_up hm ?_
  intro n5 w9 hn hn5s hn5 hm1 hn5d hn5d2 hb1
  rw [← (show n5 = w8.heap.size from hn)]
  clear hn hm
  have hm := hm1
  clear hm1
  refine hK.out _ _ (⟨HS.out _ _ _ _ _ ((HC.out.resync hm).byt 2 rfl), HS.out _ _ _ _ _ ((HC.out.resync hm).byt 3 rfl)⟩) (fun hHeld => ?_)
  clear hK K
  try simp only [Act.put, sxQ]
  refine wpAnyH_ready (rs := [14]) (by kernel_rfl) (by simp) ?_
  refine AllReadyH.cons2 (by simp only [sxN]; first | done | exact rfl) (fun K hK => ?_)
  rw [if_pos (by rfl)]
  go_simp
  refine (law11_block _ 2 2 [7, 8] _ (byt_blk (bs := [7, 8]) hn5 hn5.lt rfl)).mono ?_
  rintro e w10 ⟨q10, rfl, ho10, hb10⟩
  have hc2 := (HC.out.resync hm).got hb10 ho10
  clear hb10 ho10 hn5 hn5d hn5d2 hn5s hb1
  clear HC hm
  simp only [List.nil_append, List.cons_append, List.set_cons_zero, List.set_cons_succ] at hc2
  have HC := Lib.hid hc2
  clear hc2
  have hm := HC.out.rebase
  go_simp
  refine hK.out _ _ (⟨HS.out _ _ _ _ _ ((HC.out.resync hm).byt 2 rfl), HS.out _ _ _ _ _ ((HC.out.resync hm).byt 3 rfl)⟩) (fun hHeld => ?_)
  clear hK K
  try simp only [Act.put, sxQ]
  have hs10 := HS.out _ _ _ _ _ ((HC.out.resync hm).byt 5 rfl)
  refine wpAnyH_ready (rs := [15]) (by kernel_rfl) (by simp) ?_
  refine AllReadyH.cons2 (by simp only [sxN]; first | done | exact rfl) (fun K hK => ?_)
  rw [if_pos (by rfl)]
  go_simp
  refine hK.out _ _ (⟨HS.out _ _ _ _ _ ((HC.out.resync hm).byt 2 rfl), HS.out _ _ _ _ _ ((HC.out.resync hm).byt 3 rfl)⟩) (fun hHeld => ?_)
  clear hK K
  try simp only [Act.put, sxQ]
  iterate 4 (first | (refine takeN 16 hHeld ?_) | (refine takeY 16 ?_ hHeld ?_ ?_; rotate_left 1; (first | (intro w9 h9; (with_reducible show (execOp _ (Oper.mk _ (Op.load _ _) _ _ _ _)).run _ _ = _); first | exact h9.ldA | exact h9.lcA | exact h9.laA | exact h9.lrA) | focus (intro w9 hSw; go_simp; (try (with_reducible rfl)); done))); try simp only [Act.put, sxQ])
  refine takeY 20 (.string (strOf (zs 48))) hHeld (fun w9 h9 => exec_cv _ _ _ rfl _ h9.2) ?_
  try simp only [Act.put, sxQ]
  refine wpAnyH_ready (rs := [21]) (by kernel_rfl) (by simp) ?_
  refine AllReadyH.cons2 (by simp only [sxN]; first | done | exact rfl) (fun K hK => ?_)
  rw [if_pos (by rfl)]
  go_simp
  refine (law11_block none 0 0 [] _ ⟨rfl, Nat.le_refl _, fun h => absurd h (by simp [bcells])⟩).mono ?_
  rintro e w11 ⟨q11, rfl, ho11, hb11⟩
  rw [Pg.ex6] at ho11
  have hc2 := (HC.out.resync hm).got hb11 ho11
  clear hb11 ho11 hs10
  clear HC hm
  simp only [List.nil_append, List.cons_append, List.set_cons_zero, List.set_cons_succ] at hc2
  have HC := Lib.hid hc2
  clear hc2
  have hm := HC.out.rebase
  go_simp
  refine hK.out _ _ (⟨HS.out _ _ _ _ _ ((HC.out.resync hm).byt 2 rfl), HS.out _ _ _ _ _ ((HC.out.resync hm).byt 3 rfl)⟩) (fun hHeld => ?_)
  clear hK K
  try simp only [Act.put, sxQ]
  have hs11 := HS.out _ _ _ _ _ ((HC.out.resync hm).byt 6 rfl)
  refine wpAnyH_ready (rs := [22]) (by kernel_rfl) (by simp) ?_
  refine AllReadyH.cons2 (by simp only [sxN]; first | done | exact rfl) (fun K hK => ?_)
  rw [if_pos (by rfl)]
  go_simp
  refine hK.out _ _ (⟨HS.out _ _ _ _ _ ((HC.out.resync hm).byt 2 rfl), HS.out _ _ _ _ _ ((HC.out.resync hm).byt 3 rfl)⟩) (fun hHeld => ?_)
  clear hK K
  try simp only [Act.put, sxQ]
  iterate 4 (first | (refine takeN 23 hHeld ?_) | (refine takeY 23 ?_ hHeld ?_ ?_; rotate_left 1; (first | (intro w9 h9; (with_reducible show (execOp _ (Oper.mk _ (Op.load _ _) _ _ _ _)).run _ _ = _); first | exact h9.ldA | exact h9.lcA | exact h9.laA | exact h9.lrA) | focus (intro w9 hSw; go_simp; (try (with_reducible rfl)); done))); try simp only [Act.put, sxQ])
  refine wpAnyH_ready (rs := [27]) (by kernel_rfl) (by simp) ?_
  refine AllReadyH.cons2 (by simp only [sxN]; first | done | exact rfl) (fun K hK => ?_)
  rw [if_pos (by rfl)]
  go_simp
  refine (live_Alive (HC.out.obj 0 rfl) HL.out).mono ?_
  rintro e w12 ⟨rfl, hb12⟩
  have hc2 := (HC.out.resync hm).below hb12
  clear hb12
  clear HC hm
  simp only [List.nil_append, List.cons_append, List.set_cons_zero, List.set_cons_succ] at hc2
  have HC := Lib.hid hc2
  clear hc2
  have hm := HC.out.rebase
  go_simp
  refine hK.out _ _ (⟨HS.out _ _ _ _ _ ((HC.out.resync hm).byt 2 rfl), HS.out _ _ _ _ _ ((HC.out.resync hm).byt 3 rfl)⟩) (fun hHeld => ?_)
  clear hK K
  try simp only [Act.put, sxQ]
  iterate 2 (first | (refine takeN 28 hHeld ?_) | (refine takeY 28 ?_ hHeld ?_ ?_; rotate_left 1; (first | (intro w9 h9; (with_reducible show (execOp _ (Oper.mk _ (Op.load _ _) _ _ _ _)).run _ _ = _); first | exact h9.ldA | exact h9.lcA | exact h9.laA | exact h9.lrA) | focus (intro w9 hSw; go_simp; (try (with_reducible rfl)); done))); try simp only [Act.put, sxQ])
  refine wpAnyH_done (by kernel_rfl) ?_ _
  refine NoPanic.normal ?_
  go_wp2_with (first | go_skip | ((with_reducible show wpList _ _ _ _ _ (World.alloc _ _)); refine wpList_up hm ?_; clear hm; intro n w hn hn2 hk hm hd hd2 ho; (try rw [← hn]); replace hn := Nat.le_of_eq hn.symm) | ((first | ((with_reducible show wpList _ _ _ (Oper.mk _ (Op.box _ _) _ _ _ _ :: _) _ _); (refine bxA hm ?_; clear hm; intro n w hn hz hm ho; (try simp only [List.cons_append, List.nil_append] at hm))) | ((with_reducible show wpList _ _ _ (Oper.mk _ (Op.load _ _) _ _ _ _ :: _) _ _); first | (refine ldA hm ?_) | (refine laA hm ?_)) | ((with_reducible show wpList _ _ _ (Oper.mk _ (Op.store _ _ _) _ _ _ _ :: _) _ _); (refine stA hm ?_; clear hm; intro w hz hm ho)) | ((with_reducible show wpList _ _ _ (Oper.mk _ (Op.alloc _) _ _ _ _ :: _) _ _); (refine alA hm ?_; clear hm; intro n w hn hz hm ho; (try simp only [List.cons_append, List.nil_append] at hm)))); try simp only [Act.put, sxQ]))
  go_ret
  exact ⟨rfl, (HC.out.resync hm).low⟩
end Go.Proofs.Ytnlhammgcemchaa
