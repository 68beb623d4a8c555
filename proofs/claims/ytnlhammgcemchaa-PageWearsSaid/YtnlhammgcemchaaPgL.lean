/-
  PageWears: no word wears out much faster than the others.
-/
import Derived.Test.YtnlhammgcemchaaZ0
import Derived.Test.YtnlhammgcemchaaPgE
namespace Go.Proofs.Ytnlhammgcemchaa
set_option maxRecDepth 100000
set_option linter.unusedSimpArgs false
set_option linter.unusedVariables false
open Go.RowKit
set_option maxHeartbeats 8000000

/-- Pages after K writes. -/
def WInv (w0 : World) (g gm n : Nat) (K : Nat) (wr : World) : Prop :=
  ∃ G s p fr st, s.gm = gm ∧ s.n = n ∧ Pg.Live (70000 + 1200 * K) fr p st ∧ p.m.pending = false ∧ p.m.words.length = n ∧ (∃ N u, Pg.Worn p N u) ∧ Scn w0 wr [] [] [⟨G, fun u => PAt u g G s p⟩] []
/-- A write that wears. -/
theorem live_WriteW {w : World} {g K n : Nat} {G : Nat → Prop} {s : PgS} {p : Pg.P} {fr : Pg.Fs} {st : List (List UInt8)} (H : PAt w g G s p) (L : Pg.Live (70000 + 1200 * K) fr p st) (hK : K ≤ 100000) (hp : p.m.pending = false) (hn : p.m.words.length = n) (hw : ∃ N u, Pg.Worn p N u) (i : Nat) (hi : i < st.length) (B0 : Option Addr) (cb : Nat) (b : List UInt8) (hb : Byt w w.heap.size B0 48 cb b ∧ ∀ a, B0 = some a → 0 < 48 → ¬ G a.block) :
    Calls Try.prog 14 #[.pointer (some ⟨g, 0, none⟩), .int .i64 (i : Int), .slice B0 48 cb] w fun e w' => ∃ p' fr' st' G' s', e = .returned (.int .i64 0) ∧ PAt w' g G' s' p' ∧ Pg.Live (70000 + 1200 * (K + 1)) fr' p' st' ∧ p'.m.pending = false ∧ p'.m.words.length = n ∧ (∃ N u, Pg.Worn p' N u) ∧ p'.m.writes ≤ p.m.writes + 42 ∧ (∀ q, G' q → G q ∨ w.heap.size ≤ q) ∧ Only G w w' ∧ s'.gm = s.gm ∧ s'.n = s.n := by
  have h48 : b.length = 48 := hb.1.1
  have e1 : Pg.rwrite st i b = (st.set i b, 0) := by
    unfold Pg.rwrite
    rw [if_neg (by omega), if_neg (by omega)]; rfl
  refine (live_WriteC H L (by omega) hp i B0 48 cb b hb).mono ?_
  rw [e1]
  rintro e w' ⟨p', fr', G', s', he, h1, h2, h3, h4, h5, _, h6, h7, h8, h9⟩
  simp only [PgS.mm, Prod.mk.injEq] at h8
  exact ⟨p', fr', _, G', s', he, h1, h2.mono (by omega), h3, h4.trans hn, Pg.Worn.write hw L (by omega) (by rw [← L.len]; exact hi) h48 h9, h5, h6, h7, h8.1, h8.2.2.2.1⟩
theorem wearOf_at {m : Cel.Mem} {a : Nat} (h : a < m.words.length) : m.wearOf (a : Int) = m.wear.getD a 0 := by
  unfold Cel.Mem.wearOf
  rw [if_pos ((m.has_iff _).2 ⟨by omega, by omega⟩), Int.toNat_natCast]
set_option maxRecDepth 100000 in
theorem law_PageWears_go (n : Nat) (A : Option Addr) (m c tm : Nat) (bs : List UInt8) (w0 : World) (hb : Byt w0 w0.heap.size A m c bs) (h1 : 240 ≤ n) (h2 : n ≤ 600) (h3 : m ≤ 20) (h4 : tm < 256) :
    Calls Try.prog 4 #[.int .i64 (n : Int), .slice A m c, .int .u8 (tm : Int)] w0 fun e w' => e = .returned (.bool true) ∧ Below w0.heap.size w0 w' := by
  have HO := Lib.hid (fun u => law11_open n u h1 (by omega))
  have HB := Lib.hid hb
  have HW1 := Lib.hid (@Pg.worn_new n · h1 (by omega))
  have H2 := Lib.hid h2
  have d1 : decide ((n : Int) < 240) = false := decide_eq_false (by omega)
  have d2 : decide ((600 : Int) < (n : Int)) = false := decide_eq_false (by omega)
  have d3 : decide ((20 : Int) < (m : Int)) = false := decide_eq_false (by omega)
  have d4 : decide (2 * (n : Int) < 0) = false := decide_eq_false (by omega)
  have d5 : IntKind.i64.wrap (2 * (n : Int)) = 2 * (n : Int) := IntWalk.i64_in _ (by omega)
  have HC := Lib.hid (Scn.start w0)
  have hm := HC.out.rebase
  clear hb
  go_enter Try.func4, Try.ntmps4
  go_wp2_with (first | go_skip | ((with_reducible show wpList _ _ _ _ _ (World.alloc _ _)); refine wpList_up hm ?_; clear hm; intro n w hn hn2 hk hm hd hd2 ho; (try rw [← hn]); replace hn := Nat.le_of_eq hn.symm) | ((first | ((with_reducible show wpList _ _ _ (Oper.mk _ (Op.box _ _) _ _ _ _ :: _) _ _); (refine bxA hm ?_; clear hm; intro n w hn hz hm ho; (try simp only [List.cons_append, List.nil_append] at hm))) | ((with_reducible show wpList _ _ _ (Oper.mk _ (Op.load _ _) _ _ _ _ :: _) _ _); first | (refine ldA hm ?_) | (refine laA hm ?_)) | ((with_reducible show wpList _ _ _ (Oper.mk _ (Op.store _ _ _) _ _ _ _ :: _) _ _); (refine stA hm ?_; clear hm; intro w hz hm ho)) | ((with_reducible show wpList _ _ _ (Oper.mk _ (Op.alloc _) _ _ _ _ :: _) _ _); (refine alA hm ?_; clear hm; intro n w hn hz hm ho; (try simp only [List.cons_append, List.nil_append] at hm)))); try simp only [Act.put, sxQ]))
  go_at_call 22
  refine (HO.out _).mono ?_
  rintro e w1 ⟨hb1, gm, g, G, s, p, rfl, hp, hgm, hsn, hL, hpm, hfx, hG⟩
  have hc2 := (HC.out.resync hm).born hb1 hp.sup hG
  have HL := Lib.hid hL
  have HPM := Lib.hid hpm
  have HGM := Lib.hid hgm
  have HSN := Lib.hid hsn
  clear hL hpm hfx hG hp hb1 hsn hgm
  clear HC hm
  simp only [List.nil_append, List.cons_append, List.set_cons_zero, List.set_cons_succ] at hc2
  have HC := Lib.hid hc2
  clear hc2
  have hm := HC.out.rebase
  go_wp2_with (first | go_skip | ((with_reducible show wpList _ _ _ _ _ (World.alloc _ _)); refine wpList_up hm ?_; clear hm; intro n w hn hn2 hk hm hd hd2 ho; (try rw [← hn]); replace hn := Nat.le_of_eq hn.symm) | ((first | ((with_reducible show wpList _ _ _ (Oper.mk _ (Op.box _ _) _ _ _ _ :: _) _ _); (refine bxA hm ?_; clear hm; intro n w hn hz hm ho; (try simp only [List.cons_append, List.nil_append] at hm))) | ((with_reducible show wpList _ _ _ (Oper.mk _ (Op.load _ _) _ _ _ _ :: _) _ _); first | (refine ldA hm ?_) | (refine laA hm ?_)) | ((with_reducible show wpList _ _ _ (Oper.mk _ (Op.store _ _ _) _ _ _ _ :: _) _ _); (refine stA hm ?_; clear hm; intro w hz hm ho)) | ((with_reducible show wpList _ _ _ (Oper.mk _ (Op.alloc _) _ _ _ _ :: _) _ _); (refine alA hm ?_; clear hm; intro n w hn hz hm ho; (try simp only [List.cons_append, List.nil_append] at hm)))); try simp only [Act.put, sxQ]))
  go_at_call 23
  have hcw := cell_Writes (HC.out.obj 0 rfl).mem
  rw [HGM.out] at hcw
  refine hcw.mono ?_
  clear hcw
  rintro e w2 ⟨rfl, rfl⟩
  rw [show p.m.writes = 0 by rw [HPM.out]; rfl]
  go_wp2_with (first | go_skip | ((with_reducible show wpList _ _ _ _ _ (World.alloc _ _)); refine wpList_up hm ?_; clear hm; intro n w hn hn2 hk hm hd hd2 ho; (try rw [← hn]); replace hn := Nat.le_of_eq hn.symm) | ((first | ((with_reducible show wpList _ _ _ (Oper.mk _ (Op.box _ _) _ _ _ _ :: _) _ _); (refine bxA hm ?_; clear hm; intro n w hn hz hm ho; (try simp only [List.cons_append, List.nil_append] at hm))) | ((with_reducible show wpList _ _ _ (Oper.mk _ (Op.load _ _) _ _ _ _ :: _) _ _); first | (refine ldA hm ?_) | (refine laA hm ?_)) | ((with_reducible show wpList _ _ _ (Oper.mk _ (Op.store _ _ _) _ _ _ _ :: _) _ _); (refine stA hm ?_; clear hm; intro w hz hm ho)) | ((with_reducible show wpList _ _ _ (Oper.mk _ (Op.alloc _) _ _ _ _ :: _) _ _); (refine alA hm ?_; clear hm; intro n w hn hz hm ho; (try simp only [List.cons_append, List.nil_append] at hm)))); try simp only [Act.put, sxQ]))
  have hsc := HC.out.resync hm
  have hinv : WInv w0 g gm n 0 w1 := ⟨G, s, p, _, _, HGM.out, HSN.out, HL.out, by rw [HPM.out]; rfl, by rw [HPM.out]; simp [Cel.Mem.new], HW1.out _ HPM.out, hsc⟩
  clear HC hm hsc HGM HSN HPM HL
  generalize hg0 : g = g0 at *
  clear hg0 g
  clear G s p
  go_loopg [45] tm (fun j v45 wr => ∃ k, k + j = tm ∧ v45 = .int .i64 (k : Int) ∧ WInv w0 g0 gm n (k * m) wr)
  case atStart => exact ⟨0, by omega, rfl, by rw [Nat.zero_mul]; exact hinv⟩
  case round =>
    clear hinv
    obtain ⟨k, hkg, rfl, hin⟩ := hrel
    cases gk with
    | zero =>
      obtain rfl : k = tm := by omega
      have ik : decide ((k : Int) < (k : Int)) = false := decide_eq_false (by omega)
      clear hkg
      obtain ⟨G, s, p, fr, st, hgm, hsn, hL, hpd, hpl, hwn, hsc⟩ := hin
      have HC := Lib.hid hsc
      clear hsc
      have hm := HC.out.rebase
      have HL := Lib.hid hL
      have HR := Lib.hid (And.intro hgm (And.intro hsn (And.intro hpd (And.intro hpl hwn))))
      clear hgm hsn hL hpd hpl hwn
      have hkm : k * m ≤ 5100 := Nat.le_trans (Nat.mul_le_mul (show k ≤ 255 by omega) h3) (by decide)
      go_wp2_with (first | go_skip | ((with_reducible show wpList _ _ _ _ _ (World.alloc _ _)); refine wpList_up hm ?_; clear hm; intro n w hn hn2 hk hm hd hd2 ho; (try rw [← hn]); replace hn := Nat.le_of_eq hn.symm) | ((first | ((with_reducible show wpList _ _ _ (Oper.mk _ (Op.box _ _) _ _ _ _ :: _) _ _); (refine bxA hm ?_; clear hm; intro n w hn hz hm ho; (try simp only [List.cons_append, List.nil_append] at hm))) | ((with_reducible show wpList _ _ _ (Oper.mk _ (Op.load _ _) _ _ _ _ :: _) _ _); first | (refine ldA hm ?_) | (refine laA hm ?_)) | ((with_reducible show wpList _ _ _ (Oper.mk _ (Op.store _ _ _) _ _ _ _ :: _) _ _); (refine stA hm ?_; clear hm; intro w hz hm ho)) | ((with_reducible show wpList _ _ _ (Oper.mk _ (Op.alloc _) _ _ _ _ :: _) _ _); (refine alA hm ?_; clear hm; intro n w hn hz hm ho; (try simp only [List.cons_append, List.nil_append] at hm)))); try simp only [Act.put, sxQ]))
      go_at_call 23
      have hcw := cell_Writes (HC.out.obj 0 rfl).mem
      rw [HR.out.1] at hcw
      refine hcw.mono ?_
      clear hcw
      rintro e w2 ⟨rfl, rfl⟩
      go_wp2_with (first | go_skip | ((with_reducible show wpList _ _ _ _ _ (World.alloc _ _)); refine wpList_up hm ?_; clear hm; intro n w hn hn2 hk hm hd hd2 ho; (try rw [← hn]); replace hn := Nat.le_of_eq hn.symm) | ((first | ((with_reducible show wpList _ _ _ (Oper.mk _ (Op.box _ _) _ _ _ _ :: _) _ _); (refine bxA hm ?_; clear hm; intro n w hn hz hm ho; (try simp only [List.cons_append, List.nil_append] at hm))) | ((with_reducible show wpList _ _ _ (Oper.mk _ (Op.load _ _) _ _ _ _ :: _) _ _); first | (refine ldA hm ?_) | (refine laA hm ?_)) | ((with_reducible show wpList _ _ _ (Oper.mk _ (Op.store _ _ _) _ _ _ _ :: _) _ _); (refine stA hm ?_; clear hm; intro w hz hm ho)) | ((with_reducible show wpList _ _ _ (Oper.mk _ (Op.alloc _) _ _ _ _ :: _) _ _); (refine alA hm ?_; clear hm; intro n w hn hz hm ho; (try simp only [List.cons_append, List.nil_append] at hm)))); try simp only [Act.put, sxQ]))
      go_at_call 12
      have hco := page_Open_can (HC.out.obj 0 rfl).mem HL.out.off HL.out.can (by omega)
      rw [HR.out.1] at hco
      refine hco.mono ?_
      clear hco
      rintro e w3 ⟨hb3, g3, G3, s3, p3, rfl, -⟩
      have hc2 := (HC.out.resync hm).below hb3
      clear hb3
      clear HC hm
      simp only [List.nil_append, List.cons_append, List.set_cons_zero, List.set_cons_succ] at hc2
      have HC := Lib.hid hc2
      clear hc2
      have hm := HC.out.rebase
      go_wp2_with (first | go_skip | ((with_reducible show wpList _ _ _ _ _ (World.alloc _ _)); refine wpList_up hm ?_; clear hm; intro n w hn hn2 hk hm hd hd2 ho; (try rw [← hn]); replace hn := Nat.le_of_eq hn.symm) | ((first | ((with_reducible show wpList _ _ _ (Oper.mk _ (Op.box _ _) _ _ _ _ :: _) _ _); (refine bxA hm ?_; clear hm; intro n w hn hz hm ho; (try simp only [List.cons_append, List.nil_append] at hm))) | ((with_reducible show wpList _ _ _ (Oper.mk _ (Op.load _ _) _ _ _ _ :: _) _ _); first | (refine ldA hm ?_) | (refine laA hm ?_)) | ((with_reducible show wpList _ _ _ (Oper.mk _ (Op.store _ _ _) _ _ _ _ :: _) _ _); (refine stA hm ?_; clear hm; intro w hz hm ho)) | ((with_reducible show wpList _ _ _ (Oper.mk _ (Op.alloc _) _ _ _ _ :: _) _ _); (refine alA hm ?_; clear hm; intro n w hn hz hm ho; (try simp only [List.cons_append, List.nil_append] at hm)))); try simp only [Act.put, sxQ]))
      go_at_call 23
      have hcw := cell_Writes (HC.out.obj 0 rfl).mem
      rw [HR.out.1] at hcw
      refine hcw.mono ?_
      clear hcw
      rintro e w4 ⟨rfl, rfl⟩
      have b1 : IntKind.i64.wrap (p.m.writes - p.m.writes) = 0 := by rw [Int.sub_self]; rfl
      go_wp2_with (first | go_skip | ((with_reducible show wpList _ _ _ _ _ (World.alloc _ _)); refine wpList_up hm ?_; clear hm; intro n w hn hn2 hk hm hd hd2 ho; (try rw [← hn]); replace hn := Nat.le_of_eq hn.symm) | ((first | ((with_reducible show wpList _ _ _ (Oper.mk _ (Op.box _ _) _ _ _ _ :: _) _ _); (refine bxA hm ?_; clear hm; intro n w hn hz hm ho; (try simp only [List.cons_append, List.nil_append] at hm))) | ((with_reducible show wpList _ _ _ (Oper.mk _ (Op.load _ _) _ _ _ _ :: _) _ _); first | (refine ldA hm ?_) | (refine laA hm ?_)) | ((with_reducible show wpList _ _ _ (Oper.mk _ (Op.store _ _ _) _ _ _ _ :: _) _ _); (refine stA hm ?_; clear hm; intro w hz hm ho)) | ((with_reducible show wpList _ _ _ (Oper.mk _ (Op.alloc _) _ _ _ _ :: _) _ _); (refine alA hm ?_; clear hm; intro n w hn hz hm ho; (try simp only [List.cons_append, List.nil_append] at hm)))); try simp only [Act.put, sxQ]))
      have hfw := HL.out.fine.writes
      have hn2 := H2.out
      generalize hW : p.m.writes = W at *
      have q1 : IntKind.i64.wrap (16 * W) = 16 * W := IntWalk.i64_in _ (by omega)
      have q2 : (16 * W).tdiv (n : Int) = 16 * W / (n : Int) := Int.tdiv_eq_ediv_of_nonneg (by omega)
      have q3 : 0 ≤ 16 * W / (n : Int) := Int.ediv_nonneg (by omega) (by omega)
      have q4 : 16 * W / (n : Int) ≤ 16 * W := Int.ediv_le_self _ (by omega)
      have q5 : IntKind.i64.wrap (16 * W / (n : Int)) = 16 * W / (n : Int) := IntWalk.i64_in _ (by omega)
      have q6 : IntKind.i64.wrap (100 + 16 * W / (n : Int)) = 100 + 16 * W / (n : Int) := IntWalk.i64_in _ (by omega)
      have q7 : ¬ n = 0 := by omega
      have HEV := Lib.hid (fun (a : Nat) (ha : a < n) => show decide (100 + 16 * W / (n : Int) < p.m.wearOf (a : Int)) = false by
        obtain ⟨N, u, hw⟩ := HR.out.2.2.2.2
        have h9 := hw.even HL.out (by rw [HR.out.2.2.2.1]; exact hn2) a
        rw [HR.out.2.2.2.1, hW] at h9
        rw [wearOf_at (by rw [HR.out.2.2.2.1]; exact ha)]
        exact decide_eq_false (by omega))
      go_loopg [15] n (fun j v15 wr => ∃ a : Nat, a + j = n ∧ v15 = .int .i64 (a : Int) ∧ w3 = wr)
      case atStart => exact ⟨0, by omega, rfl, rfl⟩
      case round =>
        obtain ⟨a, hag, rfl, rfl⟩ := hrel
        cases gk with
        | zero =>
          obtain rfl : a = n := by omega
          have ia : decide ((a : Int) < (a : Int)) = false := decide_eq_false (by omega)
          go_wp2_with (first | go_skip | ((with_reducible show wpList _ _ _ _ _ (World.alloc _ _)); refine wpList_up hm ?_; clear hm; intro n w hn hn2 hk hm hd hd2 ho; (try rw [← hn]); replace hn := Nat.le_of_eq hn.symm) | ((first | ((with_reducible show wpList _ _ _ (Oper.mk _ (Op.box _ _) _ _ _ _ :: _) _ _); (refine bxA hm ?_; clear hm; intro n w hn hz hm ho; (try simp only [List.cons_append, List.nil_append] at hm))) | ((with_reducible show wpList _ _ _ (Oper.mk _ (Op.load _ _) _ _ _ _ :: _) _ _); first | (refine ldA hm ?_) | (refine laA hm ?_)) | ((with_reducible show wpList _ _ _ (Oper.mk _ (Op.store _ _ _) _ _ _ _ :: _) _ _); (refine stA hm ?_; clear hm; intro w hz hm ho)) | ((with_reducible show wpList _ _ _ (Oper.mk _ (Op.alloc _) _ _ _ _ :: _) _ _); (refine alA hm ?_; clear hm; intro n w hn hz hm ho; (try simp only [List.cons_append, List.nil_append] at hm)))); try simp only [Act.put, sxQ]))
          go_at_call 10
          refine (law11_works _).mono ?_
          rintro e w8 ⟨rfl, hb8⟩
          go_wp2_with (first | go_skip | ((with_reducible show wpList _ _ _ _ _ (World.alloc _ _)); refine wpList_up hm ?_; clear hm; intro n w hn hn2 hk hm hd hd2 ho; (try rw [← hn]); replace hn := Nat.le_of_eq hn.symm) | ((first | ((with_reducible show wpList _ _ _ (Oper.mk _ (Op.box _ _) _ _ _ _ :: _) _ _); (refine bxA hm ?_; clear hm; intro n w hn hz hm ho; (try simp only [List.cons_append, List.nil_append] at hm))) | ((with_reducible show wpList _ _ _ (Oper.mk _ (Op.load _ _) _ _ _ _ :: _) _ _); first | (refine ldA hm ?_) | (refine laA hm ?_)) | ((with_reducible show wpList _ _ _ (Oper.mk _ (Op.store _ _ _) _ _ _ _ :: _) _ _); (refine stA hm ?_; clear hm; intro w hz hm ho)) | ((with_reducible show wpList _ _ _ (Oper.mk _ (Op.alloc _) _ _ _ _ :: _) _ _); (refine alA hm ?_; clear hm; intro n w hn hz hm ho; (try simp only [List.cons_append, List.nil_append] at hm)))); try simp only [Act.put, sxQ]))
          go_ret
          have hb9 := (HC.out.resync hm).low
          exact ⟨rfl, hb9.trans (hb8.mono hb9.size)⟩
        | succ j3 =>
          have ia : decide ((a : Int) < (n : Int)) = true := decide_eq_true (by omega)
          have HE2 := HEV.out a (by omega)
          go_wp2_with (first | go_skip | ((with_reducible show wpList _ _ _ _ _ (World.alloc _ _)); refine wpList_up hm ?_; clear hm; intro n w hn hn2 hk hm hd hd2 ho; (try rw [← hn]); replace hn := Nat.le_of_eq hn.symm) | ((first | ((with_reducible show wpList _ _ _ (Oper.mk _ (Op.box _ _) _ _ _ _ :: _) _ _); (refine bxA hm ?_; clear hm; intro n w hn hz hm ho; (try simp only [List.cons_append, List.nil_append] at hm))) | ((with_reducible show wpList _ _ _ (Oper.mk _ (Op.load _ _) _ _ _ _ :: _) _ _); first | (refine ldA hm ?_) | (refine laA hm ?_)) | ((with_reducible show wpList _ _ _ (Oper.mk _ (Op.store _ _ _) _ _ _ _ :: _) _ _); (refine stA hm ?_; clear hm; intro w hz hm ho)) | ((with_reducible show wpList _ _ _ (Oper.mk _ (Op.alloc _) _ _ _ _ :: _) _ _); (refine alA hm ?_; clear hm; intro n w hn hz hm ho; (try simp only [List.cons_append, List.nil_append] at hm)))); try simp only [Act.put, sxQ]))
          go_at_call 26
          have hcw := cell_Wear (HC.out.obj 0 rfl).mem (a : Int)
          rw [HR.out.1] at hcw
          refine hcw.mono ?_
          clear hcw
          rintro e w4 ⟨rfl, rfl⟩
          go_wp2_with (first | go_skip | ((with_reducible show wpList _ _ _ _ _ (World.alloc _ _)); refine wpList_up hm ?_; clear hm; intro n w hn hn2 hk hm hd hd2 ho; (try rw [← hn]); replace hn := Nat.le_of_eq hn.symm) | ((first | ((with_reducible show wpList _ _ _ (Oper.mk _ (Op.box _ _) _ _ _ _ :: _) _ _); (refine bxA hm ?_; clear hm; intro n w hn hz hm ho; (try simp only [List.cons_append, List.nil_append] at hm))) | ((with_reducible show wpList _ _ _ (Oper.mk _ (Op.load _ _) _ _ _ _ :: _) _ _); first | (refine ldA hm ?_) | (refine laA hm ?_)) | ((with_reducible show wpList _ _ _ (Oper.mk _ (Op.store _ _ _) _ _ _ _ :: _) _ _); (refine stA hm ?_; clear hm; intro w hz hm ho)) | ((with_reducible show wpList _ _ _ (Oper.mk _ (Op.alloc _) _ _ _ _ :: _) _ _); (refine alA hm ?_; clear hm; intro n w hn hz hm ho; (try simp only [List.cons_append, List.nil_append] at hm)))); try simp only [Act.put, sxQ]))
          go_at_call 23
          have hcw := cell_Writes (HC.out.obj 0 rfl).mem
          rw [HR.out.1, hW] at hcw
          refine hcw.mono ?_
          clear hcw
          rintro e w5 ⟨rfl, rfl⟩
          go_wp2_with (first | go_skip | ((with_reducible show wpList _ _ _ _ _ (World.alloc _ _)); refine wpList_up hm ?_; clear hm; intro n w hn hn2 hk hm hd hd2 ho; (try rw [← hn]); replace hn := Nat.le_of_eq hn.symm) | ((first | ((with_reducible show wpList _ _ _ (Oper.mk _ (Op.box _ _) _ _ _ _ :: _) _ _); (refine bxA hm ?_; clear hm; intro n w hn hz hm ho; (try simp only [List.cons_append, List.nil_append] at hm))) | ((with_reducible show wpList _ _ _ (Oper.mk _ (Op.load _ _) _ _ _ _ :: _) _ _); first | (refine ldA hm ?_) | (refine laA hm ?_)) | ((with_reducible show wpList _ _ _ (Oper.mk _ (Op.store _ _ _) _ _ _ _ :: _) _ _); (refine stA hm ?_; clear hm; intro w hz hm ho)) | ((with_reducible show wpList _ _ _ (Oper.mk _ (Op.alloc _) _ _ _ _ :: _) _ _); (refine alA hm ?_; clear hm; intro n w hn hz hm ho; (try simp only [List.cons_append, List.nil_append] at hm)))); try simp only [Act.put, sxQ]))
          go_roundg j3
          case rel => exact ⟨a + 1, by omega, by go_num, rfl⟩
          case measure => omega
    | succ j =>
      have hkn : k < tm := by omega
      have ik : decide ((k : Int) < (tm : Int)) = true := decide_eq_true (by omega)
      go_wp2_with fail
      go_loopg [10] m (fun j v10 wr => ∃ k2, k2 + j = m ∧ v10 = .int .i64 (k2 : Int) ∧ WInv w0 g0 gm n (k * m + k2) wr)
      case atStart => exact ⟨0, by omega, rfl, hin⟩
      case round =>
        clear hin
        obtain ⟨k2, hkg2, rfl, hin⟩ := hrel
        cases gk with
        | zero =>
          obtain rfl : k2 = m := by omega
          have ik2 : decide ((k2 : Int) < (k2 : Int)) = false := decide_eq_false (by omega)
          go_wp2_with fail
          go_roundg j
          case rel => exact ⟨k + 1, by omega, by go_num, by rw [Nat.succ_mul]; exact hin⟩
          case measure => omega
        | succ j2 =>
          have hk2 : k2 < m := by omega
          have ik2 : decide ((k2 : Int) < (m : Int)) = true := decide_eq_true (by omega)
          have hkm : k * m + k2 ≤ 100000 := by
            have : k * m ≤ 255 * 20 := Nat.mul_le_mul (by omega) h3
            omega
          generalize hKK : k * m + k2 = KK at *
          obtain ⟨G, s, p, fr, st, hgm, hsn, hL, hpd, hpl, hwn, hsc⟩ := hin
          have HC := Lib.hid hsc
          clear hsc
          have hm := HC.out.rebase
          have HL := Lib.hid hL
          have HGM := Lib.hid hgm
          have HSN := Lib.hid hsn
          have HPD := Lib.hid hpd
          have HPL := Lib.hid hpl
          have HWN := Lib.hid hwn
          have HFW := Lib.hid hL.fine.writes
          have HKM := Lib.hid hkm
          have hcp := hL.count_pos
          have hsl := hL.len
          obtain ⟨bb, oo, hA, hlt⟩ := HB.out.at_ (by omega)
          have hce := Byt.cellAt HB.out hA hk2
          have HA := Lib.hid hA
          generalize bs.getD k2 0 = y at hce
          have hy : y.toNat < 256 := y.toNat_lt
          have RK : Hid (∀ u : World, Below w0.heap.size w0 u → Rngs [⟨bb, oo + k2, [.int .u8 (y.toNat : Int)]⟩] u) := by
            show ∀ u, _
            intro u hu
            refine Rngs.below (w := w0) ?_ hu
            intro r hr
            obtain rfl := List.mem_singleton.1 hr
            intro q v hv
            cases q with
            | zero => cases hv; exact hce
            | succ q => simp at hv
          clear hce hgm hsn hL hpd hpl hwn hlt
          rw [← hsl] at hcp
          clear hsl
          have t2 : ¬ st = [] := by rintro rfl; simp at hcp
          have t3 : IntKind.i64.wrap (y.toNat : Int) = (y.toNat : Int) := IntWalk.i64_in _ (by omega)
          have t4 : ((y.toNat : Int)).tmod (st.length : Int) = ((y.toNat % st.length : Nat) : Int) := rfl
          subst hA
          go_wp2_with (first | go_skip | ((with_reducible show wpList _ _ _ _ _ (World.alloc _ _)); refine wpList_up hm ?_; clear hm; intro n w hn hn2 hk hm hd hd2 ho; (try rw [← hn]); replace hn := Nat.le_of_eq hn.symm) | ((first | ((with_reducible show wpList _ _ _ (Oper.mk _ (Op.box _ _) _ _ _ _ :: _) _ _); (refine bxA hm ?_; clear hm; intro n w hn hz hm ho; (try simp only [List.cons_append, List.nil_append] at hm))) | ((with_reducible show wpList _ _ _ (Oper.mk _ (Op.load _ _) _ _ _ _ :: _) _ _); first | (refine ldA hm ?_) | (refine laA hm ?_) | (refine lcA (RK.out _ (HC.out.resync hm).low) ?_) | (refine lrA (RK.out _ (HC.out.resync hm).low) ?_)) | ((with_reducible show wpList _ _ _ (Oper.mk _ (Op.store _ _ _) _ _ _ _ :: _) _ _); (refine stA hm ?_; clear hm; intro w hz hm ho)) | ((with_reducible show wpList _ _ _ (Oper.mk _ (Op.alloc _) _ _ _ _ :: _) _ _); (refine alA hm ?_; clear hm; intro n w hn hz hm ho; (try simp only [List.cons_append, List.nil_append] at hm)))); try simp only [Act.put, sxQ]))
          go_at_call 23
          have hcw := cell_Writes (HC.out.obj 0 rfl).mem
          rw [HGM.out] at hcw
          refine hcw.mono ?_
          clear hcw
          rintro e w2 ⟨rfl, rfl⟩
          go_wp2_with (first | go_skip | ((with_reducible show wpList _ _ _ _ _ (World.alloc _ _)); refine wpList_up hm ?_; clear hm; intro n w hn hn2 hk hm hd hd2 ho; (try rw [← hn]); replace hn := Nat.le_of_eq hn.symm) | ((first | ((with_reducible show wpList _ _ _ (Oper.mk _ (Op.box _ _) _ _ _ _ :: _) _ _); (refine bxA hm ?_; clear hm; intro n w hn hz hm ho; (try simp only [List.cons_append, List.nil_append] at hm))) | ((with_reducible show wpList _ _ _ (Oper.mk _ (Op.load _ _) _ _ _ _ :: _) _ _); first | (refine ldA hm ?_) | (refine laA hm ?_) | (refine lcA (RK.out _ (HC.out.resync hm).low) ?_) | (refine lrA (RK.out _ (HC.out.resync hm).low) ?_)) | ((with_reducible show wpList _ _ _ (Oper.mk _ (Op.store _ _ _) _ _ _ _ :: _) _ _); (refine stA hm ?_; clear hm; intro w hz hm ho)) | ((with_reducible show wpList _ _ _ (Oper.mk _ (Op.alloc _) _ _ _ _ :: _) _ _); (refine alA hm ?_; clear hm; intro n w hn hz hm ho; (try simp only [List.cons_append, List.nil_append] at hm)))); try simp only [Act.put, sxQ]))
          refine wp_region_noPanic ?_
          refine wp_region_held_drew (S := KnS _ _) (by kernel_rfl) (KnS.of hm.drew (RK.out _ (HC.out.resync hm.drew).low)) (fun hHeld => ?_)
          refine wpAnyH_fresh (by repeat (first | apply Fresh.a | apply Fresh.b)) ?_
          replace hm := hm.drew
          iterate 7 (first | (refine takeN 0 hHeld ?_) | (refine takeY 0 ?_ hHeld ?_ ?_; rotate_left 1; (first | (intro w9 h9; (with_reducible show (execOp _ (Oper.mk _ (Op.load _ _) _ _ _ _)).run _ _ = _); first | exact h9.ldA | exact h9.lcA | exact h9.laA | exact h9.lrA) | focus (intro w9 hSw; go_simp; (try (with_reducible rfl)); done))); try simp only [Act.put, sxQ])
          iterate 1 (first | (refine takeN 9 hHeld ?_) | (refine takeY 9 ?_ hHeld ?_ ?_; rotate_left 1; (first | (intro w9 h9; (with_reducible show (execOp _ (Oper.mk _ (Op.load _ _) _ _ _ _)).run _ _ = _); first | exact h9.ldA | exact h9.lcA | exact h9.laA | exact h9.lrA) | focus (intro w9 hSw; go_simp; (try (with_reducible rfl)); done))); try simp only [Act.put, sxQ])
          refine wpAnyH_ready (rs := [7]) (by kernel_rfl) (by simp) ?_
          refine AllReadyH.cons2 (by simp only [sxN]; first | done | exact rfl) (fun K hK => ?_)
          rw [if_pos (by rfl)]
          go_simp
          refine (live_Count ((HC.out.resync hm).obj 0 rfl) HL.out).mono ?_
          rintro e w2 ⟨rfl, hb2⟩
          have hc2 := (HC.out.resync hm).below hb2
          clear hb2
          clear HC hm
          simp only [List.nil_append, List.cons_append, List.set_cons_zero, List.set_cons_succ] at hc2
          have HC := Lib.hid hc2
          clear hc2
          have hm := HC.out.rebase
          go_simp
          refine hK.out _ _ (KnS.of hm (RK.out _ (HC.out.resync hm).low)) (fun hHeld => ?_)
          clear hK K
          try simp only [Act.put, sxQ]
          iterate 1 (first | (refine takeN 8 hHeld ?_) | (refine takeY 8 ?_ hHeld ?_ ?_; rotate_left 1; (first | (intro w9 h9; (with_reducible show (execOp _ (Oper.mk _ (Op.load _ _) _ _ _ _)).run _ _ = _); first | exact h9.ldA | exact h9.lcA | exact h9.laA | exact h9.lrA) | focus (intro w9 hSw; go_simp; (try (with_reducible rfl)); done))); try simp only [Act.put, sxQ])
          refine wpAnyH_ready (rs := [10]) (by kernel_rfl) (by simp) ?_
          refine AllReadyH.cons2 (by simp only [sxN]; first | done | exact rfl) (fun K hK => ?_)
          rw [if_pos (by rfl)]
          go_simp
          refine (law11_block _ m c bs _ ((HC.out.resync hm).old HB.out)).mono ?_
          rintro e w3 ⟨q3, rfl, ho3, hb3⟩
          have hc2 := (HC.out.resync hm).got hb3 ho3
          clear hb3 ho3
          clear HC hm
          simp only [List.nil_append, List.cons_append, List.set_cons_zero, List.set_cons_succ] at hc2
          have HC := Lib.hid hc2
          clear hc2
          have hm := HC.out.rebase
          go_simp
          refine hK.out _ _ (KnS.of hm (RK.out _ (HC.out.resync hm).low)) (fun hHeld => ?_)
          clear hK K
          try simp only [Act.put, sxQ]
          refine wpAnyH_ready (rs := [11]) (by kernel_rfl) (by simp) ?_
          refine AllReadyH.cons2 (by simp only [sxN]; first | done | exact rfl) (fun K hK => ?_)
          rw [if_pos (by rfl)]
          go_simp
          refine (live_WriteW (st := st) ((HC.out.resync hm).obj 0 rfl) HL.out HKM.out HPD.out HPL.out HWN.out (y.toNat % st.length) (Nat.mod_lt _ (by omega)) _ 48 (Pg.pad bs) ((HC.out.resync hm).bytO 0 0 rfl rfl)).mono ?_
          rintro e w4 ⟨p1, fr1, st1, G1, s1, rfl, hp1, hL1, hpd1, hpl1, hwn1, hwr1, hF1, ho4, hgm1, hsn1⟩
          have hc2 := (HC.out.resync hm).turn 0 rfl ho4 hF1 hp1.sup
          have HPD1 := Lib.hid hpd1
          have HPL1 := Lib.hid hpl1
          have HWN1 := Lib.hid hwn1
          have HGM1 := Lib.hid (hgm1.trans HGM.out)
          have HSN1 := Lib.hid (hsn1.trans HSN.out)
          have hfw1 := hL1.fine.writes
          have HL1 := Lib.hid hL1
          have hfw := HFW.out
          have hkm2 := HKM.out
          have b1 : IntKind.i64.wrap (p1.m.writes - p.m.writes) = p1.m.writes - p.m.writes := IntWalk.i64_in _ (by omega)
          have b2 : decide ((100 : Int) < p1.m.writes - p.m.writes) = false := decide_eq_false (by omega)
          clear hpd1 hpl1 hwn1 hF1 ho4 hp1 hgm1 hsn1 hL1
          clear HC hm
          simp only [List.nil_append, List.cons_append, List.set_cons_zero, List.set_cons_succ] at hc2
          have HC := Lib.hid hc2
          clear hc2
          have hm := HC.out.rebase
          go_simp
          refine hK.out _ _ (KnS.of hm (RK.out _ (HC.out.resync hm).low)) (fun hHeld => ?_)
          clear hK K
          try simp only [Act.put, sxQ]
          iterate 3 (first | (refine takeN 12 hHeld ?_) | (refine takeY 12 ?_ hHeld ?_ ?_; rotate_left 1; (first | (intro w9 h9; (with_reducible show (execOp _ (Oper.mk _ (Op.load _ _) _ _ _ _)).run _ _ = _); first | exact h9.ldA | exact h9.lcA | exact h9.laA | exact h9.lrA) | focus (intro w9 hSw; go_simp; (try (with_reducible rfl)); done))); try simp only [Act.put, sxQ])
          iterate 1 (first | (refine takeN 16 hHeld ?_) | (refine takeY 16 ?_ hHeld ?_ ?_; rotate_left 1; (first | (intro w9 h9; (with_reducible show (execOp _ (Oper.mk _ (Op.load _ _) _ _ _ _)).run _ _ = _); first | exact h9.ldA | exact h9.lcA | exact h9.laA | exact h9.lrA) | focus (intro w9 hSw; go_simp; (try (with_reducible rfl)); done))); try simp only [Act.put, sxQ])
          refine wpAnyH_ready (rs := [15]) (by kernel_rfl) (by simp) ?_
          refine AllReadyH.cons2 (by simp only [sxN]; first | done | exact rfl) (fun K hK => ?_)
          rw [if_pos (by rfl)]
          go_simp
          have hcw := cell_Writes (HC.out.obj 0 rfl).mem
          rw [HGM1.out] at hcw
          refine hcw.mono ?_
          clear hcw
          rintro e w5 ⟨rfl, rfl⟩
          go_simp
          refine hK.out _ _ (KnS.of hm (RK.out _ (HC.out.resync hm).low)) (fun hHeld => ?_)
          clear hK K
          try simp only [Act.put, sxQ]
          iterate 3 (first | (refine takeN 17 hHeld ?_) | (refine takeY 17 ?_ hHeld ?_ ?_; rotate_left 1; (first | (intro w9 h9; (with_reducible show (execOp _ (Oper.mk _ (Op.load _ _) _ _ _ _)).run _ _ = _); first | exact h9.ldA | exact h9.lcA | exact h9.laA | exact h9.lrA) | focus (intro w9 hSw; go_simp; (try (with_reducible rfl)); done))); try simp only [Act.put, sxQ])
          refine wpAnyH_done (by kernel_rfl) ?_ _
          refine NoPanic.normal ?_
          go_wp2_with (first | go_skip | ((with_reducible show wpList _ _ _ _ _ (World.alloc _ _)); refine wpList_up hm ?_; clear hm; intro n w hn hn2 hk hm hd hd2 ho; (try rw [← hn]); replace hn := Nat.le_of_eq hn.symm) | ((first | ((with_reducible show wpList _ _ _ (Oper.mk _ (Op.box _ _) _ _ _ _ :: _) _ _); (refine bxA hm ?_; clear hm; intro n w hn hz hm ho; (try simp only [List.cons_append, List.nil_append] at hm))) | ((with_reducible show wpList _ _ _ (Oper.mk _ (Op.load _ _) _ _ _ _ :: _) _ _); first | (refine ldA hm ?_) | (refine laA hm ?_) | (refine lcA (RK.out _ (HC.out.resync hm).low) ?_) | (refine lrA (RK.out _ (HC.out.resync hm).low) ?_)) | ((with_reducible show wpList _ _ _ (Oper.mk _ (Op.store _ _ _) _ _ _ _ :: _) _ _); (refine stA hm ?_; clear hm; intro w hz hm ho)) | ((with_reducible show wpList _ _ _ (Oper.mk _ (Op.alloc _) _ _ _ _ :: _) _ _); (refine alA hm ?_; clear hm; intro n w hn hz hm ho; (try simp only [List.cons_append, List.nil_append] at hm)))); try simp only [Act.put, sxQ]))
          go_roundg j2
          case rel => exact ⟨k2 + 1, by omega, by go_num, G1, s1, p1, fr1, st1, HGM1.out, HSN1.out, (by have h9 := HL1.out; rwa [← hKK, Nat.add_assoc] at h9), HPD1.out, HPL1.out, HWN1.out, (HC.out.resync hm).keep 0 0 0⟩
          case measure => omega
theorem law_PageWears (x : Int) (A : Option Addr) (m c : Nat) (y : Int) (bs : List UInt8) (w0 : World) (hb : Byt w0 w0.heap.size A m c bs) (hy : 0 ≤ y ∧ y < 256) :
    Calls Try.prog 4 #[.int .i64 x, .slice A m c, .int .u8 y] w0 fun e w' => e = .returned (.bool true) ∧ Below w0.heap.size w0 w' := by
  by_cases h : 240 ≤ x ∧ x ≤ 600 ∧ m ≤ 20
  · obtain ⟨n, rfl⟩ := Int.eq_ofNat_of_zero_le (a := x) (by omega)
    obtain ⟨tm, rfl⟩ := Int.eq_ofNat_of_zero_le (a := y) (by omega)
    exact law_PageWears_go n A m c tm bs w0 hb (by omega) (by omega) (by omega) (by omega)
  · clear hb hy
    have HN := Lib.hid h
    by_cases h1 : x < 240
    · have d1 : decide (x < 240) = true := decide_eq_true h1
      clear h h1
      go_enter Try.func4, Try.ntmps4
      go_wp2_with fail
      go_at_call 10
      refine (law11_works _).mono ?_
      rintro e w1 ⟨rfl, hb1⟩
      go_wp2_with fail
      go_ret
      exact ⟨rfl, hb1⟩
    · have d1 : decide (x < 240) = false := decide_eq_false h1
      by_cases h2 : 600 < x
      · have d2 : decide (600 < x) = true := decide_eq_true h2
        clear h h1 h2
        go_enter Try.func4, Try.ntmps4
        go_wp2_with fail
        go_at_call 10
        refine (law11_works _).mono ?_
        rintro e w1 ⟨rfl, hb1⟩
        go_wp2_with fail
        go_ret
        exact ⟨rfl, hb1⟩
      · have d2 : decide (600 < x) = false := decide_eq_false h2
        have d3 : decide ((20 : Int) < (m : Int)) = true := decide_eq_true (by omega)
        clear h h1 h2
        go_enter Try.func4, Try.ntmps4
        go_wp2_with fail
        go_at_call 10
        refine (law11_works _).mono ?_
        rintro e w1 ⟨rfl, hb1⟩
        go_wp2_with fail
        go_ret
        exact ⟨rfl, hb1⟩
end Go.Proofs.Ytnlhammgcemchaa
