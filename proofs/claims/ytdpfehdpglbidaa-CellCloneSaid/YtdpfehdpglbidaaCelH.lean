/-
  The walk of the reference's Write, where a word is written.
-/
import Derived.Test.YtdpfehdpglbidaaCelG
import Derived.Laws.Tables
namespace Go.Proofs.Ytdpfehdpglbidaa
open Go.RowKit

theorem blk_of_two {w w1 : World} {X Y : Array Value} {t s : TypeId} (h : Below ((w.alloc (.cells X t)).alloc (.cells Y s)).heap.size ((w.alloc (.cells X t)).alloc (.cells Y s)) w1) :
    Blk w1 w.heap.size t X ∧ Blk w1 (w.heap.size + 1) s Y ∧ Below w.heap.size w w1 :=
  ⟨((Blk.new w t X).alloc _).below h (by simp; omega), (Blk.new' (g := w.heap.size + 1) (w.alloc (.cells X t)) (by simp) rfl).below h (by simp),
    (((Below.refl _ _).alloc (Nat.le_refl _) _).alloc (by simp) _).trans (h.mono (by simp; omega))⟩

theorem Own.setRow {w : World} {base : Nat} {t : TypeId} {s : Nat} {A : Option Addr} {n c : Nat} {cs : List Value} (h : Own w base t s A n c cs) {g : Nat} (hg : ∀ g', A.map (·.block) = some g' → g' ≠ g) (cs' : Array Value) : Own (w.setRow g cs') base t s A n c cs := by
  refine ⟨h.1, h.2.1, h.2.2.1, fun hc => ?_⟩
  obtain ⟨g', cur, e, hb, hh, r⟩ := h.2.2.2 hc
  exact ⟨g', cur, e, hb, (setRow_other w g g' cs' (hg g' (by rw [e]; rfl))).trans hh, r⟩

/-- The slice's block lies at B or above. -/
def Fresh (B : Nat) (A : Option Addr) : Prop := ∀ b, A.map (·.block) = some b → B ≤ b
/-- The slice's block is none of R. -/
def Clear (R : Nat → Prop) (A : Option Addr) : Prop := ∀ b, A.map (·.block) = some b → ¬ R b
theorem Fresh.mono {B B' : Nat} {A : Option Addr} (h : Fresh B A) (hb : B' ≤ B) : Fresh B' A := fun b e => Nat.le_trans hb (h b e)
theorem Fresh.clear {B : Nat} {A : Option Addr} (h : Fresh B A) {R : Nat → Prop} (hR : ∀ k, R k → k < B) : Clear R A := fun b e hr => absurd (h b e) (Nat.not_le.2 (hR b hr))
theorem Own.fresh {w : World} {base : Nat} {t : TypeId} {s : Nat} {A : Option Addr} {n c : Nat} {cs : List Value} (h : Own w base t s A n c cs) (hc : 0 < n) : Fresh base A := fun b e => by
  obtain ⟨g, cur, rfl, hb, _⟩ := h.2.2.2 (by have := h.2.1; omega)
  simp at e; omega

theorem st_one (A A' : Option Addr) (n c n' c' : Nat) (a b d e : Int) (x : Bool) : ((#[.slice A n c, .slice A' n' c', .int .i64 a, .int .i64 b, .int .i64 d, .bool x, .int .i64 e] : Array Value).all (·.oneCell')) = true := by
  simp [Value.oneCell']

theorem bit_mod (i : Nat) : Cel.bit (i % 32) = Cel.bit i := by unfold Cel.bit; rw [Nat.mod_mod]

theorem Cel.Mem.put_words (m : Cel.Mem) (i : Nat) (v : UInt32) (x : Int) (hx : m.wear.getD i 0 = x) : (m.put i v).words = m.words.set i (if m.endurance < x + 1 then v ^^^ Cel.bit i else v) := by
  unfold Cel.Mem.put; rw [hx]
theorem Cel.Mem.put_wear (m : Cel.Mem) (i : Nat) (v : UInt32) (x : Int) (hx : m.wear.getD i 0 = x) : (m.put i v).wear = m.wear.set i (x + 1) := by
  unfold Cel.Mem.put; rw [hx]

theorem far_own {w : World} {base : Nat} {t : TypeId} {s : Nat} {A : Option Addr} {n c : Nat} {cs : List Value} (h : Own w base t s A n c cs) {g : Nat} (hg : g < base) (hc : 0 < n) : ∀ g', A.map (·.block) = some g' → g' ≠ g := by
  intro g' e
  obtain ⟨g2, cur, rfl, hb, _⟩ := h.2.2.2 (by have := h.2.1; omega)
  simp at e; omega

section
variable {w : World} {A A' : Option Addr} {n c c' : Nat} {m : Cel.Mem} {z : Int}

set_option maxRecDepth 100000 in
set_option maxHeartbeats 2000000 in
theorem ref09_Write_on (w : World) (i : Nat) (v : UInt32) (we z z' : Int) (hs : Wds w w.heap.size A n c m.words) (hi : Ints w w.heap.size A' n c' m.wear) (hn : n ≤ 65536) (hin : i < n) (hm : m.off = false)
    (hz : z = -1 ∧ z' = -1 ∨ 0 ≤ z' ∧ z' ≤ 9223372036854775806 ∧ z = z' + 1) (hwe : m.wear.getD i 0 = we) (hwb : 0 ≤ we ∧ we ≤ 4611686018427387904) (hwr : 0 ≤ m.writes ∧ m.writes ≤ 4611686018427387904) :
    Calls Try.prog 29 #[stOf A n c A' c' m z, .int .i64 (i : Int), .int .u32 (v.toNat : Int)] w fun e w' => ∃ A2 c2 A3 c3, e = .returned (.tuple #[stOf A2 n c2 A3 c3 (m.put i v) z', .int .i64 0]) ∧ Wds w' w'.heap.size A2 n c2 (m.put i v).words ∧ Ints w' w'.heap.size A3 n c3 (m.put i v).wear ∧ Fresh w.heap.size A2 ∧ Fresh w.heap.size A3 ∧ Below w.heap.size w w' := by
  unfold stOf
  have HS := Lib.hid hs
  have HI := Lib.hid hi
  have HW := Lib.hid hwe
  have HP := Lib.hid (m.put_words i v we hwe)
  have HR := Lib.hid (m.put_wear i v we hwe)
  have HM := Lib.hid hm
  have hwl : i < m.wear.length := by rw [hi.1]; exact hin
  clear hwe hs hi
  obtain ⟨q0, q1⟩ := hwr
  have p0 : (0 : Int) ≤ (i : Int) := by omega
  have p1 : (i : Int) < (n : Int) := by omega
  have tm : (i : Int).tmod 32 = ((i % 32 : Nat) : Int) := by rw [Int.tmod_eq_emod_of_nonneg (by omega)]; omega
  rcases hz with ⟨rfl, rfl⟩ | ⟨hz0, hz1, rfl⟩
  · go_enter Try.func29, Try.ntmps29
    go_wp2_with fail
    refine (ref09_more A' n c' i m.wear we _ (HI.out.below (((Below.refl _ _).alloc (Nat.le_refl _) _).alloc (by simp) _) |>.more (by simp; omega)) hn hin HW.out hwb).mono ?_
    rintro e w1 ⟨A2, c2, rfl, ho1, hb1⟩
    have ho1 := ho1.mono (base' := w.heap.size + 2) (by simp)
    obtain ⟨B1, B2, hbw⟩ := blk_of_two hb1
    clear hb1
    have f1 := B1.frozen 1
    have k1 := B1.cell 1
    obtain ⟨q, rfl, hq0, hq1, hcell, _, _⟩ := ho1.elem hin
    rw [List.getElem?_map, List.getElem?_set_self hwl] at hcell
    have hO := Lib.hid ho1
    have C1 := Lib.hid B1
    have C2 := Lib.hid B2
    have hlt : w.heap.size < w1.heap.size := B1.lt
    clear B1 B2 ho1
    generalize hgs : w.heap.size = g at *
    have HG := Lib.hid hgs
    clear hgs
    go_wp2_with fail
    have D1 := C1.out.set 1 (.slice (some ⟨q, 0, none⟩) n c2)
    have D2 := Blk.far C2.out (p := ⟨g, 1, none⟩) (by simp) (.slice (some ⟨q, 0, none⟩) n c2)
    have D3 := Own.setCell hO.out (p := ⟨g, 1, none⟩) (by simp; omega) (.slice (some ⟨q, 0, none⟩) n c2)
    have D4 : Below g w (w1.setCell ⟨g, 1, none⟩ (.slice (some ⟨q, 0, none⟩) n c2)) := hbw.setCell (Nat.le_refl _) _
    have D5 : (w1.setCell ⟨g, 1, none⟩ (.slice (some ⟨q, 0, none⟩) n c2)).cell? ⟨q, i, none⟩ = some (I64 (we + 1)) := by
      rw [World.cell?_setCell_other _ _ _ _ (by intro h; simp only [Addr.mk.injEq] at h; omega)]; exact hcell
    clear k1 f1 hcell hO C1 C2 hbw hlt hq1
    generalize w1.setCell ⟨g, 1, none⟩ (.slice (some ⟨q, 0, none⟩) n c2) = w2 at *
    have k1 := D1.cell 1
    have k2 := D1.cell 2
    have k0 := D1.cell 0
    have C1 := Lib.hid D1
    have C2 := Lib.hid D2
    have C3 := Lib.hid D3
    clear D1 D2 D3
    have hws := Lib.hid (HS.out.below D4 |>.more (B' := w2.heap.size) (by have := D4.size; have := HG.out; omega))
    have G0 : g < w2.heap.size := C1.out.lt
    have hlt2 : g + 1 < w2.heap.size := C2.out.lt
    by_cases hx : m.endurance < we + 1
    · have HV := Lib.hid (show (if m.endurance < we + 1 then v ^^^ Cel.bit i else v) = v ^^^ Cel.bit i from if_pos hx)
      have xr : bits BinOp.xor IntKind.u32 (v.toNat : Int) ((Cel.bit (i % 32)).toNat : Int) = ((v ^^^ Cel.bit i).toNat : Int) := by
        rw [bit_mod, u32_xor_nat _ _ v.toNat_lt (Cel.bit i).toNat_lt, UInt32.toNat_xor]
      generalize v ^^^ Cel.bit i = vv at *
      go_quiet (fail)
      go_wp2_with (first
        | (go_at_call 36; refine (ref09_bit (i % 32) _ (by omega)).mono ?_; rintro e w4 ⟨rfl, rfl⟩)
        | fail)
      refine (ref09_put A n c i m.words vv _ (by exact hws.out) hn hin).mono ?_
      rintro e w3 ⟨A4, c4, rfl, ho4, hb4⟩
      have E1 : Blk w3 g 45 _ := Blk.below (Blk.drewN C1.out _) hb4 G0
      have f0 := E1.frozen 0
      have k0 := E1.cell 0
      have hF1 := Lib.hid (show Blk (w3.setCell ⟨g, 0, none⟩ (.slice A4 n c4)) g 45 #[.slice A4 n c4, .slice (some ⟨q, 0, none⟩) n c2, I64 m.endurance, .int .i64 (m.writes + 1), I64 m.cuts, .bool true, I64 (-1)] from E1.set 0 (.slice A4 n c4))
      have hF2 := Lib.hid (Blk.far (Blk.below (Blk.drewN C2.out _) hb4 C2.out.lt) (p := ⟨g, 0, none⟩) (by simp) (.slice A4 n c4))
      have hF3 := Lib.hid (Own.setCell ho4 (p := ⟨g, 0, none⟩) (far_own ho4 G0 (by omega)) (.slice A4 n c4))
      have hF4 := Lib.hid (Own.setCell (Own.below (Own.drewN C3.out _) hb4) (p := ⟨g, 0, none⟩) (far_own C3.out (g := g) (by omega) (by omega)) (.slice A4 n c4))
      have hF5 := Lib.hid (Below.setCell ((Below.drewN D4 _).trans (hb4.mono (show g ≤ _ from Nat.le_of_lt G0))) (p := ⟨g, 0, none⟩) (Nat.le_refl _) (.slice A4 n c4))
      clear E1 ho4 hb4
      go_wp2_with (first
        | ((with_reducible show wpList _ _ _ (Oper.mk _ (Op.load 45 (Operand.tmp 3)) _ _ _ _ :: _) _ _); refine wpList_load_row rfl 45 (.tmp 3) rfl g rfl 45 _ (0, 0) _ hF1.out Try.underlying45 rfl (by kernel_rfl) ?_)
        | ((with_reducible show wpList _ _ _ (Oper.mk _ (Op.store 45 (Operand.tmp 6) (Operand.tmp 66)) _ _ _ _ :: _) _ _); refine wpList_store_row rfl 45 (.tmp 6) (.tmp 66) rfl (g + 1) #[.slice A4 n c4, .slice (some ⟨q, 0, none⟩) n c2, I64 m.endurance, .int .i64 (m.writes + 1), I64 m.cuts, .bool true, I64 (-1)] rfl rfl 45 _ hF2.out (by kernel_rfl) rfl (st_one _ _ _ _ _ _ _ _ _ _ _) ?_))
      have hR := (hF2.out).setRow #[.slice A4 n c4, .slice (some ⟨q, 0, none⟩) n c2, I64 m.endurance, .int .i64 (m.writes + 1), I64 m.cuts, .bool true, I64 (-1)]
      have hO3 := Own.setRow hF3.out (far_own hF3.out (g := g + 1) (by exact hlt2) (by omega)) #[.slice A4 n c4, .slice (some ⟨q, 0, none⟩) n c2, I64 m.endurance, .int .i64 (m.writes + 1), I64 m.cuts, .bool true, I64 (-1)]
      have hO4 := Own.setRow hF4.out (far_own hF4.out (g := g + 1) (by omega) (by omega)) #[.slice A4 n c4, .slice (some ⟨q, 0, none⟩) n c2, I64 m.endurance, .int .i64 (m.writes + 1), I64 m.cuts, .bool true, I64 (-1)]
      have hB := Below.setRow hF5.out (g := g + 1) (by omega) #[.slice A4 n c4, .slice (some ⟨q, 0, none⟩) n c2, I64 m.endurance, .int .i64 (m.writes + 1), I64 m.cuts, .bool true, I64 (-1)]
      refine bodyPost_ret (results_row_tmp rfl _ _ (g + 1) 45 _ (0, 0) _ rfl hR Try.underlying45 rfl (by kernel_rfl)) rfl ⟨A4, c4, some ⟨q, 0, none⟩, c2, ?_, ?_, ?_, ?_, ?_, ?_⟩
      · simp [Cel.Mem.put, HM.out, stOf]
      · rw [HP.out, HV.out]
        exact ⟨by rw [List.length_set]; exact HS.out.1, hF3.out.le, hO3.row⟩
      · rw [HR.out]
        exact ⟨by rw [List.length_set]; exact HI.out.1, hF4.out.le, hO4.row⟩
      · rw [HG.out]; exact (hF3.out.fresh (by omega)).mono (show g ≤ w2.heap.size by omega)
      · rw [HG.out]; exact (hF4.out.fresh (by omega)).mono (by omega)
      · rw [HG.out]; exact hB
    · have HV := Lib.hid (show (if m.endurance < we + 1 then v ^^^ Cel.bit i else v) = v from if_neg hx)
      go_quiet (fail)
      go_wp2_with fail
      refine (ref09_put A n c i m.words (v) _ (by exact hws.out) hn hin).mono ?_
      rintro e w3 ⟨A4, c4, rfl, ho4, hb4⟩
      have E1 : Blk w3 g 45 _ := Blk.below (Blk.drewN C1.out _) hb4 G0
      have f0 := E1.frozen 0
      have k0 := E1.cell 0
      have hF1 := Lib.hid (show Blk (w3.setCell ⟨g, 0, none⟩ (.slice A4 n c4)) g 45 #[.slice A4 n c4, .slice (some ⟨q, 0, none⟩) n c2, I64 m.endurance, .int .i64 (m.writes + 1), I64 m.cuts, .bool true, I64 (-1)] from E1.set 0 (.slice A4 n c4))
      have hF2 := Lib.hid (Blk.far (Blk.below (Blk.drewN C2.out _) hb4 C2.out.lt) (p := ⟨g, 0, none⟩) (by simp) (.slice A4 n c4))
      have hF3 := Lib.hid (Own.setCell ho4 (p := ⟨g, 0, none⟩) (far_own ho4 G0 (by omega)) (.slice A4 n c4))
      have hF4 := Lib.hid (Own.setCell (Own.below (Own.drewN C3.out _) hb4) (p := ⟨g, 0, none⟩) (far_own C3.out (g := g) (by omega) (by omega)) (.slice A4 n c4))
      have hF5 := Lib.hid (Below.setCell ((Below.drewN D4 _).trans (hb4.mono (show g ≤ _ from Nat.le_of_lt G0))) (p := ⟨g, 0, none⟩) (Nat.le_refl _) (.slice A4 n c4))
      clear E1 ho4 hb4
      go_wp2_with (first
        | ((with_reducible show wpList _ _ _ (Oper.mk _ (Op.load 45 (Operand.tmp 3)) _ _ _ _ :: _) _ _); refine wpList_load_row rfl 45 (.tmp 3) rfl g rfl 45 _ (0, 0) _ hF1.out Try.underlying45 rfl (by kernel_rfl) ?_)
        | ((with_reducible show wpList _ _ _ (Oper.mk _ (Op.store 45 (Operand.tmp 6) (Operand.tmp 66)) _ _ _ _ :: _) _ _); refine wpList_store_row rfl 45 (.tmp 6) (.tmp 66) rfl (g + 1) #[.slice A4 n c4, .slice (some ⟨q, 0, none⟩) n c2, I64 m.endurance, .int .i64 (m.writes + 1), I64 m.cuts, .bool true, I64 (-1)] rfl rfl 45 _ hF2.out (by kernel_rfl) rfl (st_one _ _ _ _ _ _ _ _ _ _ _) ?_))
      have hR := (hF2.out).setRow #[.slice A4 n c4, .slice (some ⟨q, 0, none⟩) n c2, I64 m.endurance, .int .i64 (m.writes + 1), I64 m.cuts, .bool true, I64 (-1)]
      have hO3 := Own.setRow hF3.out (far_own hF3.out (g := g + 1) (by exact hlt2) (by omega)) #[.slice A4 n c4, .slice (some ⟨q, 0, none⟩) n c2, I64 m.endurance, .int .i64 (m.writes + 1), I64 m.cuts, .bool true, I64 (-1)]
      have hO4 := Own.setRow hF4.out (far_own hF4.out (g := g + 1) (by omega) (by omega)) #[.slice A4 n c4, .slice (some ⟨q, 0, none⟩) n c2, I64 m.endurance, .int .i64 (m.writes + 1), I64 m.cuts, .bool true, I64 (-1)]
      have hB := Below.setRow hF5.out (g := g + 1) (by omega) #[.slice A4 n c4, .slice (some ⟨q, 0, none⟩) n c2, I64 m.endurance, .int .i64 (m.writes + 1), I64 m.cuts, .bool true, I64 (-1)]
      refine bodyPost_ret (results_row_tmp rfl _ _ (g + 1) 45 _ (0, 0) _ rfl hR Try.underlying45 rfl (by kernel_rfl)) rfl ⟨A4, c4, some ⟨q, 0, none⟩, c2, ?_, ?_, ?_, ?_, ?_, ?_⟩
      · simp [Cel.Mem.put, HM.out, stOf]
      · rw [HP.out, HV.out]
        exact ⟨by rw [List.length_set]; exact HS.out.1, hF3.out.le, hO3.row⟩
      · rw [HR.out]
        exact ⟨by rw [List.length_set]; exact HI.out.1, hF4.out.le, hO4.row⟩
      · rw [HG.out]; exact (hF3.out.fresh (by omega)).mono (show g ≤ w2.heap.size by omega)
      · rw [HG.out]; exact (hF4.out.fresh (by omega)).mono (by omega)
      · rw [HG.out]; exact hB
  · go_enter Try.func29, Try.ntmps29
    go_wp2_with fail
    refine (ref09_more A' n c' i m.wear we _ (HI.out.below (((Below.refl _ _).alloc (Nat.le_refl _) _).alloc (by simp) _) |>.more (by simp; omega)) hn hin HW.out hwb).mono ?_
    rintro e w1 ⟨A2, c2, rfl, ho1, hb1⟩
    have ho1 := ho1.mono (base' := w.heap.size + 2) (by simp)
    obtain ⟨B1, B2, hbw⟩ := blk_of_two hb1
    clear hb1
    have f1 := B1.frozen 1
    have k1 := B1.cell 1
    obtain ⟨q, rfl, hq0, hq1, hcell, _, _⟩ := ho1.elem hin
    rw [List.getElem?_map, List.getElem?_set_self hwl] at hcell
    have hO := Lib.hid ho1
    have C1 := Lib.hid B1
    have C2 := Lib.hid B2
    have hlt : w.heap.size < w1.heap.size := B1.lt
    clear B1 B2 ho1
    generalize hgs : w.heap.size = g at *
    have HG := Lib.hid hgs
    clear hgs
    go_wp2_with fail
    have D1 := C1.out.set 1 (.slice (some ⟨q, 0, none⟩) n c2)
    have D2 := Blk.far C2.out (p := ⟨g, 1, none⟩) (by simp) (.slice (some ⟨q, 0, none⟩) n c2)
    have D3 := Own.setCell hO.out (p := ⟨g, 1, none⟩) (by simp; omega) (.slice (some ⟨q, 0, none⟩) n c2)
    have D4 : Below g w (w1.setCell ⟨g, 1, none⟩ (.slice (some ⟨q, 0, none⟩) n c2)) := hbw.setCell (Nat.le_refl _) _
    have D5 : (w1.setCell ⟨g, 1, none⟩ (.slice (some ⟨q, 0, none⟩) n c2)).cell? ⟨q, i, none⟩ = some (I64 (we + 1)) := by
      rw [World.cell?_setCell_other _ _ _ _ (by intro h; simp only [Addr.mk.injEq] at h; omega)]; exact hcell
    clear k1 f1 hcell hO C1 C2 hbw hlt hq1
    generalize w1.setCell ⟨g, 1, none⟩ (.slice (some ⟨q, 0, none⟩) n c2) = w2 at *
    have k1 := D1.cell 1
    have k2 := D1.cell 2
    have k0 := D1.cell 0
    have C1 := Lib.hid D1
    have C2 := Lib.hid D2
    have C3 := Lib.hid D3
    clear D1 D2 D3
    have hws := Lib.hid (HS.out.below D4 |>.more (B' := w2.heap.size) (by have := D4.size; have := HG.out; omega))
    have G0 : g < w2.heap.size := C1.out.lt
    have hlt2 : g + 1 < w2.heap.size := C2.out.lt
    by_cases hx : m.endurance < we + 1
    · have HV := Lib.hid (show (if m.endurance < we + 1 then v ^^^ Cel.bit i else v) = v ^^^ Cel.bit i from if_pos hx)
      have xr : bits BinOp.xor IntKind.u32 (v.toNat : Int) ((Cel.bit (i % 32)).toNat : Int) = ((v ^^^ Cel.bit i).toNat : Int) := by
        rw [bit_mod, u32_xor_nat _ _ v.toNat_lt (Cel.bit i).toNat_lt, UInt32.toNat_xor]
      generalize v ^^^ Cel.bit i = vv at *
      go_quiet (fail)
      go_wp2_with (first
        | (go_at_call 36; refine (ref09_bit (i % 32) _ (by omega)).mono ?_; rintro e w4 ⟨rfl, rfl⟩)
        | fail)
      refine (ref09_put A n c i m.words vv _ (by exact hws.out) hn hin).mono ?_
      rintro e w3 ⟨A4, c4, rfl, ho4, hb4⟩
      have E1 : Blk w3 g 45 _ := Blk.below (Blk.drewN C1.out _) hb4 G0
      have f0 := E1.frozen 0
      have k0 := E1.cell 0
      have hF1 := Lib.hid (show Blk (w3.setCell ⟨g, 0, none⟩ (.slice A4 n c4)) g 45 #[.slice A4 n c4, .slice (some ⟨q, 0, none⟩) n c2, I64 m.endurance, .int .i64 (m.writes + 1), I64 m.cuts, .bool true, I64 z'] from E1.set 0 (.slice A4 n c4))
      have hF2 := Lib.hid (Blk.far (Blk.below (Blk.drewN C2.out _) hb4 C2.out.lt) (p := ⟨g, 0, none⟩) (by simp) (.slice A4 n c4))
      have hF3 := Lib.hid (Own.setCell ho4 (p := ⟨g, 0, none⟩) (far_own ho4 G0 (by omega)) (.slice A4 n c4))
      have hF4 := Lib.hid (Own.setCell (Own.below (Own.drewN C3.out _) hb4) (p := ⟨g, 0, none⟩) (far_own C3.out (g := g) (by omega) (by omega)) (.slice A4 n c4))
      have hF5 := Lib.hid (Below.setCell ((Below.drewN D4 _).trans (hb4.mono (show g ≤ _ from Nat.le_of_lt G0))) (p := ⟨g, 0, none⟩) (Nat.le_refl _) (.slice A4 n c4))
      clear E1 ho4 hb4
      go_wp2_with (first
        | ((with_reducible show wpList _ _ _ (Oper.mk _ (Op.load 45 (Operand.tmp 3)) _ _ _ _ :: _) _ _); refine wpList_load_row rfl 45 (.tmp 3) rfl g rfl 45 _ (0, 0) _ hF1.out Try.underlying45 rfl (by kernel_rfl) ?_)
        | ((with_reducible show wpList _ _ _ (Oper.mk _ (Op.store 45 (Operand.tmp 6) (Operand.tmp 66)) _ _ _ _ :: _) _ _); refine wpList_store_row rfl 45 (.tmp 6) (.tmp 66) rfl (g + 1) #[.slice A4 n c4, .slice (some ⟨q, 0, none⟩) n c2, I64 m.endurance, .int .i64 (m.writes + 1), I64 m.cuts, .bool true, I64 z'] rfl rfl 45 _ hF2.out (by kernel_rfl) rfl (st_one _ _ _ _ _ _ _ _ _ _ _) ?_))
      have hR := (hF2.out).setRow #[.slice A4 n c4, .slice (some ⟨q, 0, none⟩) n c2, I64 m.endurance, .int .i64 (m.writes + 1), I64 m.cuts, .bool true, I64 z']
      have hO3 := Own.setRow hF3.out (far_own hF3.out (g := g + 1) (by exact hlt2) (by omega)) #[.slice A4 n c4, .slice (some ⟨q, 0, none⟩) n c2, I64 m.endurance, .int .i64 (m.writes + 1), I64 m.cuts, .bool true, I64 z']
      have hO4 := Own.setRow hF4.out (far_own hF4.out (g := g + 1) (by omega) (by omega)) #[.slice A4 n c4, .slice (some ⟨q, 0, none⟩) n c2, I64 m.endurance, .int .i64 (m.writes + 1), I64 m.cuts, .bool true, I64 z']
      have hB := Below.setRow hF5.out (g := g + 1) (by omega) #[.slice A4 n c4, .slice (some ⟨q, 0, none⟩) n c2, I64 m.endurance, .int .i64 (m.writes + 1), I64 m.cuts, .bool true, I64 z']
      refine bodyPost_ret (results_row_tmp rfl _ _ (g + 1) 45 _ (0, 0) _ rfl hR Try.underlying45 rfl (by kernel_rfl)) rfl ⟨A4, c4, some ⟨q, 0, none⟩, c2, ?_, ?_, ?_, ?_, ?_, ?_⟩
      · simp [Cel.Mem.put, HM.out, stOf]
      · rw [HP.out, HV.out]
        exact ⟨by rw [List.length_set]; exact HS.out.1, hF3.out.le, hO3.row⟩
      · rw [HR.out]
        exact ⟨by rw [List.length_set]; exact HI.out.1, hF4.out.le, hO4.row⟩
      · rw [HG.out]; exact (hF3.out.fresh (by omega)).mono (show g ≤ w2.heap.size by omega)
      · rw [HG.out]; exact (hF4.out.fresh (by omega)).mono (by omega)
      · rw [HG.out]; exact hB
    · have HV := Lib.hid (show (if m.endurance < we + 1 then v ^^^ Cel.bit i else v) = v from if_neg hx)
      go_quiet (fail)
      go_wp2_with fail
      refine (ref09_put A n c i m.words (v) _ (by exact hws.out) hn hin).mono ?_
      rintro e w3 ⟨A4, c4, rfl, ho4, hb4⟩
      have E1 : Blk w3 g 45 _ := Blk.below (Blk.drewN C1.out _) hb4 G0
      have f0 := E1.frozen 0
      have k0 := E1.cell 0
      have hF1 := Lib.hid (show Blk (w3.setCell ⟨g, 0, none⟩ (.slice A4 n c4)) g 45 #[.slice A4 n c4, .slice (some ⟨q, 0, none⟩) n c2, I64 m.endurance, .int .i64 (m.writes + 1), I64 m.cuts, .bool true, I64 z'] from E1.set 0 (.slice A4 n c4))
      have hF2 := Lib.hid (Blk.far (Blk.below (Blk.drewN C2.out _) hb4 C2.out.lt) (p := ⟨g, 0, none⟩) (by simp) (.slice A4 n c4))
      have hF3 := Lib.hid (Own.setCell ho4 (p := ⟨g, 0, none⟩) (far_own ho4 G0 (by omega)) (.slice A4 n c4))
      have hF4 := Lib.hid (Own.setCell (Own.below (Own.drewN C3.out _) hb4) (p := ⟨g, 0, none⟩) (far_own C3.out (g := g) (by omega) (by omega)) (.slice A4 n c4))
      have hF5 := Lib.hid (Below.setCell ((Below.drewN D4 _).trans (hb4.mono (show g ≤ _ from Nat.le_of_lt G0))) (p := ⟨g, 0, none⟩) (Nat.le_refl _) (.slice A4 n c4))
      clear E1 ho4 hb4
      go_wp2_with (first
        | ((with_reducible show wpList _ _ _ (Oper.mk _ (Op.load 45 (Operand.tmp 3)) _ _ _ _ :: _) _ _); refine wpList_load_row rfl 45 (.tmp 3) rfl g rfl 45 _ (0, 0) _ hF1.out Try.underlying45 rfl (by kernel_rfl) ?_)
        | ((with_reducible show wpList _ _ _ (Oper.mk _ (Op.store 45 (Operand.tmp 6) (Operand.tmp 66)) _ _ _ _ :: _) _ _); refine wpList_store_row rfl 45 (.tmp 6) (.tmp 66) rfl (g + 1) #[.slice A4 n c4, .slice (some ⟨q, 0, none⟩) n c2, I64 m.endurance, .int .i64 (m.writes + 1), I64 m.cuts, .bool true, I64 z'] rfl rfl 45 _ hF2.out (by kernel_rfl) rfl (st_one _ _ _ _ _ _ _ _ _ _ _) ?_))
      have hR := (hF2.out).setRow #[.slice A4 n c4, .slice (some ⟨q, 0, none⟩) n c2, I64 m.endurance, .int .i64 (m.writes + 1), I64 m.cuts, .bool true, I64 z']
      have hO3 := Own.setRow hF3.out (far_own hF3.out (g := g + 1) (by exact hlt2) (by omega)) #[.slice A4 n c4, .slice (some ⟨q, 0, none⟩) n c2, I64 m.endurance, .int .i64 (m.writes + 1), I64 m.cuts, .bool true, I64 z']
      have hO4 := Own.setRow hF4.out (far_own hF4.out (g := g + 1) (by omega) (by omega)) #[.slice A4 n c4, .slice (some ⟨q, 0, none⟩) n c2, I64 m.endurance, .int .i64 (m.writes + 1), I64 m.cuts, .bool true, I64 z']
      have hB := Below.setRow hF5.out (g := g + 1) (by omega) #[.slice A4 n c4, .slice (some ⟨q, 0, none⟩) n c2, I64 m.endurance, .int .i64 (m.writes + 1), I64 m.cuts, .bool true, I64 z']
      refine bodyPost_ret (results_row_tmp rfl _ _ (g + 1) 45 _ (0, 0) _ rfl hR Try.underlying45 rfl (by kernel_rfl)) rfl ⟨A4, c4, some ⟨q, 0, none⟩, c2, ?_, ?_, ?_, ?_, ?_, ?_⟩
      · simp [Cel.Mem.put, HM.out, stOf]
      · rw [HP.out, HV.out]
        exact ⟨by rw [List.length_set]; exact HS.out.1, hF3.out.le, hO3.row⟩
      · rw [HR.out]
        exact ⟨by rw [List.length_set]; exact HI.out.1, hF4.out.le, hO4.row⟩
      · rw [HG.out]; exact (hF3.out.fresh (by omega)).mono (show g ≤ w2.heap.size by omega)
      · rw [HG.out]; exact (hF4.out.fresh (by omega)).mono (by omega)
      · rw [HG.out]; exact hB
end
end Go.Proofs.Ytdpfehdpglbidaa
