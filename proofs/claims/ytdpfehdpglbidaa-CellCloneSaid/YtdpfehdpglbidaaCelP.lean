/-
  The walk of the law's do: one call of a memory beside the reference's.
-/
import Derived.Test.YtdpfehdpglbidaaCelK
namespace Go.Proofs.Ytdpfehdpglbidaa
open Go.RowKit

/-- One call. -/
def Cel.Mem.apply (m : Cel.Mem) (x : Cel.Op) : Cel.Mem :=
  if x.op = 0 then (m.write x.a x.v).1 else if x.op = 1 then (m.cut x.n).1 else if x.op = 2 then m.restore else if x.op = 3 then (m.flip x.a x.n).1 else m

theorem blk_of_three {w : World} {X Y Z : Array Value} {t s r : TypeId} :
    Blk (((w.alloc (.cells X t)).alloc (.cells Y s)).alloc (.cells Z r)) w.heap.size t X ∧ Blk (((w.alloc (.cells X t)).alloc (.cells Y s)).alloc (.cells Z r)) (w.heap.size + 1) s Y ∧
    Blk (((w.alloc (.cells X t)).alloc (.cells Y s)).alloc (.cells Z r)) (w.heap.size + 1 + 1) r Z ∧ Below w.heap.size w (((w.alloc (.cells X t)).alloc (.cells Y s)).alloc (.cells Z r)) :=
  ⟨((Blk.new w t X).alloc _).alloc _, (Blk.new' (g := w.heap.size + 1) (w.alloc (.cells X t)) (by simp) rfl).alloc _, Blk.new' (g := w.heap.size + 1 + 1) _ (by simp) rfl,
    (((Below.refl _ _).alloc (Nat.le_refl _) _).alloc (by simp) _).alloc (by simp; omega) _⟩

theorem Only.setRow_new {R : Nat → Prop} {a w : World} (h : Only R a w) {g : Nat} (hg : a.heap.size ≤ g) (cs : Array Value) : Only R a (w.setRow g cs) :=
  ⟨h.os, h.tape, h.output, by simpa using h.size, fun k hk hn => (setRow_other w g k cs (by omega)).trans (h.block k hk hn)⟩

/-- What do returns. -/
def DoRes (w : World) (R : Nat → Prop) (g gw gv n cw cv : Nat) (m : Cel.Mem) (e : Ending) (w' : World) : Prop :=
  ∃ s', e = .returned (.tuple #[s', .bool true]) ∧ MemAt w' g gw gv n cw cv m ∧ StAt w' R n m s' ∧ Only (MemR g gw gv) w w'

/-- Behind the call: two blocks of the call's own are written. -/
theorem do_end {w w2 : World} {R : Nat → Prop} {g gw gv n cw cv G : Nat} {m : Cel.Mem} {s : Value} (hG : w.heap.size = G) (hlt : g < G ∧ gw < G ∧ gv < G)
    (hm2 : MemAt w2 g gw gv n cw cv m) (hs2 : StAt w2 (fun k => R k ∨ k = G ∨ k = G + 1 + 1) n m s) (hn : 0 < n) (ho : Only (MemR g gw gv) w w2) (c1 c3 : Array Value) :
    MemAt ((w2.setRow G c1).setRow (G + 1 + 1) c3) g gw gv n cw cv m ∧ StAt ((w2.setRow G c1).setRow (G + 1 + 1) c3) R n m s ∧ Only (MemR g gw gv) w ((w2.setRow G c1).setRow (G + 1 + 1) c3) := by
  have hO : Only (fun k => k = G ∨ k = G + 1 + 1) w2 ((w2.setRow G c1).setRow (G + 1 + 1) c3) := ((Only.refl _ w2).setRow (.inl rfl) _).setRow (.inr rfl) _
  obtain ⟨h0, h1, h2⟩ := hlt
  refine ⟨hm2.only hO (by omega) (by omega) (by omega), ?_, (ho.setRow_new (by omega) _).setRow_new (by omega) _⟩
  exact (hs2.only (hO.mono fun k _ hk => .inr hk)).sub hn (fun k _ hk => .inl hk)
/-- The same, where one block is written. -/
theorem do_end1 {w w2 : World} {R : Nat → Prop} {g gw gv n cw cv G : Nat} {m : Cel.Mem} {s : Value} (hG : w.heap.size = G) (hlt : g < G ∧ gw < G ∧ gv < G)
    (hm2 : MemAt w2 g gw gv n cw cv m) (hs2 : StAt w2 (fun k => R k ∨ k = G ∨ k = G + 1 + 1) n m s) (hn : 0 < n) (ho : Only (MemR g gw gv) w w2) (c3 : Array Value) :
    MemAt (w2.setRow (G + 1 + 1) c3) g gw gv n cw cv m ∧ StAt (w2.setRow (G + 1 + 1) c3) R n m s ∧ Only (MemR g gw gv) w (w2.setRow (G + 1 + 1) c3) := by
  have hO : Only (fun k => k = G + 1 + 1) w2 (w2.setRow (G + 1 + 1) c3) := Only.setRow (R := fun k => k = G + 1 + 1) (Only.refl _ w2) (show _ = _ from rfl) _
  obtain ⟨h0, h1, h2⟩ := hlt
  refine ⟨hm2.only hO (by omega) (by omega) (by omega), ?_, ho.setRow_new (by omega) _⟩
  exact (hs2.only (hO.mono fun k _ hk => .inr (.inr hk))).sub hn (fun k _ hk => .inl hk)

section
variable {w : World} {R : Nat → Prop} {g gw gv n cw cv : Nat} {m : Cel.Mem} {s : Value}

set_option maxRecDepth 100000 in
set_option maxHeartbeats 4000000 in
theorem do_write (hm : MemAt w g gw gv n cw cv m) (hs : StAt w R n m s) (hR : ∀ k, R k → k < w.heap.size) (hMR : ∀ k, MemR g gw gv k → R k ∨ k = w.heap.size ∨ k = w.heap.size + 1 + 1) {K : Int} (hf : Cel.Fine K m) (hK : 0 ≤ K ∧ K ≤ 4611686018427387904) (a p : Int) (v : UInt32) :
    Calls Try.prog 20 #[.pointer (some ⟨g, 0, none⟩), s, .agg #[I64 0, I64 a, I64 p, .int .u32 (v.toNat : Int)]] w (DoRes w R g gw gv n cw cv (m.apply ⟨0, a, p, v⟩)) := by
  have happ := Lib.hid (show m.apply ⟨0, a, p, v⟩ = (m.write a v).1 from rfl)
  have hlt := hm.lt0
  have HMR := Lib.hid hMR
  clear hMR
  have hsR := Lib.hid ((hs.sub (R' := fun k => R k ∨ k = w.heap.size ∨ k = w.heap.size + 1 + 1) hm.pos (fun k hk h => by rcases h with h | h | h; exact h; omega; omega)))
  have HM := Lib.hid hm
  have hpos := hm.pos
  have hsm := hm.small
  have hRb : ∀ k, (R k ∨ k = w.heap.size ∨ k = w.heap.size + 1 + 1) → k < w.heap.size + 1 + 1 + 1 := fun k h => by rcases h with h | h | h; have := hR k h; omega; omega; omega
  have HRB := Lib.hid hRb
  obtain ⟨A, c, A', c', z, rfl, _, _, _, _, _⟩ := hs
  clear hm hR hRb
  unfold stOf
  go_enter Try.func20, Try.ntmps20
  go_wp2_with fail
  obtain ⟨B1, B2, B3, hbw⟩ := blk_of_three (w := w) (X := #[.slice A n c, .slice A' n c', I64 m.endurance, I64 m.writes, I64 m.cuts, .bool (!m.off), I64 z]) (Y := #[I64 0, I64 a, I64 p, .int .u32 (v.toNat : Int)]) (Z := #[.slice none 0 0, .slice none 0 0, .int .i64 0, .int .i64 0, .int .i64 0, .bool false, .int .i64 0]) (t := 45) (s := 39) (r := 45)
  refine (cell_Write (HM.out.below hbw) a _ v rfl hf hK).mono ?_
  rintro e w1 ⟨rfl, hm1, ho1⟩
  rw [← happ.out] at hm1
  generalize hgs : w.heap.size = G at *
  have hR1 : ∀ k, MemR g gw gv k → k < G := fun k hk => by unfold MemR at hk; omega
  have b1 := B1.only ho1 (fun h => by have := hR1 _ h; omega)
  have b2 := B2.only ho1 (fun h => by have := hR1 _ h; omega)
  have b3 := B3.only ho1 (fun h => by have := hR1 _ h; omega)
  have o0 := b2.cell 1
  have o1 := b2.cell 2
  have o2 := b2.cell 3
  have hW1 : Only (MemR g gw gv) w w1 := Only.trans (Only.of_below (by rw [hgs]; exact hbw)) ho1
  have hsz1 : G + 1 + 1 + 1 ≤ w1.heap.size := by have := b3.lt; omega
  have hs1 := Lib.hid ((hsR.out.below (by rw [hgs]; exact hbw)).only (ho1.mono fun k _ hk => HMR.out k hk))
  have BB1 := Lib.hid b1
  have HM1 := Lib.hid hm1
  have HW1 := Lib.hid hW1
  have HGS := Lib.hid hgs
  have BB3 := Lib.hid b3
  clear b1 b2 b3 B1 B2 B3 ho1 hbw hm1 hW1 hgs hsR
  go_wp2_with ((with_reducible show wpList _ _ _ (Oper.mk _ (Op.load 45 (Operand.tmp 4)) _ _ _ _ :: _) _ _); refine wpList_load_row rfl 45 (.tmp 4) rfl G rfl 45 _ (0, 0) _ BB1.out Try.underlying45 rfl (by kernel_rfl) ?_)
  refine (law_ref09_Write hs1.out (fun k hk => Nat.lt_of_lt_of_le (HRB.out k hk) hsz1) hsm hf hK a _ v rfl).mono ?_
  rintro e w2 ⟨s2, rfl, hs2, hb2⟩
  rw [← happ.out] at hs2
  have HS2 := hs2
  obtain ⟨A2, c2, A3, c3, z2, rfl, _, _, _, _, _⟩ := hs2
  replace HS2 := Lib.hid HS2
  have hF1 := Lib.hid (BB1.out.below hb2 BB1.out.lt)
  have hG1 := Lib.hid (hF1.out.setRow #[.slice A2 n c2, .slice A3 n c3, I64 (m.apply ⟨0, a, p, v⟩).endurance, I64 (m.apply ⟨0, a, p, v⟩).writes, I64 (m.apply ⟨0, a, p, v⟩).cuts, .bool (!(m.apply ⟨0, a, p, v⟩).off), I64 z2])
  have hG3 := Lib.hid ((BB3.out.below hb2 BB3.out.lt).setRow_far (g' := G) (by omega) #[.slice A2 n c2, .slice A3 n c3, I64 (m.apply ⟨0, a, p, v⟩).endurance, I64 (m.apply ⟨0, a, p, v⟩).writes, I64 (m.apply ⟨0, a, p, v⟩).cuts, .bool (!(m.apply ⟨0, a, p, v⟩).off), I64 z2])
  have hM2 := Lib.hid (HM1.out.below hb2)
  have hO2 := Lib.hid (HW1.out.trans (Only.of_below hb2))
  clear hb2 o0 o1 o2
  unfold stOf
  go_wp2_with (first
    | ((with_reducible show wpList _ _ _ (Oper.mk _ (Op.store 45 (Operand.tmp 4) (Operand.tmp 31)) _ _ _ _ :: _) _ _); refine wpList_store_row rfl 45 (.tmp 4) (.tmp 31) rfl (G) #[.slice A2 n c2, .slice A3 n c3, I64 (m.apply ⟨0, a, p, v⟩).endurance, I64 (m.apply ⟨0, a, p, v⟩).writes, I64 (m.apply ⟨0, a, p, v⟩).cuts, .bool (!(m.apply ⟨0, a, p, v⟩).off), I64 z2] rfl rfl 45 _ hF1.out (by kernel_rfl) rfl (st_one _ _ _ _ _ _ _ _ _ _ _) ?_)
    | ((with_reducible show wpList _ _ _ (Oper.mk _ (Op.load 45 (Operand.tmp 4)) _ _ _ _ :: _) _ _); refine wpList_load_row rfl 45 (.tmp 4) rfl G rfl 45 _ (0, 0) _ hG1.out Try.underlying45 rfl (by kernel_rfl) ?_)
    | ((with_reducible show wpList _ _ _ (Oper.mk _ (Op.store 45 (Operand.tmp 6) (Operand.tmp 94)) _ _ _ _ :: _) _ _); refine wpList_store_row rfl 45 (.tmp 6) (.tmp 94) rfl (G + 1 + 1) #[.slice A2 n c2, .slice A3 n c3, I64 (m.apply ⟨0, a, p, v⟩).endurance, I64 (m.apply ⟨0, a, p, v⟩).writes, I64 (m.apply ⟨0, a, p, v⟩).cuts, .bool (!(m.apply ⟨0, a, p, v⟩).off), I64 z2] rfl rfl 45 _ hG3.out (by kernel_rfl) rfl (st_one _ _ _ _ _ _ _ _ _ _ _) ?_))
  have hR3 := (hG3.out).setRow #[.slice A2 n c2, .slice A3 n c3, I64 (m.apply ⟨0, a, p, v⟩).endurance, I64 (m.apply ⟨0, a, p, v⟩).writes, I64 (m.apply ⟨0, a, p, v⟩).cuts, .bool (!(m.apply ⟨0, a, p, v⟩).off), I64 z2]
  obtain ⟨e1, e2, e3⟩ := do_end HGS.out hlt hM2.out HS2.out hpos hO2.out #[.slice A2 n c2, .slice A3 n c3, I64 (m.apply ⟨0, a, p, v⟩).endurance, I64 (m.apply ⟨0, a, p, v⟩).writes, I64 (m.apply ⟨0, a, p, v⟩).cuts, .bool (!(m.apply ⟨0, a, p, v⟩).off), I64 z2] #[.slice A2 n c2, .slice A3 n c3, I64 (m.apply ⟨0, a, p, v⟩).endurance, I64 (m.apply ⟨0, a, p, v⟩).writes, I64 (m.apply ⟨0, a, p, v⟩).cuts, .bool (!(m.apply ⟨0, a, p, v⟩).off), I64 z2]
  refine bodyPost_ret (results_row_tmp rfl _ _ (G + 1 + 1) 45 _ (0, 0) _ rfl hR3 Try.underlying45 rfl (by kernel_rfl)) rfl ⟨_, ?_, e1, e2, e3⟩
  simp [stOf]

set_option maxRecDepth 100000 in
set_option maxHeartbeats 4000000 in
theorem do_cut (hm : MemAt w g gw gv n cw cv m) (hs : StAt w R n m s) (hR : ∀ k, R k → k < w.heap.size) (hMR : ∀ k, MemR g gw gv k → R k ∨ k = w.heap.size ∨ k = w.heap.size + 1 + 1) (a p : Int) (v : UInt32) :
    Calls Try.prog 20 #[.pointer (some ⟨g, 0, none⟩), s, .agg #[I64 1, I64 a, I64 p, .int .u32 (v.toNat : Int)]] w (DoRes w R g gw gv n cw cv (m.apply ⟨1, a, p, v⟩)) := by
  have happ := Lib.hid (show m.apply ⟨1, a, p, v⟩ = (m.cut p).1 from rfl)
  have hlt := hm.lt0
  have HMR := Lib.hid hMR
  clear hMR
  have hsR := Lib.hid ((hs.sub (R' := fun k => R k ∨ k = w.heap.size ∨ k = w.heap.size + 1 + 1) hm.pos (fun k hk h => by rcases h with h | h | h; exact h; omega; omega)))
  have HM := Lib.hid hm
  have hpos := hm.pos
  have hsm := hm.small
  have hRb : ∀ k, (R k ∨ k = w.heap.size ∨ k = w.heap.size + 1 + 1) → k < w.heap.size + 1 + 1 + 1 := fun k h => by rcases h with h | h | h; have := hR k h; omega; omega; omega
  have HRB := Lib.hid hRb
  obtain ⟨A, c, A', c', z, rfl, _, _, _, _, _⟩ := hs
  clear hm hR hRb
  unfold stOf
  go_enter Try.func20, Try.ntmps20
  go_wp2_with fail
  obtain ⟨B1, B2, B3, hbw⟩ := blk_of_three (w := w) (X := #[.slice A n c, .slice A' n c', I64 m.endurance, I64 m.writes, I64 m.cuts, .bool (!m.off), I64 z]) (Y := #[I64 1, I64 a, I64 p, .int .u32 (v.toNat : Int)]) (Z := #[.slice none 0 0, .slice none 0 0, .int .i64 0, .int .i64 0, .int .i64 0, .bool false, .int .i64 0]) (t := 45) (s := 39) (r := 45)
  refine (cell_Cut (HM.out.below hbw) p).mono ?_
  rintro e w1 ⟨rfl, hm1, ho1⟩
  rw [← happ.out] at hm1
  generalize hgs : w.heap.size = G at *
  have hR1 : ∀ k, MemR g gw gv k → k < G := fun k hk => by unfold MemR at hk; omega
  have b1 := B1.only ho1 (fun h => by have := hR1 _ h; omega)
  have b2 := B2.only ho1 (fun h => by have := hR1 _ h; omega)
  have b3 := B3.only ho1 (fun h => by have := hR1 _ h; omega)
  have o0 := b2.cell 1
  have o1 := b2.cell 2
  have o2 := b2.cell 3
  have hW1 : Only (MemR g gw gv) w w1 := Only.trans (Only.of_below (by rw [hgs]; exact hbw)) ho1
  have hsz1 : G + 1 + 1 + 1 ≤ w1.heap.size := by have := b3.lt; omega
  have hs1 := Lib.hid ((hsR.out.below (by rw [hgs]; exact hbw)).only (ho1.mono fun k _ hk => HMR.out k hk))
  have BB1 := Lib.hid b1
  have HM1 := Lib.hid hm1
  have HW1 := Lib.hid hW1
  have HGS := Lib.hid hgs
  have BB3 := Lib.hid b3
  clear b1 b2 b3 B1 B2 B3 ho1 hbw hm1 hW1 hgs hsR
  go_wp2_with ((with_reducible show wpList _ _ _ (Oper.mk _ (Op.load 45 (Operand.tmp 4)) _ _ _ _ :: _) _ _); refine wpList_load_row rfl 45 (.tmp 4) rfl G rfl 45 _ (0, 0) _ BB1.out Try.underlying45 rfl (by kernel_rfl) ?_)
  refine (law_ref09_Cut hs1.out p).mono ?_
  rintro e w2 ⟨s2, rfl, hs2, hb2⟩
  rw [← happ.out] at hs2
  have HS2 := hs2
  obtain ⟨A2, c2, A3, c3, z2, rfl, _, _, _, _, _⟩ := hs2
  replace HS2 := Lib.hid HS2
  have hF1 := Lib.hid (BB1.out.below hb2 BB1.out.lt)
  have hG1 := Lib.hid (hF1.out.setRow #[.slice A2 n c2, .slice A3 n c3, I64 (m.apply ⟨1, a, p, v⟩).endurance, I64 (m.apply ⟨1, a, p, v⟩).writes, I64 (m.apply ⟨1, a, p, v⟩).cuts, .bool (!(m.apply ⟨1, a, p, v⟩).off), I64 z2])
  have hG3 := Lib.hid ((BB3.out.below hb2 BB3.out.lt).setRow_far (g' := G) (by omega) #[.slice A2 n c2, .slice A3 n c3, I64 (m.apply ⟨1, a, p, v⟩).endurance, I64 (m.apply ⟨1, a, p, v⟩).writes, I64 (m.apply ⟨1, a, p, v⟩).cuts, .bool (!(m.apply ⟨1, a, p, v⟩).off), I64 z2])
  have hM2 := Lib.hid (HM1.out.below hb2)
  have hO2 := Lib.hid (HW1.out.trans (Only.of_below hb2))
  clear hb2 o0 o1 o2
  unfold stOf
  go_wp2_with (first
    | ((with_reducible show wpList _ _ _ (Oper.mk _ (Op.store 45 (Operand.tmp 4) (Operand.tmp 44)) _ _ _ _ :: _) _ _); refine wpList_store_row rfl 45 (.tmp 4) (.tmp 44) rfl (G) #[.slice A2 n c2, .slice A3 n c3, I64 (m.apply ⟨1, a, p, v⟩).endurance, I64 (m.apply ⟨1, a, p, v⟩).writes, I64 (m.apply ⟨1, a, p, v⟩).cuts, .bool (!(m.apply ⟨1, a, p, v⟩).off), I64 z2] rfl rfl 45 _ hF1.out (by kernel_rfl) rfl (st_one _ _ _ _ _ _ _ _ _ _ _) ?_)
    | ((with_reducible show wpList _ _ _ (Oper.mk _ (Op.load 45 (Operand.tmp 4)) _ _ _ _ :: _) _ _); refine wpList_load_row rfl 45 (.tmp 4) rfl G rfl 45 _ (0, 0) _ hG1.out Try.underlying45 rfl (by kernel_rfl) ?_)
    | ((with_reducible show wpList _ _ _ (Oper.mk _ (Op.store 45 (Operand.tmp 6) (Operand.tmp 94)) _ _ _ _ :: _) _ _); refine wpList_store_row rfl 45 (.tmp 6) (.tmp 94) rfl (G + 1 + 1) #[.slice A2 n c2, .slice A3 n c3, I64 (m.apply ⟨1, a, p, v⟩).endurance, I64 (m.apply ⟨1, a, p, v⟩).writes, I64 (m.apply ⟨1, a, p, v⟩).cuts, .bool (!(m.apply ⟨1, a, p, v⟩).off), I64 z2] rfl rfl 45 _ hG3.out (by kernel_rfl) rfl (st_one _ _ _ _ _ _ _ _ _ _ _) ?_))
  have hR3 := (hG3.out).setRow #[.slice A2 n c2, .slice A3 n c3, I64 (m.apply ⟨1, a, p, v⟩).endurance, I64 (m.apply ⟨1, a, p, v⟩).writes, I64 (m.apply ⟨1, a, p, v⟩).cuts, .bool (!(m.apply ⟨1, a, p, v⟩).off), I64 z2]
  obtain ⟨e1, e2, e3⟩ := do_end HGS.out hlt hM2.out HS2.out hpos hO2.out #[.slice A2 n c2, .slice A3 n c3, I64 (m.apply ⟨1, a, p, v⟩).endurance, I64 (m.apply ⟨1, a, p, v⟩).writes, I64 (m.apply ⟨1, a, p, v⟩).cuts, .bool (!(m.apply ⟨1, a, p, v⟩).off), I64 z2] #[.slice A2 n c2, .slice A3 n c3, I64 (m.apply ⟨1, a, p, v⟩).endurance, I64 (m.apply ⟨1, a, p, v⟩).writes, I64 (m.apply ⟨1, a, p, v⟩).cuts, .bool (!(m.apply ⟨1, a, p, v⟩).off), I64 z2]
  refine bodyPost_ret (results_row_tmp rfl _ _ (G + 1 + 1) 45 _ (0, 0) _ rfl hR3 Try.underlying45 rfl (by kernel_rfl)) rfl ⟨_, ?_, e1, e2, e3⟩
  simp [stOf]

set_option maxRecDepth 100000 in
set_option maxHeartbeats 4000000 in
theorem do_restore (hm : MemAt w g gw gv n cw cv m) (hs : StAt w R n m s) (hR : ∀ k, R k → k < w.heap.size) (hMR : ∀ k, MemR g gw gv k → R k ∨ k = w.heap.size ∨ k = w.heap.size + 1 + 1) (a p : Int) (v : UInt32) :
    Calls Try.prog 20 #[.pointer (some ⟨g, 0, none⟩), s, .agg #[I64 2, I64 a, I64 p, .int .u32 (v.toNat : Int)]] w (DoRes w R g gw gv n cw cv (m.apply ⟨2, a, p, v⟩)) := by
  have happ := Lib.hid (show m.apply ⟨2, a, p, v⟩ = m.restore from rfl)
  have hlt := hm.lt0
  have HMR := Lib.hid hMR
  clear hMR
  have hsR := Lib.hid ((hs.sub (R' := fun k => R k ∨ k = w.heap.size ∨ k = w.heap.size + 1 + 1) hm.pos (fun k hk h => by rcases h with h | h | h; exact h; omega; omega)))
  have HM := Lib.hid hm
  have hpos := hm.pos
  have hsm := hm.small
  have hRb : ∀ k, (R k ∨ k = w.heap.size ∨ k = w.heap.size + 1 + 1) → k < w.heap.size + 1 + 1 + 1 := fun k h => by rcases h with h | h | h; have := hR k h; omega; omega; omega
  have HRB := Lib.hid hRb
  obtain ⟨A, c, A', c', z, rfl, _, _, _, _, _⟩ := hs
  clear hm hR hRb
  unfold stOf
  go_enter Try.func20, Try.ntmps20
  go_wp2_with fail
  obtain ⟨B1, B2, B3, hbw⟩ := blk_of_three (w := w) (X := #[.slice A n c, .slice A' n c', I64 m.endurance, I64 m.writes, I64 m.cuts, .bool (!m.off), I64 z]) (Y := #[I64 2, I64 a, I64 p, .int .u32 (v.toNat : Int)]) (Z := #[.slice none 0 0, .slice none 0 0, .int .i64 0, .int .i64 0, .int .i64 0, .bool false, .int .i64 0]) (t := 45) (s := 39) (r := 45)
  refine (cell_Restore (HM.out.below hbw)).mono ?_
  rintro e w1 ⟨rfl, hm1, ho1⟩
  rw [← happ.out] at hm1
  generalize hgs : w.heap.size = G at *
  have hR1 : ∀ k, MemR g gw gv k → k < G := fun k hk => by unfold MemR at hk; omega
  have b1 := B1.only ho1 (fun h => by have := hR1 _ h; omega)
  have b2 := B2.only ho1 (fun h => by have := hR1 _ h; omega)
  have b3 := B3.only ho1 (fun h => by have := hR1 _ h; omega)
  have o0 := b2.cell 1
  have o1 := b2.cell 2
  have o2 := b2.cell 3
  have hW1 : Only (MemR g gw gv) w w1 := Only.trans (Only.of_below (by rw [hgs]; exact hbw)) ho1
  have hsz1 : G + 1 + 1 + 1 ≤ w1.heap.size := by have := b3.lt; omega
  have hs1 := Lib.hid ((hsR.out.below (by rw [hgs]; exact hbw)).only (ho1.mono fun k _ hk => HMR.out k hk))
  have BB1 := Lib.hid b1
  have HM1 := Lib.hid hm1
  have HW1 := Lib.hid hW1
  have HGS := Lib.hid hgs
  have BB3 := Lib.hid b3
  clear b1 b2 b3 B1 B2 B3 ho1 hbw hm1 hW1 hgs hsR
  go_wp2_with ((with_reducible show wpList _ _ _ (Oper.mk _ (Op.load 45 (Operand.tmp 4)) _ _ _ _ :: _) _ _); refine wpList_load_row rfl 45 (.tmp 4) rfl G rfl 45 _ (0, 0) _ BB1.out Try.underlying45 rfl (by kernel_rfl) ?_)
  refine (law_ref09_Restore hs1.out).mono ?_
  rintro e w2 ⟨s2, rfl, hs2, hb2⟩
  rw [← happ.out] at hs2
  have HS2 := hs2
  obtain ⟨A2, c2, A3, c3, z2, rfl, _, _, _, _, _⟩ := hs2
  replace HS2 := Lib.hid HS2
  have hF1 := Lib.hid (BB1.out.below hb2 BB1.out.lt)
  have hG1 := Lib.hid (hF1.out.setRow #[.slice A2 n c2, .slice A3 n c3, I64 (m.apply ⟨2, a, p, v⟩).endurance, I64 (m.apply ⟨2, a, p, v⟩).writes, I64 (m.apply ⟨2, a, p, v⟩).cuts, .bool (!(m.apply ⟨2, a, p, v⟩).off), I64 z2])
  have hG3 := Lib.hid ((BB3.out.below hb2 BB3.out.lt).setRow_far (g' := G) (by omega) #[.slice A2 n c2, .slice A3 n c3, I64 (m.apply ⟨2, a, p, v⟩).endurance, I64 (m.apply ⟨2, a, p, v⟩).writes, I64 (m.apply ⟨2, a, p, v⟩).cuts, .bool (!(m.apply ⟨2, a, p, v⟩).off), I64 z2])
  have hM2 := Lib.hid (HM1.out.below hb2)
  have hO2 := Lib.hid (HW1.out.trans (Only.of_below hb2))
  clear hb2 o0 o1 o2
  unfold stOf
  go_wp2_with (first
    | ((with_reducible show wpList _ _ _ (Oper.mk _ (Op.store 45 (Operand.tmp 4) (Operand.tmp 51)) _ _ _ _ :: _) _ _); refine wpList_store_row rfl 45 (.tmp 4) (.tmp 51) rfl (G) #[.slice A2 n c2, .slice A3 n c3, I64 (m.apply ⟨2, a, p, v⟩).endurance, I64 (m.apply ⟨2, a, p, v⟩).writes, I64 (m.apply ⟨2, a, p, v⟩).cuts, .bool (!(m.apply ⟨2, a, p, v⟩).off), I64 z2] rfl rfl 45 _ hF1.out (by kernel_rfl) rfl (st_one _ _ _ _ _ _ _ _ _ _ _) ?_)
    | ((with_reducible show wpList _ _ _ (Oper.mk _ (Op.load 45 (Operand.tmp 4)) _ _ _ _ :: _) _ _); refine wpList_load_row rfl 45 (.tmp 4) rfl G rfl 45 _ (0, 0) _ hG1.out Try.underlying45 rfl (by kernel_rfl) ?_)
    | ((with_reducible show wpList _ _ _ (Oper.mk _ (Op.store 45 (Operand.tmp 6) (Operand.tmp 94)) _ _ _ _ :: _) _ _); refine wpList_store_row rfl 45 (.tmp 6) (.tmp 94) rfl (G + 1 + 1) #[.slice A2 n c2, .slice A3 n c3, I64 (m.apply ⟨2, a, p, v⟩).endurance, I64 (m.apply ⟨2, a, p, v⟩).writes, I64 (m.apply ⟨2, a, p, v⟩).cuts, .bool (!(m.apply ⟨2, a, p, v⟩).off), I64 z2] rfl rfl 45 _ hG3.out (by kernel_rfl) rfl (st_one _ _ _ _ _ _ _ _ _ _ _) ?_))
  have hR3 := (hG3.out).setRow #[.slice A2 n c2, .slice A3 n c3, I64 (m.apply ⟨2, a, p, v⟩).endurance, I64 (m.apply ⟨2, a, p, v⟩).writes, I64 (m.apply ⟨2, a, p, v⟩).cuts, .bool (!(m.apply ⟨2, a, p, v⟩).off), I64 z2]
  obtain ⟨e1, e2, e3⟩ := do_end HGS.out hlt hM2.out HS2.out hpos hO2.out #[.slice A2 n c2, .slice A3 n c3, I64 (m.apply ⟨2, a, p, v⟩).endurance, I64 (m.apply ⟨2, a, p, v⟩).writes, I64 (m.apply ⟨2, a, p, v⟩).cuts, .bool (!(m.apply ⟨2, a, p, v⟩).off), I64 z2] #[.slice A2 n c2, .slice A3 n c3, I64 (m.apply ⟨2, a, p, v⟩).endurance, I64 (m.apply ⟨2, a, p, v⟩).writes, I64 (m.apply ⟨2, a, p, v⟩).cuts, .bool (!(m.apply ⟨2, a, p, v⟩).off), I64 z2]
  refine bodyPost_ret (results_row_tmp rfl _ _ (G + 1 + 1) 45 _ (0, 0) _ rfl hR3 Try.underlying45 rfl (by kernel_rfl)) rfl ⟨_, ?_, e1, e2, e3⟩
  simp [stOf]

set_option maxRecDepth 100000 in
set_option maxHeartbeats 4000000 in
theorem do_flip (hm : MemAt w g gw gv n cw cv m) (hs : StAt w R n m s) (hR : ∀ k, R k → k < w.heap.size) (hMR : ∀ k, MemR g gw gv k → R k ∨ k = w.heap.size ∨ k = w.heap.size + 1 + 1) (a p : Int) (v : UInt32) :
    Calls Try.prog 20 #[.pointer (some ⟨g, 0, none⟩), s, .agg #[I64 3, I64 a, I64 p, .int .u32 (v.toNat : Int)]] w (DoRes w R g gw gv n cw cv (m.apply ⟨3, a, p, v⟩)) := by
  have happ := Lib.hid (show m.apply ⟨3, a, p, v⟩ = (m.flip a p).1 from rfl)
  have hlt := hm.lt0
  have HMR := Lib.hid hMR
  clear hMR
  have hsR := Lib.hid ((hs.sub (R' := fun k => R k ∨ k = w.heap.size ∨ k = w.heap.size + 1 + 1) hm.pos (fun k hk h => by rcases h with h | h | h; exact h; omega; omega)))
  have HM := Lib.hid hm
  have hpos := hm.pos
  have hsm := hm.small
  have hRb : ∀ k, (R k ∨ k = w.heap.size ∨ k = w.heap.size + 1 + 1) → k < w.heap.size + 1 + 1 + 1 := fun k h => by rcases h with h | h | h; have := hR k h; omega; omega; omega
  have HRB := Lib.hid hRb
  obtain ⟨A, c, A', c', z, rfl, _, _, _, _, _⟩ := hs
  clear hm hR hRb
  unfold stOf
  go_enter Try.func20, Try.ntmps20
  go_wp2_with fail
  obtain ⟨B1, B2, B3, hbw⟩ := blk_of_three (w := w) (X := #[.slice A n c, .slice A' n c', I64 m.endurance, I64 m.writes, I64 m.cuts, .bool (!m.off), I64 z]) (Y := #[I64 3, I64 a, I64 p, .int .u32 (v.toNat : Int)]) (Z := #[.slice none 0 0, .slice none 0 0, .int .i64 0, .int .i64 0, .int .i64 0, .bool false, .int .i64 0]) (t := 45) (s := 39) (r := 45)
  refine (cell_Flip (HM.out.below hbw) a p).mono ?_
  rintro e w1 ⟨rfl, hm1, ho1⟩
  rw [← happ.out] at hm1
  generalize hgs : w.heap.size = G at *
  have hR1 : ∀ k, MemR g gw gv k → k < G := fun k hk => by unfold MemR at hk; omega
  have b1 := B1.only ho1 (fun h => by have := hR1 _ h; omega)
  have b2 := B2.only ho1 (fun h => by have := hR1 _ h; omega)
  have b3 := B3.only ho1 (fun h => by have := hR1 _ h; omega)
  have o0 := b2.cell 1
  have o1 := b2.cell 2
  have o2 := b2.cell 3
  have hW1 : Only (MemR g gw gv) w w1 := Only.trans (Only.of_below (by rw [hgs]; exact hbw)) ho1
  have hsz1 : G + 1 + 1 + 1 ≤ w1.heap.size := by have := b3.lt; omega
  have hs1 := Lib.hid ((hsR.out.below (by rw [hgs]; exact hbw)).only (ho1.mono fun k _ hk => HMR.out k hk))
  have BB1 := Lib.hid b1
  have HM1 := Lib.hid hm1
  have HW1 := Lib.hid hW1
  have HGS := Lib.hid hgs
  have BB3 := Lib.hid b3
  clear b1 b2 b3 B1 B2 B3 ho1 hbw hm1 hW1 hgs hsR
  go_wp2_with ((with_reducible show wpList _ _ _ (Oper.mk _ (Op.load 45 (Operand.tmp 4)) _ _ _ _ :: _) _ _); refine wpList_load_row rfl 45 (.tmp 4) rfl G rfl 45 _ (0, 0) _ BB1.out Try.underlying45 rfl (by kernel_rfl) ?_)
  refine (law_ref09_Flip hs1.out (fun k hk => Nat.lt_of_lt_of_le (HRB.out k hk) hsz1) hsm a p).mono ?_
  rintro e w2 ⟨s2, rfl, hs2, hb2⟩
  rw [← happ.out] at hs2
  have HS2 := hs2
  obtain ⟨A2, c2, A3, c3, z2, rfl, _, _, _, _, _⟩ := hs2
  replace HS2 := Lib.hid HS2
  have hF1 := Lib.hid (BB1.out.below hb2 BB1.out.lt)
  have hG1 := Lib.hid (hF1.out.setRow #[.slice A2 n c2, .slice A3 n c3, I64 (m.apply ⟨3, a, p, v⟩).endurance, I64 (m.apply ⟨3, a, p, v⟩).writes, I64 (m.apply ⟨3, a, p, v⟩).cuts, .bool (!(m.apply ⟨3, a, p, v⟩).off), I64 z2])
  have hG3 := Lib.hid ((BB3.out.below hb2 BB3.out.lt).setRow_far (g' := G) (by omega) #[.slice A2 n c2, .slice A3 n c3, I64 (m.apply ⟨3, a, p, v⟩).endurance, I64 (m.apply ⟨3, a, p, v⟩).writes, I64 (m.apply ⟨3, a, p, v⟩).cuts, .bool (!(m.apply ⟨3, a, p, v⟩).off), I64 z2])
  have hM2 := Lib.hid (HM1.out.below hb2)
  have hO2 := Lib.hid (HW1.out.trans (Only.of_below hb2))
  clear hb2 o0 o1 o2
  unfold stOf
  go_wp2_with (first
    | ((with_reducible show wpList _ _ _ (Oper.mk _ (Op.store 45 (Operand.tmp 4) (Operand.tmp 67)) _ _ _ _ :: _) _ _); refine wpList_store_row rfl 45 (.tmp 4) (.tmp 67) rfl (G) #[.slice A2 n c2, .slice A3 n c3, I64 (m.apply ⟨3, a, p, v⟩).endurance, I64 (m.apply ⟨3, a, p, v⟩).writes, I64 (m.apply ⟨3, a, p, v⟩).cuts, .bool (!(m.apply ⟨3, a, p, v⟩).off), I64 z2] rfl rfl 45 _ hF1.out (by kernel_rfl) rfl (st_one _ _ _ _ _ _ _ _ _ _ _) ?_)
    | ((with_reducible show wpList _ _ _ (Oper.mk _ (Op.load 45 (Operand.tmp 4)) _ _ _ _ :: _) _ _); refine wpList_load_row rfl 45 (.tmp 4) rfl G rfl 45 _ (0, 0) _ hG1.out Try.underlying45 rfl (by kernel_rfl) ?_)
    | ((with_reducible show wpList _ _ _ (Oper.mk _ (Op.store 45 (Operand.tmp 6) (Operand.tmp 94)) _ _ _ _ :: _) _ _); refine wpList_store_row rfl 45 (.tmp 6) (.tmp 94) rfl (G + 1 + 1) #[.slice A2 n c2, .slice A3 n c3, I64 (m.apply ⟨3, a, p, v⟩).endurance, I64 (m.apply ⟨3, a, p, v⟩).writes, I64 (m.apply ⟨3, a, p, v⟩).cuts, .bool (!(m.apply ⟨3, a, p, v⟩).off), I64 z2] rfl rfl 45 _ hG3.out (by kernel_rfl) rfl (st_one _ _ _ _ _ _ _ _ _ _ _) ?_))
  have hR3 := (hG3.out).setRow #[.slice A2 n c2, .slice A3 n c3, I64 (m.apply ⟨3, a, p, v⟩).endurance, I64 (m.apply ⟨3, a, p, v⟩).writes, I64 (m.apply ⟨3, a, p, v⟩).cuts, .bool (!(m.apply ⟨3, a, p, v⟩).off), I64 z2]
  obtain ⟨e1, e2, e3⟩ := do_end HGS.out hlt hM2.out HS2.out hpos hO2.out #[.slice A2 n c2, .slice A3 n c3, I64 (m.apply ⟨3, a, p, v⟩).endurance, I64 (m.apply ⟨3, a, p, v⟩).writes, I64 (m.apply ⟨3, a, p, v⟩).cuts, .bool (!(m.apply ⟨3, a, p, v⟩).off), I64 z2] #[.slice A2 n c2, .slice A3 n c3, I64 (m.apply ⟨3, a, p, v⟩).endurance, I64 (m.apply ⟨3, a, p, v⟩).writes, I64 (m.apply ⟨3, a, p, v⟩).cuts, .bool (!(m.apply ⟨3, a, p, v⟩).off), I64 z2]
  refine bodyPost_ret (results_row_tmp rfl _ _ (G + 1 + 1) 45 _ (0, 0) _ rfl hR3 Try.underlying45 rfl (by kernel_rfl)) rfl ⟨_, ?_, e1, e2, e3⟩
  simp [stOf]

set_option maxRecDepth 100000 in
set_option maxHeartbeats 4000000 in
theorem do_read (hm : MemAt w g gw gv n cw cv m) (hs : StAt w R n m s) (hR : ∀ k, R k → k < w.heap.size) (a p : Int) (v : UInt32) :
    Calls Try.prog 20 #[.pointer (some ⟨g, 0, none⟩), s, .agg #[I64 4, I64 a, I64 p, .int .u32 (v.toNat : Int)]] w (DoRes w R g gw gv n cw cv m) := by
  have hlt := hm.lt0
  have hsR := Lib.hid ((hs.sub (R' := fun k => R k ∨ k = w.heap.size ∨ k = w.heap.size + 1 + 1) hm.pos (fun k hk h => by rcases h with h | h | h; exact h; omega; omega)))
  have HM := Lib.hid hm
  have hpos := hm.pos
  have hsm := hm.small
  have hRb : ∀ k, (R k ∨ k = w.heap.size ∨ k = w.heap.size + 1 + 1) → k < w.heap.size + 1 + 1 + 1 := fun k h => by rcases h with h | h | h; have := hR k h; omega; omega; omega
  have HRB := Lib.hid hRb
  obtain ⟨A, c, A', c', z, rfl, _, _, _, _, _⟩ := hs
  clear hm hR hRb
  unfold stOf
  go_enter Try.func20, Try.ntmps20
  go_wp2_with fail
  obtain ⟨B1, B2, B3, hbw⟩ := blk_of_three (w := w) (X := #[.slice A n c, .slice A' n c', I64 m.endurance, I64 m.writes, I64 m.cuts, .bool (!m.off), I64 z]) (Y := #[I64 4, I64 a, I64 p, .int .u32 (v.toNat : Int)]) (Z := #[.slice none 0 0, .slice none 0 0, .int .i64 0, .int .i64 0, .int .i64 0, .bool false, .int .i64 0]) (t := 45) (s := 39) (r := 45)
  refine (cell_Read (HM.out.below hbw) a).mono ?_
  rintro e w1 ⟨rfl, rfl⟩
  generalize hgs : w.heap.size = G at *
  have o0 := B2.cell 1
  have hs1 := Lib.hid (hsR.out.below (by rw [hgs]; exact hbw))
  have HM1 := Lib.hid (HM.out.below (by rw [hgs]; exact hbw))
  have HW1 := Lib.hid (show Only (MemR g gw gv) w _ from Only.of_below (by rw [hgs]; exact hbw))
  have HGS := Lib.hid hgs
  have BB1 := Lib.hid B1
  have BB3 := Lib.hid B3
  clear B1 B2 B3 hbw hgs hsR
  go_wp2_with ((with_reducible show wpList _ _ _ (Oper.mk _ (Op.load 45 (Operand.tmp 4)) _ _ _ _ :: _) _ _); refine wpList_load_row rfl 45 (.tmp 4) rfl G rfl 45 _ (0, 0) _ BB1.out Try.underlying45 rfl (by kernel_rfl) ?_)
  refine (law_ref09_Read hs1.out a).mono ?_
  rintro e w2 ⟨rfl, hb2⟩
  replace BB1 := Lib.hid (BB1.out.below hb2 BB1.out.lt)
  replace BB3 := Lib.hid (BB3.out.below hb2 BB3.out.lt)
  replace hs1 := Lib.hid (hs1.out.below hb2)
  replace HM1 := Lib.hid (HM1.out.below hb2)
  replace HW1 := Lib.hid (HW1.out.trans (Only.of_below hb2))
  clear hb2 o0
  go_wp2_with (first
    | ((with_reducible show wpList _ _ _ (Oper.mk _ (Op.load 45 (Operand.tmp 4)) _ _ _ _ :: _) _ _); refine wpList_load_row rfl 45 (.tmp 4) rfl G rfl 45 _ (0, 0) _ BB1.out Try.underlying45 rfl (by kernel_rfl) ?_)
    | ((with_reducible show wpList _ _ _ (Oper.mk _ (Op.store 45 (Operand.tmp 6) (Operand.tmp 85)) _ _ _ _ :: _) _ _); refine wpList_store_row rfl 45 (.tmp 6) (.tmp 85) rfl (G + 1 + 1) #[.slice A n c, .slice A' n c', I64 m.endurance, I64 m.writes, I64 m.cuts, .bool (!m.off), I64 z] rfl rfl 45 _ BB3.out (by kernel_rfl) rfl (st_one _ _ _ _ _ _ _ _ _ _ _) ?_))
  have hR3 := (BB3.out).setRow #[.slice A n c, .slice A' n c', I64 m.endurance, I64 m.writes, I64 m.cuts, .bool (!m.off), I64 z]
  obtain ⟨e1, e2, e3⟩ := do_end1 HGS.out hlt HM1.out hs1.out hpos HW1.out #[.slice A n c, .slice A' n c', I64 m.endurance, I64 m.writes, I64 m.cuts, .bool (!m.off), I64 z]
  refine bodyPost_ret (results_row_tmp rfl _ _ (G + 1 + 1) 45 _ (0, 0) _ rfl hR3 Try.underlying45 rfl (by kernel_rfl)) rfl ⟨_, ?_, e1, e2, e3⟩
  simp [stOf]

set_option maxRecDepth 100000 in
set_option maxHeartbeats 4000000 in
theorem do_none (hm : MemAt w g gw gv n cw cv m) (hs : StAt w R n m s) (hR : ∀ k, R k → k < w.heap.size) (o a p : Int) (v : UInt32) (q0 : ¬ o = 0) (q1 : ¬ o = 1) (q2 : ¬ o = 2) (q3 : ¬ o = 3) (q4 : ¬ o = 4) :
    Calls Try.prog 20 #[.pointer (some ⟨g, 0, none⟩), s, .agg #[I64 o, I64 a, I64 p, .int .u32 (v.toNat : Int)]] w (DoRes w R g gw gv n cw cv m) := by
  have hlt := hm.lt0
  have hsR := Lib.hid ((hs.sub (R' := fun k => R k ∨ k = w.heap.size ∨ k = w.heap.size + 1 + 1) hm.pos (fun k hk h => by rcases h with h | h | h; exact h; omega; omega)))
  have HM := Lib.hid hm
  have hpos := hm.pos
  have hsm := hm.small
  have hRb : ∀ k, (R k ∨ k = w.heap.size ∨ k = w.heap.size + 1 + 1) → k < w.heap.size + 1 + 1 + 1 := fun k h => by rcases h with h | h | h; have := hR k h; omega; omega; omega
  have HRB := Lib.hid hRb
  obtain ⟨A, c, A', c', z, rfl, _, _, _, _, _⟩ := hs
  clear hm hR hRb
  unfold stOf
  go_enter Try.func20, Try.ntmps20
  go_upto_region 19 with fail
  obtain ⟨B1, B2, B3, hbw⟩ := blk_of_three (w := w) (X := #[.slice A n c, .slice A' n c', I64 m.endurance, I64 m.writes, I64 m.cuts, .bool (!m.off), I64 z]) (Y := #[I64 o, I64 a, I64 p, .int .u32 (v.toNat : Int)]) (Z := #[.slice none 0 0, .slice none 0 0, .int .i64 0, .int .i64 0, .int .i64 0, .bool false, .int .i64 0]) (t := 45) (s := 39) (r := 45)
  generalize hgs : w.heap.size = G at *
  have hs1 := Lib.hid (hsR.out.below (by rw [hgs]; exact hbw))
  have HM1 := Lib.hid (HM.out.below (by rw [hgs]; exact hbw))
  have HW1 := Lib.hid (show Only (MemR g gw gv) w _ from Only.of_below (by rw [hgs]; exact hbw))
  have HGS := Lib.hid hgs
  have BB1 := Lib.hid B1
  have BB3 := Lib.hid B3
  clear B1 B2 B3 hbw hgs hsR
  go_wp2_with (first
    | ((with_reducible show wpList _ _ _ (Oper.mk _ (Op.load 45 (Operand.tmp 4)) _ _ _ _ :: _) _ _); refine wpList_load_row rfl 45 (.tmp 4) rfl G rfl 45 _ (0, 0) _ BB1.out Try.underlying45 rfl (by kernel_rfl) ?_)
    | ((with_reducible show wpList _ _ _ (Oper.mk _ (Op.store 45 (Operand.tmp 6) (Operand.tmp 94)) _ _ _ _ :: _) _ _); refine wpList_store_row rfl 45 (.tmp 6) (.tmp 94) rfl (G + 1 + 1) #[.slice A n c, .slice A' n c', I64 m.endurance, I64 m.writes, I64 m.cuts, .bool (!m.off), I64 z] rfl rfl 45 _ BB3.out (by kernel_rfl) rfl (st_one _ _ _ _ _ _ _ _ _ _ _) ?_))
  have hR3 := (BB3.out).setRow #[.slice A n c, .slice A' n c', I64 m.endurance, I64 m.writes, I64 m.cuts, .bool (!m.off), I64 z]
  obtain ⟨e1, e2, e3⟩ := do_end1 HGS.out hlt HM1.out hs1.out hpos HW1.out #[.slice A n c, .slice A' n c', I64 m.endurance, I64 m.writes, I64 m.cuts, .bool (!m.off), I64 z]
  refine bodyPost_ret (results_row_tmp rfl _ _ (G + 1 + 1) 45 _ (0, 0) _ rfl hR3 Try.underlying45 rfl (by kernel_rfl)) rfl ⟨_, ?_, e1, e2, e3⟩
  simp [stOf]

theorem law09_do (hm : MemAt w g gw gv n cw cv m) (hs : StAt w R n m s) (hR : ∀ k, R k → k < w.heap.size) (hMR : ∀ k, MemR g gw gv k → R k) {K : Int} (hf : Cel.Fine K m) (hK : 0 ≤ K ∧ K ≤ 4611686018427387904) (x : Cel.Op) :
    Calls Try.prog 20 #[.pointer (some ⟨g, 0, none⟩), s, .agg #[I64 x.op, I64 x.a, I64 x.n, .int .u32 (x.v.toNat : Int)]] w (DoRes w R g gw gv n cw cv (m.apply x)) := by
  obtain ⟨o, a, p, v⟩ := x
  have hM := fun k hk => (show R k ∨ k = w.heap.size ∨ k = w.heap.size + 1 + 1 from .inl (hMR k hk))
  by_cases q0 : o = 0
  · subst q0; exact do_write hm hs hR hM hf hK a p v
  by_cases q1 : o = 1
  · subst q1; exact do_cut hm hs hR hM a p v
  by_cases q2 : o = 2
  · subst q2; exact do_restore hm hs hR hM a p v
  by_cases q3 : o = 3
  · subst q3; exact do_flip hm hs hR hM a p v
  have e : m.apply ⟨o, a, p, v⟩ = m := by unfold Cel.Mem.apply; rw [if_neg q0, if_neg q1, if_neg q2, if_neg q3]
  rw [e]
  by_cases q4 : o = 4
  · subst q4; exact do_read hm hs hR a p v
  · exact do_none hm hs hR o a p v q0 q1 q2 q3 q4
end
end Go.Proofs.Ytdpfehdpglbidaa
