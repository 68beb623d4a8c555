/-
  The walk of the examples.
-/
import Derived.Test.YtapfiapjefnjjaaApdJ
import Derived.Test.YtapfiapjefnjjaaOctX
namespace Go.Proofs.Ytapfiapjefnjjaa
set_option linter.unusedSimpArgs false
open Go.RowKit

theorem ex_enc1 (A : Option Addr) (c : Nat) (w : World) (h : Byt w w.heap.size A 2 c [160, 0]) :
    Calls Try.prog 12 #[cmdV 0 164 4 0 A 2 c 256 false] w fun e w' => ∃ A c, e = .returned (.tuple #[.slice A 8 c, .int .i64 0]) ∧ Own w' w.heap.size 5 1 A 8 c (bcells [0, 164, 4, 0, 2, 160, 0, 0]) ∧ Below w.heap.size w w' := by
  have h := apdu_Encode 0 164 4 0 A 2 c 256 false [160, 0] w h
  have e1 : Apd.encR 0 164 4 0 [160, 0] 256 false = [0, 164, 4, 0, 2, 160, 0, 0] := by decide +kernel
  have e2 : Apd.chk 0 164 4 0 2 256 false = 0 := by decide +kernel
  rw [e1, e2] at h
  exact h
theorem ex_enc2 (A : Option Addr) (c : Nat) (w : World) (h : Byt w w.heap.size A 2 c [160, 0]) :
    Calls Try.prog 12 #[cmdV 0 164 4 0 A 2 c 256 true] w fun e w' => ∃ A c, e = .returned (.tuple #[.slice A 11 c, .int .i64 0]) ∧ Own w' w.heap.size 5 1 A 11 c (bcells [0, 164, 4, 0, 0, 0, 2, 160, 0, 1, 0]) ∧ Below w.heap.size w w' := by
  have h := apdu_Encode 0 164 4 0 A 2 c 256 true [160, 0] w h
  have e1 : Apd.encR 0 164 4 0 [160, 0] 256 true = [0, 164, 4, 0, 0, 0, 2, 160, 0, 1, 0] := by decide +kernel
  have e2 : Apd.chk 0 164 4 0 2 256 true = 0 := by decide +kernel
  rw [e1, e2] at h
  exact h
theorem ex_dec1 (A : Option Addr) (c : Nat) (w : World) (h : Byt w w.heap.size A 5 c [0, 176, 0, 0, 0]) :
    Calls Try.prog 23 #[.slice A 5 c] w fun e w' => (∃ A c, e = .returned (.tuple #[cmdV 0 176 0 0 A 0 c 256 false, .int .i64 0])) ∧ Below w.heap.size w w' := by
  refine (apdu_Decode A 5 c _ w h (by omega)).mono ?_
  have e1 : Apd.dcE [0, 176, 0, 0, 0] = 0 := by decide +kernel
  have e2 : Apd.cel [0, 176, 0, 0, 0] 0 = 0 ∧ Apd.cel [0, 176, 0, 0, 0] 1 = 176 ∧ Apd.cel [0, 176, 0, 0, 0] 2 = 0 ∧ Apd.cel [0, 176, 0, 0, 0] 3 = 0 := by decide +kernel
  have e3 : (Apd.bdD (([0, 176, 0, 0, 0] : List UInt8).drop 4)).length = 0 ∧ Apd.bdL (([0, 176, 0, 0, 0] : List UInt8).drop 4) = 256 ∧ Apd.bdG (([0, 176, 0, 0, 0] : List UInt8).drop 4) = false := by decide +kernel
  rintro e w' ⟨hb, hx | ⟨-, A2, c2, rfl, -⟩⟩
  · exact absurd e1 hx.1
  · rw [e2.1, e2.2.1, e2.2.2.1, e2.2.2.2, e3.1, e3.2.1, e3.2.2]
    exact ⟨⟨A2, c2, rfl⟩, hb⟩
theorem ex_dec2 (A : Option Addr) (c : Nat) (w : World) (h : Byt w w.heap.size A 7 c [0, 176, 0, 0, 0, 0, 0]) :
    Calls Try.prog 23 #[.slice A 7 c] w fun e w' => (∃ A c, e = .returned (.tuple #[cmdV 0 176 0 0 A 0 c 65536 true, .int .i64 0])) ∧ Below w.heap.size w w' := by
  refine (apdu_Decode A 7 c _ w h (by omega)).mono ?_
  have e1 : Apd.dcE [0, 176, 0, 0, 0, 0, 0] = 0 := by decide +kernel
  have e2 : Apd.cel [0, 176, 0, 0, 0, 0, 0] 0 = 0 ∧ Apd.cel [0, 176, 0, 0, 0, 0, 0] 1 = 176 ∧ Apd.cel [0, 176, 0, 0, 0, 0, 0] 2 = 0 ∧ Apd.cel [0, 176, 0, 0, 0, 0, 0] 3 = 0 := by decide +kernel
  have e3 : (Apd.bdD (([0, 176, 0, 0, 0, 0, 0] : List UInt8).drop 4)).length = 0 ∧ Apd.bdL (([0, 176, 0, 0, 0, 0, 0] : List UInt8).drop 4) = 65536 ∧ Apd.bdG (([0, 176, 0, 0, 0, 0, 0] : List UInt8).drop 4) = true := by decide +kernel
  rintro e w' ⟨hb, hx | ⟨-, A2, c2, rfl, -⟩⟩
  · exact absurd e1 hx.1
  · rw [e2.1, e2.2.1, e2.2.2.1, e2.2.2.2, e3.1, e3.2.1, e3.2.2]
    exact ⟨⟨A2, c2, rfl⟩, hb⟩
theorem ex_cls1 (w : World) : Calls Try.prog 19 #[.int .i64 148] w fun e w' => e = .returned (.tuple #[infoV 0 true true true, .bool true]) ∧ Below w.heap.size w w' := by
  have h := apdu_Class 148 w
  have e1 : Apd.cok 148 = true := by decide +kernel
  have e2 : Apd.clsV 148 = infoV 0 true true true := by unfold Apd.clsV; rw [e1]; rfl
  rw [e1, e2] at h
  exact h
theorem ex_cls2 (w : World) : Calls Try.prog 19 #[.int .i64 8] w fun e w' => e = .returned (.tuple #[infoV 0 false false false, .bool false]) ∧ Below w.heap.size w w' := by
  have h := apdu_Class 8 w
  have e1 : Apd.cok 8 = false := by decide +kernel
  have e2 : Apd.clsV 8 = infoV 0 false false false := by unfold Apd.clsV; rw [e1]; rfl
  rw [e1, e2] at h
  exact h
theorem ex_chain (A : Option Addr) (c : Nat) (w : World) (h : Byt w w.heap.size A 3 c [1, 2, 3]) :
    Calls Try.prog 34 #[cmdV 128 232 0 0 A 3 c 0 false, .int .i64 2] w fun e w' => ∃ b o c2 A1 n1 c1 A2 c3, e = .returned (.tuple #[.slice (some ⟨b, o, none⟩) 2 c2, .int .i64 0]) ∧
      w'.cell? ⟨b, o, none⟩ = some (I64 144) ∧ w'.cell? ⟨b, o + 4, none⟩ = some (.slice A1 n1 c1) ∧ w'.cell? ⟨b, o + 7, none⟩ = some (I64 128) ∧ w'.cell? ⟨b, o + 7 + 4, none⟩ = some (.slice A2 1 c3) ∧ b < w'.heap.size ∧ Below w.heap.size w w' := by
  refine (apdu_Chain 128 232 0 0 [1, 2, 3] 0 false A 3 c 2 w h (by omega)).mono ?_
  have e1 : Apd.chE ⟨128, 232, 0, 0, [1, 2, 3], 0, false⟩ 2 = 0 := by decide +kernel
  have e2 : Apd.pcs ⟨128, 232, 0, 0, [1, 2, 3], 0, false⟩ 2 = [[1, 2], [3]] := by decide +kernel
  have e3 : Apd.chL ⟨128, 232, 0, 0, [1, 2, 3], 0, false⟩ 2 = [⟨144, 232, 0, 0, [1, 2], 0, false⟩, ⟨128, 232, 0, 0, [3], 0, false⟩] := by
    unfold Apd.chL
    rw [if_pos e1, show (2 : Int).toNat = 2 from rfl, e2]
    rfl
  rw [e1, e3]
  rintro e w' ⟨A', c2, vs, rfl, hvs, ⟨hr, hy⟩, hb⟩
  obtain ⟨v0, v1, rfl⟩ : ∃ v0 v1, vs = [v0, v1] := by
    have hlen : vs.length = 2 := by have := congrArg List.length hvs; simpa using this
    match vs, hlen with
    | [v0, v1], _ => exact ⟨v0, v1, rfl⟩
  simp only [List.map_cons, List.map_nil, CV.cmd, List.cons.injEq, Apd.Cmd.mk.injEq, and_true] at hvs
  obtain ⟨⟨h0, -⟩, h1, -, -, -, hd, -⟩ := hvs
  have hy1 := (hy v1 (by simp)).1
  rw [hd] at hy1
  obtain ⟨b, o, rfl, hb2, hc⟩ := hr (by rw [length_ccells]; simp)
  have q0 := hc 0 (by rw [length_ccells]; simp)
  have q4 := hc 4 (by rw [length_ccells]; simp)
  have q7 := hc 7 (by rw [length_ccells]; simp)
  have q11 := hc 11 (by rw [length_ccells]; simp)
  refine ⟨b, o, c2, v0.d.a, v0.d.n, v0.d.c, v1.d.a, v1.d.c, rfl, ?_, ?_, ?_, ?_, hb2, hb⟩
  · rw [← h0]; exact q0
  · exact q4
  · rw [← h1]; exact q7
  · rw [show (1 : Nat) = v1.d.n from hy1]; exact q11
theorem ex_apdhex : Oct.hexS [0, 164, 4, 0, 2, 160, 0, 0] = [48, 48, 97, 52, 48, 52, 48, 48, 48, 50, 97, 48, 48, 48, 48, 48] ∧ Oct.hexS [0, 164, 4, 0, 0, 0, 2, 160, 0, 1, 0] = [48, 48, 97, 52, 48, 52, 48, 48, 48, 48, 48, 48, 48, 50, 97, 48, 48, 48, 48, 49, 48, 48] := by decide +kernel

theorem Byt.after {w w' : World} {A : Option Addr} {n c : Nat} {bs : List UInt8} (h : Byt w w.heap.size A n c bs) (hb : Below w.heap.size w w') : Byt w' w'.heap.size A n c bs := (h.below hb).more hb.size
theorem Byt.alloc' {w : World} {A : Option Addr} {n c : Nat} {bs : List UInt8} (h : Byt w w.heap.size A n c bs) (o : Obj) : Byt (w.alloc o) (w.alloc o).heap.size A n c bs := h.after ((Below.refl _ _).alloc (Nat.le_refl _) o)
theorem Blk.after {w w' : World} {g : Nat} {t : TypeId} {cs : Array Value} (h : Blk w g t cs) (hb : Below w.heap.size w w') : Blk w' g t cs := h.below hb h.lt
theorem bgo {a w w' : World} (h : Below a.heap.size a w) (hb : Below w.heap.size w w') : Below a.heap.size a w' := h.trans (hb.mono h.size)
theorem bal {a w : World} (h : Below a.heap.size a w) (o : Obj) : Below a.heap.size a (w.alloc o) := h.alloc h.size o
theorem twoB (w : World) (t s : TypeId) (X Y : Array Value) : Blk ((w.alloc (.cells X t)).alloc (.cells Y s)) w.heap.size t X ∧ Blk ((w.alloc (.cells X t)).alloc (.cells Y s)) (w.heap.size + 1) s Y ∧ Below w.heap.size w ((w.alloc (.cells X t)).alloc (.cells Y s)) :=
  ⟨(Blk.new w t X).alloc _, Blk.new' (g := w.heap.size + 1) (w.alloc (.cells X t)) (by simp) rfl, bal (bal (Below.refl w.heap.size w) _) _⟩
theorem byt_new {w : World} {g n : Nat} {t : TypeId} {bs : List UInt8} {X : Array Value} (h : Blk w g t X) (hX : X = (bcells bs).toArray) (hn : bs.length = n) : Byt w w.heap.size (some ⟨g, 0, none⟩) n n bs := by
  subst hX; exact byt_blk h h.lt hn

set_option maxRecDepth 100000 in
set_option maxHeartbeats 8000000 in
theorem law04_example (w : World) :
    Calls Try.prog 11 #[] w fun e w' => e = .returned (.bool true) ∧ Below w.heap.size w w' := by
  obtain ⟨T1, T2, T3⟩ := twoB w 5 24 #[.int .u8 160, .int .u8 0] #[.int .i64 0, .int .i64 164, .int .i64 4, .int .i64 0, .slice (some ⟨w.heap.size, 0, none⟩) 2 2, .int .i64 256, .bool false]
  have S1 := Lib.hid T1
  have B1 := Lib.hid T2
  have bb := Lib.hid T3
  clear T1 T2 T3
  go_enter Try.func11, Try.ntmps11
  go_wp2_with fail
  go_at_call 12
  refine (ex_enc1 _ _ _ (byt_new S1.out rfl rfl)).mono ?_
  rintro e w2 ⟨A1, c1, rfl, o1, hb2⟩
  have S2 := Lib.hid (S1.out.after hb2)
  have B2 := Lib.hid (B1.out.after hb2)
  have bb2 := Lib.hid (bgo bb.out hb2)
  have O2 := Lib.hid o1
  have k6 := B2.out.cell 6
  have f6 := B2.out.frozen 6
  clear S1 B1 bb hb2 o1
  go_wp2_with ((with_reducible show wpList _ _ _ (Oper.mk _ (Op.load 24 (Operand.tmp 1)) _ _ _ _ :: _) _ _); refine wpList_load_row rfl 24 (.tmp 1) rfl (w.heap.size + 1) rfl 24 #[.int .i64 0, .int .i64 164, .int .i64 4, .int .i64 0, .slice (some ⟨w.heap.size, 0, none⟩) 2 2, .int .i64 256, .bool true] (0, 0) _ (by exact B2.out.set 6 (.bool true)) Try.underlying24 rfl (by kernel_rfl) ?_)
  go_at_call 12
  have S3 := Lib.hid (S2.out.far (p := ⟨w.heap.size + 1, 6, none⟩) (by simp) (.bool true))
  have O3 := Lib.hid (own_cell_ne O2.out B2.out (by decide) 6 (.bool true))
  have bb3 := Lib.hid (Below.setCell (p := ⟨w.heap.size + 1, 6, none⟩) bb2.out (Nat.le_succ _) (.bool true))
  refine (ex_enc2 _ _ _ (byt_new S3.out rfl rfl)).mono ?_
  rintro e w3 ⟨A2, c2, rfl, o2, hb3⟩
  have y1 := (O3.out.byt (Nat.le_refl _)).after hb3
  have y2 := o2.byt (Nat.le_refl _)
  have b := bgo bb3.out hb3
  clear S2 B2 bb2 O2 S3 O3 bb3 o2 hb3 k6 f6
  go_wp2_with fail
  go_at_call 23
  refine (ex_dec1 _ _ _ (byt_new (Blk.new w3 _ _) rfl rfl)).mono ?_
  rintro e w4 ⟨⟨A3, c3, rfl⟩, hb4⟩
  replace y1 := (y1.alloc' _).after hb4
  replace y2 := (y2.alloc' _).after hb4
  replace b := bgo (bal b _) hb4
  clear hb4
  unfold cmdV
  go_wp2_with fail
  go_at_call 23
  obtain ⟨K6, M6, D6⟩ := twoB w4 24 5 #[.int .i64 0, .int .i64 176, .int .i64 0, .int .i64 0, .slice A3 0 c3, .int .i64 256, .bool false] #[.int .u8 0, .int .u8 176, .int .u8 0, .int .u8 0, .int .u8 0, .int .u8 0, .int .u8 0]
  refine (ex_dec2 _ _ _ (byt_new M6 rfl rfl)).mono ?_
  rintro e w5 ⟨⟨A4, c4, rfl⟩, hb5⟩
  replace y1 := (y1.after D6).after hb5
  replace y2 := (y2.after D6).after hb5
  replace b := bgo (bgo b D6) hb5
  replace K6 := K6.after hb5
  clear hb5 M6 D6
  unfold cmdV
  go_wp2_with fail
  go_at_call 19
  have K8 := Blk.new w5 24 #[.int .i64 0, .int .i64 176, .int .i64 0, .int .i64 0, .slice A4 0 c4, .int .i64 65536, .bool true]
  refine (ex_cls1 _).mono ?_
  rintro e w6 ⟨rfl, hb6⟩
  replace y1 := (y1.alloc' _).after hb6
  replace y2 := (y2.alloc' _).after hb6
  replace b := bgo (bal b _) hb6
  replace K6 := (K6.alloc _).after hb6
  replace K8 := K8.after hb6
  clear hb6
  unfold infoV
  go_wp2_with fail
  go_at_call 19
  have K10 := Blk.new w6 34 #[.int .i64 0, .bool true, .bool true, .bool true]
  refine (ex_cls2 _).mono ?_
  rintro e w7 ⟨rfl, hb7⟩
  replace y1 := (y1.alloc' _).after hb7
  replace y2 := (y2.alloc' _).after hb7
  replace b := bgo (bal b _) hb7
  replace K6 := (K6.alloc _).after hb7
  replace K8 := (K8.alloc _).after hb7
  replace K10 := K10.after hb7
  clear hb7
  unfold infoV
  go_wp2_with fail
  go_at_call 34
  obtain ⟨-, M8, D8⟩ := twoB w7 34 5 #[.int .i64 0, .bool false, .bool false, .bool false] #[.int .u8 1, .int .u8 2, .int .u8 3]
  refine (ex_chain _ _ _ (byt_new M8 rfl rfl)).mono ?_
  rintro e w8 ⟨lb, lo, lc, A5, n5, c5, A6, c6, rfl, l0, l4, l7, l11, hlb, hb8⟩
  replace y1 := (y1.after D8).after hb8
  replace y2 := (y2.after D8).after hb8
  replace b := bgo (bgo b D8) hb8
  replace K6 := (K6.after D8).after hb8
  replace K8 := (K8.after D8).after hb8
  replace K10 := (K10.after D8).after hb8
  clear hb8 M8 D8
  have i0 := K6.cell 5
  have i1 := K6.cell 6
  have i2 := K8.cell 5
  have i3 := K8.cell 6
  have j0 := K10.cell 0
  have j1 := K10.cell 1
  have j2 := K10.cell 2
  have j3 := K10.cell 3
  have hx := Lib.hid ex_apdhex
  clear K6 K8 K10
  go_wp2_with fail
  go_at_call 39
  refine (ref01_Hex _ _ _ _ _ y1 (by omega)).mono ?_
  rintro e w9 ⟨rfl, q1, rfl⟩
  rw [hx.out.1]
  have y2 : Byt (w8.drewN q1) (w8.drewN q1).heap.size A2 11 c2 _ := y2
  go_wp2_with fail
  go_at_call 39
  refine (ref01_Hex _ _ _ _ _ y2 (by omega)).mono ?_
  rintro e w10 ⟨rfl, q2, rfl⟩
  rw [hx.out.2]
  go_wp2_with fail
  go_ret
  exact ⟨rfl, Below.drewN b (q1 + q2)⟩
end Go.Proofs.Ytapfiapjefnjjaa
