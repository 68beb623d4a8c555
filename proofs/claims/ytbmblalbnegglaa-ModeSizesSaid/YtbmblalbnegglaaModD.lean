/-
  The walks of the modes: the derived key, the check value.
-/
import Derived.Test.YtbmblalbnegglaaModM
namespace Go.Proofs.Ytbmblalbnegglaa
open Go.RowKit

set_option maxHeartbeats 1000000 in
theorem mode_Check (A : Option Addr) (n c : Nat) (key : List UInt8) (w : World) (hk : Byt w w.heap.size A n c key) :
    Calls Try.prog 23 #[.slice A n c] w (BRes 5 w (Mod.ckB key) (Mod.drE key)) := by
  by_cases h : key.length = 16
  · obtain rfl : n = 16 := by rw [← hk.1, h]
    have e1 : Mod.ckB key = (Cip.crypt key Mod.z8 false).take 3 ∧ Mod.drE key = 0 := by unfold Mod.ckB Mod.drE; rw [if_pos h, if_pos h]; exact ⟨rfl, rfl⟩
    rw [e1.1, e1.2]
    have hr : Cip.res key Mod.z8 false = Cip.crypt key Mod.z8 false := Cip.res_ok _ _ _ h rfl
    have hE : ∀ (u : World) (A2 : Option Addr) (c2 : Nat), Below w.heap.size w u → Byt u u.heap.size A2 8 c2 (zs 8) →
        Calls Try.prog 29 #[.slice A 16 c, .slice A2 8 c2] u fun e u' => ∃ b o c3, e = .returned (.slice (some ⟨b, o, none⟩) 8 c3) ∧ Byt u' u'.heap.size (some ⟨b, o, none⟩) 8 c3 (Cip.crypt key Mod.z8 false) ∧ Below u.heap.size u u' := fun u A2 c2 hb h2 => by
      refine (mode_encrypt A A2 16 8 c c2 key _ u ((hk.below hb).more hb.size) h2).mono ?_
      rintro e u' ⟨A3, c3, rfl, ho, hb3⟩
      have hby := ho.byt (Nat.le_refl _)
      rw [show zs 8 = Mod.z8 from rfl, hr, Mod.crypt_length] at hby ⊢
      obtain ⟨b, o, rfl, _⟩ := hby.at_ (by omega)
      exact ⟨b, o, c3, rfl, hby, hb3⟩
    have HE := Lib.hid hE
    have hl : ((Cip.crypt key Mod.z8 false).take 3).length = 3 := by rw [List.length_take, Mod.crypt_length]; rfl
    have HL := Lib.hid hl
    have m8 : ∀ u : World, (Instr.makeSlice 22 (.int .i64 8) (.int .i64 8)).run Try.prog u = .ok (.slice (some ⟨u.heap.size, 0, none⟩) 8 8) (u.alloc (.cells (zc 8) 5)) := fun _ => by kernel_rfl
    clear hk e1 hr hE hl h
    generalize Cip.crypt key Mod.z8 false = y at *
    go_enter Try.func23, Try.ntmps23
    go_wp2_with (go_at_call 29; refine (HE.out _ _ 8 ((Below.refl _ _).alloc (Nat.le_refl _) _) (byt_zc (Blk.new' _ rfl rfl) (by simp))).mono ?_; rintro e w2 ⟨b, o, c3, rfl, hy, hb3⟩; have hcc := hy.2.1; have q1 : (3 : Int) ≤ (c3 : Int) := by omega)
    go_wp2_with (go_at_call 33; refine (slices_Clone _ 3 c3 (y.take 3) _ (hy.take 3 c3 (by omega) (by omega)) (by omega)).mono ?_; rintro e w3 ⟨A4, c4, rfl, ho4, hb4⟩)
    go_ret2
    exact BRes.mk HL.out (ho4.mono (by have := hb3.size; simp at this; omega)) (((Below.refl _ _).alloc (Nat.le_refl _) _).trans ((hb3.trans (hb4.mono hb3.size)).mono (by simp)))
  · have e1 : Mod.ckB key = [] ∧ Mod.drE key = 1 := by unfold Mod.ckB Mod.drE; rw [if_neg h, if_neg h]; exact ⟨rfl, rfl⟩
    rw [e1.1, e1.2]
    have h3 : ((n : Int) != 16) = true := by rw [bne_iff_ne]; have := hk.1; omega
    clear e1 hk h
    go_enter Try.func23, Try.ntmps23
    go_wp2_with fail
    go_ret2
    exact BRes.nil _ (Below.refl _ _)

theorem byts_two {u : World} {i1 i2 nl cl : Nat} {t : TypeId} {Al : Option Addr} {x : UInt8} {l : List UInt8} (h1 : Blk u i1 5 #[B8 x]) (h2 : Blk u i2 t #[.slice (some ⟨i1, 0, none⟩) 1 1, .slice Al nl cl]) (hl : Byt u u.heap.size Al nl cl l) :
    Byts u u.heap.size (some ⟨i2, 0, none⟩) [⟨some ⟨i1, 0, none⟩, 1, 1, [x]⟩, ⟨Al, nl, cl, l⟩] := by
  refine ⟨h2.row, fun v hv => ?_⟩
  rcases List.mem_cons.1 hv with rfl | hv
  · exact byt_blk (bs := [x]) h1 h1.lt rfl
  · obtain rfl := List.mem_singleton.1 hv
    exact hl
theorem join_two {u : World} {i1 i2 nl cl : Nat} {t : TypeId} {Al : Option Addr} {x : UInt8} {l : List UInt8} (h2 : Blk u i2 t #[.slice (some ⟨i1, 0, none⟩) 1 1, .slice Al nl cl]) (h1 : Blk u i1 5 #[B8 x]) (hl : Byt u u.heap.size Al nl cl l) (hn : nl ≤ 1000000) :
    Calls Try.prog 36 #[.slice (some ⟨i2, 0, none⟩) 2 2] u fun e u' => ∃ A2 c2, e = .returned (.slice A2 (nl + 1) c2) ∧ Own u' u.heap.size 5 1 A2 (nl + 1) c2 (bcells (x :: l)) ∧ Below u.heap.size u u' := by
  have e : joined [⟨some ⟨i1, 0, none⟩, 1, 1, [x]⟩, ⟨Al, nl, cl, l⟩] = x :: l := by simp [joined]
  have hj : (x :: l).length = nl + 1 := by rw [List.length_cons, hl.1]
  refine (octets_Join (some ⟨i2, 0, none⟩) 2 2 _ u (byts_two h1 h2 hl) rfl (by omega) (by rw [e, hj]; omega)).mono ?_
  rintro e' u' ⟨A2, c2, rfl, ho, hb⟩
  rw [e, hj] at ho ⊢
  exact ⟨A2, c2, rfl, ho, hb⟩

/-- The derived key after k rounds. -/
def drK (key label : List UInt8) : Nat → List UInt8
  | 0 => []
  | k + 1 => drK key label k ++ Mod.mcB key Mod.z8 (UInt8.ofNat (k + 1) :: label)
theorem drK_two (key label : List UInt8) (h : key.length = 16) : drK key label 2 = Mod.drB key label := by
  unfold Mod.drB; rw [if_pos h]; rfl
theorem drK_length (key label : List UInt8) (h : key.length = 16) (k : Nat) : (drK key label k).length = 8 * k := by
  induction k with
  | zero => rfl
  | succ k ih => show (drK key label k ++ _).length = _; rw [List.length_append, ih, Mod.mcB_length _ _ _ ⟨h, rfl⟩]; omega

set_option maxHeartbeats 4000000 in
theorem derive_ok (A Al : Option Addr) (nl c cl : Nat) (key label : List UInt8) (w : World) (hk : Byt w w.heap.size A 16 c key) (hl : Byt w w.heap.size Al nl cl label) (hn : nl ≤ 10000) :
    Calls Try.prog 21 #[.slice A 16 c, .slice Al nl cl] w (BRes 5 w (Mod.drB key label) 0) := by
  obtain ⟨ti, hti, hz0, hz1, hz2⟩ := info_parts o_u8
  have h16 := hk.1
  have e0 : Mod.mcE key Mod.z8 = 0 := by unfold Mod.mcE; rw [if_pos ⟨h16, rfl⟩]
  have hM : ∀ (u : World) (x : UInt8) (i : Nat) (A2 : Option Addr) (c2 : Nat), Below w.heap.size w u → Byt u u.heap.size (some ⟨i, 0, none⟩) 8 8 (zs 8) → Byt u u.heap.size A2 (nl + 1) c2 (x :: label) →
      Calls Try.prog 15 #[.slice A 16 c, .slice (some ⟨i, 0, none⟩) 8 8, .slice A2 (nl + 1) c2] u fun e u' => ∃ A3 c3, e = .returned (.tuple #[.slice A3 8 c3, .int .i64 0]) ∧ Own u' u.heap.size 5 1 A3 8 c3 (bcells (Mod.mcB key Mod.z8 (x :: label))) ∧ Below u.heap.size u u' := fun u x i A2 c2 hb hz h2 => by
    refine (mode_MAC A _ A2 16 8 (nl + 1) c 8 c2 key (zs 8) _ u ((hk.below hb).more hb.size) hz h2 (by omega)).mono ?_
    rintro e u' ⟨A3, c3, rfl, ho, hb3⟩
    rw [show zs 8 = Mod.z8 from rfl, e0, Mod.mcB_length _ _ _ ⟨h16, rfl⟩] at *
    exact ⟨A3, c3, rfl, ho, hb3⟩
  have HM := Lib.hid hM
  have HL := Lib.hid hl
  have H16 := Lib.hid h16
  have m8 : ∀ u : World, (Instr.makeSlice 22 (.int .i64 8) (.int .i64 8)).run Try.prog u = .ok (.slice (some ⟨u.heap.size, 0, none⟩) 8 8) (u.alloc (.cells (zc 8) 5)) := fun _ => by kernel_rfl
  clear hk hl hM e0 h16
  go_enter Try.func21, Try.ntmps21
  go_wp2_with fail
  go_loopg [6, 10] 2 (fun g v i wr => ∃ (k : Nat) (A2 : Option Addr) (c2 : Nat), k + g = 2 ∧ i = .int .i64 k ∧ v = .slice A2 (8 * k) c2 ∧ Own wr w.heap.size 5 1 A2 (8 * k) c2 (bcells (drK key label k)) ∧ Below w.heap.size w wr)
  case atStart => exact ⟨0, none, 0, by omega, rfl, rfl, Own.none_ _ _ _ _ _, Below.refl _ _⟩
  case round =>
    obtain ⟨k, A2, c2, hk, rfl, rfl, hown, hbw⟩ := hrel
    cases gk with
    | zero =>
      obtain rfl : k = 2 := by omega
      have e2 := drK_two key label H16.out
      have e3 := drK_length key label H16.out 2
      rw [e2] at hown e3
      go_wp2_with fail
      go_ret2
      exact BRes.mk e3 hown hbw
    | succ g =>
      obtain ⟨x, hx⟩ : ∃ x, x = UInt8.ofNat (k + 1) := ⟨_, rfl⟩
      have hst : Hid (drK key label k ++ Mod.mcB key Mod.z8 (x :: label) = drK key label (k + 1)) := by rw [hx]; exact rfl
      have hxv : Value.int .u8 (IntKind.u8.wrap (IntKind.i64.wrap ((k : Int) + 1))) = B8 x := by
        have : k = 0 ∨ k = 1 := by omega
        rcases this with rfl | rfl
        · rw [hx]; rfl
        · rw [hx]; rfl
      have hlt : (k : Int) < 2 := by omega
      have HXV := Lib.hid hxv
      clear hxv hx
      go_wp2_with fail
      go_region_with (first
        | (go_at_call 36; refine ((join_two (u := _) (i1 := _) (x := x) (l := label) (t := 22)
              (by first | exact (Blk.new' _ (by simp) rfl).drew | exact ((Blk.new' _ (by simp) rfl).alloc _).drew)
              (by first | exact ((Blk.new' _ (by simp) (by rw [HXV.out])).alloc _).drew | exact (((Blk.new' _ (by simp) (by rw [HXV.out])).alloc _).alloc _).drew)
              (by first | exact (HL.out.below (((hbw.alloc hbw.size _).alloc (by simp; have := hbw.size; omega) _).alloc (by simp; have := hbw.size; omega) _).drew).more (by simp; have := hbw.size; omega) | exact (HL.out.below ((hbw.alloc hbw.size _).alloc (by simp; have := hbw.size; omega) _).drew).more (by simp; have := hbw.size; omega)) (by omega)).mono ?_); rintro e w1 ⟨A3, c3, rfl, ho3, hb3⟩; have hW : Below wr.heap.size wr w1 := (by first | exact ((((Below.refl _ _).alloc (Nat.le_refl _) _).alloc (by simp) _).alloc (by simp <;> omega) _).drew.trans (hb3.mono (by simp <;> omega)) | exact (((Below.refl _ _).alloc (Nat.le_refl _) _).alloc (by simp) _).drew.trans (hb3.mono (by simp <;> omega))); have hS3 := hb3.size; simp at hS3)
        | (go_at_call 15; refine (HM.out _ x _ A3 c3 (by first | exact hbw.trans (hW.mono hbw.size) | exact hbw.trans ((hW.alloc hW.size _).mono hbw.size))
              (by first | exact byt_zc (Blk.new' _ (by simp) rfl) (by simp)
                        | exact byt_zc ((((Blk.new' _ (by simp) rfl).alloc _).alloc _).drew.below hb3 (by simp <;> omega)) (by omega)
                        | exact byt_zc (((Blk.new' _ (by simp) rfl).alloc _).drew.below hb3 (by simp <;> omega)) (by omega)
                        | exact byt_zc ((Blk.new' _ (by simp) rfl).drew.below hb3 (by simp <;> omega)) (by omega))
              (by first | exact ho3.byt (Nat.le_refl _) | exact (ho3.alloc _).byt (Nat.le_refl _))).mono ?_; rintro e w2 ⟨A4, c4, rfl, ho4, hb4⟩; have hX : Below wr.heap.size wr w2 := (by first | exact hW.trans (hb4.mono hW.size) | exact (hW.alloc hW.size _).trans (hb4.mono (by simp; have := hW.size; omega)))))
      all_goals
        have hout := hown.below hX
        have hb02 := hbw.trans (hX.mono hbw.size)
        have hk2 : 8 * k ≤ 8 := by omega
        clear hb3 hS3 hlt
        go_wp2_with (at_builtin; refine wpList_append _ rfl (.tmp 29) (.tmp 30) 22 rfl w.heap.size 5 ti _ 1 1 Try.underlying22 hti hz0 hz1 hz2 rfl (by omega) A2 (8 * k) c2 (bcells (drK key label k)) rfl hout w2.heap.size A4 8 c4 (bcells (Mod.mcB key Mod.z8 (x :: label))) rfl ho4.row (by have := ho4.len; omega) (bcells_one _) (by unfold maxLen; omega) (by omega) (by have := hb02.size; omega) ?_; intro A5 c5 w5 hown5 hg5 hat5)
        go_roundg g
        case measure => omega
        case rel =>
          refine ⟨k + 1, A5, c5, by omega, by go_num, rfl, ?_, hout.grown hg5 hb02 (by have := hb02.size; omega)⟩
          rw [← hst.out, bcells_append]
          exact hown5

set_option maxHeartbeats 4000000 in
theorem derive_bad (A Al : Option Addr) (n nl c cl : Nat) (key label : List UInt8) (w : World) (h16 : ¬ key.length = 16) (hk : Byt w w.heap.size A n c key) (hl : Byt w w.heap.size Al nl cl label) (hn : nl ≤ 10000) :
    Calls Try.prog 21 #[.slice A n c, .slice Al nl cl] w (BRes 5 w [] 1) := by
  have e0 : Mod.mcE key Mod.z8 = 1 := by unfold Mod.mcE; rw [if_neg (fun h => h16 h.1)]
  have hM : ∀ (u : World) (x : UInt8) (i : Nat) (A2 : Option Addr) (c2 : Nat), Below w.heap.size w u → Byt u u.heap.size (some ⟨i, 0, none⟩) 8 8 (zs 8) → Byt u u.heap.size A2 (nl + 1) c2 (x :: label) →
      Calls Try.prog 15 #[.slice A n c, .slice (some ⟨i, 0, none⟩) 8 8, .slice A2 (nl + 1) c2] u fun e u' => ∃ A3 n3 c3, e = .returned (.tuple #[.slice A3 n3 c3, .int .i64 1]) ∧ Below u.heap.size u u' := fun u x i A2 c2 hb hz h2 => by
    refine (mode_MAC A _ A2 n 8 (nl + 1) c 8 c2 key (zs 8) _ u ((hk.below hb).more hb.size) hz h2 (by omega)).mono ?_
    rintro e u' ⟨A3, c3, rfl, ho, hb3⟩
    rw [show zs 8 = Mod.z8 from rfl, e0] at *
    exact ⟨A3, _, c3, rfl, hb3⟩
  have HM := Lib.hid hM
  have HL := Lib.hid hl
  have m8 : ∀ u : World, (Instr.makeSlice 22 (.int .i64 8) (.int .i64 8)).run Try.prog u = .ok (.slice (some ⟨u.heap.size, 0, none⟩) 8 8) (u.alloc (.cells (zc 8) 5)) := fun _ => by kernel_rfl
  clear hk hl hM e0 h16
  go_enter Try.func21, Try.ntmps21
  go_wp2_with fail
  go_loopg [6, 10] 0 (fun g v i wr => i = .int .i64 0 ∧ w = wr)
  case atStart => exact ⟨rfl, rfl⟩
  case round =>
    obtain ⟨rfl, rfl⟩ := hrel
    go_wp2_with fail
    go_region_with (first
      | (go_at_call 36; refine ((join_two (u := _) (i1 := _) (x := 1) (l := label) (t := 22)
            (by first | exact (Blk.new' _ (by simp) rfl).drew | exact ((Blk.new' _ (by simp) rfl).alloc _).drew)
            (by first | exact ((Blk.new' _ (by simp) rfl).alloc _).drew | exact (((Blk.new' _ (by simp) rfl).alloc _).alloc _).drew)
            (by first | exact (HL.out.below ((((Below.refl _ _).alloc (Nat.le_refl _) _).alloc (by simp) _).alloc (by simp <;> omega) _).drew).more (by simp <;> omega) | exact (HL.out.below (((Below.refl _ _).alloc (Nat.le_refl _) _).alloc (by simp) _).drew).more (by simp <;> omega)) (by omega)).mono ?_); rintro e w1 ⟨A3, c3, rfl, ho3, hb3⟩; have hW : Below w.heap.size w w1 := (by first | exact ((((Below.refl _ _).alloc (Nat.le_refl _) _).alloc (by simp) _).alloc (by simp <;> omega) _).drew.trans (hb3.mono (by simp <;> omega)) | exact (((Below.refl _ _).alloc (Nat.le_refl _) _).alloc (by simp) _).drew.trans (hb3.mono (by simp <;> omega))); have hS3 := hb3.size; simp at hS3)
      | (go_at_call 15; refine (HM.out _ 1 _ A3 c3 (by first | exact hW | exact hW.alloc hW.size _)
            (by first | exact byt_zc (Blk.new' _ (by simp) rfl) (by simp)
                      | exact byt_zc ((((Blk.new' _ (by simp) rfl).alloc _).alloc _).drew.below hb3 (by simp <;> omega)) (by omega)
                      | exact byt_zc (((Blk.new' _ (by simp) rfl).alloc _).drew.below hb3 (by simp <;> omega)) (by omega)
                      | exact byt_zc ((Blk.new' _ (by simp) rfl).drew.below hb3 (by simp <;> omega)) (by omega))
            (by first | exact ho3.byt (Nat.le_refl _) | exact (ho3.alloc _).byt (Nat.le_refl _))).mono ?_; rintro e w2 ⟨A4, n4, c4, rfl, hb4⟩; have hX : Below w.heap.size w w2 := (by first | exact hW.trans (hb4.mono hW.size) | exact (hW.alloc hW.size _).trans (hb4.mono (by simp; have := hW.size; omega)))))
    all_goals
      clear hb3 hS3
      go_wp2_with fail
      go_ret2
      exact BRes.nil _ hX

theorem mode_Derive (A Al : Option Addr) (n nl c cl : Nat) (key label : List UInt8) (w : World) (hk : Byt w w.heap.size A n c key) (hl : Byt w w.heap.size Al nl cl label) (hn : nl ≤ 10000) :
    Calls Try.prog 21 #[.slice A n c, .slice Al nl cl] w (BRes 5 w (Mod.drB key label) (Mod.drE key)) := by
  by_cases h : key.length = 16
  · obtain rfl : n = 16 := by rw [← hk.1, h]
    have e : Mod.drE key = 0 := by unfold Mod.drE; rw [if_pos h]
    rw [e]
    exact derive_ok A Al nl c cl key label w hk hl hn
  · have e : Mod.drE key = 1 ∧ Mod.drB key label = [] := by unfold Mod.drE Mod.drB; rw [if_neg h, if_neg h]; exact ⟨rfl, rfl⟩
    rw [e.1, e.2]
    exact derive_bad A Al n nl c cl key label w h hk hl hn
end Go.Proofs.Ytbmblalbnegglaa
