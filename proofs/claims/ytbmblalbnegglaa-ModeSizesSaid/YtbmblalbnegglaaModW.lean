/-
  The walks of the modes: the small ones, and the chain.
-/
import Derived.Test.YtbmblalbnegglaaMod
import Derived.Test.YtbmblalbnegglaaCipC
import Derived.Test.YtbmblalbnegglaaOctF
namespace Go.Proofs.Ytbmblalbnegglaa
open Go.RowKit

/-- What a call leaves that hands back bytes of its own. -/
def BOne (t : TypeId) (w : World) (bs : List UInt8) (e : Ending) (w' : World) : Prop :=
  ∃ A c, e = .returned (.slice A bs.length c) ∧ Own w' w.heap.size t 1 A bs.length c (bcells bs) ∧ Below w.heap.size w w'

theorem mode_xor (A A' : Option Addr) (n n' c c' : Nat) (a b : List UInt8) (w : World) (h : Byt w w.heap.size A n c a) (h' : Byt w w.heap.size A' n' c' b) (hn : n ≤ 1000000) :
    Calls Try.prog 30 #[.slice A n c, .slice A' n' c'] w (BOne 5 w (xrB a b)) := by
  go_enter Try.func30, Try.ntmps30
  go_wp2_with (go_at_call 45; refine (octets_Xor A A' n n' c c' a b _ h h' hn).mono ?_; rintro e w1 ⟨A2, d, rfl, hown, hbel⟩)
  go_ret
  exact ⟨A2, d, rfl, hown, hbel⟩

theorem mode_encrypt (A A' : Option Addr) (n n' c c' : Nat) (key x : List UInt8) (w : World) (h : Byt w w.heap.size A n c key) (h' : Byt w w.heap.size A' n' c' x) :
    Calls Try.prog 29 #[.slice A n c, .slice A' n' c'] w (BOne 5 w (Cip.res key x false)) := by
  go_enter Try.func29, Try.ntmps29
  go_wp2_with (go_at_call 44; refine (cipher_Encrypt A A' n n' c c' key x _ h h').mono ?_; rintro e w1 ⟨A2, d, rfl, hown, hbel⟩)
  go_ret
  exact ⟨A2, d, rfl, hown, hbel⟩

theorem mode_pad (A : Option Addr) (n c : Nat) (a : List UInt8) (w : World) (h : Byt w w.heap.size A n c a) (hn : n ≤ 1000000000) :
    Calls Try.prog 32 #[.slice A n c] w (BOne 5 w (Oct.pad a 8)) := by
  have hp := pad_yes a 8 (by omega) (by omega)
  go_enter Try.func32, Try.ntmps32
  have hc : Calls Try.prog 46 #[.slice A n c, .int .i64 8] w (BRes 5 w (Oct.pad a 8) 0) := by
    have := octets_Pad A n c a ((8 : Nat) : Int) w h hn
    rw [hp.1, hp.2] at this
    exact this
  have HC := Lib.hid hc
  clear hc hp
  go_wp2_with (go_at_call 46; refine HC.out.mono ?_; rintro e w1 ⟨A2, d, rfl, hown, hbel⟩)
  go_ret
  exact ⟨A2, d, rfl, hown, hbel⟩

/-- What the chain's function leaves: a block of the result, and the chaining value, which lies where it lay or is new. -/
def CRes (w : World) (Ax : Option Addr) (o nx : List UInt8) (e : Ending) (w' : World) : Prop :=
  ∃ A c A2 c2, e = .returned (.tuple #[.slice A 8 c, .slice A2 8 c2]) ∧ Byt w' w'.heap.size A 8 c o ∧ Byt w' w'.heap.size A2 8 c2 nx ∧ Below w.heap.size w w' ∧
    (∀ g, g < w.heap.size → Ax.map (·.block) ≠ some g → A2.map (·.block) ≠ some g)

theorem own_far {w' : World} {base : Nat} {t : TypeId} {A : Option Addr} {n c : Nat} {cs : List Value} (h : Own w' base t 1 A n c cs) (hc : 0 < c) (g : Nat) (hg : g < base) : A.map (·.block) ≠ some g := by
  obtain ⟨g1, cur, rfl, hb, _⟩ := h.2.2.2 hc
  intro e
  simp at e
  omega

set_option maxHeartbeats 1000000 in
theorem enc_step (Ak A A' : Option Addr) (ck c c' : Nat) (key x y : List UInt8) (g : Nat) (w : World) (hk : Byt w w.heap.size Ak 16 ck key) (h0 : w.cell? ⟨g, 0, none⟩ = some (.slice Ak 16 ck)) (hg : g < w.heap.size)
    (h : Byt w w.heap.size A 8 c x) (h' : Byt w w.heap.size A' 8 c' y) :
    Calls Try.prog 28 #[.slice A 8 c, .slice A' 8 c', .pointer (some ⟨g, 0, none⟩)] w (CRes w A (Cip.crypt key (Oct.xor x y) false) (Cip.crypt key (Oct.xor x y) false)) := by
  have hx : xrB x y = Oct.xor x y := by unfold xrB; rw [h.1, h'.1, if_pos rfl]
  have hxl : (Oct.xor x y).length = 8 := by rw [Mod.xor_length]; exact h.1
  have hr : Cip.res key (Oct.xor x y) false = Cip.crypt key (Oct.xor x y) false := Cip.res_ok _ _ _ hk.1 hxl
  have H1 : ∀ u : World, Byt u u.heap.size A 8 c x → Byt u u.heap.size A' 8 c' y → Calls Try.prog 30 #[.slice A 8 c, .slice A' 8 c'] u fun e u' => ∃ A2 c2, e = .returned (.slice A2 8 c2) ∧ Own u' u.heap.size 5 1 A2 8 c2 (bcells (Oct.xor x y)) ∧ Below u.heap.size u u' := fun u hu hu' => by
    refine (mode_xor A A' 8 8 c c' x y u hu hu' (by omega)).mono ?_
    rintro e u' ⟨A2, c2, rfl, ho, hb⟩
    rw [hx, hxl] at ho ⊢
    exact ⟨A2, c2, rfl, ho, hb⟩
  have H2 : ∀ (u : World) (A2 : Option Addr) (c2 : Nat), Byt u u.heap.size Ak 16 ck key → Byt u u.heap.size A2 8 c2 (Oct.xor x y) → Calls Try.prog 29 #[.slice Ak 16 ck, .slice A2 8 c2] u fun e u' => ∃ A3 c3, e = .returned (.slice A3 8 c3) ∧ Own u' u.heap.size 5 1 A3 8 c3 (bcells (Cip.crypt key (Oct.xor x y) false)) ∧ Below u.heap.size u u' := fun u A2 c2 hu hu' => by
    refine (mode_encrypt Ak A2 16 8 ck c2 key _ u hu hu').mono ?_
    rintro e u' ⟨A3, c3, rfl, ho, hb⟩
    rw [hr, Mod.crypt_length] at ho ⊢
    exact ⟨A3, c3, rfl, ho, hb⟩
  clear hx hxl hr
  generalize Oct.xor x y = z at *
  generalize Cip.crypt key z false = o at *
  have HK := Lib.hid hk
  have HX := Lib.hid h
  have HY := Lib.hid h'
  have HG := Lib.hid hg
  have hkeep : ∀ u : World, Below w.heap.size w u → u.cell? ⟨g, 0, none⟩ = some (.slice Ak 16 ck) := fun u hu => (hu.cell (p := ⟨g, 0, none⟩) hg).trans h0
  have HKP := Lib.hid hkeep
  clear hk h h' hkeep
  go_enter Try.func28, Try.ntmps28
  go_wp2_with fail
  go_region_held3 (fun u => u.cell? ⟨g, 0, none⟩ = some (.slice Ak 16 ck))
    (first
      | exact HKP.out _ (Below.refl _ _)
      | exact HKP.out _ (Below.refl _ _).drew
      | exact HKP.out _ hb1
      | exact HKP.out _ (hb1.trans (hb2.mono hb1.size)))
    ((first
      | (go_at_call 30; refine (H1 _ (by first | exact HX.out | exact HX.out.below (Below.refl _ _).drew) (by first | exact HY.out | exact HY.out.below (Below.refl _ _).drew)).mono ?_; rintro e w1 ⟨A2, c2, rfl, ho1, hb1⟩; replace hb1 := (Below.refl w.heap.size w).drew.trans (hb1.mono (by simp)))
      | (go_at_call 29; refine (H2 _ A2 c2 ((HK.out.below hb1).more hb1.size) (ho1.byt (Nat.le_refl _))).mono ?_; rintro e w2 ⟨A3, c3, rfl, ho2, hb2⟩)))
  all_goals
    go_wp2_with fail
    go_ret2
    have hb := hb1.trans (hb2.mono hb1.size)
    refine ⟨A3, c3, A3, c3, rfl, ho2.byt (Nat.le_refl _), ho2.byt (Nat.le_refl _), hb, fun q hq _ => own_far ho2 (by have := ho2.le; omega) q (by have := hb1.size; omega)⟩

set_option maxHeartbeats 1000000 in
theorem dec_step (Ak A A' : Option Addr) (ck c c' : Nat) (key x y : List UInt8) (g : Nat) (w : World) (hk : Byt w w.heap.size Ak 16 ck key) (h0 : w.cell? ⟨g, 0, none⟩ = some (.slice Ak 16 ck))
    (h : Byt w w.heap.size A 8 c x) (h' : Byt w w.heap.size A' 8 c' y) :
    Calls Try.prog 38 #[.slice A 8 c, .slice A' 8 c', .pointer (some ⟨g, 0, none⟩)] w (CRes w A (Oct.xor (Cip.crypt key x true) y) x) := by
  have hx : xrB (Cip.crypt key x true) y = Oct.xor (Cip.crypt key x true) y := by unfold xrB; rw [h'.1, if_pos (Mod.crypt_length _ _ _)]
  have hxl : (Oct.xor (Cip.crypt key x true) y).length = 8 := by rw [Mod.xor_length]; exact Mod.crypt_length _ _ _
  have hr : Cip.res key x true = Cip.crypt key x true := Cip.res_ok _ _ _ hk.1 h.1
  have he : Cip.err key x = 0 := Cip.err_ok _ _ hk.1 h.1
  have H2 : Calls Try.prog 39 #[.slice Ak 16 ck, .slice A 8 c] w fun e u' => ∃ A3 c3, e = .returned (.tuple #[.slice A3 8 c3, .int .i64 0]) ∧ Own u' w.heap.size 5 1 A3 8 c3 (bcells (Cip.crypt key x true)) ∧ Below w.heap.size w u' := by
    refine (cipher_Decrypt Ak A 16 8 ck c key x w hk h).mono ?_
    rintro e u' ⟨A3, c3, rfl, ho, hb⟩
    rw [hr, Mod.crypt_length] at ho ⊢
    rw [he]
    exact ⟨A3, c3, rfl, ho, hb⟩
  have H1 : ∀ (u : World) (A2 : Option Addr) (c2 : Nat), Byt u u.heap.size A2 8 c2 (Cip.crypt key x true) → Byt u u.heap.size A' 8 c' y → Calls Try.prog 30 #[.slice A2 8 c2, .slice A' 8 c'] u fun e u' => ∃ A3 c3, e = .returned (.slice A3 8 c3) ∧ Own u' u.heap.size 5 1 A3 8 c3 (bcells (Oct.xor (Cip.crypt key x true) y)) ∧ Below u.heap.size u u' := fun u A2 c2 hu hu' => by
    refine (mode_xor A2 A' 8 8 c2 c' _ y u hu hu' (by omega)).mono ?_
    rintro e u' ⟨A2, c2, rfl, ho, hb⟩
    rw [hx, hxl] at ho ⊢
    exact ⟨A2, c2, rfl, ho, hb⟩
  clear hx hxl hr he
  generalize Oct.xor (Cip.crypt key x true) y = z at *
  generalize Cip.crypt key x true = o at *
  have HK := Lib.hid hk
  have HX := Lib.hid h
  have HY := Lib.hid h'
  have H2' := Lib.hid H2
  clear hk h h' H2
  go_enter Try.func38, Try.ntmps38
  go_wp2_with (first
    | (go_at_call 39; refine H2'.out.mono ?_; rintro e w1 ⟨A2, c2, rfl, ho1, hb1⟩)
    | (go_at_call 30; refine (H1 _ A2 c2 (ho1.byt (Nat.le_refl _)) ((HY.out.below hb1).more hb1.size)).mono ?_; rintro e w2 ⟨A3, c3, rfl, ho2, hb2⟩))
  go_ret2
  have hb := hb1.trans (hb2.mono hb1.size)
  exact ⟨A3, c3, A, c, rfl, ho2.byt (Nat.le_refl _), (HX.out.below hb).more hb.size, hb, fun q _ hq => hq⟩

/-- The chain in plain mathematics. -/
def cSt (st : List UInt8 → List UInt8 → List UInt8 × List UInt8) (iv d : List UInt8) (k : Nat) : List UInt8 × List UInt8 :=
  (List.range k).foldl (fun s i => (s.1 ++ (st (Mod.blk d i) s.2).1, (st (Mod.blk d i) s.2).2)) ([], iv)
theorem cSt_succ (st : List UInt8 → List UInt8 → List UInt8 × List UInt8) (iv d : List UInt8) (k : Nat) :
    cSt st iv d (k + 1) = ((cSt st iv d k).1 ++ (st (Mod.blk d k) (cSt st iv d k).2).1, (st (Mod.blk d k) (cSt st iv d k).2).2) := by
  simp [cSt, List.range_succ]
def stE (key x y : List UInt8) : List UInt8 × List UInt8 := (Cip.crypt key (Oct.xor x y) false, Cip.crypt key (Oct.xor x y) false)
def stD (key x y : List UInt8) : List UInt8 × List UInt8 := (Oct.xor (Cip.crypt key x true) y, x)
theorem cSt_e (key iv d : List UInt8) (k : Nat) : cSt (stE key) iv d k = Mod.eSt key iv d k := rfl
theorem cSt_d (key iv d : List UInt8) (k : Nat) : cSt (stD key) iv d k = Mod.dSt key iv d k := rfl
/-- What the result's block holds after k blocks. -/
def cOut (st : List UInt8 → List UInt8 → List UInt8 × List UInt8) (iv d : List UInt8) (n k : Nat) : List Value := bcells ((cSt st iv d k).1 ++ zs (n - 8 * k))
theorem cOut_zero (st : List UInt8 → List UInt8 → List UInt8 × List UInt8) (iv d : List UInt8) (n : Nat) : cOut st iv d n 0 = List.replicate n (.int .u8 0) := by
  rw [bcells_zs]; rfl
theorem cOut_end (st : List UInt8 → List UInt8 → List UInt8 × List UInt8) (iv d : List UInt8) (m : Nat) : cOut st iv d (8 * m) m = bcells (cSt st iv d m).1 := by
  unfold cOut; rw [Nat.sub_self]; simp [zs]
theorem cOut_next (st : List UInt8 → List UInt8 → List UInt8 × List UInt8) (iv d : List UInt8) (n k : Nat) (o : List UInt8) (hl : (cSt st iv d k).1.length = 8 * k) (hn : 8 * k + 8 ≤ n)
    (ho : (st (Mod.blk d k) (cSt st iv d k).2).1 = o) (h8 : o.length = 8) :
    (cOut st iv d n k).take (8 * k) ++ (bcells o ++ (cOut st iv d n k).drop (8 * k + (bcells o).length)) = cOut st iv d n (k + 1) := by
  unfold cOut
  rw [cSt_succ, ho, bcells_append, bcells_append, bcells_append, List.take_append_of_le_length (by rw [length_bcells]; omega), List.take_of_length_le (by rw [length_bcells]; omega), List.drop_append, List.drop_eq_nil_of_le (by rw [length_bcells, length_bcells]; omega), List.nil_append, length_bcells, length_bcells, List.append_assoc, hl, h8]
  congr 2
  simp only [bcells, zs, List.map_replicate, List.drop_replicate]
  congr 1
  omega
end Go.Proofs.Ytbmblalbnegglaa
