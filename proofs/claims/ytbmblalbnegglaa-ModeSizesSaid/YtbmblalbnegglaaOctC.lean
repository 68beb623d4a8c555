/-
  The walks of the library of strings of bytes: Xor, Clone, Put, Get, Unpad.
-/
import Derived.Test.YtbmblalbnegglaaOctB
namespace Go.Proofs.Ytbmblalbnegglaa
open Go.RowKit

theorem oxor_get (a b : List UInt8) (j : Nat) (h : j < a.length) : (Oct.xor a b).getD j 0 = a.getD j 0 ^^^ b.getD j 0 := by
  rw [List.getD, List.getElem?_eq_getElem (by simpa [Oct.xor] using h)]; simp [Oct.xor]
/-- The first k bytes of l, zeros behind them. -/
def upTo (l : List UInt8) (k : Nat) : List UInt8 := (List.range l.length).map fun j => if j < k then l.getD j 0 else 0
theorem upTo_zero (l : List UInt8) : upTo l 0 = zs l.length := by
  unfold upTo zs
  apply List.ext_getElem
  · simp
  · intro j h1 h2; simp
theorem upTo_full (l : List UInt8) : upTo l l.length = l := by
  apply List.ext_getElem
  · simp [upTo]
  · intro j h1 h2; simp [upTo, List.getD, h2]
theorem upTo_length (l : List UInt8) (k : Nat) : (upTo l k).length = l.length := by simp [upTo]
theorem upTo_set (l : List UInt8) (k : Nat) : (upTo l k).set k (l.getD k 0) = upTo l (k + 1) := by
  apply List.ext_getElem
  · simp [upTo]
  · intro i h1 h2
    rw [List.getElem_set]
    simp only [upTo, List.getElem_map, List.getElem_range]
    by_cases e : k = i
    · subst e; simp
    · rw [if_neg e]
      by_cases h : i < k
      · rw [if_pos h, if_pos (by omega)]
      · rw [if_neg h, if_neg (by omega)]
/-- The last k bytes of l, zeros ahead of them. -/
def lastK (l : List UInt8) (k : Nat) : List UInt8 := (List.range l.length).map fun j => if l.length - k ≤ j then l.getD j 0 else 0
theorem lastK_zero (l : List UInt8) : lastK l 0 = zs l.length := by
  unfold lastK zs
  apply List.ext_getElem
  · simp
  · intro j h1 h2
    have : j < l.length := by simpa using h2
    simp
    intro h3; omega
theorem lastK_full (l : List UInt8) : lastK l l.length = l := by
  apply List.ext_getElem
  · simp [lastK]
  · intro j h1 h2; simp [lastK, List.getD, List.getElem?_eq_getElem h2]
theorem lastK_length (l : List UInt8) (k : Nat) : (lastK l k).length = l.length := by simp [lastK]
theorem lastK_set (l : List UInt8) (k : Nat) (h : k < l.length) : (lastK l k).set (l.length - 1 - k) (l.getD (l.length - 1 - k) 0) = lastK l (k + 1) := by
  apply List.ext_getElem
  · simp [lastK]
  · intro i h1 h2
    rw [List.getElem_set]
    simp only [lastK, List.getElem_map, List.getElem_range]
    by_cases e : l.length - 1 - k = i
    · subst e; rw [if_pos rfl, if_pos (by omega)]
    · rw [if_neg e]
      by_cases h : l.length - k ≤ i
      · rw [if_pos h, if_pos (by omega)]
      · rw [if_neg h, if_neg (by omega)]

def xrE (a b : List UInt8) : Int := if a.length = b.length then 0 else 1
def xrB (a b : List UInt8) : List UInt8 := if a.length = b.length then Oct.xor a b else []

set_option maxHeartbeats 2000000 in
theorem octets_Xor (A A' : Option Addr) (n n' c c' : Nat) (a b : List UInt8) (w : World) (h : Byt w w.heap.size A n c a) (h' : Byt w w.heap.size A' n' c' b) (hn : n ≤ 1000000) :
    Calls Try.prog 45 #[.slice A n c, .slice A' n' c'] w (BRes 5 w (xrB a b) (xrE a b)) := by
  obtain ⟨ti, hti, hz0, hz1, hz2⟩ := info_parts o_u8
  by_cases he : n = n'
  · subst he
    have e1 : xrB a b = Oct.xor a b ∧ xrE a b = 0 := by
      unfold xrB xrE; rw [h.1, h'.1, if_pos rfl, if_pos rfl]; exact ⟨rfl, rfl⟩
    rw [e1.1, e1.2]
    clear e1
    have hla := Lib.hid h.1
    have hlb := Lib.hid h'.1
    have hra := h.2.2
    have hrb := h'.2.2
    have hlx : (Oct.xor a b).length = n := by rw [← h.1]; simp [Oct.xor]
    have HLX := Lib.hid hlx
    have mk := made_u8 (P := Try.prog) 22 5 ti Try.underlying22 hti hz0 hz1 hz2 n (by omega)
    have hown0 : ∀ (W : World), Blk W w.heap.size 5 (madeCells #[.int .u8 0] n) → Own W w.heap.size 5 1 (some ⟨w.heap.size, 0, none⟩) n n (bcells (upTo (Oct.xor a b) 0)) := by
      intro W hb
      rw [upTo_zero, hlx, ← bcells_zs]
      exact Own.made hb (Nat.le_refl _) (by unfold maxLen; omega)
    have HO := Lib.hid hown0
    clear hown0 hlx h h'
    go_enter Try.func45, Try.ntmps45
    go_wp2_with fail
    go_loopg [18] n (fun g i wr => ∃ k : Nat, k + g = n ∧ i = .int .i64 k ∧ Own wr w.heap.size 5 1 (some ⟨w.heap.size, 0, none⟩) n n (bcells (upTo (Oct.xor a b) k)) ∧ Below w.heap.size w wr)
    case atStart => exact ⟨0, by omega, rfl, HO.out _ (Blk.new' _ rfl rfl), (Below.refl _ _).alloc (Nat.le_refl _) _⟩
    case round =>
      obtain ⟨k, hk, rfl, hown, hbw⟩ := hrel
      cases gk with
      | zero =>
        obtain rfl : k = n := by omega
        have hf := upTo_full (Oct.xor a b)
        rw [HLX.out] at hf
        rw [hf] at hown
        clear hf
        go_wp2_with fail
        go_ret2
        exact BRes.mk HLX.out hown hbw
      | succ g =>
        have hlt : (k : Int) < (n : Int) := by omega
        have p0 : (0 : Int) ≤ (k : Int) := by omega
        obtain ⟨b1, o1, rfl, hb1, -⟩ := hra.at_ (j := k) (by rw [length_bcells, hla.out]; omega)
        obtain ⟨b2, o2, rfl, hb2, -⟩ := hrb.at_ (j := k) (by rw [length_bcells, hlb.out]; omega)
        have c1 := (hra.below hbw).byte k (by rw [hla.out]; omega)
        have c2 := (hrb.below hbw).byte k (by rw [hlb.out]; omega)
        have hst := Lib.hid (upTo_set (Oct.xor a b) k)
        have hxg := oxor_get a b k (by rw [hla.out]; omega)
        obtain ⟨q, hq, hqb, hqs, hcell, hfr, hstore⟩ := hown.elem (i := k) (by omega)
        obtain rfl : w.heap.size = q := by simpa using hq
        have hcell2 : ∃ v, wr.cell? ⟨w.heap.size, k, none⟩ = some v := by
          rw [hcell]; exact ⟨_, List.getElem?_eq_getElem (by rw [length_bcells, upTo_length, HLX.out]; omega)⟩
        obtain ⟨v0, hcell2⟩ := hcell2
        have hs2 := Lib.hid (hstore (B8 ((Oct.xor a b).getD k 0)))
        have hxx : Hid (bits BinOp.xor IntKind.u8 ((a.getD k 0).toNat : Int) ((b.getD k 0).toNat : Int) = (((Oct.xor a b).getD k 0).toNat : Int)) := by
          show _ = _
          rw [u8_xor_nat _ _ (a.getD k 0).toNat_lt (b.getD k 0).toNat_lt, hxg, UInt8.toNat_xor]
        clear hcell hstore hq hxg
        generalize (a.getD k 0).toNat = x at *
        generalize (b.getD k 0).toNat = y at *
        go_wp2_with fail
        refine wp_region_quiet_tail 12 (by kernel_rfl) (by kernel_rfl) ?_
        simp only [List.take_succ_cons, List.take_zero]
        repeat (go_big_quiet_step (fail))
        refine wpQuiet_nil ?_
        rintro _ ⟨nq, rfl⟩
        simp only [List.drop_succ_cons, List.drop_zero]
        go_wp2_with fail
        go_roundg g
        case measure => omega
        case rel =>
          refine ⟨k + 1, by omega, by go_num, ?_, ?_⟩
          · rw [← hst.out, bcells_set, hxx.out]; exact hs2.out.drewN _
          · exact (Below.drewN hbw _).setCell (by simp) _
  · have e1 : xrB a b = [] ∧ xrE a b = 1 := by
      unfold xrB xrE; rw [h.1, h'.1, if_neg he, if_neg he]; exact ⟨rfl, rfl⟩
    rw [e1.1, e1.2]
    have hne : ((n : Int) != (n' : Int)) = true := by rw [bne_iff_ne]; omega
    clear e1 h h'
    go_enter Try.func45, Try.ntmps45
    go_wp2_with fail
    go_ret2
    exact BRes.nil _ (Below.refl _ _)

set_option maxHeartbeats 1000000 in
theorem slices_Clone (A : Option Addr) (n c : Nat) (bs : List UInt8) (w : World) (h : Byt w w.heap.size A n c bs) (hn : n ≤ 1000000000) :
    Calls Try.prog 33 #[.slice A n c] w fun e w' => ∃ A2 c2, e = .returned (.slice A2 n c2) ∧ Own w' w.heap.size 5 1 A2 n c2 (bcells bs) ∧ Below w.heap.size w w' := by
  obtain ⟨ti, hti, hz0, hz1, hz2⟩ := info_parts o_u8
  have hu : ∀ u : World, (binOp .eql 22 (.slice A n c) (.slice none 0 0)).run Try.prog u = .ok (.bool A.isNone) u := fun u => by
    have := Lib.run_eql_slice_nil u 22 5 A n c 0 0 Try.underlying22
    exact this
  cases A with
  | none =>
    have hn0 : n = 0 := by
      rcases Nat.eq_zero_or_pos n with h0 | h0
      · exact h0
      · obtain ⟨b, o, e, _⟩ := h.at_ h0; cases e
    have hb : bs = [] := List.eq_nil_of_length_eq_zero (by rw [h.1]; exact hn0)
    subst hn0 hb
    have hu2 : ∀ u : World, (binOp .eql 22 (.slice none 0 c) (.slice none 0 0)).run Try.prog u = .ok (.bool true) u := hu
    clear h hu
    go_enter Try.func33, Try.ntmps33
    go_wp2_with fail
    go_ret
    exact ⟨none, 0, rfl, Own.none_ _ _ _ _ _, Below.refl _ _⟩
  | some a =>
    have hu2 : ∀ u : World, (binOp .eql 22 (.slice (some a) n c) (.slice none 0 0)).run Try.prog u = .ok (.bool false) u := hu
    clear hu
    have hl := Lib.hid h.1
    have hr := h.2.2
    clear h
    go_enter Try.func33, Try.ntmps33
    have hb1 := (Below.refl w.heap.size w).alloc (Nat.le_refl _) (.cells #[] 5)
    have hown : Own (w.alloc (.cells #[] 5)) w.heap.size 5 1 (some ⟨w.heap.size, 0, none⟩) 0 0 [] := Own.none_ _ _ _ _ _
    go_wp2_with (at_builtin; refine wpList_append _ rfl (.tmp 5) (.tmp 6) 22 rfl w.heap.size 5 ti _ 1 1 Try.underlying22 hti hz0 hz1 hz2 rfl (by omega) (some ⟨w.heap.size, 0, none⟩) 0 0 _ rfl hown w.heap.size (some a) n c (bcells bs) rfl (hr.alloc (Nat.le_refl _) _) (by rw [length_bcells, hl.out]; omega) (bcells_one _) (by unfold maxLen; omega) (by omega) (by simp) ?_; intro A3 c3 w4 hown4 hg4 hat4; rw [Nat.zero_add, List.nil_append] at hown4)
    go_ret
    exact ⟨_, _, rfl, hown4, hown.grown hg4 hb1 (by simp)⟩

theorem unp_none (bs : List UInt8) (h : Oct.unp bs = none) : Oct.unpB bs = [] ∧ Oct.unpE bs = 4 := by
  unfold Oct.unpB Oct.unpE; rw [h]; exact ⟨rfl, rfl⟩
theorem unp_some (bs l : List UInt8) (h : Oct.unp bs = some l) : Oct.unpB bs = l ∧ Oct.unpE bs = 0 := by
  unfold Oct.unpB Oct.unpE; rw [h]; exact ⟨rfl, rfl⟩
theorem byte_eq (x : UInt8) (m : Nat) (hm : m < 256) : (x = UInt8.ofNat m) ↔ x.toNat = m := by
  constructor
  · rintro rfl; exact UInt8.toNat_ofNat_of_lt' (by simpa [UInt8.size] using hm)
  · intro h; apply UInt8.toNat_inj.1; rw [h]; exact (UInt8.toNat_ofNat_of_lt' (by simpa [UInt8.size] using hm)).symm

end Go.Proofs.Ytbmblalbnegglaa
