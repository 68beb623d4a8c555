/-
  The walks of Unpack, of the code and of the reference.
-/
import Derived.Test.YtknpppbceogbfaaEccP
namespace Go.Proofs.Ytknpppbceogbfaa
open Go.RowKit

def bytes3 (d : Nat) : List UInt8 := [UInt8.ofNat (d / 65536), UInt8.ofNat (d / 256), UInt8.ofNat d]
def unB (ws : List UInt32) : List UInt8 := ws.flatMap fun x => bytes3 (Ecc.decode x.toNat).1
def unF (ws : List UInt32) : Nat := (ws.filter fun x => (Ecc.decode x.toNat).2 == 1).length
def bad (ws : List UInt32) : Bool := ws.any fun x => (Ecc.decode x.toNat).2 == 2
theorem unB_length (ws : List UInt32) : (unB ws).length = 3 * ws.length := by
  induction ws with
  | nil => rfl
  | cons x ws ih => simp only [unB, List.flatMap_cons, List.length_append, List.length_cons] at *; rw [ih]; simp [bytes3]; omega
theorem unB_take (ws : List UInt32) (k : Nat) (h : k < ws.length) : unB (ws.take (k + 1)) = unB (ws.take k) ++ bytes3 (Ecc.decode (ws.getD k 0).toNat).1 := by
  rw [List.take_succ_eq_append_getElem h]; simp only [unB, List.flatMap_append, List.flatMap_cons, List.flatMap_nil, List.append_nil, List.getD, List.getElem?_eq_getElem h, Option.getD_some]
theorem unF_take (ws : List UInt32) (k : Nat) (h : k < ws.length) : unF (ws.take (k + 1)) = unF (ws.take k) + if (Ecc.decode (ws.getD k 0).toNat).2 == 1 then 1 else 0 := by
  rw [List.take_succ_eq_append_getElem h]
  simp only [unF, List.filter_append, List.length_append, List.getD, List.getElem?_eq_getElem h, Option.getD_some]
  congr 1
  simp only [List.filter_cons, List.filter_nil]
  split <;> rfl
theorem unF_le (ws : List UInt32) : unF ws ≤ ws.length := List.length_filter_le _ _
theorem bad_take (ws : List UInt32) (k : Nat) (h : k < ws.length) (hb : bad (ws.take k) = false) : bad (ws.take (k + 1)) = ((Ecc.decode (ws.getD k 0).toNat).2 == 2) := by
  rw [List.take_succ_eq_append_getElem h]
  unfold bad at *
  rw [List.any_append, hb]
  simp [List.getD, List.getElem?_eq_getElem h]
theorem bad_of (ws : List UInt32) (k : Nat) (h : k < ws.length) (hd : (Ecc.decode (ws.getD k 0).toNat).2 = 2) : bad ws = true := by
  unfold bad
  rw [List.any_eq_true]
  refine ⟨ws[k], List.getElem_mem h, ?_⟩
  simp only [List.getD, List.getElem?_eq_getElem h, Option.getD_some] at hd
  rw [hd]; rfl
theorem decode_three (x : Nat) : (Ecc.decode x).2 = 0 ∨ (Ecc.decode x).2 = 1 ∨ (Ecc.decode x).2 = 2 := by
  unfold Ecc.decode
  split
  · exact .inl rfl
  · split
    · exact .inr (.inl rfl)
    · exact .inr (.inr rfl)
theorem decode_lt (x : Nat) : (Ecc.decode x).1 < 16777216 := by
  unfold Ecc.decode
  split
  · exact Ecc.data_lt _
  · split
    · exact Ecc.data_lt _
    · show 0 < _; omega

/-- What Unpack hands back: the error, the bytes, how many words were fixed. -/
def upOk (ws : List UInt32) (i : Int) : Prop := 0 ≤ i ∧ (ws.length : Int) = wordsN i
instance (ws : List UInt32) (i : Int) : Decidable (upOk ws i) := by unfold upOk; infer_instance
def upE (ws : List UInt32) (i : Int) : Int := if upOk ws i then (if bad ws then 9 else 0) else 1
def upB (ws : List UInt32) (i : Int) : List UInt8 := if upOk ws i ∧ bad ws = false then (unB ws).take i.toNat else []
def upF (ws : List UInt32) (i : Int) : Nat := if upOk ws i ∧ bad ws = false then unF ws else 0

theorem Own.part {w : World} {base : Nat} {t : TypeId} {A : Option Addr} {n c : Nat} {cs : List Value} (h : Own w base t 1 A n c cs) {m d : Nat} (hm : m ≤ n) (hmd : m ≤ d) (hd : d ≤ c) : Own w base t 1 A m d (cs.take m) := by
  obtain ⟨hl, hnc, hcm, hc⟩ := h
  refine ⟨by rw [List.length_take]; omega, hmd, by omega, fun h0 => ?_⟩
  obtain ⟨g, cur, e, hb, hh, hs, ht⟩ := hc (by omega)
  refine ⟨g, cur, e, hb, hh, by omega, ?_⟩
  rw [← ht, List.take_take]
  congr 1
  omega
theorem Own.none_cap {w : World} {base : Nat} {t : TypeId} {s n c : Nat} {cs : List Value} (h : Own w base t s none n c cs) : n = 0 ∧ c = 0 := by
  rcases Nat.eq_zero_or_pos c with h0 | h0
  · have := h.le; exact ⟨by omega, h0⟩
  · obtain ⟨g, cur, e, _⟩ := h.2.2.2 h0; cases e
theorem Own.some_at {w : World} {base : Nat} {t : TypeId} {s n c : Nat} {cs : List Value} {a : Addr} (h : Own w base t s (some a) n c cs) (h0 : 0 < c) : ∃ g, a = ⟨g, 0, none⟩ ∧ base ≤ g := by
  obtain ⟨g, cur, e, hb, _⟩ := h.2.2.2 h0
  exact ⟨g, by simpa using e, hb⟩

/-- What a call of Unpack leaves: the bytes, how many words were fixed, the error. -/
def UpRes (w : World) (bs : List UInt8) (f : Nat) (er : Int) (e : Ending) (w' : World) : Prop :=
  ∃ A2 c2, e = .returned (.tuple #[.slice A2 bs.length c2, .int .i64 (f : Int), .int .i64 er]) ∧ Own w' w.heap.size 5 1 A2 bs.length c2 (bcells bs) ∧ Below w.heap.size w w'

theorem up_arg (ws : List UInt32) (i : Int) (w : World) (h : ¬ upOk ws i) : UpRes w (upB ws i) (upF ws i) (upE ws i) (.returned (.tuple #[.slice none 0 0, .int .i64 0, .int .i64 1])) w := by
  unfold upB upF upE
  rw [if_neg (fun h' => h h'.1), if_neg (fun h' => h h'.1), if_neg h]
  exact ⟨none, 0, rfl, Own.none_ _ _ _ _ _, Below.refl _ _⟩
theorem up_bad (ws : List UInt32) (i : Int) (w w' : World) (h : upOk ws i) (hb : bad ws = true) (hw : Below w.heap.size w w') : UpRes w (upB ws i) (upF ws i) (upE ws i) (.returned (.tuple #[.slice none 0 0, .int .i64 0, .int .i64 9])) w' := by
  unfold upB upF upE
  rw [if_neg (fun h' => by rw [hb] at h'; cases h'.2), if_neg (fun h' => by rw [hb] at h'; cases h'.2), if_pos h, if_pos hb]
  exact ⟨none, 0, rfl, Own.none_ _ _ _ _ _, hw⟩
theorem up_good (ws : List UInt32) (m : Nat) (w w' : World) (A : Option Addr) (c n d : Nat) (h : upOk ws (m : Int)) (hb : bad ws = false) (hw : Below w.heap.size w w') (hown : Own w' w.heap.size 5 1 A n c (bcells (unB ws))) (hm : m ≤ n) (hmd : m ≤ d) (hd : d ≤ c) :
    UpRes w (upB ws (m : Int)) (upF ws (m : Int)) (upE ws (m : Int)) (.returned (.tuple #[.slice A m d, .int .i64 (unF ws : Int), .int .i64 0])) w' := by
  unfold upB upF upE
  rw [if_pos ⟨h, hb⟩, if_pos ⟨h, hb⟩, if_pos h, if_neg (by rw [hb]; simp), Int.toNat_natCast]
  have hl : ((unB ws).take m).length = m := by
    rw [List.length_take]; have := hown.len; rw [length_bcells] at this; omega
  have hp := hown.part (m := m) (d := d) hm hmd hd
  refine ⟨A, d, by rw [hl], ?_, hw⟩
  rw [hl, show bcells ((unB ws).take m) = (bcells (unB ws)).take m by simp [bcells, List.map_take]]
  exact hp

set_option maxHeartbeats 1000000 in
theorem ecc_Unpack_arg (A : Option Addr) (n c : Nat) (ws : List UInt32) (i : Int) (w : World) (hl : ws.length = n) (h : ¬ upOk ws i) (hi : i ≤ 9223372036854775807) :
    Calls Try.prog 19 #[.slice A n c, .int .i64 i] w (UpRes w (upB ws i) (upF ws i) (upE ws i)) := by
  have HU := Lib.hid (up_arg ws i w h)
  by_cases h0 : i < 0
  · have hd : decide (i < 0) = true := by simpa using h0
    clear h
    go_enter Try.func19, Try.ntmps19
    go_wp2_with fail
    go_ret3
    exact HU.out
  · have hd : decide (i < 0) = false := by simpa using h0
    have hne : ((n : Int) != wordsN i) = true := by
      rw [bne_iff_ne]; intro e; exact h ⟨by omega, by rw [hl]; exact e⟩
    clear h hl h0
    go_enter Try.func19, Try.ntmps19
    go_wp2_with (go_at_call 14; refine (ecc_Words _ _ hi).mono ?_; rintro e w1 ⟨rfl, rfl⟩)
    go_ret3
    exact HU.out

theorem u8_inf : (Try.prog.info? 5).map (fun i => (i.zero, i.size, i.bytes)) = some (some (.int .u8 0), 1, 1) := by kernel_rfl
theorem cells3 (d : Nat) (h : d < 16777216) : #[Value.int .u8 ((d : Int) / 65536), .int .u8 ((d : Int) / 256 % 256), .int .u8 ((d : Int) % 256)].toList = bcells (bytes3 d) := by
  simp [bcells, bytes3, B8]
  omega

set_option maxHeartbeats 4000000 in
theorem ecc_Unpack_ok (A : Option Addr) (n c : Nat) (ws : List UInt32) (m : Nat) (w : World) (h : Wds w w.heap.size A n c ws) (hw : (n : Int) = wordsN m) (hn : n ≤ 1000000) :
    Calls Try.prog 19 #[.slice A n c, .int .i64 (m : Int)] w (UpRes w (upB ws (m : Int)) (upF ws (m : Int)) (upE ws (m : Int))) := by
  obtain ⟨ti, hi0, hz0, hz1, hz2⟩ := info_parts u8_inf
  have hl := Lib.hid h.1
  have hok : Hid (upOk ws (m : Int)) := ⟨by omega, by rw [h.1]; exact hw⟩
  have hm3 : m ≤ 3 * n := by unfold wordsN at hw; split at hw <;> omega
  have hmn : n ≤ m := by unfold wordsN at hw; split at hw <;> omega
  have hne : ((n : Int) != wordsN (m : Int)) = false := by rw [hw]; simp
  have H := Lib.hid h
  clear h hw
  go_enter Try.func19, Try.ntmps19
  go_wp2_with (go_at_call 14; refine (ecc_Words _ _ (by omega)).mono ?_; rintro e w1 ⟨rfl, rfl⟩)
  clear hne
  go_loopg [7, 8, 24] n (fun g v f i wr => ∃ (k : Nat) (A2 : Option Addr) (c2 : Nat), k + g = n ∧ i = .int .i64 k ∧ v = .slice A2 (3 * k) c2 ∧ f = .int .i64 (unF (ws.take k) : Nat) ∧ Hid (bad (ws.take k) = false) ∧ Own wr w.heap.size 5 1 A2 (3 * k) c2 (bcells (unB (ws.take k))) ∧ Below w.heap.size w wr)
  case atStart => exact ⟨0, none, 0, by omega, rfl, rfl, rfl, Lib.hid rfl, Own.none_ _ _ _ _ _, Below.refl _ _⟩
  case round =>
    obtain ⟨k, A2, c2, hk, rfl, rfl, rfl, hbad, hown, hbw⟩ := hrel
    have hfl : unF (ws.take k) ≤ k := Nat.le_trans (unF_le _) (by rw [List.length_take]; omega)
    cases gk with
    | zero =>
      obtain rfl : k = n := by omega
      have e1 : ws.take k = ws := List.take_of_length_le (by rw [hl.out]; omega)
      rw [e1] at hbad hown ⊢
      have hcc := hown.le
      have j0 : (m : Int) ≤ (c2 : Int) := by omega
      have j1 : (0 : Int) ≤ (m : Int) := by omega
      clear e1 hfl
      cases A2 with
      | none =>
        obtain ⟨h1, h2⟩ := hown.none_cap
        have hm0 : m = 0 := by omega
        subst hm0
        subst h2
        obtain rfl : k = 0 := by omega
        go_wp2_with fail
        go_ret3
        exact up_good ws 0 w wr none 0 _ 0 hok.out hbad.out hbw hown (by omega) (by omega) (by omega)
      | some a =>
        go_wp2_with fail
        go_ret3
        exact up_good ws m w wr (some a) c2 _ m hok.out hbad.out hbw hown (by omega) (by omega) (by omega)
    | succ g =>
      have hlt : (k : Int) < (n : Int) := by omega
      have p0 : (0 : Int) ≤ (k : Int) := by omega
      obtain ⟨b1, o1, rfl, hb1, c1⟩ := (H.out.below hbw).at_ (k := k) (by omega)
      have hx : (ws.getD k 0).toNat < 4294967296 := (ws.getD k 0).toNat_lt
      have hub := Lib.hid (unB_take ws k (by rw [hl.out]; omega))
      have huf := Lib.hid (unF_take ws k (by rw [hl.out]; omega))
      have hbt := Lib.hid (bad_take ws k (by rw [hl.out]; omega) hbad.out)
      have hbo := Lib.hid (bad_of ws k (by rw [hl.out]; omega))
      have hd3 := decode_three (ws.getD k 0).toNat
      have hdl := decode_lt (ws.getD k 0).toNat
      generalize (ws.getD k 0).toNat = x at *
      rcases hd3 with hd | hd | hd
      · have HD := Lib.hid hd
        clear hd
        go_wp2_with fail
        refine (ecc_Decode x _ hx).mono ?_
        rintro e w2 ⟨rfl, hb2⟩
        rw [HD.out]
        have hlow : 0 ≤ (((Ecc.decode x).1 : Nat) : Int) := by omega
        have hc3 := Lib.hid (cells3 (Ecc.decode x).1 hdl)
        generalize hxx : (Ecc.decode x).1 = d at *
        have HXX := Lib.hid hxx
        clear hxx
        go_wp2_with (at_builtin; refine wpList_append _ rfl (.tmp 40) (.tmp 49) 32 rfl w.heap.size 5 ti _ 1 1 Try.underlying32 hi0 hz0 hz1 hz2 rfl (by omega) A2 (3 * k) c2 (bcells (unB (ws.take k))) rfl ((hown.below hb2).alloc _) (w2.heap.size + 1) (some ⟨w2.heap.size, 0, none⟩) 3 3 (bcells (bytes3 d)) rfl (Row.new w2 hc3.out) (by simp [bytes3]) (bcells_one _) (by unfold maxLen; omega) (by omega) (by simp; have := hbw.size; have := hb2.size; omega) ?_; intro A3 c3 w4 hown4 hg4 hat4)
        go_roundg g
        case measure => omega
        case rel =>
          refine ⟨k + 1, A3, c3, by omega, by go_num, rfl, by rw [huf.out, HD.out]; rfl, by rw [hbt.out, HD.out]; rfl, ?_, ((hown.below hb2).alloc _).grown hg4 ((hbw.trans (hb2.mono hbw.size)).alloc (by have := hbw.size; have := hb2.size; omega) _) (by simp; have := hbw.size; have := hb2.size; omega)⟩
          rw [hub.out, bcells_append]
          exact hown4
      · have HD := Lib.hid hd
        clear hd
        go_wp2_with fail
        refine (ecc_Decode x _ hx).mono ?_
        rintro e w2 ⟨rfl, hb2⟩
        rw [HD.out]
        have hlow : 0 ≤ (((Ecc.decode x).1 : Nat) : Int) := by omega
        have hc3 := Lib.hid (cells3 (Ecc.decode x).1 hdl)
        generalize hxx : (Ecc.decode x).1 = d at *
        have HXX := Lib.hid hxx
        clear hxx
        go_wp2_with (at_builtin; refine wpList_append _ rfl (.tmp 40) (.tmp 49) 32 rfl w.heap.size 5 ti _ 1 1 Try.underlying32 hi0 hz0 hz1 hz2 rfl (by omega) A2 (3 * k) c2 (bcells (unB (ws.take k))) rfl ((hown.below hb2).alloc _) (w2.heap.size + 1) (some ⟨w2.heap.size, 0, none⟩) 3 3 (bcells (bytes3 d)) rfl (Row.new w2 hc3.out) (by simp [bytes3]) (bcells_one _) (by unfold maxLen; omega) (by omega) (by simp; have := hbw.size; have := hb2.size; omega) ?_; intro A3 c3 w4 hown4 hg4 hat4)
        go_roundg g
        case measure => omega
        case rel =>
          refine ⟨k + 1, A3, c3, by omega, by go_num, rfl, by rw [huf.out, HD.out]; rfl, by rw [hbt.out, HD.out]; rfl, ?_, ((hown.below hb2).alloc _).grown hg4 ((hbw.trans (hb2.mono hbw.size)).alloc (by have := hbw.size; have := hb2.size; omega) _) (by simp; have := hbw.size; have := hb2.size; omega)⟩
          rw [hub.out, bcells_append]
          exact hown4
      · have HD := Lib.hid hd
        clear hd
        go_wp2_with fail
        refine (ecc_Decode x _ hx).mono ?_
        rintro e w2 ⟨rfl, hb2⟩
        rw [HD.out]
        go_wp2_with fail
        go_ret3
        exact up_bad ws m w w2 hok.out (hbo.out HD.out) (hbw.trans (hb2.mono hbw.size))

set_option maxHeartbeats 1000000 in
theorem ref10_Unpack_arg (A : Option Addr) (n c : Nat) (ws : List UInt32) (i : Int) (w : World) (hl : ws.length = n) (h : ¬ upOk ws i) (hi : i ≤ 9223372036854775807) :
    Calls Try.prog 20 #[.slice A n c, .int .i64 i] w (UpRes w (upB ws i) (upF ws i) (upE ws i)) := by
  have HU := Lib.hid (up_arg ws i w h)
  by_cases h0 : i < 0
  · have hd : decide (i < 0) = true := by simpa using h0
    clear h
    go_enter Try.func20, Try.ntmps20
    go_wp2_with fail
    go_ret3
    exact HU.out
  · have hd : decide (i < 0) = false := by simpa using h0
    have hne : ((n : Int) != wordsN i) = true := by
      rw [bne_iff_ne]; intro e; exact h ⟨by omega, by rw [hl]; exact e⟩
    clear h hl h0
    go_enter Try.func20, Try.ntmps20
    go_wp2_with (go_at_call 15; refine (ref10_Words _ _ hi).mono ?_; rintro e w1 ⟨rfl, rfl⟩)
    go_ret3
    exact HU.out

set_option maxHeartbeats 4000000 in
theorem ref10_Unpack_ok (A : Option Addr) (n c : Nat) (ws : List UInt32) (m : Nat) (w : World) (h : Wds w w.heap.size A n c ws) (hw : (n : Int) = wordsN m) (hn : n ≤ 1000000) :
    Calls Try.prog 20 #[.slice A n c, .int .i64 (m : Int)] w (UpRes w (upB ws (m : Int)) (upF ws (m : Int)) (upE ws (m : Int))) := by
  obtain ⟨ti, hi0, hz0, hz1, hz2⟩ := info_parts u8_inf
  have hl := Lib.hid h.1
  have hok : Hid (upOk ws (m : Int)) := ⟨by omega, by rw [h.1]; exact hw⟩
  have hm3 : m ≤ 3 * n := by unfold wordsN at hw; split at hw <;> omega
  have hmn : n ≤ m := by unfold wordsN at hw; split at hw <;> omega
  have hne : ((n : Int) != wordsN (m : Int)) = false := by rw [hw]; simp
  have H := Lib.hid h
  clear h hw
  go_enter Try.func20, Try.ntmps20
  go_wp2_with (go_at_call 15; refine (ref10_Words _ _ (by omega)).mono ?_; rintro e w1 ⟨rfl, rfl⟩)
  clear hne
  go_loopg [7, 8, 9] n (fun g v f i wr => ∃ (k : Nat) (A2 : Option Addr) (c2 : Nat), k + g = n ∧ i = .int .i64 k ∧ v = .slice A2 (3 * k) c2 ∧ f = .int .i64 (unF (ws.take k) : Nat) ∧ Hid (bad (ws.take k) = false) ∧ Own wr w.heap.size 5 1 A2 (3 * k) c2 (bcells (unB (ws.take k))) ∧ Below w.heap.size w wr)
  case atStart => exact ⟨0, none, 0, by omega, rfl, rfl, rfl, Lib.hid rfl, Own.none_ _ _ _ _ _, Below.refl _ _⟩
  case round =>
    obtain ⟨k, A2, c2, hk, rfl, rfl, rfl, hbad, hown, hbw⟩ := hrel
    have hfl : unF (ws.take k) ≤ k := Nat.le_trans (unF_le _) (by rw [List.length_take]; omega)
    cases gk with
    | zero =>
      obtain rfl : k = n := by omega
      have e1 : ws.take k = ws := List.take_of_length_le (by rw [hl.out]; omega)
      rw [e1] at hbad hown ⊢
      have hcc := hown.le
      have j0 : (m : Int) ≤ (c2 : Int) := by omega
      have j1 : (0 : Int) ≤ (m : Int) := by omega
      clear e1 hfl
      cases A2 with
      | none =>
        obtain ⟨h1, h2⟩ := hown.none_cap
        have hm0 : m = 0 := by omega
        subst hm0
        subst h2
        obtain rfl : k = 0 := by omega
        go_wp2_with fail
        go_ret3
        exact up_good ws 0 w wr none 0 _ 0 hok.out hbad.out hbw hown (by omega) (by omega) (by omega)
      | some a =>
        go_wp2_with fail
        go_ret3
        exact up_good ws m w wr (some a) c2 _ c2 hok.out hbad.out hbw hown (by omega) (by omega) (by omega)
    | succ g =>
      have hlt : (k : Int) < (n : Int) := by omega
      have p0 : (0 : Int) ≤ (k : Int) := by omega
      obtain ⟨b1, o1, rfl, hb1, c1⟩ := (H.out.below hbw).at_ (k := k) (by omega)
      have hx : (ws.getD k 0).toNat < 4294967296 := (ws.getD k 0).toNat_lt
      have hub := Lib.hid (unB_take ws k (by rw [hl.out]; omega))
      have huf := Lib.hid (unF_take ws k (by rw [hl.out]; omega))
      have hbt := Lib.hid (bad_take ws k (by rw [hl.out]; omega) hbad.out)
      have hbo := Lib.hid (bad_of ws k (by rw [hl.out]; omega))
      have hd3 := decode_three (ws.getD k 0).toNat
      have hdl := decode_lt (ws.getD k 0).toNat
      generalize (ws.getD k 0).toNat = x at *
      rcases hd3 with hd | hd | hd
      · have HD := Lib.hid hd
        clear hd
        go_wp2_with fail
        refine (ref10_Decode x _ hx).mono ?_
        rintro e w2 ⟨rfl, rfl⟩
        rw [HD.out]
        have hlow : 0 ≤ (((Ecc.decode x).1 : Nat) : Int) := by omega
        have hc3 := Lib.hid (cells3 (Ecc.decode x).1 hdl)
        generalize hxx : (Ecc.decode x).1 = d at *
        have HXX := Lib.hid hxx
        clear hxx
        go_wp2_with (at_builtin; refine wpList_append _ rfl (.tmp 41) (.tmp 50) 32 rfl w.heap.size 5 ti _ 1 1 Try.underlying32 hi0 hz0 hz1 hz2 rfl (by omega) A2 (3 * k) c2 (bcells (unB (ws.take k))) rfl (hown.alloc _) (wr.heap.size + 1) (some ⟨wr.heap.size, 0, none⟩) 3 3 (bcells (bytes3 d)) rfl (Row.new wr hc3.out) (by simp [bytes3]) (bcells_one _) (by unfold maxLen; omega) (by omega) (by simp; have := hbw.size; omega) ?_; intro A3 c3 w4 hown4 hg4 hat4)
        go_roundg g
        case measure => omega
        case rel =>
          refine ⟨k + 1, A3, c3, by omega, by go_num, rfl, by rw [huf.out, HD.out]; rfl, by rw [hbt.out, HD.out]; rfl, ?_, (hown.alloc _).grown hg4 (hbw.alloc hbw.size _) (by simp; have := hbw.size; omega)⟩
          rw [hub.out, bcells_append]
          exact hown4
      · have HD := Lib.hid hd
        clear hd
        go_wp2_with fail
        refine (ref10_Decode x _ hx).mono ?_
        rintro e w2 ⟨rfl, rfl⟩
        rw [HD.out]
        have hlow : 0 ≤ (((Ecc.decode x).1 : Nat) : Int) := by omega
        have hc3 := Lib.hid (cells3 (Ecc.decode x).1 hdl)
        generalize hxx : (Ecc.decode x).1 = d at *
        have HXX := Lib.hid hxx
        clear hxx
        go_wp2_with (at_builtin; refine wpList_append _ rfl (.tmp 41) (.tmp 50) 32 rfl w.heap.size 5 ti _ 1 1 Try.underlying32 hi0 hz0 hz1 hz2 rfl (by omega) A2 (3 * k) c2 (bcells (unB (ws.take k))) rfl (hown.alloc _) (wr.heap.size + 1) (some ⟨wr.heap.size, 0, none⟩) 3 3 (bcells (bytes3 d)) rfl (Row.new wr hc3.out) (by simp [bytes3]) (bcells_one _) (by unfold maxLen; omega) (by omega) (by simp; have := hbw.size; omega) ?_; intro A3 c3 w4 hown4 hg4 hat4)
        go_roundg g
        case measure => omega
        case rel =>
          refine ⟨k + 1, A3, c3, by omega, by go_num, rfl, by rw [huf.out, HD.out]; rfl, by rw [hbt.out, HD.out]; rfl, ?_, (hown.alloc _).grown hg4 (hbw.alloc hbw.size _) (by simp; have := hbw.size; omega)⟩
          rw [hub.out, bcells_append]
          exact hown4
      · have HD := Lib.hid hd
        clear hd
        go_wp2_with fail
        refine (ref10_Decode x _ hx).mono ?_
        rintro e w2 ⟨rfl, rfl⟩
        rw [HD.out]
        go_wp2_with fail
        go_ret3
        exact up_bad ws m w wr hok.out (hbo.out HD.out) hbw

theorem ecc_Unpack (A : Option Addr) (n c : Nat) (ws : List UInt32) (i : Int) (w : World) (h : Wds w w.heap.size A n c ws) (hn : n ≤ 1000000) (hi : i ≤ 9223372036854775807) :
    Calls Try.prog 19 #[.slice A n c, .int .i64 i] w (UpRes w (upB ws i) (upF ws i) (upE ws i)) := by
  by_cases hok : upOk ws i
  · obtain ⟨m, rfl⟩ := Int.eq_ofNat_of_zero_le hok.1
    exact ecc_Unpack_ok A n c ws m w h (by rw [← hok.2, h.1]) hn
  · exact ecc_Unpack_arg A n c ws i w h.1 hok hi
theorem ref10_Unpack (A : Option Addr) (n c : Nat) (ws : List UInt32) (i : Int) (w : World) (h : Wds w w.heap.size A n c ws) (hn : n ≤ 1000000) (hi : i ≤ 9223372036854775807) :
    Calls Try.prog 20 #[.slice A n c, .int .i64 i] w (UpRes w (upB ws i) (upF ws i) (upE ws i)) := by
  by_cases hok : upOk ws i
  · obtain ⟨m, rfl⟩ := Int.eq_ofNat_of_zero_le hok.1
    exact ref10_Unpack_ok A n c ws m w h (by rw [← hok.2, h.1]) hn
  · exact ref10_Unpack_arg A n c ws i w h.1 hok hi
end Go.Proofs.Ytknpppbceogbfaa
