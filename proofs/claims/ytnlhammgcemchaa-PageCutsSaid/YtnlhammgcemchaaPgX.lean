/-
  The walks of the seal, of a frame's words and of its header.
-/
import Derived.Test.YtnlhammgcemchaaPgW
namespace Go.Proofs.Ytnlhammgcemchaa
set_option maxRecDepth 100000
set_option linter.unusedSimpArgs false
set_option linter.unusedVariables false
open Go.RowKit
set_option maxHeartbeats 8000000

/-- A slice of numbers. -/
def Nrow (w : World) (B : Nat) (A : Option Addr) (n c : Nat) (l : List Nat) : Prop := l.length = n ∧ n ≤ c ∧ Row w B A (ncells l)
theorem ncells_length (l : List Nat) : (ncells l).length = l.length := by simp [ncells]
theorem Nrow.at_ {w : World} {B : Nat} {A : Option Addr} {n c : Nat} {l : List Nat} (h : Nrow w B A n c l) {k : Nat} (hk : k < n) : ∃ b o, A = some ⟨b, o, none⟩ ∧ b < B ∧ w.cell? ⟨b, o + k, none⟩ = some (.int .i64 (l.getD k 0 : Nat)) := by
  obtain ⟨b, o, h1, h2, h3⟩ := h.2.2.at_ (j := k) (by rw [ncells_length, h.1]; exact hk)
  refine ⟨b, o, h1, h2, ?_⟩
  rw [h3]
  have hk2 : k < l.length := by rw [h.1]; exact hk
  simp [ncells, List.getD, List.getElem?_eq_getElem hk2, I64]
theorem Nrow.below {w w' : World} {B : Nat} {A : Option Addr} {n c : Nat} {l : List Nat} (h : Nrow w B A n c l) (hb : Below B w w') : Nrow w' B A n c l := ⟨h.1, h.2.1, h.2.2.below hb⟩
theorem Nrow.more {w : World} {B B' : Nat} {A : Option Addr} {n c : Nat} {l : List Nat} (h : Nrow w B A n c l) (hb : B ≤ B') : Nrow w B' A n c l := ⟨h.1, h.2.1, h.2.2.more hb⟩
theorem Own.nrow {w : World} {base : Nat} {t : TypeId} {A : Option Addr} {n c : Nat} {l : List Nat} (h : Own w base t 1 A n c (ncells l)) : Nrow w w.heap.size A n c l :=
  ⟨by have := h.len; rw [ncells_length] at this; omega, h.le, h.row⟩
theorem decode_lt (x : Nat) : (Ecc.decode x).1 < 16777216 := by
  unfold Ecc.decode
  split
  · exact Ecc.data_lt _
  · split
    · exact Ecc.data_lt _
    · show 0 < _; omega
theorem word_lt (m : Cel.Mem) (a : Nat) : (Pg.word m a).1 < 16777216 := by
  unfold Pg.word
  split
  · show 0 < _; omega
  · exact decode_lt _
theorem rdK_lt (m : Cel.Mem) (f : Nat) : ∀ k, ∀ x ∈ (Pg.rdK m f k).1, x < 16777216 := by
  intro k
  induction k with
  | zero => intro x hx; cases hx
  | succ k ih =>
    intro x hx
    unfold Pg.rdK at hx
    split at hx
    · split at hx
      · rcases List.mem_append.1 hx with h | h
        · exact ih x h
        · obtain rfl := List.mem_singleton.1 h; exact word_lt _ _
      · cases hx
    · cases hx
theorem rdK_length (m : Cel.Mem) (f : Nat) : ∀ k, (Pg.rdK m f k).2.1 = true → (Pg.rdK m f k).1.length = k := by
  intro k
  induction k with
  | zero => intro _; rfl
  | succ k ih =>
    intro h
    unfold Pg.rdK at h ⊢
    split at h
    · rename_i h1
      rw [if_pos h1]
      split at h
      · rename_i h2
        rw [if_pos h2, List.length_append, ih h1]; rfl
      · cases h
    · cases h
theorem sealK_succ (l : List Nat) (k : Nat) (hk : k < l.length) (h : Nat) : Pg.sealK (l.take (k + 1)) h = Pg.mix (Pg.sealK (l.take k) h) (l.getD k 0) := by
  have e : l.getD k 0 = l[k] := by simp [List.getD, List.getElem?_eq_getElem hk]
  rw [List.take_succ_eq_append_getElem hk, e]
  unfold Pg.sealK
  generalize Pg.mix = f
  rw [List.foldl_append, List.foldl_cons, List.foldl_nil]
theorem mix_lt (h n : Nat) : Pg.mix h n < 16777216 := by
  have hx : ((h ^^^ n) * 3083085 + 79225) % 16777216 < 16777216 := Nat.mod_lt _ (by omega)
  unfold Pg.mix
  generalize ((h ^^^ n) * 3083085 + 79225) % 16777216 = x at *
  have := Nat.xor_lt_two_pow (x := x) (y := x / 2048) (n := 24) (by omega) (by omega)
  simpa using this
theorem sealK_lt (l : List Nat) (h : Nat) (hh : h < 16777216) : Pg.sealK l h < 16777216 := by
  induction l generalizing h with
  | nil => exact hh
  | cons x l ih =>
    have := ih (Pg.mix h x) (mix_lt h x)
    unfold Pg.sealK at *
    rw [List.foldl_cons]
    exact this
theorem and_low24 (y : Nat) (hy : y < 9223372036854775808) : bits BinOp.and IntKind.i64 (y : Int) 16777215 = ((y % 16777216 : Nat) : Int) := by
  have h1 := i64_and_nat y 16777215 hy (by omega)
  have h2 := Nat.and_two_pow_sub_one_eq_mod y 24
  simp only [Nat.reducePow, Nat.reduceSub] at h2
  rw [h2] at h1
  exact h1
theorem mix_bits (h x : Nat) (hxx : h ^^^ x < 16777216) : bits BinOp.xor IntKind.i64 (bits BinOp.and IntKind.i64 (((h ^^^ x : Nat) : Int) * 3083085 + 79225) 16777215) (bits BinOp.and IntKind.i64 (((h ^^^ x : Nat) : Int) * 3083085 + 79225) 16777215 / 2048) = ((Pg.mix h x : Nat) : Int) := by
  have e : ((h ^^^ x : Nat) : Int) * 3083085 + 79225 = (((h ^^^ x) * 3083085 + 79225 : Nat) : Int) := by omega
  rw [e, and_low24 _ (by omega)]
  unfold Pg.mix
  have hm : ((h ^^^ x) * 3083085 + 79225) % 16777216 < 16777216 := Nat.mod_lt _ (by omega)
  generalize ((h ^^^ x) * 3083085 + 79225) % 16777216 = y at *
  have e2 : (y : Int) / 2048 = ((y / 2048 : Nat) : Int) := by omega
  rw [e2, i64_xor_nat y (y / 2048) (by omega) (by omega)]
theorem page_seal (A : Option Addr) (n c : Nat) (l : List Nat) (w : World) (H : Nrow w w.heap.size A n c l) (hl : ∀ x ∈ l, x < 16777216) (hn : n < 1000000) :
    Calls Try.prog 50 #[.slice A n c] w fun e w' => e = .returned (.int .i64 (Pg.sealOf l : Int)) ∧ w = w' := by
  have HL := Lib.hid H.1
  have HH := Lib.hid H
  have HX := Lib.hid hl
  clear H hl
  go_enter Try.func50, Try.ntmps50
  go_wp2_with fail
  go_loopg [3, 8] n (fun g h i wr => ∃ k : Nat, k + g = n ∧ i = .int .i64 k ∧ h = .int .i64 (Pg.sealK (l.take k) 5904323 : Nat) ∧ w = wr)
  case atStart => exact ⟨0, by omega, rfl, rfl, rfl⟩
  case round =>
    obtain ⟨k, hk, rfl, rfl, rfl⟩ := hrel
    have hlt := sealK_lt (l.take k) 5904323 (by omega)
    cases gk with
    | zero =>
      obtain rfl : k = n := by omega
      have e1 := Lib.hid (show Pg.sealOf l = Pg.sealK (l.take k) 5904323 ||| 1 by rw [List.take_of_length_le (by rw [HL.out]; omega), Pg.sealOf])
      generalize Pg.sealK (l.take k) 5904323 = h at *
      have eo := i64_or_nat h 1 (by omega) (by omega)
      go_wp2_with fail
      go_ret
      exact ⟨by rw [e1.out, ← eo]; rfl, rfl⟩
    | succ g =>
      have i0 : (k : Int) < (n : Int) := by omega
      have p0 : (0 : Int) ≤ (k : Int) := by omega
      obtain ⟨b1, o1, rfl, hb1, c1⟩ := HH.out.at_ (k := k) (by omega)
      have hxl := HX.out (l.getD k 0) (by
        have hk2 : k < l.length := by rw [HL.out]; omega
        rw [List.getD, List.getElem?_eq_getElem hk2]; exact List.getElem_mem hk2)
      have hs := Lib.hid (sealK_succ l k (by rw [HL.out]; omega) 5904323)
      generalize Pg.sealK (l.take k) 5904323 = h at *
      generalize l.getD k 0 = x at *
      have ex := i64_xor_nat h x (by omega) (by omega)
      have hxx : h ^^^ x < 16777216 := Nat.xor_lt_two_pow (n := 24) hlt hxl
      have hb := Lib.hid (mix_bits h x hxx)
      go_wp2_with fail
      go_roundg g
      case measure => omega
      case rel => exact ⟨k + 1, by omega, by go_num, by rw [hs.out, hb.out], rfl⟩
theorem i_int' : (Try.prog.info? 3).map (fun i => (i.zero, i.size, i.bytes)) = some (some (.int .i64 0), 1, 8) := by kernel_rfl
/-- A frame's words that are read: the slice, whether all is right; only the count of fixed words turns. -/
def RdRes (w : World) (g : Nat) (G : Nat → Prop) (s : PgS) (p : Pg.P) (l : List Nat) (ok : Bool) (c : Nat) (e : Ending) (w' : World) : Prop :=
  ∃ A m, e = .returned (.tuple #[.slice A l.length m, .bool ok]) ∧ Own w' w.heap.size 3 1 A l.length m (ncells l) ∧ PAt w' g G s (p.more c) ∧ Only (fun q => q = g) w w'
theorem rdK_count (m : Cel.Mem) (f : Nat) : ∀ k, (Pg.rdK m f k).2.2 ≤ k := by
  have hw : ∀ a, (Pg.word m a).2.2 ≤ 1 := fun a => by
    unfold Pg.word
    split
    · exact Nat.zero_le _
    · dsimp only; split <;> omega
  intro k
  induction k with
  | zero => exact Nat.le_refl _
  | succ k ih =>
    have := hw (f * 20 + k)
    unfold Pg.rdK
    split
    · split <;> (dsimp only; omega)
    · dsimp only; omega
theorem more_more (p : Pg.P) (a b : Nat) : (p.more a).more b = p.more (a + b) := by simp [Pg.P.more, Nat.add_assoc]
theorem rdK_bad (m : Cel.Mem) (f k : Nat) (h : (Pg.rdK m f k).2.1 = false) : ∀ j, k ≤ j → (Pg.rdK m f j).1 = [] ∧ (Pg.rdK m f j).2.1 = false ∧ (Pg.rdK m f j).2.2 = (Pg.rdK m f k).2.2 := by
  have h0 : ∀ j, (Pg.rdK m f j).2.1 = false → (Pg.rdK m f j).1 = [] := by
    intro j
    cases j with
    | zero => intro h; cases h
    | succ j =>
      intro h
      unfold Pg.rdK at h ⊢
      split
      · rename_i h1
        rw [if_pos h1] at h
        split
        · rename_i h2
          rw [if_pos h2] at h
          cases h
        · rfl
      · rfl
  intro j hj
  induction j with
  | zero => obtain rfl : k = 0 := by omega
            exact ⟨h0 _ h, h, rfl⟩
  | succ j ih =>
    by_cases hkj : k = j + 1
    · subst hkj; exact ⟨h0 _ h, h, rfl⟩
    · obtain ⟨h1, h2, h3⟩ := ih (by omega)
      have : Pg.rdK m f (j + 1) = ([], false, (Pg.rdK m f j).2.2) := by
        rw [Pg.rdK, if_neg (by rw [h2]; decide)]
      rw [this]
      exact ⟨rfl, rfl, h3⟩
theorem rdK_yes (m : Cel.Mem) (f k : Nat) (h : (Pg.rdK m f k).2.1 = true) (hw : (Pg.word m (f * 20 + k)).2.1 = true) : (Pg.rdK m f (k + 1)).1 = (Pg.rdK m f k).1 ++ [(Pg.word m (f * 20 + k)).1] ∧ (Pg.rdK m f (k + 1)).2.1 = true ∧ (Pg.rdK m f (k + 1)).2.2 = (Pg.rdK m f k).2.2 + (Pg.word m (f * 20 + k)).2.2 := by
  rw [Pg.rdK, if_pos h, if_pos hw]; exact ⟨rfl, rfl, rfl⟩
theorem rdK_no (m : Cel.Mem) (f k : Nat) (h : (Pg.rdK m f k).2.1 = true) (hw : (Pg.word m (f * 20 + k)).2.1 = false) : (Pg.rdK m f (k + 1)).2.1 = false ∧ (Pg.rdK m f (k + 1)).2.2 = (Pg.rdK m f k).2.2 + (Pg.word m (f * 20 + k)).2.2 := by
  rw [Pg.rdK, if_pos h, if_neg (by rw [hw]; decide)]; exact ⟨rfl, rfl⟩
theorem read_bad (m : Cel.Mem) (f k : Nat) (hk : k ≤ 19) (h : (Pg.rdK m f k).2.1 = false) : Pg.read m f = ([], false, (Pg.rdK m f k).2.2) := by
  obtain ⟨h1, h2, h3⟩ := rdK_bad m f k h 19 hk
  rw [Pg.read, if_neg (by rw [h2]; decide), h3]
theorem read_good (m : Cel.Mem) (f : Nat) (h : (Pg.rdK m f 19).2.1 = true) : (Pg.read m f).1 = (Pg.rdK m f 19).1 ∧ (Pg.read m f).2.1 = ((Pg.word m (f * 20 + 19)).2.1 && ((Pg.word m (f * 20 + 19)).1 == Pg.sealOf (Pg.rdK m f 19).1)) ∧ (Pg.read m f).2.2 = (Pg.rdK m f 19).2.2 + (Pg.word m (f * 20 + 19)).2.2 := by
  rw [Pg.read, if_pos h]; exact ⟨rfl, rfl, rfl⟩
theorem ncells_one (l : List Nat) : ∀ u ∈ ncells l, u.oneCell' = true := by
  intro u hu
  obtain ⟨x, _, rfl⟩ := List.mem_map.1 hu
  rfl
theorem ncells_append (a b : List Nat) : ncells (a ++ b) = ncells a ++ ncells b := by simp [ncells]
theorem beq_cast (x z : Nat) : ((x : Int) == (z : Int)) = (x == z) := by
  rw [Bool.eq_iff_iff]; simp; omega
theorem app_only {w w' : World} {A : Option Addr} {c : Nat} (hg : w.grownBy w' (ownAt A c)) : Only (fun q => ownAt A c = some q) w w' := (Only.refl _ _).grown hg (fun _ e => e)
theorem Only.newer {R R' : Nat → Prop} {s w w' : World} (h : Only R s w) (ho : Only R' w w') (hR : ∀ q, R' q → s.heap.size ≤ q) : Only R s w' := h.more ho (fun q _ hq => .inr (hR q hq))
theorem page_read {w : World} {g : Nat} {G : Nat → Prop} {s : PgS} {p : Pg.P} (H : PAt w g G s p) (f : Nat) (hf : f < 100000000) (hfx : p.fixed + 20 < 4611686018427387904) :
    Calls Try.prog 54 #[.pointer (some ⟨g, 0, none⟩), .int .i64 (f : Int)] w (RdRes w g G s p (Pg.read p.m f).1 (Pg.read p.m f).2.1 (Pg.read p.m f).2.2) := by
  obtain ⟨ti, hi0, hz0, hz1, hz2⟩ := info_parts i_int'
  have HH := Lib.hid H
  have HFX := Lib.hid hfx
  clear H hfx
  go_enter Try.func54, Try.ntmps54
  go_wp2_with fail
  go_loopg [6, 12] 19 (fun g2 v i wr => ∃ (k : Nat) (A2 : Option Addr) (c2 : Nat), k + g2 = 19 ∧ i = .int .i64 k ∧ v = .slice A2 k c2 ∧ Hid ((Pg.rdK p.m f k).2.1 = true) ∧ Own wr w.heap.size 3 1 A2 k c2 (ncells (Pg.rdK p.m f k).1) ∧ PAt wr g G s (p.more (Pg.rdK p.m f k).2.2) ∧ Only (fun q => q = g) w wr)
  case atStart => exact ⟨0, none, 0, by omega, rfl, rfl, Lib.hid rfl, Own.none_ _ _ _ _ _, HH.out, Only.refl _ _⟩
  case round =>
    obtain ⟨k, A2, c2, hk, rfl, rfl, hok, hown, hp, hbw⟩ := hrel
    cases gk with
    | zero =>
      obtain rfl : k = 19 := by omega
      have hlen := rdK_length p.m f 19 hok.out
      have hcnt := rdK_count p.m f 19
      have hrl := rdK_lt p.m f 19
      obtain ⟨r1, r2, r3⟩ := read_good p.m f hok.out
      have R1 := Lib.hid r1; have R2 := Lib.hid r2; have R3 := Lib.hid r3
      have HP := Lib.hid hp
      have HW := page_word hp f 19 19 rfl (by omega) (by have := HFX.out; simp only [Pg.P.more]; omega)
      have HN := Lib.hid hown
      have HB := Lib.hid hbw
      clear r1 r2 r3 hp hown hbw
      have hg : g < w.heap.size := HH.out.lt g (HH.out.hg g (by simp))
      rw [show (p.more (Pg.rdK p.m f 19).2.2).m = p.m from rfl] at HW
      have HE : (∀ e w2, (e = .returned (.tuple #[.slice A2 19 c2, .bool ((Pg.word p.m (f * 20 + 19)).2.1 && ((Pg.word p.m (f * 20 + 19)).1 == Pg.sealOf (Pg.rdK p.m f 19).1))])) → PAt w2 g G s ((p.more (Pg.rdK p.m f 19).2.2).more (Pg.word p.m (f * 20 + 19)).2.2) → Only (fun q => q = g) wr w2 → RdRes w g G s p (Pg.read p.m f).1 (Pg.read p.m f).2.1 (Pg.read p.m f).2.2 e w2) := by
        intro e w2 he hp2 ho2
        rw [R1.out, R2.out, R3.out]
        rw [more_more] at hp2
        refine ⟨A2, c2, by rw [hlen]; exact he, ?_, hp2, HB.out.trans ho2⟩
        rw [hlen]
        exact HN.out.only' ho2 (fun q e e2 => by have := (HN.out.lt q e).1; omega)
      replace HE := Lib.hid HE
      cases hw : (Pg.word p.m (f * 20 + 19)).2.1 with
      | true =>
        rw [hw] at HW HE
        replace HW := Lib.hid HW
        clear hw R1 R2 R3 hcnt
        generalize (Pg.word p.m (f * 20 + 19)).1 = x at *
        have HS : (∀ u, Own u w.heap.size 3 1 A2 19 c2 (ncells (Pg.rdK p.m f 19).1) → Calls Try.prog 50 #[.slice A2 19 c2] u fun e w' => e = .returned (.int .i64 (Pg.sealOf (Pg.rdK p.m f 19).1 : Int)) ∧ u = w') := fun u hu => page_seal A2 19 c2 _ u hu.nrow hrl (by omega)
        replace HS := Lib.hid HS
        clear hrl
        generalize Pg.sealOf (Pg.rdK p.m f 19).1 = z at *
        go_wp2_with fail
        go_at_call 57
        refine HW.out.mono ?_
        rintro e w2 ⟨rfl, hp2, ho2⟩
        have hown2 := Lib.hid (HN.out.only' ho2 (fun q e e2 => by have := (HN.out.lt q e).1; omega))
        go_wp2_with (go_at_call 50; refine (HS.out _ hown2.out).mono ?_; rintro e w3 ⟨rfl, rfl⟩)
        go_ret2
        exact HE.out _ _ (by simp [beq_cast]) hp2 ho2
      | false =>
        rw [hw] at HW HE
        replace HW := Lib.hid HW
        clear hw R1 R2 R3 hcnt hrl
        generalize (Pg.word p.m (f * 20 + 19)).1 = x at *
        go_wp2_with fail
        go_at_call 57
        refine HW.out.mono ?_
        rintro e w2 ⟨rfl, hp2, ho2⟩
        go_wp2_with fail
        go_ret2
        exact HE.out _ _ (by simp) hp2 ho2
    | succ g2 =>
      have i0 : (k : Int) < 19 := by omega
      have hcnt := rdK_count p.m f k
      have hlen := rdK_length p.m f k hok.out
      have HW := page_word hp f k k rfl (by omega) (by have := HFX.out; simp only [Pg.P.more]; omega)
      have HN := Lib.hid hown
      have HB := Lib.hid hbw
      have hg : g < w.heap.size := HH.out.lt g (HH.out.hg g (by simp))
      have hwl := hbw.size
      clear hp hown hbw
      rw [show (p.more (Pg.rdK p.m f k).2.2).m = p.m from rfl] at HW
      cases hw : (Pg.word p.m (f * 20 + k)).2.1 with
      | false =>
        obtain ⟨n1, n2⟩ := rdK_no p.m f k hok.out hw
        have hr := read_bad p.m f (k + 1) (by omega) n1
        rw [n2] at hr
        have HR := Lib.hid hr
        rw [hw] at HW
        replace HW := Lib.hid HW
        clear hw n1 n2 hr hcnt hlen
        go_wp2_with fail
        go_at_call 57
        refine HW.out.mono ?_
        rintro e w2 ⟨rfl, hp2, ho2⟩
        go_wp2_with fail
        go_ret2
        rw [HR.out]
        rw [more_more] at hp2
        exact ⟨none, 0, rfl, Own.none_ _ _ _ _ _, hp2, HB.out.trans ho2⟩
      | true =>
        obtain ⟨y1, y2, y3⟩ := rdK_yes p.m f k hok.out hw
        have Y1 := Lib.hid y1; have Y3 := Lib.hid y3; have Y2 := Lib.hid y2
        rw [hw] at HW
        replace HW := Lib.hid HW
        clear hw y1 y2 y3 hcnt
        generalize (Pg.word p.m (f * 20 + k)).1 = x at *
        go_wp2_with fail
        go_at_call 57
        refine HW.out.mono ?_
        rintro e w2 ⟨rfl, hp2, ho2⟩
        have hown2 := HN.out.only' ho2 (fun q e e2 => by have := (HN.out.lt q e).1; omega)
        have hsz := ho2.size
        go_wp2_with (at_builtin; refine wpList_append _ rfl (.tmp 24) (.tmp 26) 63 rfl w.heap.size 3 ti _ 1 8 Try.underlying63 hi0 hz0 hz1 hz2 rfl (by omega) A2 k c2 (ncells (Pg.rdK p.m f k).1) rfl (hown2.alloc _) (w2.heap.size + 1) (some ⟨w2.heap.size, 0, none⟩) 1 1 (ncells [x]) rfl (Row.new w2 rfl) (by simp [ncells]) (ncells_one _) (by unfold maxLen; omega) (by omega) (by simp; omega) ?_; intro A3 c3 w4 hown4 hg4 hat4)
        go_roundg g2
        case measure => omega
        case rel =>
          rw [more_more] at hp2
          have hO : Only (fun q => w.heap.size ≤ q) w2 w4 := ((Only.refl (fun q => w.heap.size ≤ q) w2).alloc _).trans ((app_only hg4).mono (fun q _ e => (HN.out.lt q e).1))
          refine ⟨k + 1, A3, c3, by omega, by go_num, rfl, Y2.out, ?_, ?_, ?_⟩
          · rw [Y1.out, ncells_append]; exact hown4
          · rw [Y3.out]; exact hp2.away hO (fun q hq h2 => by have := HH.out.lt q hq; omega)
          · exact (HB.out.trans ho2).newer hO (fun q hq => hq)
end Go.Proofs.Ytnlhammgcemchaa
