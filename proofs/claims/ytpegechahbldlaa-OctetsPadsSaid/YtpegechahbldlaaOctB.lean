/-
  The walks of the library of strings of bytes: digit, Parse, Xor.
-/
import Derived.Test.YtpegechahbldlaaOctA
namespace Go.Proofs.Ytpegechahbldlaa
open Go.RowKit

set_option maxHeartbeats 1000000 in
theorem octets_digit (r : Nat) (w : World) (hr : r ≤ 2147483647) :
    Calls Try.prog 35 #[.int .i32 (r : Int)] w fun e w' => e = .returned (.int .i64 (Oct.dv r)) ∧ w = w' := by
  by_cases h1 : 48 ≤ r
  · by_cases h2 : r ≤ 57
    · have e : Oct.dv r = (r : Int) - 48 := by unfold Oct.dv; rw [if_pos ⟨h1, h2⟩]
      have E := Lib.hid e
      clear e
      have t1 : decide ((48 : Int) ≤ (r : Int)) = true := by simp; omega
      have t2 : decide ((r : Int) ≤ 57) = true := by simp; omega
      go_enter Try.func35, Try.ntmps35
      go_wp2_with fail
      go_ret
      exact ⟨ret_int (by rw [E.out]), rfl⟩
    · by_cases h3 : 97 ≤ r
      · by_cases h4 : r ≤ 102
        · have e : Oct.dv r = (r : Int) - 87 := by unfold Oct.dv; rw [if_neg (by omega), if_pos ⟨h3, h4⟩]
          have E := Lib.hid e
          clear e
          have t1 : decide ((48 : Int) ≤ (r : Int)) = true := by simp; omega
          have t2 : decide ((r : Int) ≤ 57) = false := by simp; omega
          have t3 : decide ((97 : Int) ≤ (r : Int)) = true := by simp; omega
          have t4 : decide ((r : Int) ≤ 102) = true := by simp; omega
          go_enter Try.func35, Try.ntmps35
          go_wp2_with fail
          go_ret
          exact ⟨ret_int (by rw [E.out]; omega), rfl⟩
        · have e : Oct.dv r = -1 := by unfold Oct.dv; rw [if_neg (by omega), if_neg (by omega), if_neg (by omega)]
          rw [e]
          clear e
          have t1 : decide ((48 : Int) ≤ (r : Int)) = true := by simp; omega
          have t2 : decide ((r : Int) ≤ 57) = false := by simp; omega
          have t3 : decide ((97 : Int) ≤ (r : Int)) = true := by simp; omega
          have t4 : decide ((r : Int) ≤ 102) = false := by simp; omega
          have t5 : decide ((65 : Int) ≤ (r : Int)) = true := by simp; omega
          have t6 : decide ((r : Int) ≤ 70) = false := by simp; omega
          go_enter Try.func35, Try.ntmps35
          go_wp2_with fail
          go_ret
          exact ⟨rfl, rfl⟩
      · have t1 : decide ((48 : Int) ≤ (r : Int)) = true := by simp; omega
        have t2 : decide ((r : Int) ≤ 57) = false := by simp; omega
        have t3 : decide ((97 : Int) ≤ (r : Int)) = false := by simp; omega
        by_cases h5 : 65 ≤ r
        · by_cases h6 : r ≤ 70
          · have e : Oct.dv r = (r : Int) - 55 := by unfold Oct.dv; rw [if_neg (by omega), if_neg (by omega), if_pos ⟨h5, h6⟩]
            have E := Lib.hid e
            clear e
            have t5 : decide ((65 : Int) ≤ (r : Int)) = true := by simp; omega
            have t6 : decide ((r : Int) ≤ 70) = true := by simp; omega
            go_enter Try.func35, Try.ntmps35
            go_wp2_with fail
            go_ret
            exact ⟨ret_int (by rw [E.out]; omega), rfl⟩
          · have e : Oct.dv r = -1 := by unfold Oct.dv; rw [if_neg (by omega), if_neg (by omega), if_neg (by omega)]
            rw [e]
            clear e
            have t5 : decide ((65 : Int) ≤ (r : Int)) = true := by simp; omega
            have t6 : decide ((r : Int) ≤ 70) = false := by simp; omega
            go_enter Try.func35, Try.ntmps35
            go_wp2_with fail
            go_ret
            exact ⟨rfl, rfl⟩
        · have e : Oct.dv r = -1 := by unfold Oct.dv; rw [if_neg (by omega), if_neg (by omega), if_neg (by omega)]
          rw [e]
          clear e
          have t5 : decide ((65 : Int) ≤ (r : Int)) = false := by simp; omega
          go_enter Try.func35, Try.ntmps35
          go_wp2_with fail
          go_ret
          exact ⟨rfl, rfl⟩
  · have e : Oct.dv r = -1 := by unfold Oct.dv; rw [if_neg (by omega), if_neg (by omega), if_neg (by omega)]
    rw [e]
    clear e
    have t1 : decide ((48 : Int) ≤ (r : Int)) = false := by simp; omega
    have t3 : decide ((97 : Int) ≤ (r : Int)) = false := by simp; omega
    have t5 : decide ((65 : Int) ≤ (r : Int)) = false := by simp; omega
    go_enter Try.func35, Try.ntmps35
    go_wp2_with fail
    go_ret
    exact ⟨rfl, rfl⟩

/-- The bytes while k digits are read. -/
def outK (s : List UInt8) (k : Nat) : List UInt8 := (List.range (s.length / 2)).map fun j => if 2 * j + 1 < k then UInt8.ofNat (Oct.dn (s.getD (2 * j) 0) * 16 + Oct.dn (s.getD (2 * j + 1) 0)) else if 2 * j < k then UInt8.ofNat (Oct.dn (s.getD (2 * j) 0)) else 0
theorem outK_zero (s : List UInt8) : outK s 0 = zs (s.length / 2) := by
  unfold outK zs
  apply List.ext_getElem
  · simp
  · intro j h1 h2; simp
theorem outK_get (s : List UInt8) (k j : Nat) (h : j < s.length / 2) : (outK s k).getD j 0 = if 2 * j + 1 < k then UInt8.ofNat (Oct.dn (s.getD (2 * j) 0) * 16 + Oct.dn (s.getD (2 * j + 1) 0)) else if 2 * j < k then UInt8.ofNat (Oct.dn (s.getD (2 * j) 0)) else 0 := by
  rw [List.getD, List.getElem?_eq_getElem (by simpa [outK] using h)]; simp [outK]
theorem outK_length (s : List UInt8) (k : Nat) : (outK s k).length = s.length / 2 := by simp [outK]
theorem outK_full (s : List UInt8) (h : s.length % 2 = 0) : outK s s.length = Oct.prs s := by
  apply List.ext_getElem
  · rw [outK_length, Oct.prs_length]
  · intro j h1 h2
    have hj : 2 * j + 1 < s.length := by rw [outK_length] at h1; omega
    have := Oct.prs_get s j hj
    rw [List.getD, List.getElem?_eq_getElem h2, Option.getD_some] at this
    rw [this]
    simp [outK, hj]
theorem outK_set (s : List UInt8) (k : Nat) (hk : k < s.length / 2 * 2) : (outK s k).set (k / 2) (UInt8.ofNat (((outK s k).getD (k / 2) 0).toNat * 16 % 256 + Oct.dn (s.getD k 0))) = outK s (k + 1) := by
  have hj : k / 2 < s.length / 2 := by omega
  rw [outK_get s k (k / 2) hj]
  apply List.ext_getElem
  · simp [outK]
  · intro i h1 h2
    rw [List.getElem_set]
    simp only [outK, List.getElem_map, List.getElem_range]
    by_cases e : k / 2 = i
    · subst e
      rw [if_pos rfl, if_neg (by omega)]
      have d0 := Oct.dn_lt (s.getD (2 * (k / 2)) 0)
      rcases Nat.mod_two_eq_zero_or_one k with hm | hm
      · have ek : 2 * (k / 2) = k := by omega
        rw [ek, if_neg (by omega), if_neg (by omega), if_pos (by omega)]
        simp
      · have ek : 2 * (k / 2) + 1 = k := by omega
        have ek2 : s.getD (2 * (k / 2) + 1) 0 = s.getD k 0 := by rw [ek]
        rw [if_pos (by omega), if_pos (by omega), ek2, UInt8.toNat_ofNat_of_lt' (by simp only [UInt8.size]; omega), Nat.mod_eq_of_lt (by omega)]
    · rw [if_neg e]
      by_cases h3 : 2 * i + 1 < k
      · rw [if_pos h3, if_pos (by omega)]
      · rw [if_neg h3, if_neg (by omega), if_neg (by omega), if_neg (by omega)]
theorem bcells_set (bs : List UInt8) (i : Nat) (x : UInt8) : bcells (bs.set i x) = (bcells bs).set i (B8 x) := by simp [bcells, List.map_set]
theorem or_digit (x d : Nat) (hd : d < 16) : bits BinOp.or IntKind.u8 ((x : Int) * 16 % 256) (d : Int) = ((x * 16 % 256 + d : Nat) : Int) := by
  rw [show (x : Int) * 16 % 256 = ((x * 16 % 256 : Nat) : Int) by omega, u8_or_nat _ _ (by omega) (by omega), nat_join 4 _ _ (by omega) (by omega)]

theorem Only.iterAt (w : World) (K : Nat) (s : ByteArray) (p : Nat) : Only (fun q => q = K) w (w.iterAt K s p) :=
  ⟨rfl, rfl, rfl, by rw [Lib.iterAt_size]; exact Nat.le_refl _, fun q _ hq => Lib.iterAt_other w K q s p hq⟩
theorem rune_dv (s : ByteArray) (k : Nat) (h : k < s.size) : Oct.dv (Utf8.decode s k).1 = Oct.dv (s.data.toList.getD k 0).toNat ∧ (0 ≤ Oct.dv (s.data.toList.getD k 0).toNat → (Utf8.decode s k).2 = 1) := by
  have e : s.data.toList.getD k 0 = s[k]'h := by
    rw [List.getD, List.getElem?_eq_getElem (by simpa using h)]; rfl
  rw [e]
  by_cases ha : (s[k]'h).toNat < 128
  · rw [decode_ascii s k h ha]; exact ⟨rfl, fun _ => rfl⟩
  · have hh := (decode_high s k h (by omega)).1
    rw [Oct.dv_high _ hh, Oct.dv_high _ (by omega)]
    exact ⟨rfl, fun h0 => by omega⟩
theorem prOk_bad (l : List UInt8) (k : Nat) (h : k < l.length) (hd : ¬ 0 ≤ Oct.dv (l.getD k 0).toNat) : Oct.prB l = [] ∧ Oct.prE l = 4 := by
  have : Oct.prOk l = false := by
    unfold Oct.prOk
    rw [Bool.and_eq_false_iff]
    right
    rw [List.all_eq_false]
    refine ⟨l[k], List.getElem_mem h, ?_⟩
    unfold Oct.isD
    rw [List.getD, List.getElem?_eq_getElem h] at hd
    simpa using hd
  constructor
  · unfold Oct.prB; rw [this]; rfl
  · unfold Oct.prE; rw [this]; rfl
theorem prOk_good (l : List UInt8) (h : l.length % 2 = 0) (hd : ∀ j, j < l.length → 0 ≤ Oct.dv (l.getD j 0).toNat) : Oct.prB l = Oct.prs l ∧ Oct.prE l = 0 := by
  have : Oct.prOk l = true := by
    unfold Oct.prOk
    rw [h]
    simp only [beq_self_eq_true, Bool.true_and]
    rw [List.all_eq_true]
    intro c hc
    obtain ⟨j, hj, rfl⟩ := List.mem_iff_getElem.1 hc
    have := hd j hj
    rw [List.getD, List.getElem?_eq_getElem hj] at this
    unfold Oct.isD
    simpa using this
  constructor
  · unfold Oct.prB; rw [this]; rfl
  · unfold Oct.prE; rw [this]; rfl

set_option maxHeartbeats 4000000 in
theorem octets_Parse (s : ByteArray) (w : World) (hs : s.size ≤ 1000000) :
    Calls Try.prog 11 #[.string s] w (BRes 5 w (Oct.prB s.data.toList) (Oct.prE s.data.toList)) := by
  obtain ⟨ti, hti, hz0, hz1, hz2⟩ := info_parts o_u8
  obtain ⟨l, hl⟩ : ∃ l, l = s.data.toList := ⟨_, rfl⟩
  have hls : l.length = s.size := by rw [hl]; exact Array.length_toList
  rw [← hl]
  by_cases hev : s.size % 2 = 0
  · have mk : ∀ u : World, (Instr.makeSlice 22 (.int .i64 ((s.size : Int) / 2)) (.int .i64 ((s.size : Int) / 2))).run Try.prog u = .ok (.slice (some ⟨u.heap.size, 0, none⟩) (s.size / 2) (s.size / 2)) (u.alloc (.cells (madeCells #[.int .u8 0] (s.size / 2)) 5)) :=
      made_u8 22 5 ti Try.underlying22 hti hz0 hz1 hz2 (s.size / 2) (by omega)
    have hne : ((s.size : Int) % 2 != 0) = false := by rw [bne_eq_false_iff_eq]; omega
    have hown0 : ∀ (W : World), Blk W w.heap.size 5 (madeCells #[.int .u8 0] (s.size / 2)) → Own W w.heap.size 5 1 (some ⟨w.heap.size, 0, none⟩) (s.size / 2) (s.size / 2) (bcells (outK l 0)) := by
      intro W hb
      rw [outK_zero, hls, ← bcells_zs]
      exact Own.made hb (Nat.le_refl _) (by unfold maxLen; omega)
    have HO := Lib.hid hown0
    have HL := Lib.hid hls
    have HLL := Lib.hid hl
    have HEV := Lib.hid hev
    clear hown0 hl hls hev
    go_enter Try.func11, Try.ntmps11
    go_wp2_with fail
    go_loopg [5] s.size (fun g v wr => ∃ k : Nat, k + g = s.size ∧ wr.heap[w.heap.size + 1]? = some (.stringIter s k) ∧ Hid (∀ j, j < k → 0 ≤ Oct.dv (l.getD j 0).toNat) ∧ Own wr w.heap.size 5 1 (some ⟨w.heap.size, 0, none⟩) (s.size / 2) (s.size / 2) (bcells (outK l k)) ∧ Below w.heap.size w wr)
    case atStart =>
      refine ⟨0, by omega, by have := World.iter_heap (w.alloc (Obj.cells (madeCells #[Value.int IntKind.u8 0] (s.size / 2)) 5)) s 0; simpa using this, Lib.hid (fun j hj => absurd hj (Nat.not_lt_zero j)), HO.out _ ((Blk.new' _ rfl rfl).alloc _), ((Below.refl _ _).alloc (Nat.le_refl _) _).alloc (by simp) _⟩
    case round =>
      obtain ⟨k, hk, hit, hall, hown, hbw⟩ := hrel
      cases gk with
      | zero =>
        have hks : ¬ k < s.size := by omega
        have hnx : ∀ ty, (Instr.next (.pointer (some ⟨w.heap.size + 1, 0, none⟩)) true ty).run Try.prog wr = _ := fun ty => Lib.run_next_end_at wr (w.heap.size + 1) s k ty hit hks
        have hks2 : k = l.length := by rw [HL.out]; omega
        have hg := prOk_good l (by rw [HL.out]; exact HEV.out) (fun j hj => hall.out j (by rw [hks2]; exact hj))
        rw [hks2, outK_full l (by rw [HL.out]; exact HEV.out)] at hown
        have HG := Lib.hid hg
        clear hg hks2
        go_wp2_with fail
        go_ret2
        rw [HG.out.1, HG.out.2]
        exact BRes.mk (by rw [Oct.prs_length, HL.out]) hown hbw
      | succ g =>
        have hks : k < s.size := by omega
        have hkl : k < l.length := by rw [HL.out]; exact hks
        have hnx : ∀ ty, (Instr.next (.pointer (some ⟨w.heap.size + 1, 0, none⟩)) true ty).run Try.prog wr = _ := fun ty => Lib.run_next_any_at wr (w.heap.size + 1) s k ty hit hks
        obtain ⟨hd1, hd2⟩ := rune_dv s k hks
        rw [← HLL.out] at hd1 hd2
        have hdle := decode_le s k
        have hset := Lib.hid (outK_set l k (by have := HEV.out; rw [HL.out]; omega))
        have hlt16 := Oct.dn_lt (l.getD k 0)
        by_cases hd0 : 0 ≤ Oct.dv (l.getD k 0).toNat
        · have hw1 := hd2 hd0
          rw [hw1] at hnx
          have hdn : Oct.dv (Utf8.decode s k).1 = (Oct.dn (l.getD k 0) : Int) := by rw [hd1]; unfold Oct.dn; omega
          have HD := Lib.hid hdn
          have HD0 := Lib.hid hd0
          have hall2 : Hid (∀ j, j < k + 1 → 0 ≤ Oct.dv (l.getD j 0).toNat) := fun j hj => by
            rcases Nat.lt_or_ge j k with h | h
            · exact hall.out j h
            · obtain rfl : j = k := by omega
              exact hd0
          have hown2 := hown.only (Only.iterAt wr (w.heap.size + 1) s (k + 1)) (by intro q hq; simp at hq; omega)
          have hit2 := Lib.iterAt_heap wr (w.heap.size + 1) s k (k + 1) hit
          have hbw2 := Lib.below_iterAt hbw (k := w.heap.size + 1) (by omega) s (k + 1)
          clear hd1 hd2 hdn hd0 hw1 hown hbw hit hall
          generalize (Utf8.decode s k).1 = r at *
          generalize wr.iterAt (w.heap.size + 1) s (k + 1) = wi at *
          obtain ⟨q, hq, hqb, hqs, hcell, hfr, hstore⟩ := hown2.elem (i := k / 2) (by have := HEV.out; omega)
          obtain rfl : w.heap.size = q := by simpa using hq
          have hcell2 : wi.cell? ⟨w.heap.size, k / 2, none⟩ = some (.int .u8 (((outK l k).getD (k / 2) 0).toNat : Int)) := by
            rw [hcell, bcells_get, List.getD, List.getElem?_eq_getElem (by rw [outK_length, HL.out]; have := HEV.out; omega)]; rfl
          have hst := Lib.hid (hstore (B8 (UInt8.ofNat (((outK l k).getD (k / 2) 0).toNat * 16 % 256 + Oct.dn (l.getD k 0)))))
          have i1 : (k : Int) / 2 < ((s.size : Int) / 2) := by have := HEV.out; omega
          have i0 : 0 ≤ (k : Int) / 2 := by omega
          clear hcell hstore hq
          generalize ((outK l k).getD (k / 2) 0).toNat = x at *
          generalize Oct.dn (l.getD k 0) = d at *
          have hor := Lib.hid (or_digit x d hlt16)
          go_wp2_with fail
          refine (octets_digit r _ hdle).mono ?_
          rintro e w2 ⟨rfl, rfl⟩
          rw [HD.out]
          go_wp2_with fail
          go_roundg g
          case measure => omega
          case rel =>
            refine ⟨k + 1, by omega, ?_, hall2, ?_, ?_⟩
            · exact (Below.heap_setCell wi _ _ (w.heap.size + 1) (by simp)).trans hit2
            · rw [← hset.out, bcells_set, hor.out]
              have := hst.out
              rw [B8, UInt8.toNat_ofNat_of_lt' (by simp only [UInt8.size]; omega)] at this
              rw [B8, UInt8.toNat_ofNat_of_lt' (by simp only [UInt8.size]; omega)]
              exact this
            · exact hbw2.setCell (by simp) _
        · have HBAD := Lib.hid (prOk_bad l k hkl hd0)
          have hbw2 := Lib.below_iterAt hbw (k := w.heap.size + 1) (by omega) s (k + (Utf8.decode s k).2)
          have hneg : Hid (Oct.dv (Utf8.decode s k).1 = -1) := by
            show _ = _
            rw [hd1]; have := Oct.dv_bd (l.getD k 0).toNat; omega
          clear hd1 hd2 hd0
          generalize (Utf8.decode s k).1 = r at *
          go_wp2_with fail
          refine (octets_digit r _ hdle).mono ?_
          rintro e w2 ⟨rfl, rfl⟩
          rw [hneg.out]
          go_wp2_with fail
          go_ret2
          rw [HBAD.out.1, HBAD.out.2]
          exact BRes.nil _ hbw2
  · have e1 : Oct.prB l = [] ∧ Oct.prE l = 4 := by
      have : Oct.prOk l = false := by unfold Oct.prOk; rw [hls]; simp [show (s.size % 2 == 0) = false by simpa using hev]
      constructor
      · unfold Oct.prB; rw [this]; rfl
      · unfold Oct.prE; rw [this]; rfl
    rw [e1.1, e1.2]
    have hne : ((s.size : Int) % 2 != 0) = true := by rw [bne_iff_ne]; omega
    clear e1 hl hls hev
    go_enter Try.func11, Try.ntmps11
    go_wp2_with fail
    go_ret2
    exact BRes.nil _ (Below.refl _ _)
end Go.Proofs.Ytpegechahbldlaa
