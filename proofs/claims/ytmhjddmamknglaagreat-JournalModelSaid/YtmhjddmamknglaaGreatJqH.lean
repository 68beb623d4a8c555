/-
  The journal: JournalModel.
-/
import Derived.Test.YtmhjddmamknglaaGreatZ0
import Derived.Test.YtmhjddmamknglaaGreatJqF
namespace Go.Proofs.YtmhjddmamknglaaGreat
set_option maxRecDepth 100000
set_option linter.unusedSimpArgs false
set_option linter.unusedVariables false
open Go.RowKit
set_option maxHeartbeats 8000000

theorem rread_len (S : List UInt8) (off n : Int) : (Jn.rread S off n).1.length ≤ S.length := by
  unfold Jn.rread
  split
  · exact Nat.zero_le _
  · show ((S.drop off.toNat).take n.toNat).length ≤ S.length
    rw [List.length_take, List.length_drop]
    omega
theorem law_JournalModel (A : Option Addr) (nn cc : Nat) (ll : List CL) (off k : Int) (w0 : World) (hll : CsB w0 A nn cc ll) (ho : -9223372036854775808 ≤ off ∧ off ≤ 9223372036854775807) :
    Calls Tryz.prog 4 #[.slice A nn cc, .int .i64 off, .int .i64 k] w0 fun e w' => e = .returned (.bool true) ∧ Below w0.heap.size w0 w' := by
  have HC := Lib.hid (Scn.start w0)
  have hm := HC.out.rebase
  have HLL := Lib.hid hll
  have HO := Lib.hid ho
  clear hll ho
  by_cases h8 : 8 < nn
  · have d1 : decide (8 < (nn : Int)) = true := decide_eq_true (by omega)
    have d2 : decide (8 < nn) = true := decide_eq_true h8
    clear h8
    go_enter Tryz.func4, Tryz.ntmps4
    go_wp2_with (first | go_skip | ((with_reducible show wpList _ _ _ _ _ (World.alloc _ _)); refine wpList_up hm ?_; clear hm; intro n w hn hn2 hk hm hd hd2 ho; (try rw [← hn]); replace hn := Nat.le_of_eq hn.symm) | ((first | ((with_reducible show wpList _ _ _ (Oper.mk _ (Op.box _ _) _ _ _ _ :: _) _ _); (refine bxA hm ?_; clear hm; intro n w hn hz hm ho; (try simp only [List.cons_append, List.nil_append] at hm))) | ((with_reducible show wpList _ _ _ (Oper.mk _ (Op.load _ _) _ _ _ _ :: _) _ _); first | (refine ldA hm ?_) | (refine laA hm ?_)) | ((with_reducible show wpList _ _ _ (Oper.mk _ (Op.store _ _ _) _ _ _ _ :: _) _ _); (refine stA hm ?_; clear hm; intro w hz hm ho)) | ((with_reducible show wpList _ _ _ (Oper.mk _ (Op.alloc _) _ _ _ _ :: _) _ _); (refine alA hm ?_; clear hm; intro n w hn hz hm ho; (try simp only [List.cons_append, List.nil_append] at hm)))); try simp only [Act.put, sxQ]))
    go_ret
    exact ⟨rfl, (HC.out.resync hm).low⟩
  · have d1 : decide (8 < (nn : Int)) = false := decide_eq_false (by omega)
    have d2 : decide (8 < nn) = false := decide_eq_false h8
    have HN8 := Lib.hid (show nn ≤ 8 by omega)
    clear h8
    go_enter Tryz.func4, Tryz.ntmps4
    go_wp2_with (first | go_skip | ((with_reducible show wpList _ _ _ _ _ (World.alloc _ _)); refine wpList_up hm ?_; clear hm; intro n w hn hn2 hk hm hd hd2 ho; (try rw [← hn]); replace hn := Nat.le_of_eq hn.symm) | ((first | ((with_reducible show wpList _ _ _ (Oper.mk _ (Op.box _ _) _ _ _ _ :: _) _ _); (refine bxA hm ?_; clear hm; intro n w hn hz hm ho; (try simp only [List.cons_append, List.nil_append] at hm))) | ((with_reducible show wpList _ _ _ (Oper.mk _ (Op.load _ _) _ _ _ _ :: _) _ _); first | (refine ldA hm ?_) | (refine laA hm ?_)) | ((with_reducible show wpList _ _ _ (Oper.mk _ (Op.store _ _ _) _ _ _ _ :: _) _ _); (refine stA hm ?_; clear hm; intro w hz hm ho)) | ((with_reducible show wpList _ _ _ (Oper.mk _ (Op.alloc _) _ _ _ _ :: _) _ _); (refine alA hm ?_; clear hm; intro n w hn hz hm ho; (try simp only [List.cons_append, List.nil_append] at hm)))); try simp only [Act.put, sxQ]))
    go_at_call 6
    refine (law12_begin 2048 (by decide) (by decide) _).mono ?_
    rintro e w3 ⟨hb3, g, gj, G, s, p, st, rfl, hsp, hG, hL, hS, hlen⟩
    have hc2 := (HC.out.resync hm).born hb3 hsp.sup hG
    have HL := Lib.hid hL
    obtain ⟨S0, hS0⟩ : ∃ S0 : List UInt8, S0 = List.replicate (48 * (85 - 32)) 0 := ⟨_, rfl⟩
    have HS0 := Lib.hid (show S0.length = 2544 ∧ S0 = List.replicate (48 * (85 - 32)) 0 from ⟨by rw [hS0]; simp, hS0⟩)
    have HS := Lib.hid (show Jn.Good st S0 by rw [hS0]; exact hS)
    have HLEN := Lib.hid (show st.length = 85 from hlen)
    have HCT85 : Hid (∀ u, Spc u g gj G s p → Calls Tryz.prog 8 #[.pointer (some ⟨g, 0, none⟩)] u fun e w' => e = .returned (.int .i64 85) ∧ Below u.heap.size u w') := Lib.hid fun u h => (sp_Count h hL).mono fun e w' ⟨h1, h2⟩ => ⟨by rw [h1, HLEN.out]; rfl, h2⟩
    clear hb3 hsp hG hL hS hlen hS0
    clear HC hm
    simp only [List.nil_append, List.cons_append, List.set_cons_zero, List.set_cons_succ] at hc2
    have HC := Lib.hid hc2
    clear hc2
    have hm := HC.out.rebase
    go_wp2_with (first | go_skip | ((with_reducible show wpList _ _ _ _ _ (World.alloc _ _)); refine wpList_up hm ?_; clear hm; intro n w hn hn2 hk hm hd hd2 ho; (try rw [← hn]); replace hn := Nat.le_of_eq hn.symm) | ((first | ((with_reducible show wpList _ _ _ (Oper.mk _ (Op.box _ _) _ _ _ _ :: _) _ _); (refine bxA hm ?_; clear hm; intro n w hn hz hm ho; (try simp only [List.cons_append, List.nil_append] at hm))) | ((with_reducible show wpList _ _ _ (Oper.mk _ (Op.load _ _) _ _ _ _ :: _) _ _); first | (refine ldA hm ?_) | (refine laA hm ?_)) | ((with_reducible show wpList _ _ _ (Oper.mk _ (Op.store _ _ _) _ _ _ _ :: _) _ _); (refine stA hm ?_; clear hm; intro w hz hm ho)) | ((with_reducible show wpList _ _ _ (Oper.mk _ (Op.alloc _) _ _ _ _ :: _) _ _); (refine alA hm ?_; clear hm; intro n w hn hz hm ho; (try simp only [List.cons_append, List.nil_append] at hm)))); try simp only [Act.put, sxQ]))
    obtain ⟨b7, h9⟩ := hm.nm 0 rfl
    dsimp only at h9
    subst h9
    go_at_call 8
    refine (HCT85.out _ ((HC.out.resync hm).obj 0 rfl)).mono ?_
    rintro e w4 ⟨rfl, hb4⟩
    have hc2 := (HC.out.resync hm).below hb4
    clear hb4 HCT85
    clear HC hm
    simp only [List.nil_append, List.cons_append, List.set_cons_zero, List.set_cons_succ] at hc2
    have HC := Lib.hid hc2
    clear hc2
    have hm := HC.out.rebase
    go_wp2_with (first | go_skip | ((with_reducible show wpList _ _ _ _ _ (World.alloc _ _)); refine wpList_up hm ?_; clear hm; intro n w hn hn2 hk hm hd hd2 ho; (try rw [← hn]); replace hn := Nat.le_of_eq hn.symm) | ((first | ((with_reducible show wpList _ _ _ (Oper.mk _ (Op.box _ _) _ _ _ _ :: _) _ _); (refine bxA hm ?_; clear hm; intro n w hn hz hm ho; (try simp only [List.cons_append, List.nil_append] at hm))) | ((with_reducible show wpList _ _ _ (Oper.mk _ (Op.load _ _) _ _ _ _ :: _) _ _); first | (refine ldA hm ?_) | (refine laA hm ?_)) | ((with_reducible show wpList _ _ _ (Oper.mk _ (Op.store _ _ _) _ _ _ _ :: _) _ _); (refine stA hm ?_; clear hm; intro w hz hm ho)) | ((with_reducible show wpList _ _ _ (Oper.mk _ (Op.alloc _) _ _ _ _ :: _) _ _); (refine alA hm ?_; clear hm; intro n w hn hz hm ho; (try simp only [List.cons_append, List.nil_append] at hm)))); try simp only [Act.put, sxQ]))
    go_at_call 7
    refine (ref12_First _).mono ?_
    rintro e w5 ⟨q5, rfl, ho5, hb5⟩
    rw [← HS0.out.2] at ho5
    have hc2 := (HC.out.resync hm).fresh (G := (stT (some ⟨q5, 0, none⟩) 2544 S0).G) (p := (stT (some ⟨q5, 0, none⟩) 2544 S0).p) hb5 (bytSup (ho5.byt (Nat.le_refl _))) (fun q hq => .inl (blks_own ho5 q hq))
    clear ho5 hb5
    clear HC hm
    simp only [List.nil_append, List.cons_append, List.set_cons_zero, List.set_cons_succ] at hc2
    have HC := Lib.hid hc2
    clear hc2
    have hm := HC.out.rebase
    go_wp2_with (first | go_skip | ((with_reducible show wpList _ _ _ _ _ (World.alloc _ _)); refine wpList_up hm ?_; clear hm; intro n w hn hn2 hk hm hd hd2 ho; (try rw [← hn]); replace hn := Nat.le_of_eq hn.symm) | ((first | ((with_reducible show wpList _ _ _ (Oper.mk _ (Op.box _ _) _ _ _ _ :: _) _ _); (refine bxA hm ?_; clear hm; intro n w hn hz hm ho; (try simp only [List.cons_append, List.nil_append] at hm))) | ((with_reducible show wpList _ _ _ (Oper.mk _ (Op.load _ _) _ _ _ _ :: _) _ _); first | (refine ldA hm ?_) | (refine laA hm ?_)) | ((with_reducible show wpList _ _ _ (Oper.mk _ (Op.store _ _ _) _ _ _ _ :: _) _ _); (refine stA hm ?_; clear hm; intro w hz hm ho)) | ((with_reducible show wpList _ _ _ (Oper.mk _ (Op.alloc _) _ _ _ _ :: _) _ _); (refine alA hm ?_; clear hm; intro n w hn hz hm ho; (try simp only [List.cons_append, List.nil_append] at hm)))); try simp only [Act.put, sxQ]))
    obtain ⟨b9, h9⟩ := hm.nm 1 rfl
    dsimp only at h9
    subst h9
    obtain ⟨gm, hgm⟩ : ∃ gm, gm = s.gm := ⟨_, rfl⟩
    have hI0 : Scn w0 _ [⟨b7, 30, #[.pointer (some ⟨s.gm, 0, none⟩), .pointer (some ⟨g, 0, none⟩), .pointer (some ⟨gj, 0, none⟩)]⟩, ⟨b9, 35, #[.slice (some ⟨q5, 0, none⟩) 2544 2544]⟩] [] [⟨spG G gj, fun v => Spc v g gj G s p⟩] [stT (some ⟨q5, 0, none⟩) 2544 S0] := HC.out.resync hm
    rw [← hgm] at hI0
    have HGM := Lib.hid hgm
    clear hm HC hgm
    go_loopg [10] nn (fun gk v10 wr => ∃ i G1 s1 p1 st1 A1 c1 T, i + gk = nn ∧ v10 = .int .i64 ((i : Nat) : Int) ∧ gm = s1.gm ∧ PL True (13000000 + 10000000 * i) p1 st1 ∧ Jn.Good st1 T ∧ st1.length = 85 ∧ T.length = 2544 ∧ Scn w0 wr [⟨b7, 30, #[.pointer (some ⟨gm, 0, none⟩), .pointer (some ⟨g, 0, none⟩), .pointer (some ⟨gj, 0, none⟩)]⟩, ⟨b9, 35, #[.slice A1 2544 c1]⟩] [] [⟨spG G1 gj, fun v => Spc v g gj G1 s1 p1⟩] [stT A1 c1 T])
    case atStart => exact ⟨0, G, s, p, st, _, _, S0, Nat.zero_add _, rfl, HGM.out, HL.out, HS.out, HLEN.out, HS0.out.1, hI0⟩
    case round =>
      clear hI0 HL HS HLEN HS0 HGM
      obtain ⟨i, G1, s1, p1, st1, A1, c1, T, hig, rfl, hgm, hL, hS, hlen, hTl, hsc⟩ := hrel
      have HC := Lib.hid hsc
      have hm := HC.out.rebase
      have HGM := Lib.hid hgm
      have HL := Lib.hid hL
      have HS := Lib.hid hS
      have HLEN := Lib.hid (And.intro hlen hTl)
      clear hsc hgm hL hS hlen hTl
      cases gk with
      | zero =>
        obtain rfl : i = nn := by omega
        have hn8 := HN8.out
        have HB9 := Lib.hid (show 13000000 + 10000000 * i ≤ 93000000 by omega)
        have ik : decide ((i : Int) < (i : Int)) = false := decide_eq_false (by omega)
        clear hn8
        go_wp2_with (first | go_skip | ((with_reducible show wpList _ _ _ _ _ (World.alloc _ _)); refine wpList_up hm ?_; clear hm; intro n w hn hn2 hk hm hd hd2 ho; (try rw [← hn]); replace hn := Nat.le_of_eq hn.symm) | ((first | ((with_reducible show wpList _ _ _ (Oper.mk _ (Op.box _ _) _ _ _ _ :: _) _ _); (refine bxA hm ?_; clear hm; intro n w hn hz hm ho; (try simp only [List.cons_append, List.nil_append] at hm))) | ((with_reducible show wpList _ _ _ (Oper.mk _ (Op.load _ _) _ _ _ _ :: _) _ _); first | (refine ldA hm ?_) | (refine laA hm ?_)) | ((with_reducible show wpList _ _ _ (Oper.mk _ (Op.store _ _ _) _ _ _ _ :: _) _ _); (refine stA hm ?_; clear hm; intro w hz hm ho)) | ((with_reducible show wpList _ _ _ (Oper.mk _ (Op.alloc _) _ _ _ _ :: _) _ _); (refine alA hm ?_; clear hm; intro n w hn hz hm ho; (try simp only [List.cons_append, List.nil_append] at hm)))); try simp only [Act.put, sxQ]))
        go_at_call 20
        refine (sp_Read ((HC.out.resync hm).obj 0 rfl) HL.out off k (by have := HB9.out; omega)).mono ?_
        rintro e w6 ⟨A6, k6, m6, c6, rfl, hk6, ho6, hsp6, hL6, hon6⟩
        have hfl : Jn.flat st1 = T := good_flat HS.out
        rw [hfl] at hk6 ho6
        rw [hfl]
        have hc2 := (HC.out.resync hm).turned 0 rfl hon6 (fun q h => .inl h) hsp6.sup ho6 (fun q hq e => by have := ((HC.out.resync hm).lt 0 rfl) q hq; have := (ho6.lt _ e).1; omega)
        have HFL := Lib.hid hfl
        obtain ⟨X, hX⟩ : ∃ X, X = (Jn.rread T off k).1 := ⟨_, rfl⟩
        obtain ⟨x, hx⟩ : ∃ x, x = (Jn.rread T off k).2 := ⟨_, rfl⟩
        rw [← hX] at hc2 hk6
        rw [← hx]
        have HK6 := Lib.hid (show k6 ≤ 2544 by rw [hk6, hX]; exact Nat.le_trans (rread_len T off k) (Nat.le_of_eq HLEN.out.2))
        have HX := Lib.hid (And.intro hX hx)
        have HL6 := Lib.hid hL6
        clear hk6 ho6 hsp6 hL6 hon6 hX hx hfl
        clear HC hm
        simp only [List.nil_append, List.cons_append, List.set_cons_zero, List.set_cons_succ] at hc2
        have HC := Lib.hid hc2
        clear hc2
        have hm := HC.out.rebase
        go_wp2_with (first | go_skip | ((with_reducible show wpList _ _ _ _ _ (World.alloc _ _)); refine wpList_up hm ?_; clear hm; intro n w hn hn2 hk hm hd hd2 ho; (try rw [← hn]); replace hn := Nat.le_of_eq hn.symm) | ((first | ((with_reducible show wpList _ _ _ (Oper.mk _ (Op.box _ _) _ _ _ _ :: _) _ _); (refine bxA hm ?_; clear hm; intro n w hn hz hm ho; (try simp only [List.cons_append, List.nil_append] at hm))) | ((with_reducible show wpList _ _ _ (Oper.mk _ (Op.load _ _) _ _ _ _ :: _) _ _); first | (refine ldA hm ?_) | (refine laA hm ?_)) | ((with_reducible show wpList _ _ _ (Oper.mk _ (Op.store _ _ _) _ _ _ _ :: _) _ _); (refine stA hm ?_; clear hm; intro w hz hm ho)) | ((with_reducible show wpList _ _ _ (Oper.mk _ (Op.alloc _) _ _ _ _ :: _) _ _); (refine alA hm ?_; clear hm; intro n w hn hz hm ho; (try simp only [List.cons_append, List.nil_append] at hm)))); try simp only [Act.put, sxQ]))
        go_at_call 21
        refine (ref12_Read ((HC.out.resync hm).val 0 rfl) (by omega) (by omega) off k HO.out).mono ?_
        rintro e w7 ⟨A7, k7, m7, rfl, hk7, ho7, hb7⟩
        have hc2 := (HC.out.resync hm).got hb7 ho7
        rw [← HX.out.1] at hc2 hk7
        rw [← HX.out.2]
        have HK7 := Lib.hid (show k7 ≤ 2544 by rw [hk7, HX.out.1]; exact Nat.le_trans (rread_len T off k) (Nat.le_of_eq HLEN.out.2))
        have hff : (x != x) = false := by simp
        clear hk7 ho7 hb7
        clear HC hm
        simp only [List.nil_append, List.cons_append, List.set_cons_zero, List.set_cons_succ] at hc2
        have HC := Lib.hid hc2
        clear hc2
        have hm := HC.out.rebase
        go_wp2_with (first | go_skip | ((with_reducible show wpList _ _ _ _ _ (World.alloc _ _)); refine wpList_up hm ?_; clear hm; intro n w hn hn2 hk hm hd hd2 ho; (try rw [← hn]); replace hn := Nat.le_of_eq hn.symm) | ((first | ((with_reducible show wpList _ _ _ (Oper.mk _ (Op.box _ _) _ _ _ _ :: _) _ _); (refine bxA hm ?_; clear hm; intro n w hn hz hm ho; (try simp only [List.cons_append, List.nil_append] at hm))) | ((with_reducible show wpList _ _ _ (Oper.mk _ (Op.load _ _) _ _ _ _ :: _) _ _); first | (refine ldA hm ?_) | (refine laA hm ?_)) | ((with_reducible show wpList _ _ _ (Oper.mk _ (Op.store _ _ _) _ _ _ _ :: _) _ _); (refine stA hm ?_; clear hm; intro w hz hm ho)) | ((with_reducible show wpList _ _ _ (Oper.mk _ (Op.alloc _) _ _ _ _ :: _) _ _); (refine alA hm ?_; clear hm; intro n w hn hz hm ho; (try simp only [List.cons_append, List.nil_append] at hm)))); try simp only [Act.put, sxQ]))
        go_at_call 22
        refine (ref01_Same A6 A7 k6 k7 m6 m7 X X _ ((HC.out.resync hm).byt 0 rfl) ((HC.out.resync hm).byt 1 rfl) (by have := HK6.out; omega) (by have := HK7.out; omega)).mono ?_
        rintro e w8 ⟨rfl, kd, rfl⟩
        rw [Oct.same_refl]
        replace hm := hm.drewN kd
        go_wp2_with (first | go_skip | ((with_reducible show wpList _ _ _ _ _ (World.alloc _ _)); refine wpList_up hm ?_; clear hm; intro n w hn hn2 hk hm hd hd2 ho; (try rw [← hn]); replace hn := Nat.le_of_eq hn.symm) | ((first | ((with_reducible show wpList _ _ _ (Oper.mk _ (Op.box _ _) _ _ _ _ :: _) _ _); (refine bxA hm ?_; clear hm; intro n w hn hz hm ho; (try simp only [List.cons_append, List.nil_append] at hm))) | ((with_reducible show wpList _ _ _ (Oper.mk _ (Op.load _ _) _ _ _ _ :: _) _ _); first | (refine ldA hm ?_) | (refine laA hm ?_)) | ((with_reducible show wpList _ _ _ (Oper.mk _ (Op.store _ _ _) _ _ _ _ :: _) _ _); (refine stA hm ?_; clear hm; intro w hz hm ho)) | ((with_reducible show wpList _ _ _ (Oper.mk _ (Op.alloc _) _ _ _ _ :: _) _ _); (refine alA hm ?_; clear hm; intro n w hn hz hm ho; (try simp only [List.cons_append, List.nil_append] at hm)))); try simp only [Act.put, sxQ]))
        go_at_call 18
        refine (law12_all ((HC.out.resync hm).obj 0 rfl) HL6.out (by have := HB9.out; omega) HLEN.out.1 ((HC.out.resync hm).val 0 rfl) ((HC.out.resync hm).far 0 rfl 0 rfl)).mono ?_
        rintro e w9 ⟨c9, rfl, hsp9, hL9, ho9⟩
        have hc2 := (HC.out.resync hm).turn 0 rfl ho9 (fun q h => .inl h) hsp9.sup
        have HL9 := Lib.hid hL9
        rw [HFL.out, Oct.same_refl]
        clear hsp9 hL9 ho9
        clear HC hm
        simp only [List.nil_append, List.cons_append, List.set_cons_zero, List.set_cons_succ] at hc2
        have HC := Lib.hid hc2
        clear hc2
        have hm := HC.out.rebase
        go_wp2_with (first | go_skip | ((with_reducible show wpList _ _ _ _ _ (World.alloc _ _)); refine wpList_up hm ?_; clear hm; intro n w hn hn2 hk hm hd hd2 ho; (try rw [← hn]); replace hn := Nat.le_of_eq hn.symm) | ((first | ((with_reducible show wpList _ _ _ (Oper.mk _ (Op.box _ _) _ _ _ _ :: _) _ _); (refine bxA hm ?_; clear hm; intro n w hn hz hm ho; (try simp only [List.cons_append, List.nil_append] at hm))) | ((with_reducible show wpList _ _ _ (Oper.mk _ (Op.load _ _) _ _ _ _ :: _) _ _); first | (refine ldA hm ?_) | (refine laA hm ?_)) | ((with_reducible show wpList _ _ _ (Oper.mk _ (Op.store _ _ _) _ _ _ _ :: _) _ _); (refine stA hm ?_; clear hm; intro w hz hm ho)) | ((with_reducible show wpList _ _ _ (Oper.mk _ (Op.alloc _) _ _ _ _ :: _) _ _); (refine alA hm ?_; clear hm; intro n w hn hz hm ho; (try simp only [List.cons_append, List.nil_append] at hm)))); try simp only [Act.put, sxQ]))
        go_at_call 16
        refine (jn_Open (show PAt _ g G1 s1 _ from ((HC.out.resync hm).obj 0 rfl).pat) HL9.out (by have := HB9.out; omega) T HS.out.meant).mono ?_
        rintro e w10 ⟨p10, G10, s10, hp10, hG10, ho10, hgm10, h⟩
        obtain ⟨gj10, st10, rfl, hj10, hgj10, hne10, hL10, hS10, hl10⟩ := h.resolve_right (fun ⟨_, _, h, _⟩ => h.not trivial)
        have hsp10 : Spc w10 g gj10 G10 s10 p10 := ⟨hp10, hj10, hne10⟩
        have hc2 := (HC.out.resync hm).turn 0 rfl (ho10.mono fun q _ h => .inl h) (fun q hq => hq.elim (fun h => (hG10 q h).imp .inl id) (fun e => .inr (by omega))) hsp10.sup
        have HL10 := Lib.hid hL10
        have HS10 := Lib.hid (And.intro (good_flat hS10) (hl10.trans HLEN.out.1))
        clear hp10 hG10 ho10 hgm10 h hj10 hgj10 hne10 hL10 hS10 hl10 hsp10
        clear HC hm
        simp only [List.nil_append, List.cons_append, List.set_cons_zero, List.set_cons_succ] at hc2
        have HC := Lib.hid hc2
        clear hc2
        have hm := HC.out.rebase
        go_wp2_with (first | go_skip | ((with_reducible show wpList _ _ _ _ _ (World.alloc _ _)); refine wpList_up hm ?_; clear hm; intro n w hn hn2 hk hm hd hd2 ho; (try rw [← hn]); replace hn := Nat.le_of_eq hn.symm) | ((first | ((with_reducible show wpList _ _ _ (Oper.mk _ (Op.box _ _) _ _ _ _ :: _) _ _); (refine bxA hm ?_; clear hm; intro n w hn hz hm ho; (try simp only [List.cons_append, List.nil_append] at hm))) | ((with_reducible show wpList _ _ _ (Oper.mk _ (Op.load _ _) _ _ _ _ :: _) _ _); first | (refine ldA hm ?_) | (refine laA hm ?_)) | ((with_reducible show wpList _ _ _ (Oper.mk _ (Op.store _ _ _) _ _ _ _ :: _) _ _); (refine stA hm ?_; clear hm; intro w hz hm ho)) | ((with_reducible show wpList _ _ _ (Oper.mk _ (Op.alloc _) _ _ _ _ :: _) _ _); (refine alA hm ?_; clear hm; intro n w hn hz hm ho; (try simp only [List.cons_append, List.nil_append] at hm)))); try simp only [Act.put, sxQ]))
        go_at_call 18
        refine (law12_all ((HC.out.resync hm).obj 0 rfl) HL10.out (by have := HB9.out; omega) HS10.out.2 ((HC.out.resync hm).val 0 rfl) ((HC.out.resync hm).far 0 rfl 0 rfl)).mono ?_
        rintro e w11 ⟨c11, rfl, hsp11, hL11, ho11⟩
        have hc2 := (HC.out.resync hm).turn 0 rfl ho11 (fun q h => .inl h) hsp11.sup
        rw [HS10.out.1, Oct.same_refl]
        clear hsp11 hL11 ho11
        clear HC hm
        simp only [List.nil_append, List.cons_append, List.set_cons_zero, List.set_cons_succ] at hc2
        have HC := Lib.hid hc2
        clear hc2
        have hm := HC.out.rebase
        go_wp2_with (first | go_skip | ((with_reducible show wpList _ _ _ _ _ (World.alloc _ _)); refine wpList_up hm ?_; clear hm; intro n w hn hn2 hk hm hd hd2 ho; (try rw [← hn]); replace hn := Nat.le_of_eq hn.symm) | ((first | ((with_reducible show wpList _ _ _ (Oper.mk _ (Op.box _ _) _ _ _ _ :: _) _ _); (refine bxA hm ?_; clear hm; intro n w hn hz hm ho; (try simp only [List.cons_append, List.nil_append] at hm))) | ((with_reducible show wpList _ _ _ (Oper.mk _ (Op.load _ _) _ _ _ _ :: _) _ _); first | (refine ldA hm ?_) | (refine laA hm ?_)) | ((with_reducible show wpList _ _ _ (Oper.mk _ (Op.store _ _ _) _ _ _ _ :: _) _ _); (refine stA hm ?_; clear hm; intro w hz hm ho)) | ((with_reducible show wpList _ _ _ (Oper.mk _ (Op.alloc _) _ _ _ _ :: _) _ _); (refine alA hm ?_; clear hm; intro n w hn hz hm ho; (try simp only [List.cons_append, List.nil_append] at hm)))); try simp only [Act.put, sxQ]))
        go_at_call 19
        refine (law12_awake _).mono ?_
        rintro e w12 ⟨rfl, hb12⟩
        have hlow := (HC.out.resync hm).low
        clear hm HC
        go_wp2_with fail
        go_ret
        exact ⟨rfl, hlow.trans (hb12.mono hlow.size)⟩
      | succ gi =>
        have hi : i < nn := by omega
        have ik : decide ((i : Int) < (nn : Int)) = true := decide_eq_true (by omega)
        obtain ⟨cb, co, y, hA, hcb, RK⟩ := HLL.out.at_ hi
        obtain ⟨yA, yn, yc, yl⟩ := y
        dsimp only at hcb RK
        have CH := chs_scene hcb.chs
        have HY := Lib.hid hcb.yo
        have HYN := Lib.hid (And.intro hcb.n47 hcb.chs.len)
        rw [hA]
        clear hcb
        go_wp2_with (first | go_skip | ((with_reducible show wpList _ _ _ _ _ (World.alloc _ _)); refine wpList_up hm ?_; clear hm; intro n w hn hn2 hk hm hd hd2 ho; (try rw [← hn]); replace hn := Nat.le_of_eq hn.symm) | ((first | ((with_reducible show wpList _ _ _ (Oper.mk _ (Op.box _ _) _ _ _ _ :: _) _ _); (refine bxA hm ?_; clear hm; intro n w hn hz hm ho; (try simp only [List.cons_append, List.nil_append] at hm))) | ((with_reducible show wpList _ _ _ (Oper.mk _ (Op.load _ _) _ _ _ _ :: _) _ _); first | (refine ldA hm ?_) | (refine laA hm ?_) | (refine lcA (RK.out _ (HC.out.resync hm).low) ?_) | (refine lrA (RK.out _ (HC.out.resync hm).low) ?_)) | ((with_reducible show wpList _ _ _ (Oper.mk _ (Op.store _ _ _) _ _ _ _ :: _) _ _); (refine stA hm ?_; clear hm; intro w hz hm ho)) | ((with_reducible show wpList _ _ _ (Oper.mk _ (Op.alloc _) _ _ _ _ :: _) _ _); (refine alA hm ?_; clear hm; intro n w hn hz hm ho; (try simp only [List.cons_append, List.nil_append] at hm)))); try simp only [Act.put, sxQ]))
        go_at_call 5
        refine (law12_short (CH.out.1 _ (HC.out.resync hm).low) HYN.out.1).mono ?_
        rintro e w6 ⟨rfl, hb6⟩
        have hc2 := (HC.out.resync hm).below hb6
        clear hb6
        clear HC hm
        simp only [List.nil_append, List.cons_append, List.set_cons_zero, List.set_cons_succ] at hc2
        have HC := Lib.hid hc2
        clear hc2
        have hm := HC.out.rebase
        cases hs : JC.shortB yl with
        | false =>
          go_wp2_with (first | go_skip | ((with_reducible show wpList _ _ _ _ _ (World.alloc _ _)); refine wpList_up hm ?_; clear hm; intro n w hn hn2 hk hm hd hd2 ho; (try rw [← hn]); replace hn := Nat.le_of_eq hn.symm) | ((first | ((with_reducible show wpList _ _ _ (Oper.mk _ (Op.box _ _) _ _ _ _ :: _) _ _); (refine bxA hm ?_; clear hm; intro n w hn hz hm ho; (try simp only [List.cons_append, List.nil_append] at hm))) | ((with_reducible show wpList _ _ _ (Oper.mk _ (Op.load _ _) _ _ _ _ :: _) _ _); first | (refine ldA hm ?_) | (refine laA hm ?_)) | ((with_reducible show wpList _ _ _ (Oper.mk _ (Op.store _ _ _) _ _ _ _ :: _) _ _); (refine stA hm ?_; clear hm; intro w hz hm ho)) | ((with_reducible show wpList _ _ _ (Oper.mk _ (Op.alloc _) _ _ _ _ :: _) _ _); (refine alA hm ?_; clear hm; intro n w hn hz hm ho; (try simp only [List.cons_append, List.nil_append] at hm)))); try simp only [Act.put, sxQ]))
          go_ret
          exact ⟨rfl, (HC.out.resync hm).low⟩
        | true =>
          have HW := Lib.hid (short_weight hs)
          clear hs
          go_upto_region 12 with (first | go_skip | ((with_reducible show wpList _ _ _ _ _ (World.alloc _ _)); refine wpList_up hm ?_; clear hm; intro n w hn hn2 hk hm hd hd2 ho; (try rw [← hn]); replace hn := Nat.le_of_eq hn.symm) | ((first | ((with_reducible show wpList _ _ _ (Oper.mk _ (Op.box _ _) _ _ _ _ :: _) _ _); (refine bxA hm ?_; clear hm; intro n w hn hz hm ho; (try simp only [List.cons_append, List.nil_append] at hm))) | ((with_reducible show wpList _ _ _ (Oper.mk _ (Op.load _ _) _ _ _ _ :: _) _ _); first | (refine ldA hm ?_) | (refine laA hm ?_)) | ((with_reducible show wpList _ _ _ (Oper.mk _ (Op.store _ _ _) _ _ _ _ :: _) _ _); (refine stA hm ?_; clear hm; intro w hz hm ho)) | ((with_reducible show wpList _ _ _ (Oper.mk _ (Op.alloc _) _ _ _ _ :: _) _ _); (refine alA hm ?_; clear hm; intro n w hn hz hm ho; (try simp only [List.cons_append, List.nil_append] at hm)))); try simp only [Act.put, sxQ]))
          have hl1 : T.length = 48 * (st1.length - 32) := by rw [HLEN.out.2, HLEN.out.1]
          have HB := Lib.hid (And.intro hl1 (show 13000000 + 10000000 * i ≤ 93000000 by have := HN8.out; omega))
          clear hl1
          refine wp_region_noPanic ?_
          refine wp_region_held_drew (S := KnS _ _) (by kernel_rfl) (KnS.of hm.drew (RK.out _ (HC.out.resync hm.drew).low)) (fun hHeld => ?_)
          refine wpAnyH_fresh (by repeat (first | apply Fresh.a | apply Fresh.b)) ?_
          replace hm := hm.drew
          iterate 6 (first | (refine takeN 0 hHeld ?_) | (refine takeY 0 ?_ hHeld ?_ ?_; rotate_left 1; (first | (intro w9 h9; (with_reducible show (execOp _ (Oper.mk _ (Op.load _ _) _ _ _ _)).run _ _ = _); first | exact h9.ldA | exact h9.lcA | exact h9.laA | exact h9.lrA) | focus (intro w9 hSw; go_simp; (try (with_reducible rfl)); done))); try simp only [Act.put, sxQ])
          refine wpAnyH_ready (rs := [6]) (by kernel_rfl) (by simp) ?_
          refine AllReadyH.cons2 (by simp only [sxN]; first | done | exact rfl) (fun K hK => ?_)
          rw [if_pos (by rfl)]
          go_simp
          refine (sp_Apply ((HC.out.resync hm).obj 0 rfl) HL.out (by have := HB.out.2; omega) _ HS.out yA yn yc yl (CH.out.1 _ (HC.out.resync hm).low) (fun q hq hg => by have h1 := CH.out.2 q hq; have h2 := (HC.out.resync hm).lo 0 rfl q hg; omega) HY.out (by have := HW.out; omega) HYN.out.1).mono ?_
          rintro e w7 ⟨p7, G7, s7, er7, rfl, hsp7, hR7, hG7, ho7, hgm7⟩
          have hc2 := (HC.out.resync hm).turn 0 rfl ho7 hG7 hsp7.sup
          obtain ⟨rfl, st7, hL7, hS7, hl7⟩ := hR7.sure2 HS.out HB.out.1 (by omega)
          have HL7 := Lib.hid (show PL True (13000000 + 10000000 * (i + 1)) p7 st7 from hL7.mono (by omega))
          have HS7 := Lib.hid hS7
          have HLE7 := Lib.hid (hl7.trans HLEN.out.1)
          have HGM7 := Lib.hid (HGM.out.trans hgm7.symm)
          clear hR7 hsp7 hG7 ho7 hL7 hS7 hl7 hgm7
          clear HC hm
          simp only [List.nil_append, List.cons_append, List.set_cons_zero, List.set_cons_succ] at hc2
          have HC := Lib.hid hc2
          clear hc2
          have hm := HC.out.rebase
          go_simp
          refine hK.out _ _ (KnS.of hm (RK.out _ (HC.out.resync hm).low)) (fun hHeld => ?_)
          clear hK K
          try simp only [Act.put, sxQ]
          iterate 1 (first | (refine takeN 7 hHeld ?_) | (refine takeY 7 ?_ hHeld ?_ ?_; rotate_left 1; (first | (intro w9 h9; (with_reducible show (execOp _ (Oper.mk _ (Op.load _ _) _ _ _ _)).run _ _ = _); first | exact h9.ldA | exact h9.lcA | exact h9.laA | exact h9.lrA) | focus (intro w9 hSw; go_simp; (try (with_reducible rfl)); done))); try simp only [Act.put, sxQ])
          refine wpAnyH_done (by kernel_rfl) ?_ _
          refine NoPanic.normal ?_
          go_upto_region 13 with (first | go_skip | ((with_reducible show wpList _ _ _ _ _ (World.alloc _ _)); refine wpList_up hm ?_; clear hm; intro n w hn hn2 hk hm hd hd2 ho; (try rw [← hn]); replace hn := Nat.le_of_eq hn.symm) | ((first | ((with_reducible show wpList _ _ _ (Oper.mk _ (Op.box _ _) _ _ _ _ :: _) _ _); (refine bxA hm ?_; clear hm; intro n w hn hz hm ho; (try simp only [List.cons_append, List.nil_append] at hm))) | ((with_reducible show wpList _ _ _ (Oper.mk _ (Op.load _ _) _ _ _ _ :: _) _ _); first | (refine ldA hm ?_) | (refine laA hm ?_)) | ((with_reducible show wpList _ _ _ (Oper.mk _ (Op.store _ _ _) _ _ _ _ :: _) _ _); (refine stA hm ?_; clear hm; intro w hz hm ho)) | ((with_reducible show wpList _ _ _ (Oper.mk _ (Op.alloc _) _ _ _ _ :: _) _ _); (refine alA hm ?_; clear hm; intro n w hn hz hm ho; (try simp only [List.cons_append, List.nil_append] at hm)))); try simp only [Act.put, sxQ]))
          obtain ⟨S7, hS7e⟩ : ∃ S7, S7 = (Jn.rapply T yl).1 := ⟨_, rfl⟩
          obtain ⟨f7, hf7⟩ : ∃ f7, f7 = (Jn.rapply T yl).2 := ⟨_, rfl⟩
          rw [← hS7e] at HS7
          rw [← hf7]
          have HE7 := Lib.hid (And.intro hS7e hf7)
          have HSL := Lib.hid (show S7.length = 2544 by rw [hS7e, Jn.rapply_length]; exact HLEN.out.2)
          clear hS7e hf7
          refine wp_region_noPanic ?_
          refine wp_region_held_drew (S := KnS _ _) (by kernel_rfl) (KnS.of hm.drew (RK.out _ (HC.out.resync hm.drew).low)) (fun hHeld => ?_)
          refine wpAnyH_fresh (by repeat (first | apply Fresh.a | apply Fresh.b)) ?_
          replace hm := hm.drew
          iterate 5 (first | (refine takeN 0 hHeld ?_) | (refine takeY 0 ?_ hHeld ?_ ?_; rotate_left 1; (first | (intro w9 h9; (with_reducible show (execOp _ (Oper.mk _ (Op.load _ _) _ _ _ _)).run _ _ = _); first | exact h9.ldA | exact h9.lcA | exact h9.laA | exact h9.lrA) | focus (intro w9 hSw; go_simp; (try (with_reducible rfl)); done))); try simp only [Act.put, sxQ])
          refine wpAnyH_ready (rs := [5, 9]) (by kernel_rfl) (by simp) ?_
          refine AllReadyH.cons3 (by simp only [sxN]; first | done | exact rfl) (fun K hK => ?_) (AllReadyH.cons2 (by simp only [sxN]; first | done | exact rfl) (fun K hK => ?_))
          · skip
            rw [if_pos (by rfl)]
            go_simp
            have hsc := HC.out.resync hm
            refine (ref12_Apply (hsc.val 0 rfl) (by omega) (by omega) (CH.out.1 _ hsc.low) (by have := HW.out; have := HYN.out.2; omega) HY.out).mono ?_
            intro e w8 hr8
            obtain ⟨A8, c8, rfl, hc2⟩ := hsc.rap 0 rfl HLEN.out.2 hr8
            rw [← HE7.out.1] at hc2
            rw [← HE7.out.2]
            clear hsc hr8
            clear HC hm
            simp only [List.nil_append, List.cons_append, List.set_cons_zero, List.set_cons_succ] at hc2
            have HC := Lib.hid hc2
            clear hc2
            have hm := HC.out.rebase
            go_simp
            refine hK.out _ _ (KnS.of hm (RK.out _ (HC.out.resync hm).low)) (fun hHeld => ?_)
            clear hK K
            try simp only [Act.put, sxQ]
            iterate 3 (first | (refine takeN 6 hHeld ?_) | (refine takeY 6 ?_ hHeld ?_ ?_; rotate_left 1; (first | (intro w9 h9; (with_reducible show (execOp _ (Oper.mk _ (Op.load _ _) _ _ _ _)).run _ _ = _); first | exact h9.ldA | exact h9.lcA | exact h9.laA | exact h9.lrA) | focus (intro w9 hSw; go_simp; (try (with_reducible rfl)); done))); try simp only [Act.put, sxQ])
            refine wpAnyH_ready (rs := [9]) (by kernel_rfl) (by simp) ?_
            refine AllReadyH.cons2 (by simp only [sxN]; first | done | exact rfl) (fun K hK => ?_)
            refine step_al (by rfl) _ rfl _ rfl _ (by simp only [Value.cells]; first | done | exact rfl) hm ?_; clear hm; intro n w hn hz hm ho; (try simp only [List.cons_append, List.nil_append] at hm)
            refine hK.out _ _ (KnS.of (hm.takeL 2) (RK.out _ (HC.out.resync hm).low)) (fun hHeld => ?_)
            clear hK K
            try simp only [Act.put, sxQ]
            refine wpAnyH_ready (rs := [10]) (by kernel_rfl) (by simp) ?_
            refine AllReadyH.cons2 (by simp only [sxN]; first | done | exact rfl) (fun K hK => ?_)
            refine stB hm ?_
            clear hm; intro w hz hm ho
            refine hK.out _ _ (KnS.of (hm.takeL 2) (RK.out _ (HC.out.resync hm).low)) (fun hHeld => ?_)
            clear hK K
            try simp only [Act.put, sxQ]
            iterate 1 (first | (refine takeN 11 hHeld ?_) | (refine takeY 11 ?_ hHeld ?_ ?_; rotate_left 1; (first | (intro w9 h9; (with_reducible show (execOp _ (Oper.mk _ (Op.load _ _) _ _ _ _)).run _ _ = _); first | exact h9.ldA | exact h9.lcA | exact h9.laA | exact h9.lrA) | focus (intro w9 hSw; go_simp; (try (with_reducible rfl)); done))); try simp only [Act.put, sxQ])
            refine wpAnyH_done (by kernel_rfl) ?_ _
            refine NoPanic.normal ?_
            have hff : (f7 != f7) = false := by simp
            go_wp2_with (first | go_skip | ((with_reducible show wpList _ _ _ _ _ (World.alloc _ _)); refine wpList_up hm ?_; clear hm; intro n w hn hn2 hk hm hd hd2 ho; (try rw [← hn]); replace hn := Nat.le_of_eq hn.symm) | ((first | ((with_reducible show wpList _ _ _ (Oper.mk _ (Op.box _ _) _ _ _ _ :: _) _ _); (refine bxA hm ?_; clear hm; intro n w hn hz hm ho; (try simp only [List.cons_append, List.nil_append] at hm))) | ((with_reducible show wpList _ _ _ (Oper.mk _ (Op.load _ _) _ _ _ _ :: _) _ _); first | (refine ldA hm ?_) | (refine laA hm ?_)) | ((with_reducible show wpList _ _ _ (Oper.mk _ (Op.store _ _ _) _ _ _ _ :: _) _ _); (refine stA hm ?_; clear hm; intro w hz hm ho)) | ((with_reducible show wpList _ _ _ (Oper.mk _ (Op.alloc _) _ _ _ _ :: _) _ _); (refine alA hm ?_; clear hm; intro n w hn hz hm ho; (try simp only [List.cons_append, List.nil_append] at hm)))); try simp only [Act.put, sxQ]))
            rw [← hA]
            go_roundg gi
            case measure => omega
            case rel => exact ⟨i + 1, G7, s7, p7, st7, A8, c8, S7, by omega, by have := HN8.out; rw [wr_succ i (by omega)], HGM7.out, HL7.out, HS7.out, HLE7.out, HSL.out, (HC.out.resync hm).keep 2 0 1⟩
          · skip
            refine step_al (by rfl) _ rfl _ rfl _ (by simp only [Value.cells]; first | done | exact rfl) hm ?_; clear hm; intro n w hn hz hm ho; (try simp only [List.cons_append, List.nil_append] at hm)
            refine hK.out _ _ (KnS.of (hm.takeL 2) (RK.out _ (HC.out.resync hm).low)) (fun hHeld => ?_)
            clear hK K
            try simp only [Act.put, sxQ]
            refine wpAnyH_ready (rs := [5]) (by kernel_rfl) (by simp) ?_
            refine AllReadyH.cons2 (by simp only [sxN]; first | done | exact rfl) (fun K hK => ?_)
            rw [if_pos (by rfl)]
            go_simp
            have hsc := HC.out.resync hm
            refine (ref12_Apply (hsc.val 0 rfl) (by omega) (by omega) (CH.out.1 _ hsc.low) (by have := HW.out; have := HYN.out.2; omega) HY.out).mono ?_
            intro e w8 hr8
            obtain ⟨A8, c8, rfl, hc2⟩ := hsc.rap 0 rfl HLEN.out.2 hr8
            rw [← HE7.out.1] at hc2
            rw [← HE7.out.2]
            clear hsc hr8
            clear HC hm
            simp only [List.nil_append, List.cons_append, List.set_cons_zero, List.set_cons_succ] at hc2
            have HC := Lib.hid hc2
            clear hc2
            have hm := HC.out.rebase
            go_simp
            refine hK.out _ _ (KnS.of (hm.takeL 2) (RK.out _ (HC.out.resync hm).low)) (fun hHeld => ?_)
            clear hK K
            try simp only [Act.put, sxQ]
            iterate 3 (first | (refine takeN 6 hHeld ?_) | (refine takeY 6 ?_ hHeld ?_ ?_; rotate_left 1; (first | (intro w9 h9; (with_reducible show (execOp _ (Oper.mk _ (Op.load _ _) _ _ _ _)).run _ _ = _); first | exact h9.ldA | exact h9.lcA | exact h9.laA | exact h9.lrA) | focus (intro w9 hSw; go_simp; (try (with_reducible rfl)); done))); try simp only [Act.put, sxQ])
            refine wpAnyH_ready (rs := [10]) (by kernel_rfl) (by simp) ?_
            refine AllReadyH.cons2 (by simp only [sxN]; first | done | exact rfl) (fun K hK => ?_)
            refine stB hm ?_
            clear hm; intro w hz hm ho
            refine hK.out _ _ (KnS.of (hm.takeL 2) (RK.out _ (HC.out.resync hm).low)) (fun hHeld => ?_)
            clear hK K
            try simp only [Act.put, sxQ]
            iterate 1 (first | (refine takeN 11 hHeld ?_) | (refine takeY 11 ?_ hHeld ?_ ?_; rotate_left 1; (first | (intro w9 h9; (with_reducible show (execOp _ (Oper.mk _ (Op.load _ _) _ _ _ _)).run _ _ = _); first | exact h9.ldA | exact h9.lcA | exact h9.laA | exact h9.lrA) | focus (intro w9 hSw; go_simp; (try (with_reducible rfl)); done))); try simp only [Act.put, sxQ])
            refine wpAnyH_done (by kernel_rfl) ?_ _
            refine NoPanic.normal ?_
            have hff : (f7 != f7) = false := by simp
            go_wp2_with (first | go_skip | ((with_reducible show wpList _ _ _ _ _ (World.alloc _ _)); refine wpList_up hm ?_; clear hm; intro n w hn hn2 hk hm hd hd2 ho; (try rw [← hn]); replace hn := Nat.le_of_eq hn.symm) | ((first | ((with_reducible show wpList _ _ _ (Oper.mk _ (Op.box _ _) _ _ _ _ :: _) _ _); (refine bxA hm ?_; clear hm; intro n w hn hz hm ho; (try simp only [List.cons_append, List.nil_append] at hm))) | ((with_reducible show wpList _ _ _ (Oper.mk _ (Op.load _ _) _ _ _ _ :: _) _ _); first | (refine ldA hm ?_) | (refine laA hm ?_)) | ((with_reducible show wpList _ _ _ (Oper.mk _ (Op.store _ _ _) _ _ _ _ :: _) _ _); (refine stA hm ?_; clear hm; intro w hz hm ho)) | ((with_reducible show wpList _ _ _ (Oper.mk _ (Op.alloc _) _ _ _ _ :: _) _ _); (refine alA hm ?_; clear hm; intro n w hn hz hm ho; (try simp only [List.cons_append, List.nil_append] at hm)))); try simp only [Act.put, sxQ]))
            rw [← hA]
            go_roundg gi
            case measure => omega
            case rel => exact ⟨i + 1, G7, s7, p7, st7, A8, c8, S7, by omega, by have := HN8.out; rw [wr_succ i (by omega)], HGM7.out, HL7.out, HS7.out, HLE7.out, HSL.out, (HC.out.resync hm).keep 2 0 1⟩
end Go.Proofs.YtmhjddmamknglaaGreat
