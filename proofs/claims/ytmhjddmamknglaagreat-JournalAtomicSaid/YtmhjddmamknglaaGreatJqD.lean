/-
  The journal: JournalAtomic.
-/
import Derived.Test.YtmhjddmamknglaaGreatZ0
import Derived.Test.YtmhjddmamknglaaGreatJqC
namespace Go.Proofs.YtmhjddmamknglaaGreat
set_option maxRecDepth 100000
set_option linter.unusedSimpArgs false
set_option linter.unusedVariables false
open Go.RowKit
set_option maxHeartbeats 8000000

theorem AplR.out {B B' : Nat} {st : List (List UInt8)} {S : List UInt8} {l : List JC} {p' : Pg.P} {er : Int} (h : AplR False B B' st S l p' er) (hS : Jn.Good st S) (hl : S.length = 48 * (st.length - 32)) (hB : B ≤ B') :
    ∃ (on : Bool) (st' : List (List UInt8)) (S' : List UInt8), p'.m.off = !on ∧ p'.alive = on ∧ (on = true → er = (Jn.rapply S l).2) ∧ (on = false → er = 7) ∧ (∃ fr, Pg.Can B' fr p'.m st') ∧ Jn.Meant st' S' ∧ (on = true → S' = (Jn.rapply S l).1) ∧ (on = false → S' = S ∨ S' = (Jn.rapply S l).1) ∧ st'.length = st.length := by
  unfold AplR at h
  rw [← hl] at h
  unfold Jn.rapply
  rcases h with ⟨h1, h2, h3⟩ | ⟨h1, h2, h3, h4⟩ | ⟨h1, h2, ⟨h3, st', h4, h5, h6⟩ | ⟨h3, st', h4, h5, h6⟩⟩
  · rw [if_pos h1]
    exact ⟨true, st, S, h3.off, h3.alive, fun _ => h2, fun e => (by cases e), (h3.mono hB).can, hS.meant, fun _ => rfl, fun e => (by cases e), rfl⟩
  · rw [if_neg (by rw [h1]; decide), if_pos h2]
    exact ⟨true, st, S, h4.off, h4.alive, fun _ => h3, fun e => (by cases e), (h4.mono hB).can, hS.meant, fun _ => rfl, fun e => (by cases e), rfl⟩
  · rw [if_neg (by rw [h1]; decide), if_neg (by omega)]
    exact ⟨true, st', _, h4.off, h4.alive, fun _ => h3, fun e => (by cases e), h4.can, h5.meant, fun _ => rfl, fun e => (by cases e), h6⟩
  · rw [if_neg (by rw [h1]; decide), if_neg (by omega)]
    rcases h5 with h5 | h5
    · exact ⟨false, st', _, h4.off, h4.alive, fun e => (by cases e), fun _ => h3, h4.can, h5, fun e => (by cases e), fun _ => .inl rfl, h6⟩
    · exact ⟨false, st', _, h4.off, h4.alive, fun e => (by cases e), fun _ => h3, h4.can, h5, fun e => (by cases e), fun _ => .inr rfl, h6⟩
theorem AplR.sure2 {B B' : Nat} {st : List (List UInt8)} {S : List UInt8} {l : List JC} {p' : Pg.P} {er : Int} (h : AplR True B B' st S l p' er) (hS : Jn.Good st S) (hl : S.length = 48 * (st.length - 32)) (hB : B ≤ B') :
    er = (Jn.rapply S l).2 ∧ ∃ st', PL True B' p' st' ∧ Jn.Good st' (Jn.rapply S l).1 ∧ st'.length = st.length := by
  unfold AplR at h
  rw [← hl] at h
  unfold Jn.rapply
  rcases h with ⟨h1, h2, h3⟩ | ⟨h1, h2, h3, h4⟩ | ⟨h1, h2, ⟨h3, st', h4, h5, h6⟩ | ⟨h3, st', h4, h5, h6⟩⟩
  · rw [if_pos h1]
    exact ⟨h2, st, h3.mono hB, hS, rfl⟩
  · rw [if_neg (by rw [h1]; decide), if_pos h2]
    exact ⟨h3, st, h4.mono hB, hS, rfl⟩
  · rw [if_neg (by rw [h1]; decide), if_neg (by omega)]
    exact ⟨h3, st', h4, h5, h6⟩
  · exact absurd trivial h4.not
theorem PL.cut0 {q : Prop} {B : Nat} {p : Pg.P} {st : List (List UInt8)} (L : PL q B p st) {z : Int} (h0 : 0 ≤ z) (hz : z ≤ 9223372036854775807) : (p.m.cut z).2 = 0 := by
  obtain ⟨fr, h⟩ := L.live
  exact (h.cut h0 hz).1
theorem wrap64_le (x : Int) : wrap64 x ≤ 9223372036854775807 := by unfold wrap64; omega
/-- Bytes that stay, as a value. -/
def stT (A : Option Addr) (c : Nat) (T : List UInt8) : Thing := ⟨blks #[.slice A 2544 c], fun u => Byt u u.heap.size A 2544 c T⟩
theorem blks_own {w : World} {B c : Nat} {A : Option Addr} {T : List UInt8} (h : Own w B 5 1 A 2544 c (bcells T)) (q : Nat) (hq : blks #[.slice A 2544 c] q) : B ≤ q := by
  obtain ⟨A1, n1, c1, a1, h1, h2, h3, h4⟩ := hq
  simp at h1
  obtain ⟨rfl, rfl, rfl⟩ := h1
  have hc : 2544 ≤ c1 := h.2.1
  have := (h.lt a1.block (ownAt_some (by omega) h3)).1
  omega
/-- The reference's state out of the elder one, as a value more. -/
theorem Scn.rap {w0 w w' : World} {L : List Ent} {O : List Osl} {Fs Vs : List Thing} {A : Option Addr} {c : Nat} {T : List UInt8} {l : List JC} {e : Ending} (h : Scn w0 w L O Fs Vs) (k : Nat) (hk : Vs[k]? = some (stT A c T)) (hT : T.length = 2544) (hr : RapR w A T l e w') :
    ∃ A2 c2, e = .returned (.tuple #[.agg #[.slice A2 2544 c2], .int .i64 (Jn.rapply T l).2]) ∧ Scn w0 w' L O Fs (Vs ++ [stT A2 c2 (Jn.rapply T l).1]) := by
  obtain ⟨A2, n2, c2, he, hb, hA, hbl⟩ := hr
  obtain rfl : n2 = 2544 := hb.1.symm.trans ((Jn.rapply_length T l).trans hT)
  refine ⟨A2, c2, he, h.next k hk hbl (fun F hF => ?_) (bytSup hb)⟩
  intro A1 n1 c1 hm hn1 a ha
  simp at hm
  obtain ⟨rfl, rfl, rfl⟩ := hm
  rcases hA with rfl | hA
  · exact .inl (hF _ _ _ (by simp; rfl) hn1 a ha)
  · exact .inr (hA a ha hn1)
theorem Scn.far {w0 w : World} {L : List Ent} {O : List Osl} {Fs Vs : List Thing} {A : Option Addr} {c : Nat} {T : List UInt8} {G : Nat → Prop} {p : World → Prop} (h : Scn w0 w L O Fs Vs) (i : Nat) (hi : Fs[i]? = some ⟨G, p⟩) (k : Nat) (hk : Vs[k]? = some (stT A c T)) : ∀ a, A = some a → ¬ G a.block := fun a e hg =>
  (h.vs _ (List.mem_of_getElem? hk)).2.1 _ (List.mem_of_getElem? hi) a.block hg ⟨A, 2544, c, a, by simp, by omega, e, rfl⟩
theorem law_JournalAtomic (A0 : Option Addr) (n0 c0 : Nat) (l0 : List JC) (A1 : Option Addr) (n1 c1 : Nat) (l1 : List JC) (k0 k1 : Int) (w0 : World) (hk0 : 0 ≤ k0 ∧ k0 ≤ 65535) (hk1 : 0 ≤ k1 ∧ k1 ≤ 65535) (h0 : ChB0 w0 A0 n0 c0 l0) (h1 : ChB0 w0 A1 n1 c1 l1) :
    Calls Tryz.prog 3 #[.slice A0 n0 c0, .slice A1 n1 c1, .agg #[.int .u16 k0, .int .u16 k1]] w0 fun e w' => e = .returned (.bool true) ∧ Below w0.heap.size w0 w' := by
  have HC := Lib.hid (Scn.start w0)
  have hm := HC.out.rebase
  have CH0 := chs_scene h0.chs
  have CH1 := chs_scene h1.chs
  have HY0 := Lib.hid h0.yo
  have HY1 := Lib.hid h1.yo
  have HN := Lib.hid (And.intro h0.n47 h1.n47)
  have HLN := Lib.hid (And.intro h0.chs.len h1.chs.len)
  have HCT := Lib.hid (And.intro hk0 hk1)
  clear h0 h1 hk0 hk1
  go_enter Tryz.func3, Tryz.ntmps3
  go_wp2_with (first | go_skip | ((with_reducible show wpList _ _ _ _ _ (World.alloc _ _)); refine wpList_up hm ?_; clear hm; intro n w hn hn2 hk hm hd hd2 ho; (try rw [← hn]); replace hn := Nat.le_of_eq hn.symm) | ((first | ((with_reducible show wpList _ _ _ (Oper.mk _ (Op.box _ _) _ _ _ _ :: _) _ _); (refine bxA hm ?_; clear hm; intro n w hn hz hm ho; (try simp only [List.cons_append, List.nil_append] at hm))) | ((with_reducible show wpList _ _ _ (Oper.mk _ (Op.load _ _) _ _ _ _ :: _) _ _); first | (refine ldA hm ?_) | (refine laA hm ?_)) | ((with_reducible show wpList _ _ _ (Oper.mk _ (Op.store _ _ _) _ _ _ _ :: _) _ _); (refine stA hm ?_; clear hm; intro w hz hm ho)) | ((with_reducible show wpList _ _ _ (Oper.mk _ (Op.alloc _) _ _ _ _ :: _) _ _); (refine alA hm ?_; clear hm; intro n w hn hz hm ho; (try simp only [List.cons_append, List.nil_append] at hm)))); try simp only [Act.put, sxQ]))
  obtain ⟨b5, h9⟩ := hm.nm 0 rfl
  dsimp only at h9
  subst h9
  go_at_call 5
  refine (law12_short (CH0.out.1 _ (HC.out.resync hm).low) HN.out.1).mono ?_
  rintro e w1 ⟨rfl, hb1⟩
  have hc2 := (HC.out.resync hm).below hb1
  clear hb1
  clear HC hm
  simp only [List.nil_append, List.cons_append, List.set_cons_zero, List.set_cons_succ] at hc2
  have HC := Lib.hid hc2
  clear hc2
  have hm := HC.out.rebase
  cases hs0 : JC.shortB l0 with
  | false =>
    go_wp2_with (first | go_skip | ((with_reducible show wpList _ _ _ _ _ (World.alloc _ _)); refine wpList_up hm ?_; clear hm; intro n w hn hn2 hk hm hd hd2 ho; (try rw [← hn]); replace hn := Nat.le_of_eq hn.symm) | ((first | ((with_reducible show wpList _ _ _ (Oper.mk _ (Op.box _ _) _ _ _ _ :: _) _ _); (refine bxA hm ?_; clear hm; intro n w hn hz hm ho; (try simp only [List.cons_append, List.nil_append] at hm))) | ((with_reducible show wpList _ _ _ (Oper.mk _ (Op.load _ _) _ _ _ _ :: _) _ _); first | (refine ldA hm ?_) | (refine laA hm ?_)) | ((with_reducible show wpList _ _ _ (Oper.mk _ (Op.store _ _ _) _ _ _ _ :: _) _ _); (refine stA hm ?_; clear hm; intro w hz hm ho)) | ((with_reducible show wpList _ _ _ (Oper.mk _ (Op.alloc _) _ _ _ _ :: _) _ _); (refine alA hm ?_; clear hm; intro n w hn hz hm ho; (try simp only [List.cons_append, List.nil_append] at hm)))); try simp only [Act.put, sxQ]))
    go_ret
    exact ⟨rfl, (HC.out.resync hm).low⟩
  | true =>
    have HW0 := Lib.hid (short_weight hs0)
    clear hs0
    go_wp2_with (first | go_skip | ((with_reducible show wpList _ _ _ _ _ (World.alloc _ _)); refine wpList_up hm ?_; clear hm; intro n w hn hn2 hk hm hd hd2 ho; (try rw [← hn]); replace hn := Nat.le_of_eq hn.symm) | ((first | ((with_reducible show wpList _ _ _ (Oper.mk _ (Op.box _ _) _ _ _ _ :: _) _ _); (refine bxA hm ?_; clear hm; intro n w hn hz hm ho; (try simp only [List.cons_append, List.nil_append] at hm))) | ((with_reducible show wpList _ _ _ (Oper.mk _ (Op.load _ _) _ _ _ _ :: _) _ _); first | (refine ldA hm ?_) | (refine laA hm ?_)) | ((with_reducible show wpList _ _ _ (Oper.mk _ (Op.store _ _ _) _ _ _ _ :: _) _ _); (refine stA hm ?_; clear hm; intro w hz hm ho)) | ((with_reducible show wpList _ _ _ (Oper.mk _ (Op.alloc _) _ _ _ _ :: _) _ _); (refine alA hm ?_; clear hm; intro n w hn hz hm ho; (try simp only [List.cons_append, List.nil_append] at hm)))); try simp only [Act.put, sxQ]))
    go_at_call 5
    refine (law12_short (CH1.out.1 _ (HC.out.resync hm).low) HN.out.2).mono ?_
    rintro e w2 ⟨rfl, hb2⟩
    have hc2 := (HC.out.resync hm).below hb2
    clear hb2
    clear HC hm
    simp only [List.nil_append, List.cons_append, List.set_cons_zero, List.set_cons_succ] at hc2
    have HC := Lib.hid hc2
    clear hc2
    have hm := HC.out.rebase
    cases hs1 : JC.shortB l1 with
    | false =>
      go_wp2_with (first | go_skip | ((with_reducible show wpList _ _ _ _ _ (World.alloc _ _)); refine wpList_up hm ?_; clear hm; intro n w hn hn2 hk hm hd hd2 ho; (try rw [← hn]); replace hn := Nat.le_of_eq hn.symm) | ((first | ((with_reducible show wpList _ _ _ (Oper.mk _ (Op.box _ _) _ _ _ _ :: _) _ _); (refine bxA hm ?_; clear hm; intro n w hn hz hm ho; (try simp only [List.cons_append, List.nil_append] at hm))) | ((with_reducible show wpList _ _ _ (Oper.mk _ (Op.load _ _) _ _ _ _ :: _) _ _); first | (refine ldA hm ?_) | (refine laA hm ?_)) | ((with_reducible show wpList _ _ _ (Oper.mk _ (Op.store _ _ _) _ _ _ _ :: _) _ _); (refine stA hm ?_; clear hm; intro w hz hm ho)) | ((with_reducible show wpList _ _ _ (Oper.mk _ (Op.alloc _) _ _ _ _ :: _) _ _); (refine alA hm ?_; clear hm; intro n w hn hz hm ho; (try simp only [List.cons_append, List.nil_append] at hm)))); try simp only [Act.put, sxQ]))
      go_ret
      exact ⟨rfl, (HC.out.resync hm).low⟩
    | true =>
      have HW1 := Lib.hid (short_weight hs1)
      clear hs1
      go_wp2_with (first | go_skip | ((with_reducible show wpList _ _ _ _ _ (World.alloc _ _)); refine wpList_up hm ?_; clear hm; intro n w hn hn2 hk hm hd hd2 ho; (try rw [← hn]); replace hn := Nat.le_of_eq hn.symm) | ((first | ((with_reducible show wpList _ _ _ (Oper.mk _ (Op.box _ _) _ _ _ _ :: _) _ _); (refine bxA hm ?_; clear hm; intro n w hn hz hm ho; (try simp only [List.cons_append, List.nil_append] at hm))) | ((with_reducible show wpList _ _ _ (Oper.mk _ (Op.load _ _) _ _ _ _ :: _) _ _); first | (refine ldA hm ?_) | (refine laA hm ?_)) | ((with_reducible show wpList _ _ _ (Oper.mk _ (Op.store _ _ _) _ _ _ _ :: _) _ _); (refine stA hm ?_; clear hm; intro w hz hm ho)) | ((with_reducible show wpList _ _ _ (Oper.mk _ (Op.alloc _) _ _ _ _ :: _) _ _); (refine alA hm ?_; clear hm; intro n w hn hz hm ho; (try simp only [List.cons_append, List.nil_append] at hm)))); try simp only [Act.put, sxQ]))
      go_at_call 6
      refine (law12_begin 2048 (by decide) (by decide) _).mono ?_
      rintro e w3 ⟨hb3, g, gj, G, s, p, st, rfl, hsp, hG, hL, hS, hlen⟩
      have hc2 := (HC.out.resync hm).born hb3 hsp.sup hG
      have HL := Lib.hid hL
      obtain ⟨S0, hS0⟩ : ∃ S0 : List UInt8, S0 = List.replicate (48 * (85 - 32)) 0 := ⟨_, rfl⟩
      have HS0 := Lib.hid (show S0.length = 2544 ∧ S0 = List.replicate (48 * (85 - 32)) 0 from ⟨by rw [hS0]; simp, hS0⟩)
      have HS := Lib.hid (show Jn.Good st S0 by rw [hS0]; exact hS)
      have HLEN := Lib.hid (show st.length = 85 from hlen)
      have HCT85 : Hid (∀ u, Spc u g gj G s p → Calls Tryz.prog 8 #[.pointer (some ⟨g, 0, none⟩)] u fun e w' => e = .returned (.int .i64 85) ∧ Below u.heap.size u w') := Lib.hid fun u h => (sp_Count h hL).mono fun e w' ⟨h1, h2⟩ => ⟨by rw [h1, HLEN.out]; rfl, h2⟩
      clear hb3 hsp hG hL hS hlen hS0
      clear HC hm
      simp only [List.nil_append, List.cons_append, List.set_cons_zero, List.set_cons_succ] at hc2
      have HC := Lib.hid hc2
      clear hc2
      have hm := HC.out.rebase
      go_wp2_with (first | go_skip | ((with_reducible show wpList _ _ _ _ _ (World.alloc _ _)); refine wpList_up hm ?_; clear hm; intro n w hn hn2 hk hm hd hd2 ho; (try rw [← hn]); replace hn := Nat.le_of_eq hn.symm) | ((first | ((with_reducible show wpList _ _ _ (Oper.mk _ (Op.box _ _) _ _ _ _ :: _) _ _); (refine bxA hm ?_; clear hm; intro n w hn hz hm ho; (try simp only [List.cons_append, List.nil_append] at hm))) | ((with_reducible show wpList _ _ _ (Oper.mk _ (Op.load _ _) _ _ _ _ :: _) _ _); first | (refine ldA hm ?_) | (refine laA hm ?_)) | ((with_reducible show wpList _ _ _ (Oper.mk _ (Op.store _ _ _) _ _ _ _ :: _) _ _); (refine stA hm ?_; clear hm; intro w hz hm ho)) | ((with_reducible show wpList _ _ _ (Oper.mk _ (Op.alloc _) _ _ _ _ :: _) _ _); (refine alA hm ?_; clear hm; intro n w hn hz hm ho; (try simp only [List.cons_append, List.nil_append] at hm)))); try simp only [Act.put, sxQ]))
      obtain ⟨b7, h9⟩ := hm.nm 1 rfl
      dsimp only at h9
      subst h9
      go_at_call 8
      refine (HCT85.out _ ((HC.out.resync hm).obj 0 rfl)).mono ?_
      rintro e w4 ⟨rfl, hb4⟩
      have hc2 := (HC.out.resync hm).below hb4
      clear hb4 HCT85
      clear HC hm
      simp only [List.nil_append, List.cons_append, List.set_cons_zero, List.set_cons_succ] at hc2
      have HC := Lib.hid hc2
      clear hc2
      have hm := HC.out.rebase
      go_wp2_with (first | go_skip | ((with_reducible show wpList _ _ _ _ _ (World.alloc _ _)); refine wpList_up hm ?_; clear hm; intro n w hn hn2 hk hm hd hd2 ho; (try rw [← hn]); replace hn := Nat.le_of_eq hn.symm) | ((first | ((with_reducible show wpList _ _ _ (Oper.mk _ (Op.box _ _) _ _ _ _ :: _) _ _); (refine bxA hm ?_; clear hm; intro n w hn hz hm ho; (try simp only [List.cons_append, List.nil_append] at hm))) | ((with_reducible show wpList _ _ _ (Oper.mk _ (Op.load _ _) _ _ _ _ :: _) _ _); first | (refine ldA hm ?_) | (refine laA hm ?_)) | ((with_reducible show wpList _ _ _ (Oper.mk _ (Op.store _ _ _) _ _ _ _ :: _) _ _); (refine stA hm ?_; clear hm; intro w hz hm ho)) | ((with_reducible show wpList _ _ _ (Oper.mk _ (Op.alloc _) _ _ _ _ :: _) _ _); (refine alA hm ?_; clear hm; intro n w hn hz hm ho; (try simp only [List.cons_append, List.nil_append] at hm)))); try simp only [Act.put, sxQ]))
      go_at_call 7
      refine (ref12_First _).mono ?_
      rintro e w5 ⟨q5, rfl, ho5, hb5⟩
      rw [← HS0.out.2] at ho5
      have hc2 := (HC.out.resync hm).fresh (G := (stT (some ⟨q5, 0, none⟩) 2544 S0).G) (p := (stT (some ⟨q5, 0, none⟩) 2544 S0).p) hb5 (bytSup (ho5.byt (Nat.le_refl _))) (fun q hq => .inl (blks_own ho5 q hq))
      clear ho5 hb5
      clear HC hm
      simp only [List.nil_append, List.cons_append, List.set_cons_zero, List.set_cons_succ] at hc2
      have HC := Lib.hid hc2
      clear hc2
      have hm := HC.out.rebase
      go_wp2_with (first | go_skip | ((with_reducible show wpList _ _ _ _ _ (World.alloc _ _)); refine wpList_up hm ?_; clear hm; intro n w hn hn2 hk hm hd hd2 ho; (try rw [← hn]); replace hn := Nat.le_of_eq hn.symm) | ((first | ((with_reducible show wpList _ _ _ (Oper.mk _ (Op.box _ _) _ _ _ _ :: _) _ _); (refine bxA hm ?_; clear hm; intro n w hn hz hm ho; (try simp only [List.cons_append, List.nil_append] at hm))) | ((with_reducible show wpList _ _ _ (Oper.mk _ (Op.load _ _) _ _ _ _ :: _) _ _); first | (refine ldA hm ?_) | (refine laA hm ?_)) | ((with_reducible show wpList _ _ _ (Oper.mk _ (Op.store _ _ _) _ _ _ _ :: _) _ _); (refine stA hm ?_; clear hm; intro w hz hm ho)) | ((with_reducible show wpList _ _ _ (Oper.mk _ (Op.alloc _) _ _ _ _ :: _) _ _); (refine alA hm ?_; clear hm; intro n w hn hz hm ho; (try simp only [List.cons_append, List.nil_append] at hm)))); try simp only [Act.put, sxQ]))
      obtain ⟨b9, h9⟩ := hm.nm 2 rfl
      dsimp only at h9
      subst h9
      go_at_call 9
      refine (sp_Apply ((HC.out.resync hm).obj 0 rfl) HL.out (by omega) _ HS.out A0 n0 c0 l0 (CH0.out.1 _ (HC.out.resync hm).low) (fun q hq hg => by have h1 := CH0.out.2 q hq; have h2 := (HC.out.resync hm).lo 0 rfl q hg; omega) HY0.out (by have := HW0.out; omega) HN.out.1).mono ?_
      rintro e w6 ⟨p6, G6, s6, er6, rfl, hsp6, hR6, hG6, ho6, hgm6⟩
      have hc2 := (HC.out.resync hm).turn 0 rfl ho6 hG6 hsp6.sup
      obtain ⟨rfl, st6, hL6, hS6, hl6⟩ := hR6.sure2 HS.out (by rw [HS0.out.1, HLEN.out]) (by omega)
      have HL6 := Lib.hid hL6
      have HS6 := Lib.hid hS6
      have HLE6 := Lib.hid (hl6.trans HLEN.out)
      rw [← hgm6] at *
      clear hR6 hsp6 hG6 ho6 hL6 hS6 hl6 hgm6
      clear HC hm
      simp only [List.nil_append, List.cons_append, List.set_cons_zero, List.set_cons_succ] at hc2
      have HC := Lib.hid hc2
      clear hc2
      have hm := HC.out.rebase
      go_wp2_with (first | go_skip | ((with_reducible show wpList _ _ _ _ _ (World.alloc _ _)); refine wpList_up hm ?_; clear hm; intro n w hn hn2 hk hm hd hd2 ho; (try rw [← hn]); replace hn := Nat.le_of_eq hn.symm) | ((first | ((with_reducible show wpList _ _ _ (Oper.mk _ (Op.box _ _) _ _ _ _ :: _) _ _); (refine bxA hm ?_; clear hm; intro n w hn hz hm ho; (try simp only [List.cons_append, List.nil_append] at hm))) | ((with_reducible show wpList _ _ _ (Oper.mk _ (Op.load _ _) _ _ _ _ :: _) _ _); first | (refine ldA hm ?_) | (refine laA hm ?_)) | ((with_reducible show wpList _ _ _ (Oper.mk _ (Op.store _ _ _) _ _ _ _ :: _) _ _); (refine stA hm ?_; clear hm; intro w hz hm ho)) | ((with_reducible show wpList _ _ _ (Oper.mk _ (Op.alloc _) _ _ _ _ :: _) _ _); (refine alA hm ?_; clear hm; intro n w hn hz hm ho; (try simp only [List.cons_append, List.nil_append] at hm)))); try simp only [Act.put, sxQ]))
      go_at_call 10
      have hsc := HC.out.resync hm
      refine (ref12_Apply (hsc.val 0 rfl) (by omega) (by omega) (CH0.out.1 _ hsc.low) (by have := HW0.out; have := HLN.out; omega) HY0.out).mono ?_
      intro e w7 hr7
      obtain ⟨A7, c7, rfl, hc2⟩ := hsc.rap 0 rfl HS0.out.1 hr7
      obtain ⟨S1, hS1⟩ : ∃ S1, S1 = (Jn.rapply S0 l0).1 := ⟨_, rfl⟩
      obtain ⟨f1, hf1⟩ : ∃ f1, f1 = (Jn.rapply S0 l0).2 := ⟨_, rfl⟩
      rw [← hS1] at hc2 HS6
      rw [← hf1]
      have HS1 := Lib.hid (show S1.length = 2544 by rw [hS1, Jn.rapply_length]; exact HS0.out.1)
      have hff : (f1 != f1) = false := by simp
      clear hsc hr7 hS1 hf1
      clear HC hm
      simp only [List.nil_append, List.cons_append, List.set_cons_zero, List.set_cons_succ] at hc2
      have HC := Lib.hid hc2
      clear hc2
      have hm := HC.out.rebase
      go_wp2_with (first | go_skip | ((with_reducible show wpList _ _ _ _ _ (World.alloc _ _)); refine wpList_up hm ?_; clear hm; intro n w hn hn2 hk hm hd hd2 ho; (try rw [← hn]); replace hn := Nat.le_of_eq hn.symm) | ((first | ((with_reducible show wpList _ _ _ (Oper.mk _ (Op.box _ _) _ _ _ _ :: _) _ _); (refine bxA hm ?_; clear hm; intro n w hn hz hm ho; (try simp only [List.cons_append, List.nil_append] at hm))) | ((with_reducible show wpList _ _ _ (Oper.mk _ (Op.load _ _) _ _ _ _ :: _) _ _); first | (refine ldA hm ?_) | (refine laA hm ?_)) | ((with_reducible show wpList _ _ _ (Oper.mk _ (Op.store _ _ _) _ _ _ _ :: _) _ _); (refine stA hm ?_; clear hm; intro w hz hm ho)) | ((with_reducible show wpList _ _ _ (Oper.mk _ (Op.alloc _) _ _ _ _ :: _) _ _); (refine alA hm ?_; clear hm; intro n w hn hz hm ho; (try simp only [List.cons_append, List.nil_append] at hm)))); try simp only [Act.put, sxQ]))
      obtain ⟨z, hz⟩ : ∃ z, z = wrap64 (k0.tmod 3000) := ⟨_, rfl⟩
      have HZ := Lib.hid (show 0 ≤ z ∧ z ≤ 9223372036854775807 by rw [hz]; exact cut_z k0 HCT.out.1)
      rw [← hz]
      clear hz hff
      go_at_call 11
      refine (sp_Cut ((HC.out.resync hm).obj 0 rfl) z).mono ?_
      rintro e w8 ⟨rfl, hsp8, ho8⟩
      have hc2 := (HC.out.resync hm).turn 0 rfl ho8 (fun q h => .inl h) hsp8.sup
      have HL8 := Lib.hid (HL6.out.cut HZ.out.1 HZ.out.2)
      rw [HL6.out.cut0 HZ.out.1 HZ.out.2]
      clear hsp8 ho8
      generalize p6.wm (p6.m.cut z).1 = p8 at *
      clear HC hm
      simp only [List.nil_append, List.cons_append, List.set_cons_zero, List.set_cons_succ] at hc2
      have HC := Lib.hid hc2
      clear hc2
      have hm := HC.out.rebase
      go_wp2_with (first | go_skip | ((with_reducible show wpList _ _ _ _ _ (World.alloc _ _)); refine wpList_up hm ?_; clear hm; intro n w hn hn2 hk hm hd hd2 ho; (try rw [← hn]); replace hn := Nat.le_of_eq hn.symm) | ((first | ((with_reducible show wpList _ _ _ (Oper.mk _ (Op.box _ _) _ _ _ _ :: _) _ _); (refine bxA hm ?_; clear hm; intro n w hn hz hm ho; (try simp only [List.cons_append, List.nil_append] at hm))) | ((with_reducible show wpList _ _ _ (Oper.mk _ (Op.load _ _) _ _ _ _ :: _) _ _); first | (refine ldA hm ?_) | (refine laA hm ?_)) | ((with_reducible show wpList _ _ _ (Oper.mk _ (Op.store _ _ _) _ _ _ _ :: _) _ _); (refine stA hm ?_; clear hm; intro w hz hm ho)) | ((with_reducible show wpList _ _ _ (Oper.mk _ (Op.alloc _) _ _ _ _ :: _) _ _); (refine alA hm ?_; clear hm; intro n w hn hz hm ho; (try simp only [List.cons_append, List.nil_append] at hm)))); try simp only [Act.put, sxQ]))
      go_at_call 9
      refine (sp_Apply ((HC.out.resync hm).obj 0 rfl) HL8.out (by omega) _ HS6.out A1 n1 c1 l1 (CH1.out.1 _ (HC.out.resync hm).low) (fun q hq hg => by have h1 := CH1.out.2 q hq; have h2 := (HC.out.resync hm).lo 0 rfl q hg; omega) HY1.out (by have := HW1.out; omega) HN.out.2).mono ?_
      rintro e w9 ⟨p9, G9, s9, er, rfl, hsp9, hR9, hG9, ho9, hgm9⟩
      have hc2 := (HC.out.resync hm).turn 0 rfl ho9 hG9 hsp9.sup
      obtain ⟨on, st9, S9, hof, hal, hon1, hon0, hcan, hme, hs1, hs0, hle⟩ := hR9.out HS6.out (by rw [HS1.out, HLE6.out]) (by omega)
      rw [← hgm9] at *
      clear hR9 hsp9 hG9 ho9 hgm9
      clear HC hm
      simp only [List.nil_append, List.cons_append, List.set_cons_zero, List.set_cons_succ] at hc2
      have HC := Lib.hid hc2
      clear hc2
      have hm := HC.out.rebase
      have HOF := Lib.hid (And.intro hof hal)
      have HER := Lib.hid (And.intro hon1 hon0)
      have HCN := Lib.hid hcan
      have HME := Lib.hid (And.intro hme (hle.trans HLE6.out))
      have HSS := Lib.hid (And.intro hs1 hs0)
      clear hof hal hon1 hon0 hcan hme hs1 hs0 hle
      go_wp2_with (first | go_skip | ((with_reducible show wpList _ _ _ _ _ (World.alloc _ _)); refine wpList_up hm ?_; clear hm; intro n w hn hn2 hk hm hd hd2 ho; (try rw [← hn]); replace hn := Nat.le_of_eq hn.symm) | ((first | ((with_reducible show wpList _ _ _ (Oper.mk _ (Op.box _ _) _ _ _ _ :: _) _ _); (refine bxA hm ?_; clear hm; intro n w hn hz hm ho; (try simp only [List.cons_append, List.nil_append] at hm))) | ((with_reducible show wpList _ _ _ (Oper.mk _ (Op.load _ _) _ _ _ _ :: _) _ _); first | (refine ldA hm ?_) | (refine laA hm ?_)) | ((with_reducible show wpList _ _ _ (Oper.mk _ (Op.store _ _ _) _ _ _ _ :: _) _ _); (refine stA hm ?_; clear hm; intro w hz hm ho)) | ((with_reducible show wpList _ _ _ (Oper.mk _ (Op.alloc _) _ _ _ _ :: _) _ _); (refine alA hm ?_; clear hm; intro n w hn hz hm ho; (try simp only [List.cons_append, List.nil_append] at hm)))); try simp only [Act.put, sxQ]))
      go_at_call 10
      have hsc := HC.out.resync hm
      refine (ref12_Apply (hsc.val 1 rfl) (by omega) (by omega) (CH1.out.1 _ hsc.low) (by have := HW1.out; have := HLN.out; omega) HY1.out).mono ?_
      intro e w10 hr10
      obtain ⟨A10, c10, rfl, hc2⟩ := hsc.rap 1 rfl HS1.out hr10
      obtain ⟨S2, hS2⟩ : ∃ S2, S2 = (Jn.rapply S1 l1).1 := ⟨_, rfl⟩
      obtain ⟨f2, hf2⟩ : ∃ f2, f2 = (Jn.rapply S1 l1).2 := ⟨_, rfl⟩
      rw [← hS2] at hc2 HSS
      rw [← hf2] at HER
      rw [← hf2]
      clear hsc hr10 hS2 hf2
      clear HC hm
      simp only [List.nil_append, List.cons_append, List.set_cons_zero, List.set_cons_succ] at hc2
      have HC := Lib.hid hc2
      clear hc2
      have hm := HC.out.rebase
      go_wp2_with (first | go_skip | ((with_reducible show wpList _ _ _ _ _ (World.alloc _ _)); refine wpList_up hm ?_; clear hm; intro n w hn hn2 hk hm hd hd2 ho; (try rw [← hn]); replace hn := Nat.le_of_eq hn.symm) | ((first | ((with_reducible show wpList _ _ _ (Oper.mk _ (Op.box _ _) _ _ _ _ :: _) _ _); (refine bxA hm ?_; clear hm; intro n w hn hz hm ho; (try simp only [List.cons_append, List.nil_append] at hm))) | ((with_reducible show wpList _ _ _ (Oper.mk _ (Op.load _ _) _ _ _ _ :: _) _ _); first | (refine ldA hm ?_) | (refine laA hm ?_)) | ((with_reducible show wpList _ _ _ (Oper.mk _ (Op.store _ _ _) _ _ _ _ :: _) _ _); (refine stA hm ?_; clear hm; intro w hz hm ho)) | ((with_reducible show wpList _ _ _ (Oper.mk _ (Op.alloc _) _ _ _ _ :: _) _ _); (refine alA hm ?_; clear hm; intro n w hn hz hm ho; (try simp only [List.cons_append, List.nil_append] at hm)))); try simp only [Act.put, sxQ]))
      obtain ⟨b12, h9⟩ := hm.nm 3 rfl
      dsimp only at h9
      subst h9
      go_at_call 12
      refine (cell_Power (show Spc _ g gj G9 s9 p9 from (HC.out.resync hm).obj 0 rfl).pat.mem).mono ?_
      rintro e w11 ⟨rfl, rfl⟩
      rw [HOF.out.1, Bool.not_not]
      go_upto_region 14 with (first | go_skip | ((with_reducible show wpList _ _ _ _ _ (World.alloc _ _)); refine wpList_up hm ?_; clear hm; intro n w hn hn2 hk hm hd hd2 ho; (try rw [← hn]); replace hn := Nat.le_of_eq hn.symm) | ((first | ((with_reducible show wpList _ _ _ (Oper.mk _ (Op.box _ _) _ _ _ _ :: _) _ _); (refine bxA hm ?_; clear hm; intro n w hn hz hm ho; (try simp only [List.cons_append, List.nil_append] at hm))) | ((with_reducible show wpList _ _ _ (Oper.mk _ (Op.load _ _) _ _ _ _ :: _) _ _); first | (refine ldA hm ?_) | (refine laA hm ?_)) | ((with_reducible show wpList _ _ _ (Oper.mk _ (Op.store _ _ _) _ _ _ _ :: _) _ _); (refine stA hm ?_; clear hm; intro w hz hm ho)) | ((with_reducible show wpList _ _ _ (Oper.mk _ (Op.alloc _) _ _ _ _ :: _) _ _); (refine alA hm ?_; clear hm; intro n w hn hz hm ho; (try simp only [List.cons_append, List.nil_append] at hm)))); try simp only [Act.put, sxQ]))
      have hc2 : Scn w0 _ [⟨b5, 24, #[.int .u16 k0, .int .u16 k1]⟩, ⟨b7, 30, #[.pointer (some ⟨s9.gm, 0, none⟩), .pointer (some ⟨g, 0, none⟩), .pointer (some ⟨gj, 0, none⟩)]⟩, ⟨b9, 35, #[.slice A7 2544 c7]⟩, ⟨b12, 35, #[.slice A10 2544 c10]⟩] [] [⟨spG G9 gj, fun v => Spc v g gj G9 s9 p9⟩] [stT A7 c7 S1, stT A10 c10 S2] := (HC.out.resync hm).keep 4 0 1
      clear HC hm
      have HC := Lib.hid hc2
      clear hc2
      have hm := HC.out.rebase
      go_cut [91] from 71 to 91 (fun v91 wx => v91 = .bool false ∧ Scn w0 wx [⟨b5, 24, #[.int .u16 k0, .int .u16 k1]⟩, ⟨b7, 30, #[.pointer (some ⟨s9.gm, 0, none⟩), .pointer (some ⟨g, 0, none⟩), .pointer (some ⟨gj, 0, none⟩)]⟩, ⟨b9, 35, #[.slice A7 2544 c7]⟩, ⟨b12, 35, #[.slice A10 2544 c10]⟩] [] [⟨spG G9 gj, fun v => Spc v g gj G9 s9 p9⟩] [stT A7 c7 S1, stT A10 c10 S2])
      case first =>
        cases on with
        | true =>
          obtain rfl : er = f2 := HER.out.1 rfl
          have hal := HOF.out.2
          go_wp2_with (first | go_skip | ((with_reducible show wpList _ _ _ _ _ (World.alloc _ _)); refine wpList_up hm ?_; clear hm; intro n w hn hn2 hk hm hd hd2 ho; (try rw [← hn]); replace hn := Nat.le_of_eq hn.symm) | ((first | ((with_reducible show wpList _ _ _ (Oper.mk _ (Op.box _ _) _ _ _ _ :: _) _ _); (refine bxA hm ?_; clear hm; intro n w hn hz hm ho; (try simp only [List.cons_append, List.nil_append] at hm))) | ((with_reducible show wpList _ _ _ (Oper.mk _ (Op.load _ _) _ _ _ _ :: _) _ _); first | (refine ldA hm ?_) | (refine laA hm ?_)) | ((with_reducible show wpList _ _ _ (Oper.mk _ (Op.store _ _ _) _ _ _ _ :: _) _ _); (refine stA hm ?_; clear hm; intro w hz hm ho)) | ((with_reducible show wpList _ _ _ (Oper.mk _ (Op.alloc _) _ _ _ _ :: _) _ _); (refine alA hm ?_; clear hm; intro n w hn hz hm ho; (try simp only [List.cons_append, List.nil_append] at hm)))); try simp only [Act.put, sxQ]))
          go_at_call 13
          refine (sp_Alive ((HC.out.resync hm).obj 0 rfl)).mono ?_
          rintro e w12 ⟨rfl, hb12⟩
          rw [hal]
          have hc2 := (HC.out.resync hm).below hb12
          clear hb12 hal
          clear HC hm
          simp only [List.nil_append, List.cons_append, List.set_cons_zero, List.set_cons_succ] at hc2
          have HC := Lib.hid hc2
          clear hc2
          have hm := HC.out.rebase
          go_wp2_with (first | go_skip | ((with_reducible show wpList _ _ _ _ _ (World.alloc _ _)); refine wpList_up hm ?_; clear hm; intro n w hn hn2 hk hm hd hd2 ho; (try rw [← hn]); replace hn := Nat.le_of_eq hn.symm) | ((first | ((with_reducible show wpList _ _ _ (Oper.mk _ (Op.box _ _) _ _ _ _ :: _) _ _); (refine bxA hm ?_; clear hm; intro n w hn hz hm ho; (try simp only [List.cons_append, List.nil_append] at hm))) | ((with_reducible show wpList _ _ _ (Oper.mk _ (Op.load _ _) _ _ _ _ :: _) _ _); first | (refine ldA hm ?_) | (refine laA hm ?_)) | ((with_reducible show wpList _ _ _ (Oper.mk _ (Op.store _ _ _) _ _ _ _ :: _) _ _); (refine stA hm ?_; clear hm; intro w hz hm ho)) | ((with_reducible show wpList _ _ _ (Oper.mk _ (Op.alloc _) _ _ _ _ :: _) _ _); (refine alA hm ?_; clear hm; intro n w hn hz hm ho; (try simp only [List.cons_append, List.nil_append] at hm)))); try simp only [Act.put, sxQ]))
          go_meet
          exact ⟨rfl, HC.out.resync hm⟩
        | false =>
          obtain rfl : er = 7 := HER.out.2 rfl
          have hal := HOF.out.2
          go_wp2_with (first | go_skip | ((with_reducible show wpList _ _ _ _ _ (World.alloc _ _)); refine wpList_up hm ?_; clear hm; intro n w hn hn2 hk hm hd hd2 ho; (try rw [← hn]); replace hn := Nat.le_of_eq hn.symm) | ((first | ((with_reducible show wpList _ _ _ (Oper.mk _ (Op.box _ _) _ _ _ _ :: _) _ _); (refine bxA hm ?_; clear hm; intro n w hn hz hm ho; (try simp only [List.cons_append, List.nil_append] at hm))) | ((with_reducible show wpList _ _ _ (Oper.mk _ (Op.load _ _) _ _ _ _ :: _) _ _); first | (refine ldA hm ?_) | (refine laA hm ?_)) | ((with_reducible show wpList _ _ _ (Oper.mk _ (Op.store _ _ _) _ _ _ _ :: _) _ _); (refine stA hm ?_; clear hm; intro w hz hm ho)) | ((with_reducible show wpList _ _ _ (Oper.mk _ (Op.alloc _) _ _ _ _ :: _) _ _); (refine alA hm ?_; clear hm; intro n w hn hz hm ho; (try simp only [List.cons_append, List.nil_append] at hm)))); try simp only [Act.put, sxQ]))
          go_at_call 13
          refine (sp_Alive ((HC.out.resync hm).obj 0 rfl)).mono ?_
          rintro e w12 ⟨rfl, hb12⟩
          rw [hal]
          have hc2 := (HC.out.resync hm).below hb12
          clear hb12 hal
          clear HC hm
          simp only [List.nil_append, List.cons_append, List.set_cons_zero, List.set_cons_succ] at hc2
          have HC := Lib.hid hc2
          clear hc2
          have hm := HC.out.rebase
          go_wp2_with (first | go_skip | ((with_reducible show wpList _ _ _ _ _ (World.alloc _ _)); refine wpList_up hm ?_; clear hm; intro n w hn hn2 hk hm hd hd2 ho; (try rw [← hn]); replace hn := Nat.le_of_eq hn.symm) | ((first | ((with_reducible show wpList _ _ _ (Oper.mk _ (Op.box _ _) _ _ _ _ :: _) _ _); (refine bxA hm ?_; clear hm; intro n w hn hz hm ho; (try simp only [List.cons_append, List.nil_append] at hm))) | ((with_reducible show wpList _ _ _ (Oper.mk _ (Op.load _ _) _ _ _ _ :: _) _ _); first | (refine ldA hm ?_) | (refine laA hm ?_)) | ((with_reducible show wpList _ _ _ (Oper.mk _ (Op.store _ _ _) _ _ _ _ :: _) _ _); (refine stA hm ?_; clear hm; intro w hz hm ho)) | ((with_reducible show wpList _ _ _ (Oper.mk _ (Op.alloc _) _ _ _ _ :: _) _ _); (refine alA hm ?_; clear hm; intro n w hn hz hm ho; (try simp only [List.cons_append, List.nil_append] at hm)))); try simp only [Act.put, sxQ]))
          go_meet
          exact ⟨rfl, HC.out.resync hm⟩
      case rest =>
        clear HC hm
        obtain ⟨rfl, hsc⟩ := hcut
        have HC := Lib.hid hsc
        have hm := HC.out.rebase
        clear hsc
        go_wp2_with (first | go_skip | ((with_reducible show wpList _ _ _ _ _ (World.alloc _ _)); refine wpList_up hm ?_; clear hm; intro n w hn hn2 hk hm hd hd2 ho; (try rw [← hn]); replace hn := Nat.le_of_eq hn.symm) | ((first | ((with_reducible show wpList _ _ _ (Oper.mk _ (Op.box _ _) _ _ _ _ :: _) _ _); (refine bxA hm ?_; clear hm; intro n w hn hz hm ho; (try simp only [List.cons_append, List.nil_append] at hm))) | ((with_reducible show wpList _ _ _ (Oper.mk _ (Op.load _ _) _ _ _ _ :: _) _ _); first | (refine ldA hm ?_) | (refine laA hm ?_)) | ((with_reducible show wpList _ _ _ (Oper.mk _ (Op.store _ _ _) _ _ _ _ :: _) _ _); (refine stA hm ?_; clear hm; intro w hz hm ho)) | ((with_reducible show wpList _ _ _ (Oper.mk _ (Op.alloc _) _ _ _ _ :: _) _ _); (refine alA hm ?_; clear hm; intro n w hn hz hm ho; (try simp only [List.cons_append, List.nil_append] at hm)))); try simp only [Act.put, sxQ]))
        go_at_call 14
        refine (sp_Restore ((HC.out.resync hm).obj 0 rfl)).mono ?_
        rintro e w13 ⟨rfl, hsp13, ho13⟩
        have hc13 := (HC.out.resync hm).turn 0 rfl ho13 (fun q h => .inl h) hsp13.sup
        have hc2 := hc13.turn 0 rfl (Only.refl _ w13) (fun q h => .inl (hsp13.memG q h)) hsp13.pat.mem.sup
        have HC13 : Hid (∃ fr, Pg.Can 33000000 fr p9.m.restore st9) := Lib.hid (HCN.out.imp fun _ h => h.restore)
        have HON : Hid (p9.m.restore.off = false ∧ p9.m.restore.pending = false) := Lib.hid ⟨rfl, rfl⟩
        have hpm : (p9.wm p9.m.restore).m = p9.m.restore := rfl
        rw [hpm] at hc2
        clear hc13 hsp13 ho13 hpm HCN HOF
        generalize p9.m.restore = M at *
        clear HC hm
        simp only [List.nil_append, List.cons_append, List.set_cons_zero, List.set_cons_succ] at hc2
        have HC := Lib.hid hc2
        clear hc2
        have hm := HC.out.rebase
        go_upto_if 98 with (first | go_skip | ((with_reducible show wpList _ _ _ _ _ (World.alloc _ _)); refine wpList_up hm ?_; clear hm; intro n w hn hn2 hk hm hd hd2 ho; (try rw [← hn]); replace hn := Nat.le_of_eq hn.symm) | ((first | ((with_reducible show wpList _ _ _ (Oper.mk _ (Op.box _ _) _ _ _ _ :: _) _ _); (refine bxA hm ?_; clear hm; intro n w hn hz hm ho; (try simp only [List.cons_append, List.nil_append] at hm))) | ((with_reducible show wpList _ _ _ (Oper.mk _ (Op.load _ _) _ _ _ _ :: _) _ _); first | (refine ldA hm ?_) | (refine laA hm ?_)) | ((with_reducible show wpList _ _ _ (Oper.mk _ (Op.store _ _ _) _ _ _ _ :: _) _ _); (refine stA hm ?_; clear hm; intro w hz hm ho)) | ((with_reducible show wpList _ _ _ (Oper.mk _ (Op.alloc _) _ _ _ _ :: _) _ _); (refine alA hm ?_; clear hm; intro n w hn hz hm ho; (try simp only [List.cons_append, List.nil_append] at hm)))); try simp only [Act.put, sxQ]))
        have hc2 := HC.out.resync hm
        clear HC hm
        simp only [List.nil_append, List.cons_append, List.set_cons_zero, List.set_cons_succ] at hc2
        have HC := Lib.hid hc2
        clear hc2
        have hm := HC.out.rebase
        go_cut [] (fun wx => ∃ gw gv nn cw cv M st', Scn w0 wx [⟨b5, 24, #[.int .u16 k0, .int .u16 k1]⟩, ⟨b7, 30, #[.pointer (some ⟨s9.gm, 0, none⟩), .pointer (some ⟨g, 0, none⟩), .pointer (some ⟨gj, 0, none⟩)]⟩, ⟨b9, 35, #[.slice A7 2544 c7]⟩, ⟨b12, 35, #[.slice A10 2544 c10]⟩] [] [⟨MemR s9.gm gw gv, fun u => MemAt u s9.gm gw gv nn cw cv M⟩] [stT A7 c7 S1, stT A10 c10 S2] ∧ M.off = false ∧ M.pending = false ∧ (∃ fr, Pg.Can 50000000 fr M st') ∧ Jn.Meant st' S9 ∧ st'.length = 85)
        case first =>
          cases hb : (k1.tmod 2 == 1) with
          | false =>
            go_wp2_with (first | go_skip | ((with_reducible show wpList _ _ _ _ _ (World.alloc _ _)); refine wpList_up hm ?_; clear hm; intro n w hn hn2 hk hm hd hd2 ho; (try rw [← hn]); replace hn := Nat.le_of_eq hn.symm) | ((first | ((with_reducible show wpList _ _ _ (Oper.mk _ (Op.box _ _) _ _ _ _ :: _) _ _); (refine bxA hm ?_; clear hm; intro n w hn hz hm ho; (try simp only [List.cons_append, List.nil_append] at hm))) | ((with_reducible show wpList _ _ _ (Oper.mk _ (Op.load _ _) _ _ _ _ :: _) _ _); first | (refine ldA hm ?_) | (refine laA hm ?_)) | ((with_reducible show wpList _ _ _ (Oper.mk _ (Op.store _ _ _) _ _ _ _ :: _) _ _); (refine stA hm ?_; clear hm; intro w hz hm ho)) | ((with_reducible show wpList _ _ _ (Oper.mk _ (Op.alloc _) _ _ _ _ :: _) _ _); (refine alA hm ?_; clear hm; intro n w hn hz hm ho; (try simp only [List.cons_append, List.nil_append] at hm)))); try simp only [Act.put, sxQ]))
            go_meet
            exact ⟨_, _, _, _, _, M, st9, HC.out, HON.out.1, HON.out.2, HC13.out.imp fun _ h => h.mono (by omega), HME.out.1, HME.out.2⟩
          | true =>
            go_wp2_with (first | go_skip | ((with_reducible show wpList _ _ _ _ _ (World.alloc _ _)); refine wpList_up hm ?_; clear hm; intro n w hn hn2 hk hm hd hd2 ho; (try rw [← hn]); replace hn := Nat.le_of_eq hn.symm) | ((first | ((with_reducible show wpList _ _ _ (Oper.mk _ (Op.box _ _) _ _ _ _ :: _) _ _); (refine bxA hm ?_; clear hm; intro n w hn hz hm ho; (try simp only [List.cons_append, List.nil_append] at hm))) | ((with_reducible show wpList _ _ _ (Oper.mk _ (Op.load _ _) _ _ _ _ :: _) _ _); first | (refine ldA hm ?_) | (refine laA hm ?_)) | ((with_reducible show wpList _ _ _ (Oper.mk _ (Op.store _ _ _) _ _ _ _ :: _) _ _); (refine stA hm ?_; clear hm; intro w hz hm ho)) | ((with_reducible show wpList _ _ _ (Oper.mk _ (Op.alloc _) _ _ _ _ :: _) _ _); (refine alA hm ?_; clear hm; intro n w hn hz hm ho; (try simp only [List.cons_append, List.nil_append] at hm)))); try simp only [Act.put, sxQ]))
            obtain ⟨z2, hz2⟩ : ∃ z2, z2 = wrap64 ((IntKind.u16.wrap (k1.tdiv 2)).tmod 2000) := ⟨_, rfl⟩
            have HZ2 := Lib.hid (show z2 ≤ 9223372036854775807 by rw [hz2]; exact wrap64_le _)
            rw [← hz2]
            clear hz2
            go_at_call 11
            refine (cell_Cut ((HC.out.resync hm).obj 0 rfl) z2).mono ?_
            rintro e w14 ⟨rfl, hmem14, ho14⟩
            have hc2 := (HC.out.resync hm).turn 0 rfl ho14 (fun q h => .inl h) hmem14.sup
            obtain ⟨fr14, hcan14⟩ : ∃ fr, Pg.Can 33000000 fr (M.cut z2).1 st9 := HC13.out.imp fun _ h => h.cut HZ2.out
            have HC14 := Lib.hid hcan14
            have HON14 : Hid ((M.cut z2).1.off = false) := Lib.hid (Cel.Mem.cut_on HON.out.1 z2)
            clear hmem14 ho14 hcan14
            generalize (M.cut z2).1 = M3 at *
            generalize (M.cut z2).2 = ez2 at *
            clear HC hm
            simp only [List.nil_append, List.cons_append, List.set_cons_zero, List.set_cons_succ] at hc2
            have HC := Lib.hid hc2
            clear hc2
            have hm := HC.out.rebase
            go_wp2_with (first | go_skip | ((with_reducible show wpList _ _ _ _ _ (World.alloc _ _)); refine wpList_up hm ?_; clear hm; intro n w hn hn2 hk hm hd hd2 ho; (try rw [← hn]); replace hn := Nat.le_of_eq hn.symm) | ((first | ((with_reducible show wpList _ _ _ (Oper.mk _ (Op.box _ _) _ _ _ _ :: _) _ _); (refine bxA hm ?_; clear hm; intro n w hn hz hm ho; (try simp only [List.cons_append, List.nil_append] at hm))) | ((with_reducible show wpList _ _ _ (Oper.mk _ (Op.load _ _) _ _ _ _ :: _) _ _); first | (refine ldA hm ?_) | (refine laA hm ?_)) | ((with_reducible show wpList _ _ _ (Oper.mk _ (Op.store _ _ _) _ _ _ _ :: _) _ _); (refine stA hm ?_; clear hm; intro w hz hm ho)) | ((with_reducible show wpList _ _ _ (Oper.mk _ (Op.alloc _) _ _ _ _ :: _) _ _); (refine alA hm ?_; clear hm; intro n w hn hz hm ho; (try simp only [List.cons_append, List.nil_append] at hm)))); try simp only [Act.put, sxQ]))
            go_at_call 15
            refine (page_Open_can ((HC.out.resync hm).obj 0 rfl) HON14.out HC14.out (by omega)).mono ?_
            rintro e w15 ⟨hb15, g2, G2, s2, p2, rfl, hL2, hpm2, hfx2, hp2, e1, e2, e3, e4, e5, e6, hG2⟩
            have hc2 := (HC.out.resync hm).turn 0 rfl (Only.of_below hb15) (fun q hq => by
              rcases hG2 q hq with h | h | h | h
              · exact .inl (.inl h)
              · exact .inl (.inr (.inl h))
              · exact .inl (.inr (.inr h))
              · exact .inr h) hp2.sup
            have HL2 := Lib.hid (show PL False 33000000 p2 st9 from ⟨⟨fr14, hL2⟩, fun h => h.elim⟩)
            have HE1 := Lib.hid e1
            clear hb15 hL2 hpm2 hfx2 hp2 e1 e2 e3 e4 e5 e6 hG2
            clear HC hm
            simp only [List.nil_append, List.cons_append, List.set_cons_zero, List.set_cons_succ] at hc2
            have HC := Lib.hid hc2
            clear hc2
            have hm := HC.out.rebase
            go_wp2_with (first | go_skip | ((with_reducible show wpList _ _ _ _ _ (World.alloc _ _)); refine wpList_up hm ?_; clear hm; intro n w hn hn2 hk hm hd hd2 ho; (try rw [← hn]); replace hn := Nat.le_of_eq hn.symm) | ((first | ((with_reducible show wpList _ _ _ (Oper.mk _ (Op.box _ _) _ _ _ _ :: _) _ _); (refine bxA hm ?_; clear hm; intro n w hn hz hm ho; (try simp only [List.cons_append, List.nil_append] at hm))) | ((with_reducible show wpList _ _ _ (Oper.mk _ (Op.load _ _) _ _ _ _ :: _) _ _); first | (refine ldA hm ?_) | (refine laA hm ?_)) | ((with_reducible show wpList _ _ _ (Oper.mk _ (Op.store _ _ _) _ _ _ _ :: _) _ _); (refine stA hm ?_; clear hm; intro w hz hm ho)) | ((with_reducible show wpList _ _ _ (Oper.mk _ (Op.alloc _) _ _ _ _ :: _) _ _); (refine alA hm ?_; clear hm; intro n w hn hz hm ho; (try simp only [List.cons_append, List.nil_append] at hm)))); try simp only [Act.put, sxQ]))
            go_at_call 16
            refine (jn_Open ((HC.out.resync hm).obj 0 rfl) HL2.out (by omega) S9 HME.out.1).mono ?_
            rintro e w16 ⟨p3, G3, s3, hp3, hG3, ho3, hgm3, h⟩
            have hc2 := (HC.out.resync hm).turn 0 rfl ho3 hG3 hp3.sup
            obtain ⟨v, rfl, st3, hcan3, hme3, hl3⟩ : ∃ v, e = .returned v ∧ ∃ st3, (∃ fr, Pg.Can 45000000 fr p3.m st3) ∧ Jn.Meant st3 S9 ∧ st3.length = st9.length := by
              rcases h with ⟨gj3, st3, rfl, _, _, _, hL3, hS3, hl3⟩ | ⟨st3, rfl, hD3, hS3, hl3⟩
              · exact ⟨_, rfl, st3, hL3.can, hS3.meant, hl3⟩
              · exact ⟨_, rfl, st3, hD3.can, hS3, hl3⟩
            have H3 := Lib.hid (And.intro hcan3 (And.intro hme3 (hl3.trans HME.out.2)))
            have HG3 := Lib.hid (hgm3.trans HE1.out)
            clear hp3 hG3 ho3 hgm3 h hcan3 hme3 hl3
            clear HC hm
            simp only [List.nil_append, List.cons_append, List.set_cons_zero, List.set_cons_succ] at hc2
            have HC := Lib.hid hc2
            clear hc2
            have hm := HC.out.rebase
            go_wp2_with (first | go_skip | ((with_reducible show wpList _ _ _ _ _ (World.alloc _ _)); refine wpList_up hm ?_; clear hm; intro n w hn hn2 hk hm hd hd2 ho; (try rw [← hn]); replace hn := Nat.le_of_eq hn.symm) | ((first | ((with_reducible show wpList _ _ _ (Oper.mk _ (Op.box _ _) _ _ _ _ :: _) _ _); (refine bxA hm ?_; clear hm; intro n w hn hz hm ho; (try simp only [List.cons_append, List.nil_append] at hm))) | ((with_reducible show wpList _ _ _ (Oper.mk _ (Op.load _ _) _ _ _ _ :: _) _ _); first | (refine ldA hm ?_) | (refine laA hm ?_)) | ((with_reducible show wpList _ _ _ (Oper.mk _ (Op.store _ _ _) _ _ _ _ :: _) _ _); (refine stA hm ?_; clear hm; intro w hz hm ho)) | ((with_reducible show wpList _ _ _ (Oper.mk _ (Op.alloc _) _ _ _ _ :: _) _ _); (refine alA hm ?_; clear hm; intro n w hn hz hm ho; (try simp only [List.cons_append, List.nil_append] at hm)))); try simp only [Act.put, sxQ]))
            have hre := page_Restore (show PAt _ g2 G3 s3 p3 from (HC.out.resync hm).obj 0 rfl)
            rw [HG3.out] at hre
            go_at_call 14
            refine hre.mono ?_
            rintro e w17 ⟨rfl, hp17, ho17⟩
            have hc17 := (HC.out.resync hm).turn 0 rfl ho17 (fun q h => .inl h) hp17.sup
            have hc2 := hc17.turn 0 rfl (Only.refl _ w17) (fun q h => .inl (hp17.memR h)) hp17.mem.sup
            have hpm : (p3.wm p3.m.restore).m = p3.m.restore := rfl
            rw [hpm, HG3.out] at hc2
            clear hre hp17 ho17 hc17 hpm
            clear HC hm
            simp only [List.nil_append, List.cons_append, List.set_cons_zero, List.set_cons_succ] at hc2
            have HC := Lib.hid hc2
            clear hc2
            have hm := HC.out.rebase
            go_wp2_with (first | go_skip | ((with_reducible show wpList _ _ _ _ _ (World.alloc _ _)); refine wpList_up hm ?_; clear hm; intro n w hn hn2 hk hm hd hd2 ho; (try rw [← hn]); replace hn := Nat.le_of_eq hn.symm) | ((first | ((with_reducible show wpList _ _ _ (Oper.mk _ (Op.box _ _) _ _ _ _ :: _) _ _); (refine bxA hm ?_; clear hm; intro n w hn hz hm ho; (try simp only [List.cons_append, List.nil_append] at hm))) | ((with_reducible show wpList _ _ _ (Oper.mk _ (Op.load _ _) _ _ _ _ :: _) _ _); first | (refine ldA hm ?_) | (refine laA hm ?_)) | ((with_reducible show wpList _ _ _ (Oper.mk _ (Op.store _ _ _) _ _ _ _ :: _) _ _); (refine stA hm ?_; clear hm; intro w hz hm ho)) | ((with_reducible show wpList _ _ _ (Oper.mk _ (Op.alloc _) _ _ _ _ :: _) _ _); (refine alA hm ?_; clear hm; intro n w hn hz hm ho; (try simp only [List.cons_append, List.nil_append] at hm)))); try simp only [Act.put, sxQ]))
            go_meet
            exact ⟨_, _, _, _, _, p3.m.restore, _, HC.out.resync hm, rfl, rfl, H3.out.1.imp fun _ h => (h.restore).mono (by omega), H3.out.2.1, H3.out.2.2⟩
        case rest =>
          clear HC hm HC13 HON HME
          obtain ⟨gw, gv, nn, cw, cv, M2, st14, hsc, hof, hpe, hcan, hme, hl14⟩ := hcut
          have HC := Lib.hid hsc
          have hm := HC.out.rebase
          have HON := Lib.hid (And.intro hof hpe)
          have HCN := Lib.hid hcan
          have HME := Lib.hid (And.intro hme hl14)
          clear hsc hof hpe hcan hme hl14
          go_wp2_with (first | go_skip | ((with_reducible show wpList _ _ _ _ _ (World.alloc _ _)); refine wpList_up hm ?_; clear hm; intro n w hn hn2 hk hm hd hd2 ho; (try rw [← hn]); replace hn := Nat.le_of_eq hn.symm) | ((first | ((with_reducible show wpList _ _ _ (Oper.mk _ (Op.box _ _) _ _ _ _ :: _) _ _); (refine bxA hm ?_; clear hm; intro n w hn hz hm ho; (try simp only [List.cons_append, List.nil_append] at hm))) | ((with_reducible show wpList _ _ _ (Oper.mk _ (Op.load _ _) _ _ _ _ :: _) _ _); first | (refine ldA hm ?_) | (refine laA hm ?_)) | ((with_reducible show wpList _ _ _ (Oper.mk _ (Op.store _ _ _) _ _ _ _ :: _) _ _); (refine stA hm ?_; clear hm; intro w hz hm ho)) | ((with_reducible show wpList _ _ _ (Oper.mk _ (Op.alloc _) _ _ _ _ :: _) _ _); (refine alA hm ?_; clear hm; intro n w hn hz hm ho; (try simp only [List.cons_append, List.nil_append] at hm)))); try simp only [Act.put, sxQ]))
          go_at_call 17
          refine (law12_open ((HC.out.resync hm).obj 0 rfl) HON.out.1 HON.out.2 HCN.out (by omega) S9 HME.out.1).mono ?_
          rintro e w15 ⟨g15, gj15, G15, s15, p15, st15, rfl, hsp15, hgm15, hG15, ho15, hL15, hS15, hl15⟩
          have hc2 := (HC.out.resync hm).turn 0 rfl ho15 hG15 hsp15.sup
          have HL15 := Lib.hid hL15
          have HS15 := Lib.hid (And.intro hS15 (hl15.trans HME.out.2))
          rw [← hgm15] at *
          clear hsp15 hG15 ho15 hL15 hS15 hl15 hgm15
          clear HC hm
          simp only [List.nil_append, List.cons_append, List.set_cons_zero, List.set_cons_succ] at hc2
          have HC := Lib.hid hc2
          clear hc2
          have hm := HC.out.rebase
          have hfl : Jn.flat st15 = S9 := good_flat HS15.out.1
          have HFL := Lib.hid hfl
          clear hfl
          cases on with
          | true =>
            obtain rfl : S9 = S2 := HSS.out.1 rfl
            go_wp2_with (first | go_skip | ((with_reducible show wpList _ _ _ _ _ (World.alloc _ _)); refine wpList_up hm ?_; clear hm; intro n w hn hn2 hk hm hd hd2 ho; (try rw [← hn]); replace hn := Nat.le_of_eq hn.symm) | ((first | ((with_reducible show wpList _ _ _ (Oper.mk _ (Op.box _ _) _ _ _ _ :: _) _ _); (refine bxA hm ?_; clear hm; intro n w hn hz hm ho; (try simp only [List.cons_append, List.nil_append] at hm))) | ((with_reducible show wpList _ _ _ (Oper.mk _ (Op.load _ _) _ _ _ _ :: _) _ _); first | (refine ldA hm ?_) | (refine laA hm ?_)) | ((with_reducible show wpList _ _ _ (Oper.mk _ (Op.store _ _ _) _ _ _ _ :: _) _ _); (refine stA hm ?_; clear hm; intro w hz hm ho)) | ((with_reducible show wpList _ _ _ (Oper.mk _ (Op.alloc _) _ _ _ _ :: _) _ _); (refine alA hm ?_; clear hm; intro n w hn hz hm ho; (try simp only [List.cons_append, List.nil_append] at hm)))); try simp only [Act.put, sxQ]))
            go_at_call 18
            refine (law12_all ((HC.out.resync hm).obj 0 rfl) HL15.out (by omega) HS15.out.2 ((HC.out.resync hm).val 1 rfl) ((HC.out.resync hm).far 0 rfl 1 rfl)).mono ?_
            rintro e w16 ⟨cc, rfl, hsp16, hL16, ho16⟩
            have hc2 := (HC.out.resync hm).turn 0 rfl ho16 (fun q h => .inl h) hsp16.sup
            rw [HFL.out, Oct.same_refl]
            clear hsp16 hL16 ho16
            clear HC hm
            simp only [List.nil_append, List.cons_append, List.set_cons_zero, List.set_cons_succ] at hc2
            have HC := Lib.hid hc2
            clear hc2
            have hm := HC.out.rebase
            go_wp2_with (first | go_skip | ((with_reducible show wpList _ _ _ _ _ (World.alloc _ _)); refine wpList_up hm ?_; clear hm; intro n w hn hn2 hk hm hd hd2 ho; (try rw [← hn]); replace hn := Nat.le_of_eq hn.symm) | ((first | ((with_reducible show wpList _ _ _ (Oper.mk _ (Op.box _ _) _ _ _ _ :: _) _ _); (refine bxA hm ?_; clear hm; intro n w hn hz hm ho; (try simp only [List.cons_append, List.nil_append] at hm))) | ((with_reducible show wpList _ _ _ (Oper.mk _ (Op.load _ _) _ _ _ _ :: _) _ _); first | (refine ldA hm ?_) | (refine laA hm ?_)) | ((with_reducible show wpList _ _ _ (Oper.mk _ (Op.store _ _ _) _ _ _ _ :: _) _ _); (refine stA hm ?_; clear hm; intro w hz hm ho)) | ((with_reducible show wpList _ _ _ (Oper.mk _ (Op.alloc _) _ _ _ _ :: _) _ _); (refine alA hm ?_; clear hm; intro n w hn hz hm ho; (try simp only [List.cons_append, List.nil_append] at hm)))); try simp only [Act.put, sxQ]))
            go_at_call 19
            refine (law12_awake _).mono ?_
            rintro e w17 ⟨rfl, hb17⟩
            have hlow := (HC.out.resync hm).low
            clear hm HC
            go_wp2_with fail
            go_ret
            exact ⟨rfl, hlow.trans (hb17.mono hlow.size)⟩
          | false =>
            have hor := HSS.out.2 rfl
            go_wp2_with (first | go_skip | ((with_reducible show wpList _ _ _ _ _ (World.alloc _ _)); refine wpList_up hm ?_; clear hm; intro n w hn hn2 hk hm hd hd2 ho; (try rw [← hn]); replace hn := Nat.le_of_eq hn.symm) | ((first | ((with_reducible show wpList _ _ _ (Oper.mk _ (Op.box _ _) _ _ _ _ :: _) _ _); (refine bxA hm ?_; clear hm; intro n w hn hz hm ho; (try simp only [List.cons_append, List.nil_append] at hm))) | ((with_reducible show wpList _ _ _ (Oper.mk _ (Op.load _ _) _ _ _ _ :: _) _ _); first | (refine ldA hm ?_) | (refine laA hm ?_)) | ((with_reducible show wpList _ _ _ (Oper.mk _ (Op.store _ _ _) _ _ _ _ :: _) _ _); (refine stA hm ?_; clear hm; intro w hz hm ho)) | ((with_reducible show wpList _ _ _ (Oper.mk _ (Op.alloc _) _ _ _ _ :: _) _ _); (refine alA hm ?_; clear hm; intro n w hn hz hm ho; (try simp only [List.cons_append, List.nil_append] at hm)))); try simp only [Act.put, sxQ]))
            go_at_call 18
            refine (law12_all ((HC.out.resync hm).obj 0 rfl) HL15.out (by omega) HS15.out.2 ((HC.out.resync hm).val 0 rfl) ((HC.out.resync hm).far 0 rfl 0 rfl)).mono ?_
            rintro e w16 ⟨cc, rfl, hsp16, hL16, ho16⟩
            have hc2 := (HC.out.resync hm).turn 0 rfl ho16 (fun q h => .inl h) hsp16.sup
            have HL16 := Lib.hid hL16
            rw [HFL.out]
            clear hsp16 hL16 ho16
            clear HC hm
            simp only [List.nil_append, List.cons_append, List.set_cons_zero, List.set_cons_succ] at hc2
            have HC := Lib.hid hc2
            clear hc2
            have hm := HC.out.rebase
            cases hb : Oct.same S9 S1 with
            | true =>
              go_wp2_with (first | go_skip | ((with_reducible show wpList _ _ _ _ _ (World.alloc _ _)); refine wpList_up hm ?_; clear hm; intro n w hn hn2 hk hm hd hd2 ho; (try rw [← hn]); replace hn := Nat.le_of_eq hn.symm) | ((first | ((with_reducible show wpList _ _ _ (Oper.mk _ (Op.box _ _) _ _ _ _ :: _) _ _); (refine bxA hm ?_; clear hm; intro n w hn hz hm ho; (try simp only [List.cons_append, List.nil_append] at hm))) | ((with_reducible show wpList _ _ _ (Oper.mk _ (Op.load _ _) _ _ _ _ :: _) _ _); first | (refine ldA hm ?_) | (refine laA hm ?_)) | ((with_reducible show wpList _ _ _ (Oper.mk _ (Op.store _ _ _) _ _ _ _ :: _) _ _); (refine stA hm ?_; clear hm; intro w hz hm ho)) | ((with_reducible show wpList _ _ _ (Oper.mk _ (Op.alloc _) _ _ _ _ :: _) _ _); (refine alA hm ?_; clear hm; intro n w hn hz hm ho; (try simp only [List.cons_append, List.nil_append] at hm)))); try simp only [Act.put, sxQ]))
              go_at_call 19
              refine (law12_awake _).mono ?_
              rintro e w17 ⟨rfl, hb17⟩
              have hlow := (HC.out.resync hm).low
              clear hm HC
              go_wp2_with fail
              go_ret
              exact ⟨rfl, hlow.trans (hb17.mono hlow.size)⟩
            | false =>
              obtain rfl : S9 = S2 := hor.resolve_left (fun e => by rw [e, Oct.same_refl] at hb; cases hb)
              clear hor hb
              go_wp2_with (first | go_skip | ((with_reducible show wpList _ _ _ _ _ (World.alloc _ _)); refine wpList_up hm ?_; clear hm; intro n w hn hn2 hk hm hd hd2 ho; (try rw [← hn]); replace hn := Nat.le_of_eq hn.symm) | ((first | ((with_reducible show wpList _ _ _ (Oper.mk _ (Op.box _ _) _ _ _ _ :: _) _ _); (refine bxA hm ?_; clear hm; intro n w hn hz hm ho; (try simp only [List.cons_append, List.nil_append] at hm))) | ((with_reducible show wpList _ _ _ (Oper.mk _ (Op.load _ _) _ _ _ _ :: _) _ _); first | (refine ldA hm ?_) | (refine laA hm ?_)) | ((with_reducible show wpList _ _ _ (Oper.mk _ (Op.store _ _ _) _ _ _ _ :: _) _ _); (refine stA hm ?_; clear hm; intro w hz hm ho)) | ((with_reducible show wpList _ _ _ (Oper.mk _ (Op.alloc _) _ _ _ _ :: _) _ _); (refine alA hm ?_; clear hm; intro n w hn hz hm ho; (try simp only [List.cons_append, List.nil_append] at hm)))); try simp only [Act.put, sxQ]))
              go_at_call 18
              refine (law12_all ((HC.out.resync hm).obj 0 rfl) HL16.out (by omega) HS15.out.2 ((HC.out.resync hm).val 1 rfl) ((HC.out.resync hm).far 0 rfl 1 rfl)).mono ?_
              rintro e w17 ⟨cc2, rfl, hsp17, hL17, ho17⟩
              have hc2 := (HC.out.resync hm).turn 0 rfl ho17 (fun q h => .inl h) hsp17.sup
              rw [HFL.out, Oct.same_refl]
              clear hsp17 hL17 ho17
              clear HC hm
              simp only [List.nil_append, List.cons_append, List.set_cons_zero, List.set_cons_succ] at hc2
              have HC := Lib.hid hc2
              clear hc2
              have hm := HC.out.rebase
              go_wp2_with (first | go_skip | ((with_reducible show wpList _ _ _ _ _ (World.alloc _ _)); refine wpList_up hm ?_; clear hm; intro n w hn hn2 hk hm hd hd2 ho; (try rw [← hn]); replace hn := Nat.le_of_eq hn.symm) | ((first | ((with_reducible show wpList _ _ _ (Oper.mk _ (Op.box _ _) _ _ _ _ :: _) _ _); (refine bxA hm ?_; clear hm; intro n w hn hz hm ho; (try simp only [List.cons_append, List.nil_append] at hm))) | ((with_reducible show wpList _ _ _ (Oper.mk _ (Op.load _ _) _ _ _ _ :: _) _ _); first | (refine ldA hm ?_) | (refine laA hm ?_)) | ((with_reducible show wpList _ _ _ (Oper.mk _ (Op.store _ _ _) _ _ _ _ :: _) _ _); (refine stA hm ?_; clear hm; intro w hz hm ho)) | ((with_reducible show wpList _ _ _ (Oper.mk _ (Op.alloc _) _ _ _ _ :: _) _ _); (refine alA hm ?_; clear hm; intro n w hn hz hm ho; (try simp only [List.cons_append, List.nil_append] at hm)))); try simp only [Act.put, sxQ]))
              go_at_call 19
              refine (law12_awake _).mono ?_
              rintro e w18 ⟨rfl, hb18⟩
              have hlow := (HC.out.resync hm).low
              clear hm HC
              go_wp2_with fail
              go_ret
              exact ⟨rfl, hlow.trans (hb18.mono hlow.size)⟩
end Go.Proofs.YtmhjddmamknglaaGreat
