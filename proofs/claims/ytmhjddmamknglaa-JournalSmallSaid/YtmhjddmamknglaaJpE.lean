/-
  The journal: JournalSmall.
-/
import Derived.Test.YtmhjddmamknglaaZ0
import Derived.Test.YtmhjddmamknglaaJpC
namespace Go.Proofs.Ytmhjddmamknglaa
set_option maxRecDepth 100000
set_option linter.unusedSimpArgs false
set_option linter.unusedVariables false
open Go.RowKit
set_option maxHeartbeats 8000000

theorem small_facts (a : Int) (ha : 0 ≤ a ∧ a ≤ 255) : ∃ n : Nat, 240 ≤ n ∧ n ≤ 495 ∧ wrap64 (240 + a) = (n : Int) ∧ IntKind.i64.wrap (240 + a) = (n : Int) := ⟨(240 + a).toNat, by omega, by omega, by rw [IntWalk.wrap64_in _ (by omega)]; omega, by rw [IntWalk.i64_in _ (by omega)]; omega⟩
theorem byte_of (b : Int) (hb : 0 ≤ b ∧ b ≤ 255) : ∃ x : UInt8, b = (x.toNat : Int) := ⟨UInt8.ofNat b.toNat, by rw [UInt8.toNat_ofNat']; omega⟩
theorem chs_nil (w : World) : Chs w w.heap.size none 0 0 [] := ⟨rfl, Nat.le_refl _, fun h => absurd h (Nat.lt_irrefl 0), fun y hy => (by cases hy)⟩
theorem law_JournalSmall (a b : Int) (w0 : World) (ha : 0 ≤ a ∧ a ≤ 255) (hb : 0 ≤ b ∧ b ≤ 255) : Calls Try.prog 4 #[.int .u8 a, .int .u8 b] w0 fun e w' => e = .returned (.bool true) ∧ Below w0.heap.size w0 w' := by
  obtain ⟨n, hn1, hn2, u1, u2⟩ := small_facts a ha
  obtain ⟨x, rfl⟩ := byte_of b hb
  have u3 : IntKind.i64.wrap a = a := IntWalk.i64_in _ (by omega)
  have HN := Lib.hid (And.intro hn1 hn2)
  have HC := Lib.hid (Scn.start w0)
  have hm := HC.out.rebase
  clear ha hb hn1 hn2
  go_enter Try.func4, Try.ntmps4
  go_wp2_with (first | go_skip | ((with_reducible show wpList _ _ _ _ _ (World.alloc _ _)); refine wpList_up hm ?_; clear hm; intro n w hn hn2 hk hm hd hd2 ho; (try rw [← hn]); replace hn := Nat.le_of_eq hn.symm) | ((first | ((with_reducible show wpList _ _ _ (Oper.mk _ (Op.box _ _) _ _ _ _ :: _) _ _); (refine bxA hm ?_; clear hm; intro n w hn hz hm ho; (try simp only [List.cons_append, List.nil_append] at hm))) | ((with_reducible show wpList _ _ _ (Oper.mk _ (Op.load _ _) _ _ _ _ :: _) _ _); first | (refine ldA hm ?_) | (refine laA hm ?_)) | ((with_reducible show wpList _ _ _ (Oper.mk _ (Op.store _ _ _) _ _ _ _ :: _) _ _); (refine stA hm ?_; clear hm; intro w hz hm ho)) | ((with_reducible show wpList _ _ _ (Oper.mk _ (Op.alloc _) _ _ _ _ :: _) _ _); (refine alA hm ?_; clear hm; intro n w hn hz hm ho; (try simp only [List.cons_append, List.nil_append] at hm)))); try simp only [Act.put, sxQ]))
  go_at_call 7
  refine (law12_begin n (by have := HN.out; omega) (by have := HN.out; omega) _).mono ?_
  rintro e w1 ⟨hb1, g, gj, G, s, p, st, rfl, hsp, hG, hL, hS, hlen⟩
  have hc2 := HC.out.born hb1 hsp.sup hG
  have HL := Lib.hid hL
  have HS := Lib.hid (show Jn.Good st [] by rw [show 48 * (n / 24 - 32) = 0 by have := HN.out; omega] at hS; exact hS)
  have HLEN := Lib.hid (show 10 ≤ st.length ∧ st.length ≤ 20 by have := HN.out; omega)
  have HSZ : Hid (∀ u, Spc u g gj G s p → Calls Try.prog 13 #[.pointer (some ⟨gj, 0, none⟩)] u fun e w' => e = .returned (.int .i64 0) ∧ Below u.heap.size u w') := Lib.hid fun u h => (sp_Size h hL).mono fun e w' ⟨h1, h2⟩ => ⟨by rw [h1, show st.length - 32 = 0 by have := HLEN.out; omega]; rfl, h2⟩
  have i1 : decide (32 < (st.length : Int)) = false := decide_eq_false (by have := HLEN.out; omega)
  clear hb1 hsp hG hL hS hlen
  clear HC hm
  simp only [List.nil_append, List.cons_append, List.set_cons_zero, List.set_cons_succ] at hc2
  have HC := Lib.hid hc2
  clear hc2
  have hm := HC.out.rebase
  go_wp2_with (first | go_skip | ((with_reducible show wpList _ _ _ _ _ (World.alloc _ _)); refine wpList_up hm ?_; clear hm; intro n w hn hn2 hk hm hd hd2 ho; (try rw [← hn]); replace hn := Nat.le_of_eq hn.symm) | ((first | ((with_reducible show wpList _ _ _ (Oper.mk _ (Op.box _ _) _ _ _ _ :: _) _ _); (refine bxA hm ?_; clear hm; intro n w hn hz hm ho; (try simp only [List.cons_append, List.nil_append] at hm))) | ((with_reducible show wpList _ _ _ (Oper.mk _ (Op.load _ _) _ _ _ _ :: _) _ _); first | (refine ldA hm ?_) | (refine laA hm ?_)) | ((with_reducible show wpList _ _ _ (Oper.mk _ (Op.store _ _ _) _ _ _ _ :: _) _ _); (refine stA hm ?_; clear hm; intro w hz hm ho)) | ((with_reducible show wpList _ _ _ (Oper.mk _ (Op.alloc _) _ _ _ _ :: _) _ _); (refine alA hm ?_; clear hm; intro n w hn hz hm ho; (try simp only [List.cons_append, List.nil_append] at hm)))); try simp only [Act.put, sxQ]))
  obtain ⟨n1, h9⟩ := hm.nm 0 rfl
  dsimp only at h9
  subst h9
  go_at_call 16
  refine (sp_Count ((HC.out.resync hm).obj 0 rfl) HL.out).mono ?_
  rintro e w2 ⟨rfl, hb2⟩
  have hc2 := (HC.out.resync hm).below hb2
  clear hb2
  clear HC hm
  simp only [List.nil_append, List.cons_append, List.set_cons_zero, List.set_cons_succ] at hc2
  have HC := Lib.hid hc2
  clear hc2
  have hm := HC.out.rebase
  go_wp2_with (first | go_skip | ((with_reducible show wpList _ _ _ _ _ (World.alloc _ _)); refine wpList_up hm ?_; clear hm; intro n w hn hn2 hk hm hd hd2 ho; (try rw [← hn]); replace hn := Nat.le_of_eq hn.symm) | ((first | ((with_reducible show wpList _ _ _ (Oper.mk _ (Op.box _ _) _ _ _ _ :: _) _ _); (refine bxA hm ?_; clear hm; intro n w hn hz hm ho; (try simp only [List.cons_append, List.nil_append] at hm))) | ((with_reducible show wpList _ _ _ (Oper.mk _ (Op.load _ _) _ _ _ _ :: _) _ _); first | (refine ldA hm ?_) | (refine laA hm ?_)) | ((with_reducible show wpList _ _ _ (Oper.mk _ (Op.store _ _ _) _ _ _ _ :: _) _ _); (refine stA hm ?_; clear hm; intro w hz hm ho)) | ((with_reducible show wpList _ _ _ (Oper.mk _ (Op.alloc _) _ _ _ _ :: _) _ _); (refine alA hm ?_; clear hm; intro n w hn hz hm ho; (try simp only [List.cons_append, List.nil_append] at hm)))); try simp only [Act.put, sxQ]))
  go_at_call 13
  refine (HSZ.out _ ((HC.out.resync hm).obj 0 rfl)).mono ?_
  rintro e w3 ⟨rfl, hb3⟩
  have hc2 := (HC.out.resync hm).below hb3
  clear hb3
  clear HC hm
  simp only [List.nil_append, List.cons_append, List.set_cons_zero, List.set_cons_succ] at hc2
  have HC := Lib.hid hc2
  clear hc2
  have hm := HC.out.rebase
  go_wp2_with (first | ((with_reducible show wpList _ _ _ _ _ (World.alloc _ _)); refine wpList_up hm ?_; clear hm; intro nV w hnV hnV2 hkV hm hdV hdV2 ho; (try rw [← hnV]); replace hnV := Nat.le_of_eq hnV.symm; replace hm := hm.cons hkV (.inr hnV2) (fun e he e2 => hdV e he e2.symm) hdV2; clear hkV hdV hdV2) | go_skip | ((with_reducible show wpList _ _ _ _ _ (World.alloc _ _)); refine wpList_up hm ?_; clear hm; intro n w hn hn2 hk hm hd hd2 ho; (try rw [← hn]); replace hn := Nat.le_of_eq hn.symm) | ((first | ((with_reducible show wpList _ _ _ (Oper.mk _ (Op.box _ _) _ _ _ _ :: _) _ _); (refine bxA hm ?_; clear hm; intro n w hn hz hm ho; (try simp only [List.cons_append, List.nil_append] at hm))) | ((with_reducible show wpList _ _ _ (Oper.mk _ (Op.load _ _) _ _ _ _ :: _) _ _); first | (refine ldA hm ?_) | (refine laA hm ?_)) | ((with_reducible show wpList _ _ _ (Oper.mk _ (Op.store _ _ _) _ _ _ _ :: _) _ _); (refine stA hm ?_; clear hm; intro w hz hm ho)) | ((with_reducible show wpList _ _ _ (Oper.mk _ (Op.alloc _) _ _ _ _ :: _) _ _); (refine alA hm ?_; clear hm; intro n w hn hz hm ho; (try simp only [List.cons_append, List.nil_append] at hm)))); try simp only [Act.put, sxQ]))
  obtain ⟨nc, h9⟩ := hm.nm 0 rfl
  dsimp only at h9
  subst h9
  obtain ⟨nb, h9⟩ := hm.nm 1 rfl
  dsimp only at h9
  subst h9
  have hch : Chs w w.heap.size (some ⟨nc, 0, none⟩) 1 1 [⟨0, some ⟨nb, 0, none⟩, 1, 1, [x]⟩] := chs_lit rfl (hm.at_ 0 rfl) (fun y hy => by
    obtain rfl := List.mem_singleton.1 hy
    exact byt_lit (hm.at_ 1 rfl) rfl rfl)
  have hsc := HC.out.resync hm
  have hd : ∀ e ∈ [nc, nb], ¬ spG G gj e := fun e he hg => by
    simp only [List.mem_cons, List.not_mem_nil, or_false] at he
    have hmem : spG G gj ∈ ([⟨spG G gj, fun v => Spc v g gj G s p⟩] : List Thing).map (·.G) := by simp
    rcases he with rfl | rfl
    · exact hsc.cal.dl _ hmem _ List.mem_cons_self hg
    · exact hsc.cal.dl _ hmem _ (List.mem_cons_of_mem _ List.mem_cons_self) hg
  have hap := sp_Apply (hsc.obj 0 rfl) HL.out (by omega) _ HS.out _ 1 1 _ hch (fun q hq hg => by
    rcases hq with ⟨_, a, e, rfl⟩ | ⟨y, hy, _, a, e, rfl⟩
    · cases e; exact hd _ (by simp) hg
    · obtain rfl := List.mem_singleton.1 hy
      cases e; exact hd _ (by simp) hg) (fun y hy => by
    obtain rfl := List.mem_singleton.1 hy
    dsimp only; omega) (by simp [JC.weight]) (by decide)
  have HAP := Lib.hid hap
  clear hap hch hd hsc
  go_at_call 8
  refine HAP.out.mono ?_
  rintro e w6 ⟨p6, G6, s6, er, rfl, hsp6, hR6, hG6, ho6, hgm6⟩
  have hc2 := (HC.out.resync hm).turn 0 rfl ho6 hG6 hsp6.sup
  have hR : er = 2 ∧ PL True 13000000 p6 st := by
    have hz : 48 * (st.length - 32) = 0 := by have := HLEN.out; omega
    have hin : JC.allIn 0 [⟨0, some ⟨nb, 0, none⟩, 1, 1, [x]⟩] = false := by simp [JC.allIn, JC.inB]
    unfold AplR at hR6
    rw [hz, hin] at hR6
    rcases hR6 with ⟨_, h⟩ | ⟨h, _⟩ | ⟨h, _⟩
    · exact h
    · cases h
    · cases h
  obtain ⟨rfl, hL6⟩ := hR
  have HL6 := Lib.hid hL6
  clear hR6 hsp6 hG6 ho6 hL6 HAP HSZ
  clear HC hm
  simp only [List.nil_append, List.cons_append, List.set_cons_zero, List.set_cons_succ] at hc2
  have HC := Lib.hid hc2
  clear hc2
  have hm := HC.out.rebase
  go_wp2_with (first | go_skip | ((with_reducible show wpList _ _ _ _ _ (World.alloc _ _)); refine wpList_up hm ?_; clear hm; intro n w hn hn2 hk hm hd hd2 ho; (try rw [← hn]); replace hn := Nat.le_of_eq hn.symm) | ((first | ((with_reducible show wpList _ _ _ (Oper.mk _ (Op.box _ _) _ _ _ _ :: _) _ _); (refine bxA hm ?_; clear hm; intro n w hn hz hm ho; (try simp only [List.cons_append, List.nil_append] at hm))) | ((with_reducible show wpList _ _ _ (Oper.mk _ (Op.load _ _) _ _ _ _ :: _) _ _); first | (refine ldA hm ?_) | (refine laA hm ?_)) | ((with_reducible show wpList _ _ _ (Oper.mk _ (Op.store _ _ _) _ _ _ _ :: _) _ _); (refine stA hm ?_; clear hm; intro w hz hm ho)) | ((with_reducible show wpList _ _ _ (Oper.mk _ (Op.alloc _) _ _ _ _ :: _) _ _); (refine alA hm ?_; clear hm; intro n w hn hz hm ho; (try simp only [List.cons_append, List.nil_append] at hm)))); try simp only [Act.put, sxQ]))
  go_at_call 8
  refine (sp_Apply ((HC.out.resync hm).obj 0 rfl) HL6.out (by omega) _ HS.out none 0 0 [] (chs_nil _) (fun q hq => by
    rcases hq with ⟨h, _⟩ | ⟨y, hy, _⟩
    · exact absurd h (Nat.lt_irrefl 0)
    · cases hy) (fun y hy => by cases hy) (by decide) (by decide)).mono ?_
  rintro e w7 ⟨p7, G7, s7, er, rfl, hsp7, hR7, hG7, ho7, hgm7⟩
  have hc2 := (HC.out.resync hm).turn 0 rfl ho7 hG7 hsp7.sup
  have hR : er = 0 := by
    unfold AplR at hR7
    rcases hR7 with ⟨h, _⟩ | ⟨_, h, _⟩ | ⟨_, _, ⟨h1, _⟩ | ⟨_, st', h2, _⟩⟩
    · simp [JC.allIn] at h
    · simp [JC.weight] at h
    · exact h1
    · exact absurd trivial h2.not
  subst hR
  clear hR7 hsp7 hG7 ho7
  clear HC hm
  simp only [List.nil_append, List.cons_append, List.set_cons_zero, List.set_cons_succ] at hc2
  have HC := Lib.hid hc2
  clear hc2
  have hm := HC.out.rebase
  go_wp2_with (first | go_skip | ((with_reducible show wpList _ _ _ _ _ (World.alloc _ _)); refine wpList_up hm ?_; clear hm; intro n w hn hn2 hk hm hd hd2 ho; (try rw [← hn]); replace hn := Nat.le_of_eq hn.symm) | ((first | ((with_reducible show wpList _ _ _ (Oper.mk _ (Op.box _ _) _ _ _ _ :: _) _ _); (refine bxA hm ?_; clear hm; intro n w hn hz hm ho; (try simp only [List.cons_append, List.nil_append] at hm))) | ((with_reducible show wpList _ _ _ (Oper.mk _ (Op.load _ _) _ _ _ _ :: _) _ _); first | (refine ldA hm ?_) | (refine laA hm ?_)) | ((with_reducible show wpList _ _ _ (Oper.mk _ (Op.store _ _ _) _ _ _ _ :: _) _ _); (refine stA hm ?_; clear hm; intro w hz hm ho)) | ((with_reducible show wpList _ _ _ (Oper.mk _ (Op.alloc _) _ _ _ _ :: _) _ _); (refine alA hm ?_; clear hm; intro n w hn hz hm ho; (try simp only [List.cons_append, List.nil_append] at hm)))); try simp only [Act.put, sxQ]))
  go_at_call 15
  refine (law12_awake _).mono ?_
  rintro e w8 ⟨rfl, hb8⟩
  have hlow := (HC.out.resync hm).low
  clear hm HC
  go_wp2_with fail
  go_ret
  exact ⟨rfl, hlow.trans (hb8.mono hlow.size)⟩
end Go.Proofs.Ytmhjddmamknglaa
