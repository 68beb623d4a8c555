/-
  The journal: the laws' awake.
-/
import Derived.Test.YtmhjddmamknglaaGreatZ0
import Derived.Test.YtmhjddmamknglaaGreatJpB
import Derived.Test.YtmhjddmamknglaaGreatJnM
import Derived.Test.YtmhjddmamknglaaGreatZ4
namespace Go.Proofs.YtmhjddmamknglaaGreat
set_option maxRecDepth 100000
set_option linter.unusedSimpArgs false
set_option linter.unusedVariables false
open Go.RowKit
set_option maxHeartbeats 8000000

section
variable {w : World} {g gj B : Nat} {G : Nat → Prop} {s : PgS} {p : Pg.P} {st : List (List UInt8)} {q : Prop}
theorem sp_Size (H : Spc w g gj G s p) (L : PL q B p st) : Calls Tryz.prog 47 #[.pointer (some ⟨gj, 0, none⟩)] w fun e w' => e = .returned (.int .i64 (48 * ((st.length - 32 : Nat) : Int))) ∧ Below w.heap.size w w' := jn_Size H.jat H.pat L
theorem sp_Alive (H : Spc w g gj G s p) : Calls Tryz.prog 13 #[.pointer (some ⟨gj, 0, none⟩)] w fun e w' => e = .returned (.bool p.alive) ∧ Below w.heap.size w w' := jn_Alive H.jat H.pat
theorem sp_Count (H : Spc w g gj G s p) (L : PL q B p st) : Calls Tryz.prog 8 #[.pointer (some ⟨g, 0, none⟩)] w fun e w' => e = .returned (.int .i64 (st.length : Int)) ∧ Below w.heap.size w w' := jp_Count H.pat L
end
theorem good_flat {st : Jn.St} {S : List UInt8} (h : Jn.Good st S) : Jn.flat st = S := by
  rcases h with ⟨h1, rfl⟩ | h
  · unfold Jn.flat; rw [List.drop_eq_nil_of_le h1]; rfl
  · exact h.flat
theorem awake_bytes : ((Jn.appB (Jn.pairs [⟨0, [1, 2, 3]⟩, ⟨1, [9]⟩]) (List.replicate (48 * (85 - 32)) 0)).take 4) = [1, 9, 3, 0] := by decide +kernel
theorem awake_l (na nb : Nat) : JC.weight [⟨0, some ⟨na, 0, none⟩, 3, 3, [1, 2, 3]⟩, ⟨1, some ⟨nb, 0, none⟩, 1, 1, [9]⟩] = 20 ∧ JC.allIn (48 * (85 - 32)) [⟨0, some ⟨na, 0, none⟩, 3, 3, [1, 2, 3]⟩, ⟨1, some ⟨nb, 0, none⟩, 1, 1, [9]⟩] = true ∧
    JC.plains [⟨0, some ⟨na, 0, none⟩, 3, 3, [1, 2, 3]⟩, ⟨1, some ⟨nb, 0, none⟩, 1, 1, [9]⟩] = [⟨0, [1, 2, 3]⟩, ⟨1, [9]⟩] := ⟨by simp [JC.weight], by simp [JC.allIn, JC.inB], by simp [JC.plains, JC.plain]⟩
/-- Changes that a function has written down. -/
theorem chs_lit {w : World} {nc : Nat} {l : List JC} {k : Nat} (hk : l.length = k) (hc : Blk w nc 58 (JC.cellsL l).toArray) (hl : ∀ y ∈ l, Byt w w.heap.size y.A y.n y.c y.bs) : Chs w w.heap.size (some ⟨nc, 0, none⟩) k k l :=
  ⟨hk, Nat.le_refl _, fun _ => ⟨nc, 0, rfl, hc.lt, fun i x hx j v hv => by
    rw [Nat.zero_add, hc.cell]
    have := cellsL_at hx hv
    simpa using this⟩, hl⟩
theorem byt_lit {w : World} {n k : Nat} {bs : List UInt8} {cs : Array Value} (h : Blk w n 5 cs) (hcs : cs.toList = bcells bs) (hk : bs.length = k) : Byt w w.heap.size (some ⟨n, 0, none⟩) k k bs :=
  ⟨hk, Nat.le_refl _, by have := Blk.row h; rw [hcs] at this; exact this.more (by have := h.lt; omega)⟩
theorem law12_awake (w0 : World) : Calls Tryz.prog 19 #[] w0 fun e w' => e = .returned (.bool true) ∧ Below w0.heap.size w0 w' := by
  have HC := Lib.hid (Scn.start w0)
  have hm := HC.out.rebase
  go_enter Tryz.func19, Tryz.ntmps19
  go_wp2_with (first | go_skip | ((with_reducible show wpList _ _ _ _ _ (World.alloc _ _)); refine wpList_up hm ?_; clear hm; intro n w hn hn2 hk hm hd hd2 ho; (try rw [← hn]); replace hn := Nat.le_of_eq hn.symm) | ((first | ((with_reducible show wpList _ _ _ (Oper.mk _ (Op.box _ _) _ _ _ _ :: _) _ _); (refine bxA hm ?_; clear hm; intro n w hn hz hm ho; (try simp only [List.cons_append, List.nil_append] at hm))) | ((with_reducible show wpList _ _ _ (Oper.mk _ (Op.load _ _) _ _ _ _ :: _) _ _); first | (refine ldA hm ?_) | (refine laA hm ?_)) | ((with_reducible show wpList _ _ _ (Oper.mk _ (Op.store _ _ _) _ _ _ _ :: _) _ _); (refine stA hm ?_; clear hm; intro w hz hm ho)) | ((with_reducible show wpList _ _ _ (Oper.mk _ (Op.alloc _) _ _ _ _ :: _) _ _); (refine alA hm ?_; clear hm; intro n w hn hz hm ho; (try simp only [List.cons_append, List.nil_append] at hm)))); try simp only [Act.put, sxQ]))
  go_at_call 6
  refine (law12_begin 2048 (by decide) (by decide) _).mono ?_
  rintro e w1 ⟨hb1, g, gj, G, s, p, st, rfl, hsp, hG, hL, hS, hlen⟩
  have hc2 := HC.out.born hb1 hsp.sup hG
  have HL := Lib.hid hL
  have HS := Lib.hid hS
  have HLEN := Lib.hid (show st.length = 85 from hlen)
  have HSZ : Hid (∀ u, Spc u g gj G s p → Calls Tryz.prog 47 #[.pointer (some ⟨gj, 0, none⟩)] u fun e w' => e = .returned (.int .i64 2544) ∧ Below u.heap.size u w') := Lib.hid fun u h => (sp_Size h hL).mono fun e w' ⟨h1, h2⟩ => ⟨by rw [h1, HLEN.out]; rfl, h2⟩
  have HCT : Hid (∀ u, Spc u g gj G s p → Calls Tryz.prog 8 #[.pointer (some ⟨g, 0, none⟩)] u fun e w' => e = .returned (.int .i64 85) ∧ Below u.heap.size u w') := Lib.hid fun u h => (sp_Count h hL).mono fun e w' ⟨h1, h2⟩ => ⟨by rw [h1, HLEN.out]; rfl, h2⟩
  clear hb1 hsp hG hL hS hlen
  clear HC hm
  simp only [List.nil_append, List.cons_append, List.set_cons_zero, List.set_cons_succ] at hc2
  have HC := Lib.hid hc2
  clear hc2
  have hm := HC.out.rebase
  go_wp2_with (first | go_skip | ((with_reducible show wpList _ _ _ _ _ (World.alloc _ _)); refine wpList_up hm ?_; clear hm; intro n w hn hn2 hk hm hd hd2 ho; (try rw [← hn]); replace hn := Nat.le_of_eq hn.symm) | ((first | ((with_reducible show wpList _ _ _ (Oper.mk _ (Op.box _ _) _ _ _ _ :: _) _ _); (refine bxA hm ?_; clear hm; intro n w hn hz hm ho; (try simp only [List.cons_append, List.nil_append] at hm))) | ((with_reducible show wpList _ _ _ (Oper.mk _ (Op.load _ _) _ _ _ _ :: _) _ _); first | (refine ldA hm ?_) | (refine laA hm ?_)) | ((with_reducible show wpList _ _ _ (Oper.mk _ (Op.store _ _ _) _ _ _ _ :: _) _ _); (refine stA hm ?_; clear hm; intro w hz hm ho)) | ((with_reducible show wpList _ _ _ (Oper.mk _ (Op.alloc _) _ _ _ _ :: _) _ _); (refine alA hm ?_; clear hm; intro n w hn hz hm ho; (try simp only [List.cons_append, List.nil_append] at hm)))); try simp only [Act.put, sxQ]))
  obtain ⟨n1, h9⟩ := hm.nm 0 rfl
  dsimp only at h9
  subst h9
  refine wp_region_noPanic ?_
  refine wp_region_held_drew (S := KnS _ _) (by kernel_rfl) (KnS.of hm.drew (Rngs.nil _)) (fun hHeld => ?_)
  refine wpAnyH_fresh (by repeat (first | apply Fresh.a | apply Fresh.b)) ?_
  replace hm := hm.drew
  iterate 5 (first | (refine takeN 0 hHeld ?_) | (refine takeY 0 ?_ hHeld ?_ ?_; rotate_left 1; (first | (intro w9 h9; (with_reducible show (execOp _ (Oper.mk _ (Op.load _ _) _ _ _ _)).run _ _ = _); first | exact h9.ldA | exact h9.lcA | exact h9.laA | exact h9.lrA) | focus (intro w9 hSw; go_simp; (try (with_reducible rfl)); done))); try simp only [Act.put, sxQ])
  iterate 2 (first | (refine takeN 6 hHeld ?_) | (refine takeY 6 ?_ hHeld ?_ ?_; rotate_left 1; (first | (intro w9 h9; (with_reducible show (execOp _ (Oper.mk _ (Op.load _ _) _ _ _ _)).run _ _ = _); first | exact h9.ldA | exact h9.lcA | exact h9.laA | exact h9.lrA) | focus (intro w9 hSw; go_simp; (try (with_reducible rfl)); done))); try simp only [Act.put, sxQ])
  refine wpAnyH_ready (rs := [5]) (by kernel_rfl) (by simp) ?_
  refine AllReadyH.cons2 (by simp only [sxN]; first | done | exact rfl) (fun K hK => ?_)
  rw [if_pos (by rfl)]
  go_simp
  refine (HSZ.out _ ((HC.out.resync hm).obj 0 rfl)).mono ?_
  rintro e w2 ⟨rfl, hb2⟩
  have hc2 := (HC.out.resync hm).below hb2
  clear hb2
  clear HC hm
  simp only [List.nil_append, List.cons_append, List.set_cons_zero, List.set_cons_succ] at hc2
  have HC := Lib.hid hc2
  clear hc2
  have hm := HC.out.rebase
  go_simp
  refine hK.out _ _ (KnS.of hm (Rngs.nil _)) (fun hHeld => ?_)
  clear hK K
  try simp only [Act.put, sxQ]
  refine wpAnyH_ready (rs := [8]) (by kernel_rfl) (by simp) ?_
  refine AllReadyH.cons2 (by simp only [sxN]; first | done | exact rfl) (fun K hK => ?_)
  rw [if_pos (by rfl)]
  go_simp
  refine (HCT.out _ ((HC.out.resync hm).obj 0 rfl)).mono ?_
  rintro e w3 ⟨rfl, hb3⟩
  have hc2 := (HC.out.resync hm).below hb3
  clear hb3
  clear HC hm
  simp only [List.nil_append, List.cons_append, List.set_cons_zero, List.set_cons_succ] at hc2
  have HC := Lib.hid hc2
  clear hc2
  have hm := HC.out.rebase
  go_simp
  refine hK.out _ _ (KnS.of hm (Rngs.nil _)) (fun hHeld => ?_)
  clear hK K
  try simp only [Act.put, sxQ]
  refine wpAnyH_ready (rs := [9]) (by kernel_rfl) (by simp) ?_
  refine AllReadyH.cons2 (by simp only [sxN]; first | done | exact rfl) (fun K hK => ?_)
  rw [if_pos (by rfl)]
  go_simp
  refine (ref12_Size 85 (by decide) _).mono ?_
  rintro e w4 ⟨rfl, rfl⟩
  go_simp
  refine hK.out _ _ (KnS.of hm (Rngs.nil _)) (fun hHeld => ?_)
  clear hK K
  try simp only [Act.put, sxQ]
  iterate 5 (first | (refine takeN 10 hHeld ?_) | (refine takeY 10 ?_ hHeld ?_ ?_; rotate_left 1; (first | (intro w9 h9; (with_reducible show (execOp _ (Oper.mk _ (Op.load _ _) _ _ _ _)).run _ _ = _); first | exact h9.ldA | exact h9.lcA | exact h9.laA | exact h9.lrA) | focus (intro w9 hSw; go_simp; (try (with_reducible rfl)); done))); try simp only [Act.put, sxQ])
  refine wpAnyH_ready (rs := [15]) (by kernel_rfl) (by simp) ?_
  refine AllReadyH.cons2 (by simp only [sxN]; first | done | exact rfl) (fun K hK => ?_)
  rw [if_pos (by rfl)]
  go_simp
  refine (HSZ.out _ ((HC.out.resync hm).obj 0 rfl)).mono ?_
  rintro e w5 ⟨rfl, hb5⟩
  have hc2 := (HC.out.resync hm).below hb5
  clear hb5
  clear HC hm
  simp only [List.nil_append, List.cons_append, List.set_cons_zero, List.set_cons_succ] at hc2
  have HC := Lib.hid hc2
  clear hc2
  have hm := HC.out.rebase
  go_simp
  refine hK.out _ _ (KnS.of hm (Rngs.nil _)) (fun hHeld => ?_)
  clear hK K
  try simp only [Act.put, sxQ]
  iterate 2 (first | (refine takeN 16 hHeld ?_) | (refine takeY 16 ?_ hHeld ?_ ?_; rotate_left 1; (first | (intro w9 h9; (with_reducible show (execOp _ (Oper.mk _ (Op.load _ _) _ _ _ _)).run _ _ = _); first | exact h9.ldA | exact h9.lcA | exact h9.laA | exact h9.lrA) | focus (intro w9 hSw; go_simp; (try (with_reducible rfl)); done))); try simp only [Act.put, sxQ])
  refine wpAnyH_done (by kernel_rfl) ?_ _
  refine NoPanic.normal ?_
  go_wp2_with (first | ((with_reducible show wpList _ _ _ _ _ (World.alloc _ _)); refine wpList_up hm ?_; clear hm; intro nV w hnV hnV2 hkV hm hdV hdV2 ho; (try rw [← hnV]); replace hnV := Nat.le_of_eq hnV.symm; replace hm := hm.cons hkV (.inr hnV2) (fun e he e2 => hdV e he e2.symm) hdV2; clear hkV hdV hdV2) | go_skip | ((with_reducible show wpList _ _ _ _ _ (World.alloc _ _)); refine wpList_up hm ?_; clear hm; intro n w hn hn2 hk hm hd hd2 ho; (try rw [← hn]); replace hn := Nat.le_of_eq hn.symm) | ((first | ((with_reducible show wpList _ _ _ (Oper.mk _ (Op.box _ _) _ _ _ _ :: _) _ _); (refine bxA hm ?_; clear hm; intro n w hn hz hm ho; (try simp only [List.cons_append, List.nil_append] at hm))) | ((with_reducible show wpList _ _ _ (Oper.mk _ (Op.load _ _) _ _ _ _ :: _) _ _); first | (refine ldA hm ?_) | (refine laA hm ?_)) | ((with_reducible show wpList _ _ _ (Oper.mk _ (Op.store _ _ _) _ _ _ _ :: _) _ _); (refine stA hm ?_; clear hm; intro w hz hm ho)) | ((with_reducible show wpList _ _ _ (Oper.mk _ (Op.alloc _) _ _ _ _ :: _) _ _); (refine alA hm ?_; clear hm; intro n w hn hz hm ho; (try simp only [List.cons_append, List.nil_append] at hm)))); try simp only [Act.put, sxQ]))
  obtain ⟨nc, h9⟩ := hm.nm 0 rfl
  dsimp only at h9
  subst h9
  obtain ⟨nb, h9⟩ := hm.nm 1 rfl
  dsimp only at h9
  subst h9
  obtain ⟨na, h9⟩ := hm.nm 2 rfl
  dsimp only at h9
  subst h9
  have hch : Chs w w.heap.size (some ⟨nc, 0, none⟩) 2 2 [⟨0, some ⟨na, 0, none⟩, 3, 3, [1, 2, 3]⟩, ⟨1, some ⟨nb, 0, none⟩, 1, 1, [9]⟩] := chs_lit rfl (hm.at_ 0 rfl) (fun y hy => by
    simp only [List.mem_cons, List.not_mem_nil, or_false] at hy
    rcases hy with rfl | rfl
    · exact byt_lit (hm.at_ 2 rfl) rfl rfl
    · exact byt_lit (hm.at_ 1 rfl) rfl rfl)
  have hsc := HC.out.resync hm
  have hd : ∀ e ∈ [nc, nb, na], ¬ spG G gj e := fun e he hg => by
    simp only [List.mem_cons, List.not_mem_nil, or_false] at he
    have hmem : spG G gj ∈ ([⟨spG G gj, fun v => Spc v g gj G s p⟩] : List Thing).map (·.G) := by simp
    rcases he with rfl | rfl | rfl
    · exact hsc.cal.dl _ hmem _ List.mem_cons_self hg
    · exact hsc.cal.dl _ hmem _ (List.mem_cons_of_mem _ List.mem_cons_self) hg
    · exact hsc.cal.dl _ hmem _ (List.mem_cons_of_mem _ (List.mem_cons_of_mem _ List.mem_cons_self)) hg
  have hap := sp_Apply (hsc.obj 0 rfl) HL.out (by omega) _ HS.out _ 2 2 _ hch (fun q hq hg => by
    rcases hq with ⟨_, a, e, rfl⟩ | ⟨y, hy, _, a, e, rfl⟩
    · cases e; exact hd _ (by simp) hg
    · simp only [List.mem_cons, List.not_mem_nil, or_false] at hy
      rcases hy with rfl | rfl <;> (cases e; exact hd _ (by simp) hg)) (fun y hy => by
    simp only [List.mem_cons, List.not_mem_nil, or_false] at hy
    rcases hy with rfl | rfl <;> (dsimp only; omega)) (by rw [(awake_l na nb).1]; omega) (by decide)
  have HAP := Lib.hid hap
  clear hap hch hd hsc
  go_at_call 9
  refine HAP.out.mono ?_
  rintro e w6 ⟨p6, G6, s6, er, rfl, hsp6, hR6, hG6, ho6, hgm6⟩
  have hc2 := (HC.out.resync hm).turn 0 rfl ho6 hG6 hsp6.sup
  have hR : er = 0 ∧ ∃ st', PL True 23000000 p6 st' ∧ (Jn.flat st').take 4 = [1, 9, 3, 0] ∧ st'.length = 85 := by
    unfold AplR at hR6
    rw [HLEN.out] at hR6
    rcases hR6 with ⟨h, _⟩ | ⟨_, h, _⟩ | ⟨_, _, ⟨h1, st', h2, h3, h4⟩ | ⟨_, st', h2, _⟩⟩
    · rw [(awake_l na nb).2.1] at h; cases h
    · rw [(awake_l na nb).1] at h; omega
    · refine ⟨h1, st', h2.mono (by omega), ?_, h4⟩
      rw [good_flat h3, (awake_l na nb).2.2]; exact awake_bytes
    · exact absurd trivial h2.not
  obtain ⟨rfl, st6, hL6, hf6, hl6⟩ := hR
  have HL6 := Lib.hid hL6
  have HF6 := Lib.hid hf6
  have HLE6 := Lib.hid hl6
  clear hR6 hsp6 hG6 ho6 hL6 hf6 hl6 HAP HSZ HCT
  clear HC hm
  simp only [List.nil_append, List.cons_append, List.set_cons_zero, List.set_cons_succ] at hc2
  have HC := Lib.hid hc2
  clear hc2
  have hm := HC.out.rebase
  go_wp2_with (first | go_skip | ((with_reducible show wpList _ _ _ _ _ (World.alloc _ _)); refine wpList_up hm ?_; clear hm; intro n w hn hn2 hk hm hd hd2 ho; (try rw [← hn]); replace hn := Nat.le_of_eq hn.symm) | ((first | ((with_reducible show wpList _ _ _ (Oper.mk _ (Op.box _ _) _ _ _ _ :: _) _ _); (refine bxA hm ?_; clear hm; intro n w hn hz hm ho; (try simp only [List.cons_append, List.nil_append] at hm))) | ((with_reducible show wpList _ _ _ (Oper.mk _ (Op.load _ _) _ _ _ _ :: _) _ _); first | (refine ldA hm ?_) | (refine laA hm ?_)) | ((with_reducible show wpList _ _ _ (Oper.mk _ (Op.store _ _ _) _ _ _ _ :: _) _ _); (refine stA hm ?_; clear hm; intro w hz hm ho)) | ((with_reducible show wpList _ _ _ (Oper.mk _ (Op.alloc _) _ _ _ _ :: _) _ _); (refine alA hm ?_; clear hm; intro n w hn hz hm ho; (try simp only [List.cons_append, List.nil_append] at hm)))); try simp only [Act.put, sxQ]))
  go_at_call 20
  refine (sp_Read ((HC.out.resync hm).obj 0 rfl) HL6.out 0 4 (by omega)).mono ?_
  rintro e w7 ⟨A7, k7, m7, c7, rfl, hk7, ho7, hsp7, hL7, hon7⟩
  have hrr : Jn.rread (Jn.flat st6) 0 4 = ([1, 9, 3, 0], 0) := by
    have hl : (Jn.flat st6).length = 2544 := by rw [Jn.flat_len HL6.out.all48, HLE6.out]
    unfold Jn.rread
    rw [if_neg (by rw [hl]; omega)]
    show (((Jn.flat st6).drop 0).take 4, 0) = _
    rw [List.drop_zero, HF6.out]
  rw [hrr] at hk7 ho7
  rw [hrr]
  obtain rfl : k7 = 4 := hk7
  have hc2 := (HC.out.resync hm).turned 0 rfl hon7 (fun q h => .inl h) hsp7.sup ho7 (fun q hq e => by have := ((HC.out.resync hm).lt 0 rfl) q hq; have := (ho7.lt _ e).1; omega)
  have HL7 := Lib.hid hL7
  clear hrr ho7 hsp7 hon7 hL7
  clear HC hm
  simp only [List.nil_append, List.cons_append, List.set_cons_zero, List.set_cons_succ] at hc2
  have HC := Lib.hid hc2
  clear hc2
  have hm := HC.out.rebase
  go_wp2_with (first | ((with_reducible show wpList _ _ _ _ _ (World.alloc _ _)); refine wpList_up hm ?_; clear hm; intro nV w hnV hnV2 hkV hm hdV hdV2 ho; (try rw [← hnV]); replace hnV := Nat.le_of_eq hnV.symm; replace hm := hm.cons hkV (.inr hnV2) (fun e he e2 => hdV e he e2.symm) hdV2; clear hkV hdV hdV2) | go_skip | ((with_reducible show wpList _ _ _ _ _ (World.alloc _ _)); refine wpList_up hm ?_; clear hm; intro n w hn hn2 hk hm hd hd2 ho; (try rw [← hn]); replace hn := Nat.le_of_eq hn.symm) | ((first | ((with_reducible show wpList _ _ _ (Oper.mk _ (Op.box _ _) _ _ _ _ :: _) _ _); (refine bxA hm ?_; clear hm; intro n w hn hz hm ho; (try simp only [List.cons_append, List.nil_append] at hm))) | ((with_reducible show wpList _ _ _ (Oper.mk _ (Op.load _ _) _ _ _ _ :: _) _ _); first | (refine ldA hm ?_) | (refine laA hm ?_)) | ((with_reducible show wpList _ _ _ (Oper.mk _ (Op.store _ _ _) _ _ _ _ :: _) _ _); (refine stA hm ?_; clear hm; intro w hz hm ho)) | ((with_reducible show wpList _ _ _ (Oper.mk _ (Op.alloc _) _ _ _ _ :: _) _ _); (refine alA hm ?_; clear hm; intro n w hn hz hm ho; (try simp only [List.cons_append, List.nil_append] at hm)))); try simp only [Act.put, sxQ]))
  go_at_call 22
  refine (ref01_Same A7 _ 4 4 m7 4 [1, 9, 3, 0] [1, 9, 3, 0] _ ((HC.out.resync hm).byt 0 rfl) (byt_lit (hm.at_ 0 rfl) rfl rfl) (by omega) (by omega)).mono ?_
  rintro e w8 ⟨rfl, kd, rfl⟩
  rw [Oct.same_refl]
  replace hm := hm.drewN kd
  go_wp2_with (first | go_skip | ((with_reducible show wpList _ _ _ _ _ (World.alloc _ _)); refine wpList_up hm ?_; clear hm; intro n w hn hn2 hk hm hd hd2 ho; (try rw [← hn]); replace hn := Nat.le_of_eq hn.symm) | ((first | ((with_reducible show wpList _ _ _ (Oper.mk _ (Op.box _ _) _ _ _ _ :: _) _ _); (refine bxA hm ?_; clear hm; intro n w hn hz hm ho; (try simp only [List.cons_append, List.nil_append] at hm))) | ((with_reducible show wpList _ _ _ (Oper.mk _ (Op.load _ _) _ _ _ _ :: _) _ _); first | (refine ldA hm ?_) | (refine laA hm ?_)) | ((with_reducible show wpList _ _ _ (Oper.mk _ (Op.store _ _ _) _ _ _ _ :: _) _ _); (refine stA hm ?_; clear hm; intro w hz hm ho)) | ((with_reducible show wpList _ _ _ (Oper.mk _ (Op.alloc _) _ _ _ _ :: _) _ _); (refine alA hm ?_; clear hm; intro n w hn hz hm ho; (try simp only [List.cons_append, List.nil_append] at hm)))); try simp only [Act.put, sxQ]))
  go_at_call 13
  refine (sp_Alive ((HC.out.resync hm).obj 0 rfl)).mono ?_
  rintro e w9 ⟨rfl, hb9⟩
  rw [HL7.out.alive]
  have hc2 := (HC.out.resync hm).below hb9
  clear hb9
  clear HC hm
  simp only [List.nil_append, List.cons_append, List.set_cons_zero, List.set_cons_succ] at hc2
  have HC := Lib.hid hc2
  clear hc2
  have hm := HC.out.rebase
  go_wp2_with (first | go_skip | ((with_reducible show wpList _ _ _ _ _ (World.alloc _ _)); refine wpList_up hm ?_; clear hm; intro n w hn hn2 hk hm hd hd2 ho; (try rw [← hn]); replace hn := Nat.le_of_eq hn.symm) | ((first | ((with_reducible show wpList _ _ _ (Oper.mk _ (Op.box _ _) _ _ _ _ :: _) _ _); (refine bxA hm ?_; clear hm; intro n w hn hz hm ho; (try simp only [List.cons_append, List.nil_append] at hm))) | ((with_reducible show wpList _ _ _ (Oper.mk _ (Op.load _ _) _ _ _ _ :: _) _ _); first | (refine ldA hm ?_) | (refine laA hm ?_)) | ((with_reducible show wpList _ _ _ (Oper.mk _ (Op.store _ _ _) _ _ _ _ :: _) _ _); (refine stA hm ?_; clear hm; intro w hz hm ho)) | ((with_reducible show wpList _ _ _ (Oper.mk _ (Op.alloc _) _ _ _ _ :: _) _ _); (refine alA hm ?_; clear hm; intro n w hn hz hm ho; (try simp only [List.cons_append, List.nil_append] at hm)))); try simp only [Act.put, sxQ]))
  go_ret
  exact ⟨rfl, (HC.out.resync hm).low⟩
end Go.Proofs.YtmhjddmamknglaaGreat
