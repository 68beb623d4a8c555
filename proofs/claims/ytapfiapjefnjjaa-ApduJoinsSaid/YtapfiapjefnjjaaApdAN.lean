/-
  The reference's Join.
-/
import Derived.Test.YtapfiapjefnjjaaApdAL
namespace Go.Proofs.Ytapfiapjefnjjaa
set_option linter.unusedSimpArgs false
open Go.RowKit

theorem stE_cok {x f : Apd.Cmd} {l : List Apd.Cmd} {i : Nat} (hx : l[i]? = some x) (hf : l[0]? = some f) (h : Apd.stE l i = 0) : Apd.cok x.cla = true := by
  rw [stE_two x f l i hx hf _ rfl _ rfl] at h
  split at h
  · exact absurd h (by assumption)
  · split at h
    · exact absurd h (by decide)
    · rename_i hh
      cases hc : Apd.cok x.cla with
      | true => rfl
      | false => exact absurd (.inl hc) hh

set_option maxRecDepth 100000 in
set_option maxHeartbeats 16000000 in
theorem ref04_Join (A : Option Addr) (n c : Nat) (vs : List CV) (w : World) (h : Cmds w w.heap.size A vs) (hn : vs.length = n) (hm : n ≤ 1000000) (ht : (Apd.jdat (vs.map CV.cmd)).length ≤ 1000000) :
    Calls Try.prog 38 #[.slice A n c] w (JRes w (vs.map CV.cmd)) := by
  have HB := Lib.hid (fun o => bal (Below.refl w.heap.size w) o)
  unfold JRes
  by_cases h0 : n = 0
  · subst h0
    obtain rfl := List.eq_nil_of_length_eq_zero hn
    have hE : Apd.jnE (([] : List CV).map CV.cmd) = 1 := rfl
    have HE := Lib.hid hE
    clear hE h ht
    have HR := Lib.hid (Blk.new w 24 #[.int .i64 0, .int .i64 0, .int .i64 0, .int .i64 0, .slice none 0 0, .int .i64 0, .bool false])
    go_enter Try.func38, Try.ntmps38
    go_wp2_with ((with_reducible show wpList _ _ _ (Oper.mk _ (Op.store 24 (Operand.tmp 2) (Operand.tmp 11)) _ _ _ _ :: _) _ _); refine wpList_store_row rfl 24 (.tmp 2) (.tmp 11) rfl w.heap.size #[I64 0, I64 0, I64 0, I64 0, .slice none 0 0, I64 0, .bool false] rfl rfl 24 #[.int .i64 0, .int .i64 0, .int .i64 0, .int .i64 0, .slice none 0 0, .int .i64 0, .bool false] HR.out (by kernel_rfl) rfl (cmd_one _ _ _ _ _ _ _ _ _) ?_)
    refine bodyPost_ret (results_row_tmp rfl _ _ w.heap.size 24 _ (0, 0) _ rfl (by exact (HR.out).setRow _) Try.underlying24 rfl (by kernel_rfl)) rfl ⟨by exact Below.setRow (HB.out _) (Nat.le_refl _) _, .inl ?_⟩
    rw [HE.out]
    exact ⟨by decide, rfl⟩
  have i0 : ((n : Int) == 0) = false := by rw [beq_eq_false_iff_ne]; omega
  have hl := Lib.hid hn
  clear hn
  have HV := Lib.hid h
  go_enter Try.func38, Try.ntmps38
  go_wp2_with fail
  have T1 := Blk.new w 24 #[.int .i64 0, .int .i64 0, .int .i64 0, .int .i64 0, .slice none 0 0, .int .i64 0, .bool false]
  have T3 := bal (Below.refl w.heap.size w) (.cells #[.int .i64 0, .int .i64 0, .int .i64 0, .int .i64 0, .slice none 0 0, .int .i64 0, .bool false] 24)
  generalize w.alloc (.cells #[.int .i64 0, .int .i64 0, .int .i64 0, .int .i64 0, .slice none 0 0, .int .i64 0, .bool false] 24) = w1 at *
  have B1 := Lib.hid T1
  have W1 := Lib.hid T3
  clear T1 T3
  obtain ⟨tb, htb, hy0, hy1, hy2⟩ := info_parts o_u8
  go_loopw [4, 5, 6] (fun dv i v6 wr => ∃ (k m : Nat) (A2 : Option Addr) (c2 : Nat), k ≤ n ∧ i = .int .i64 k ∧ dv = .slice A2 m c2 ∧ Hid (m = (Apd.jdat ((vs.take k).map CV.cmd)).length) ∧ m ≤ 1000000 ∧
    Own wr w.heap.size 5 1 A2 m c2 (bcells (Apd.jdat ((vs.take k).map CV.cmd))) ∧ Blk wr w.heap.size 24 #[.int .i64 0, .int .i64 0, .int .i64 0, .int .i64 0, .slice none 0 0, .int .i64 0, .bool false] ∧
    Hid (0 < k → ∀ f, vs[0]? = some f → Apd.cok f.cla = true) ∧ Below w.heap.size w wr ∧ Hid (Apd.frE (vs.map CV.cmd) 0 n = Apd.frE (vs.map CV.cmd) k (n - k))) (fun _ i _ _ => n - (intOf i).toNat)
  case atStart => exact ⟨0, 0, none, 0, by omega, rfl, rfl, rfl, by omega, Own.none_ _ _ _ _ _, B1.out, (fun e => absurd e (by omega)), W1.out, rfl⟩
  case round =>
    obtain ⟨k, m, A2, c2, hk, rfl, rfl, hm2, hml, hown, hR, hf, hbw, hfr⟩ := hrel
    by_cases hlt : k < n
    · have hkv : k < vs.length := by rw [hl.out]; exact hlt
      have h0v : 0 < vs.length := by omega
      have HLk := Lib.hid (ref04_link A n c k vs wr ((HV.out.below hbw).more hbw.size) hl.out hlt hm hf.out)
      obtain ⟨b1, o1, rfl, hb1, hr1, hy1⟩ := HV.out.at_ hkv
      have hx : vs[k]? = some vs[k] := List.getElem?_eq_getElem hkv
      have hf0 : vs[0]? = some vs[0] := List.getElem?_eq_getElem h0v
      have hck : Hid (Apd.stE (vs.map CV.cmd) k = 0 → ∀ f, vs[0]? = some f → Apd.cok f.cla = true) := fun e f hff => by
        rcases Nat.eq_zero_or_pos k with e0 | e0
        · subst e0
          exact stE_cok (x := f.cmd) (f := f.cmd) (l := vs.map CV.cmd) (i := 0) (by rw [List.getElem?_map, hff]; rfl) (by rw [List.getElem?_map, hff]; rfl) e
        · exact hf.out e0 f hff
      generalize vs[k] = x at *
      obtain ⟨x0, x1, x2, x3, ⟨xa, xn, xc, xb⟩, x5, x6⟩ := x
      have p0 : (0 : Int) ≤ (k : Int) := by omega
      have p1 : (k : Int) < (n : Int) := by omega
      have hfr2 : Hid (Apd.frE (vs.map CV.cmd) k (n - k) = if Apd.stE (vs.map CV.cmd) k ≠ 0 then Apd.stE (vs.map CV.cmd) k else Apd.frE (vs.map CV.cmd) (k + 1) (n - (k + 1))) := by
        show _ = _
        obtain ⟨g, hg⟩ : ∃ g, n - k = g + 1 := ⟨n - k - 1, by omega⟩
        rw [hg, show n - (k + 1) = g by omega]; rfl
      have hjn : ∀ e : Int, e ≠ 0 → Apd.stE (vs.map CV.cmd) k = e → Apd.jnE (vs.map CV.cmd) = e := fun e he hs => by
        have h1 : Apd.frE (vs.map CV.cmd) 0 n = e := by rw [hfr.out, hfr2.out, hs, if_pos he]
        unfold Apd.jnE
        rw [if_neg (fun e2 => by have := congrArg List.length e2; rw [List.length_map, hl.out] at this; simp at this; omega), List.length_map, hl.out, h1, if_pos he]
      have HYW := Lib.hid hy1
      have HRR := Lib.hid hr1
      clear h hr1 hy1 hf hf0
      go_wp2_with fail
      go_at_call 56
      refine HLk.out.mono ?_
      rintro e w2 ⟨rfl, b2⟩
      have hR2 := hR.after b2
      have W2 := Lib.hid (bgo hbw b2)
      have HO2 := Lib.hid (hown.below b2)
      clear HLk hR hbw hown b2
      obtain ⟨E, hE⟩ : ∃ E, Apd.stE (vs.map CV.cmd) k = E := ⟨_, rfl⟩
      rw [hE] at hck hfr2 ⊢
      by_cases hE0 : E = 0
      case neg =>
        have HJ := Lib.hid (hjn E hE0 hE)
        have HR2 := Lib.hid hR2
        have q2 : (E != 0) = true := bne_iff_ne.2 hE0
        clear hjn HO2 hfr2 hfr hck HYW HRR hE hR2
        go_wp2_with ((with_reducible show wpList _ _ _ (Oper.mk _ (Op.store 24 (Operand.tmp 2) (Operand.tmp 23)) _ _ _ _ :: _) _ _); refine wpList_store_row rfl 24 (.tmp 2) (.tmp 23) rfl w.heap.size #[I64 0, I64 0, I64 0, I64 0, .slice none 0 0, I64 0, .bool false] rfl rfl 24 #[.int .i64 0, .int .i64 0, .int .i64 0, .int .i64 0, .slice none 0 0, .int .i64 0, .bool false] HR2.out (by kernel_rfl) rfl (cmd_one _ _ _ _ _ _ _ _ _) ?_)
        refine bodyPost_ret (results_row_tmp rfl _ _ w.heap.size 24 _ (0, 0) _ rfl (by exact (HR2.out).setRow _) Try.underlying24 rfl (by kernel_rfl)) rfl ⟨by exact Below.setRow (W2.out) (Nat.le_refl _) _, .inl ?_⟩
        rw [HJ.out]
        exact ⟨hE0, rfl⟩
      subst hE0
      have hjd : Hid (Apd.jdat ((vs.take (k + 1)).map CV.cmd) = Apd.jdat ((vs.take k).map CV.cmd) ++ xb) := by
        show _ = _
        rw [List.take_succ_eq_append_getElem hkv]
        have e : vs[k]'hkv = ⟨x0, x1, x2, x3, ⟨xa, xn, xc, xb⟩, x5, x6⟩ := by rw [List.getElem?_eq_getElem hkv] at hx; injection hx
        rw [e]
        simp [Apd.jdat, CV.cmd]
      have HXN := Lib.hid HYW.out.1
      have hmx : m + xn ≤ 1000000 := by
        have h1 := jdat_le (vs.map CV.cmd) (k + 1)
        rw [← List.map_take, hjd.out, List.length_append, ← hm2.out, HXN.out] at h1
        omega
      obtain ⟨-, -, -, -, a4b, -, -⟩ := cells7o (rangeAt_below HRR.out W2.out hb1)
      have a4 : w2.cell? ⟨b1, o1 + k * 7 + 4, none⟩ = some (.slice xa xn xc) := a4b
      have HR2 := Lib.hid hR2
      have HY3 := Lib.hid ((HYW.out.below W2.out).more W2.out.size)
      clear a4b hR2 hjn hE
      go_wp2_with (at_builtin; refine wpList_append _ rfl (.tmp 25) (.tmp 30) 22 rfl w.heap.size 5 tb _ 1 1 Try.underlying22 htb hy0 hy1 hy2 rfl (by omega) A2 m c2 _ rfl (by exact HO2.out) _ xa xn xc (bcells xb) rfl (by exact HY3.out.2.2) (by rw [length_bcells, HY3.out.1]; omega) (bcells_one _) (by unfold maxLen; omega) (by omega) (by exact W2.out.size) ?_; intro A4 c4 w4 hown4 hg4 hat4)
      have W4 := HO2.out.grown hg4 W2.out W2.out.size
      have HR4 : Blk w4 w.heap.size 24 #[.int .i64 0, .int .i64 0, .int .i64 0, .int .i64 0, .slice none 0 0, .int .i64 0, .bool false] := (hg4.block _ HR2.out.lt (own_not_at HO2.out HR2.out (by decide)).symm).trans HR2.out
      go_roundw
      case rel => exact ⟨k + 1, m + xn, A4, c4, by omega, by go_num, rfl, by show _ = _; rw [hjd.out, List.length_append, ← hm2.out, HXN.out], hmx, by rw [hjd.out, bcells_append]; exact hown4, HR4, (fun _ => hck.out (by first | rfl | trivial)), W4, by show _ = _; rw [hfr.out, hfr2.out, if_neg (fun e => e rfl)]⟩
      case measure => simp [intOf]; omega
    · obtain rfl : k = n := by omega
      have htk : vs.take k = vs := List.take_of_length_le (by rw [hl.out]; omega)
      rw [htk] at hm2 hown
      have h0f : Apd.frE (vs.map CV.cmd) 0 k = 0 := by rw [hfr.out, Nat.sub_self]; rfl
      have hne : vs.map CV.cmd ≠ [] := fun e2 => by have := congrArg List.length e2; rw [List.length_map, hl.out] at this; simp at this; omega
      have hjE : Apd.jnE (vs.map CV.cmd) = if 65535 < (Apd.jdat (vs.map CV.cmd)).length then 3 else 0 := by
        unfold Apd.jnE
        rw [if_neg hne, List.length_map, hl.out, h0f, if_neg (fun e => e rfl)]
      rw [← hm2.out] at hjE
      have HM := hm2
      by_cases hbig : 65535 < m
      · have HJ := Lib.hid (hjE.trans (if_pos hbig))
        have i2 : (65535 : Int) < (m : Int) := by omega
        have HR3 := Lib.hid hR
        clear hjE hf hfr h0f hne htk h
        go_wp2_with ((with_reducible show wpList _ _ _ (Oper.mk _ (Op.store 24 (Operand.tmp 2) (Operand.tmp 35)) _ _ _ _ :: _) _ _); refine wpList_store_row rfl 24 (.tmp 2) (.tmp 35) rfl w.heap.size #[I64 0, I64 0, I64 0, I64 0, .slice none 0 0, I64 0, .bool false] rfl rfl 24 #[.int .i64 0, .int .i64 0, .int .i64 0, .int .i64 0, .slice none 0 0, .int .i64 0, .bool false] HR3.out (by kernel_rfl) rfl (cmd_one _ _ _ _ _ _ _ _ _) ?_)
        refine bodyPost_ret (results_row_tmp rfl _ _ w.heap.size 24 _ (0, 0) _ rfl (by exact (HR3.out).setRow _) Try.underlying24 rfl (by kernel_rfl)) rfl ⟨by exact Below.setRow (hbw) (Nat.le_refl _) _, .inl ?_⟩
        rw [HJ.out]
        exact ⟨by decide, rfl⟩
      · have HJ := Lib.hid (hjE.trans (if_neg hbig))
        obtain ⟨q, rfl⟩ : ∃ q, k = q + 1 := ⟨k - 1, by omega⟩
        have hqv : q < vs.length := by rw [hl.out]; omega
        obtain ⟨b1, o1, rfl, hb1, hr1, -⟩ := (HV.out.below hbw).at_ hqv
        have hx : vs[q]? = some vs[q] := List.getElem?_eq_getElem hqv
        generalize vs[q] = x at *
        obtain ⟨x0, x1, x2, x3, ⟨xa, xn, xc, xb⟩, x5, x6⟩ := x
        have HC : Hid (Apd.jnC (vs.map CV.cmd) = ⟨x0, x1, x2, x3, Apd.jdat (vs.map CV.cmd), x5, x6 || decide (255 < (Apd.jdat (vs.map CV.cmd)).length)⟩) := by
          show _ = _
          unfold Apd.jnC
          rw [List.getLast?_eq_getElem?, List.length_map, hl.out, List.getElem?_map, show q + 1 - 1 = q by omega, hx]
          rfl
        obtain ⟨a0, a1, a2, a3, a4b, a5, a6⟩ := cells7o hr1
        have a4 : wr.cell? ⟨b1, o1 + q * 7 + 4, none⟩ = some (.slice xa xn xc) := a4b
        clear a4b hr1 hjE hf hfr h0f hne htk hx h
        have i2 : ¬ (65535 : Int) < (m : Int) := by omega
        cases x6 with
        | true =>
          have HC2 : Hid (Apd.jnC (vs.map CV.cmd) = ⟨x0, x1, x2, x3, Apd.jdat (vs.map CV.cmd), x5, true⟩) := by show _ = _; rw [HC.out]; simp
          have K5 := Lib.hid (Blk.new wr 24 #[I64 x0, I64 x1, I64 x2, I64 x3, .slice A2 m c2, I64 x5, .bool true])
          have R5 := Lib.hid (hR.alloc (.cells #[I64 x0, I64 x1, I64 x2, I64 x3, .slice A2 m c2, I64 x5, .bool true] 24))
          have W5 := Lib.hid (bal hbw (.cells #[I64 x0, I64 x1, I64 x2, I64 x3, .slice A2 m c2, I64 x5, .bool true] 24))
          have O5 := Lib.hid (hown.alloc (.cells #[I64 x0, I64 x1, I64 x2, I64 x3, .slice A2 m c2, I64 x5, .bool true] 24))
          clear hR hown hbw
          go_wp2_with (first
            | ((with_reducible show wpList _ _ _ (Oper.mk _ (Op.load 24 (Operand.tmp 7)) _ _ _ _ :: _) _ _); refine wpList_load_row rfl 24 (.tmp 7) rfl wr.heap.size rfl 24 #[I64 x0, I64 x1, I64 x2, I64 x3, .slice A2 m c2, I64 x5, .bool true] (0, 0) _ (by exact K5.out) Try.underlying24 rfl (by kernel_rfl) ?_)
            | ((with_reducible show wpList _ _ _ (Oper.mk _ (Op.store 24 (Operand.tmp 2) (Operand.tmp 52)) _ _ _ _ :: _) _ _); refine wpList_store_row rfl 24 (.tmp 2) (.tmp 52) rfl w.heap.size #[I64 x0, I64 x1, I64 x2, I64 x3, .slice A2 m c2, I64 x5, .bool true] rfl rfl 24 #[.int .i64 0, .int .i64 0, .int .i64 0, .int .i64 0, .slice none 0 0, .int .i64 0, .bool false] R5.out (by kernel_rfl) rfl (cmd_one _ _ _ _ _ _ _ _ _) ?_))
          refine bodyPost_ret (results_row_tmp rfl _ _ w.heap.size 24 _ (0, 0) _ rfl (by exact (R5.out).setRow _) Try.underlying24 rfl (by kernel_rfl)) rfl ⟨by exact Below.setRow (W5.out) (Nat.le_refl _) _, .inr ⟨HJ.out, A2, c2, ?_, ?_⟩⟩
          · rw [HC2.out]
            show _ = Ending.returned (.tuple #[cmdV x0 x1 x2 x3 A2 (Apd.jdat (vs.map CV.cmd)).length c2 x5 _, _])
            rw [← HM.out]
            rfl
          · rw [HC2.out]
            show Own _ _ _ _ _ (Apd.jdat (vs.map CV.cmd)).length _ (bcells (Apd.jdat (vs.map CV.cmd)))
            rw [← HM.out]
            exact O5.out.setRow_ne R5.out (by decide) _
        | false =>
          by_cases hb2 : 255 < m
          · have i3 : (255 : Int) < (m : Int) := by omega
            have HC2 : Hid (Apd.jnC (vs.map CV.cmd) = ⟨x0, x1, x2, x3, Apd.jdat (vs.map CV.cmd), x5, true⟩) := by show _ = _; rw [HC.out, ← HM.out]; simp [hb2]
            have K5 := Lib.hid (Blk.new wr 24 #[I64 x0, I64 x1, I64 x2, I64 x3, .slice A2 m c2, I64 x5, .bool true])
            have R5 := Lib.hid (hR.alloc (.cells #[I64 x0, I64 x1, I64 x2, I64 x3, .slice A2 m c2, I64 x5, .bool true] 24))
            have W5 := Lib.hid (bal hbw (.cells #[I64 x0, I64 x1, I64 x2, I64 x3, .slice A2 m c2, I64 x5, .bool true] 24))
            have O5 := Lib.hid (hown.alloc (.cells #[I64 x0, I64 x1, I64 x2, I64 x3, .slice A2 m c2, I64 x5, .bool true] 24))
            clear hR hown hbw
            go_wp2_with (first
              | ((with_reducible show wpList _ _ _ (Oper.mk _ (Op.load 24 (Operand.tmp 7)) _ _ _ _ :: _) _ _); refine wpList_load_row rfl 24 (.tmp 7) rfl wr.heap.size rfl 24 #[I64 x0, I64 x1, I64 x2, I64 x3, .slice A2 m c2, I64 x5, .bool true] (0, 0) _ (by exact K5.out) Try.underlying24 rfl (by kernel_rfl) ?_)
              | ((with_reducible show wpList _ _ _ (Oper.mk _ (Op.store 24 (Operand.tmp 2) (Operand.tmp 52)) _ _ _ _ :: _) _ _); refine wpList_store_row rfl 24 (.tmp 2) (.tmp 52) rfl w.heap.size #[I64 x0, I64 x1, I64 x2, I64 x3, .slice A2 m c2, I64 x5, .bool true] rfl rfl 24 #[.int .i64 0, .int .i64 0, .int .i64 0, .int .i64 0, .slice none 0 0, .int .i64 0, .bool false] R5.out (by kernel_rfl) rfl (cmd_one _ _ _ _ _ _ _ _ _) ?_))
            refine bodyPost_ret (results_row_tmp rfl _ _ w.heap.size 24 _ (0, 0) _ rfl (by exact (R5.out).setRow _) Try.underlying24 rfl (by kernel_rfl)) rfl ⟨by exact Below.setRow (W5.out) (Nat.le_refl _) _, .inr ⟨HJ.out, A2, c2, ?_, ?_⟩⟩
            · rw [HC2.out]
              show _ = Ending.returned (.tuple #[cmdV x0 x1 x2 x3 A2 (Apd.jdat (vs.map CV.cmd)).length c2 x5 _, _])
              rw [← HM.out]
              rfl
            · rw [HC2.out]
              show Own _ _ _ _ _ (Apd.jdat (vs.map CV.cmd)).length _ (bcells (Apd.jdat (vs.map CV.cmd)))
              rw [← HM.out]
              exact O5.out.setRow_ne R5.out (by decide) _
          · have i3 : ¬ (255 : Int) < (m : Int) := by omega
            have HC2 : Hid (Apd.jnC (vs.map CV.cmd) = ⟨x0, x1, x2, x3, Apd.jdat (vs.map CV.cmd), x5, false⟩) := by show _ = _; rw [HC.out, ← HM.out]; simp [hb2]
            have K5 := Lib.hid (Blk.new wr 24 #[I64 x0, I64 x1, I64 x2, I64 x3, .slice A2 m c2, I64 x5, .bool false])
            have R5 := Lib.hid (hR.alloc (.cells #[I64 x0, I64 x1, I64 x2, I64 x3, .slice A2 m c2, I64 x5, .bool false] 24))
            have W5 := Lib.hid (bal hbw (.cells #[I64 x0, I64 x1, I64 x2, I64 x3, .slice A2 m c2, I64 x5, .bool false] 24))
            have O5 := Lib.hid (hown.alloc (.cells #[I64 x0, I64 x1, I64 x2, I64 x3, .slice A2 m c2, I64 x5, .bool false] 24))
            clear hR hown hbw
            go_wp2_with (first
              | ((with_reducible show wpList _ _ _ (Oper.mk _ (Op.load 24 (Operand.tmp 7)) _ _ _ _ :: _) _ _); refine wpList_load_row rfl 24 (.tmp 7) rfl wr.heap.size rfl 24 #[I64 x0, I64 x1, I64 x2, I64 x3, .slice A2 m c2, I64 x5, .bool false] (0, 0) _ (by exact K5.out) Try.underlying24 rfl (by kernel_rfl) ?_)
              | ((with_reducible show wpList _ _ _ (Oper.mk _ (Op.store 24 (Operand.tmp 2) (Operand.tmp 52)) _ _ _ _ :: _) _ _); refine wpList_store_row rfl 24 (.tmp 2) (.tmp 52) rfl w.heap.size #[I64 x0, I64 x1, I64 x2, I64 x3, .slice A2 m c2, I64 x5, .bool false] rfl rfl 24 #[.int .i64 0, .int .i64 0, .int .i64 0, .int .i64 0, .slice none 0 0, .int .i64 0, .bool false] R5.out (by kernel_rfl) rfl (cmd_one _ _ _ _ _ _ _ _ _) ?_))
            refine bodyPost_ret (results_row_tmp rfl _ _ w.heap.size 24 _ (0, 0) _ rfl (by exact (R5.out).setRow _) Try.underlying24 rfl (by kernel_rfl)) rfl ⟨by exact Below.setRow (W5.out) (Nat.le_refl _) _, .inr ⟨HJ.out, A2, c2, ?_, ?_⟩⟩
            · rw [HC2.out]
              show _ = Ending.returned (.tuple #[cmdV x0 x1 x2 x3 A2 (Apd.jdat (vs.map CV.cmd)).length c2 x5 _, _])
              rw [← HM.out]
              rfl
            · rw [HC2.out]
              show Own _ _ _ _ _ (Apd.jdat (vs.map CV.cmd)).length _ (bcells (Apd.jdat (vs.map CV.cmd)))
              rw [← HM.out]
              exact O5.out.setRow_ne R5.out (by decide) _
end Go.Proofs.Ytapfiapjefnjjaa
