/-
  The journal's reference: First, Read.
-/
import Derived.Test.YtmhjddmamknglaaGreatZ0
import Derived.Test.YtmhjddmamknglaaGreatJpG
namespace Go.Proofs.YtmhjddmamknglaaGreat
set_option maxRecDepth 100000
set_option linter.unusedSimpArgs false
set_option linter.unusedVariables false
open Go.RowKit
set_option maxHeartbeats 8000000

theorem ref12_First (w0 : World) : Calls Tryz.prog 7 #[.int .i64 85] w0 fun e w' => ∃ q, e = .returned (.agg #[.slice (some ⟨q, 0, none⟩) 2544 2544]) ∧ Own w' w0.heap.size 5 1 (some ⟨q, 0, none⟩) 2544 2544 (bcells (List.replicate (48 * (85 - 32)) 0)) ∧ Below w0.heap.size w0 w' := by
  obtain ⟨N, hN⟩ : ∃ N : Nat, N = 2544 := ⟨_, rfl⟩
  have hNN : (48 * ((85 - 32 : Nat) : Int)) = (N : Int) := by rw [hN]; rfl
  have hS : List.replicate (48 * (85 - 32)) (0 : UInt8) = List.replicate N 0 := by rw [hN]
  have HN := Lib.hid hN
  rw [hS, ← hN]
  obtain ⟨ti, hi0, hz0, hz1, hz2⟩ := info_parts o_u8J
  have mk : ∀ u : World, (Instr.makeSlice 33 (.int .i64 (N : Int)) (.int .i64 (N : Int))).run Tryz.prog u = .ok (.slice (some ⟨u.heap.size, 0, none⟩) N N) (u.alloc (.cells (bcells (List.replicate N (0 : UInt8))).toArray 5)) := fun u => by
    have h := run_make (P := Tryz.prog) u 33 5 ti (.int .u8 0) Tryz.underlying33 hi0 hz0 .i64 .i64 (N : Int) (N : Int) (by omega) (Int.le_refl _) (by rw [hz2]; omega) (by omega)
    rw [← made_bytes]
    simpa [hz1, Value.cells] using h
  have HZ := Lib.hid (fun (w : World) (g B : Nat) (h : Blk w g 5 (bcells (List.replicate N (0 : UInt8))).toArray) (hg : B ≤ g) => show Own w B 5 1 (some ⟨g, 0, none⟩) N N (bcells (List.replicate N (0 : UInt8))) from
    ⟨by simp [bcells], Nat.le_refl _, by unfold maxLen; omega, fun _ => ⟨g, _, rfl, hg, h, by simp [bcells], by simp [bcells]⟩⟩)
  have hm := Mem.nil (fun _ => False) w0
  generalize bcells (List.replicate N (0 : UInt8)) = bz at *
  clear hN hS
  go_enter Tryz.func7, Tryz.ntmps7
  go_wp2_with (first | go_skip | ((with_reducible show wpList _ _ _ _ _ (World.alloc _ _)); refine wpList_up hm ?_; clear hm; intro n w hn hn2 hk hm hd hd2 ho; (try rw [← hn]); replace hn := Nat.le_of_eq hn.symm) | ((first | ((with_reducible show wpList _ _ _ (Oper.mk _ (Op.box _ _) _ _ _ _ :: _) _ _); (refine bxA hm ?_; clear hm; intro n w hn hz hm ho; (try simp only [List.cons_append, List.nil_append] at hm))) | ((with_reducible show wpList _ _ _ (Oper.mk _ (Op.load _ _) _ _ _ _ :: _) _ _); first | (refine ldA hm ?_) | (refine laA hm ?_)) | ((with_reducible show wpList _ _ _ (Oper.mk _ (Op.store _ _ _) _ _ _ _ :: _) _ _); (refine stA hm ?_; clear hm; intro w hz hm ho)) | ((with_reducible show wpList _ _ _ (Oper.mk _ (Op.alloc _) _ _ _ _ :: _) _ _); (refine alA hm ?_; clear hm; intro n w hn hz hm ho; (try simp only [List.cons_append, List.nil_append] at hm)))); try simp only [Act.put, sxQ]))
  obtain ⟨n2, h9⟩ := hm.nm 0 rfl
  dsimp only at h9
  subst h9
  go_at_call 24
  refine (ref12_Size 85 (by decide) _).mono ?_
  rintro e w4 ⟨rfl, rfl⟩
  rw [hNN]
  clear hNN
  go_wp2_with (first | ((with_reducible show wpList _ _ _ _ _ (World.alloc _ _)); refine wpList_up hm ?_; clear hm; intro nV w hnV hnV2 hkV hm hdV hdV2 ho; (try rw [← hnV]); replace hnV := Nat.le_of_eq hnV.symm; replace hm := hm.cons hkV (.inr hnV2) (fun e he e2 => hdV e he e2.symm) hdV2; clear hkV hdV hdV2) | go_skip | ((with_reducible show wpList _ _ _ _ _ (World.alloc _ _)); refine wpList_up hm ?_; clear hm; intro n w hn hn2 hk hm hd hd2 ho; (try rw [← hn]); replace hn := Nat.le_of_eq hn.symm) | ((first | ((with_reducible show wpList _ _ _ (Oper.mk _ (Op.box _ _) _ _ _ _ :: _) _ _); (refine bxA hm ?_; clear hm; intro n w hn hz hm ho; (try simp only [List.cons_append, List.nil_append] at hm))) | ((with_reducible show wpList _ _ _ (Oper.mk _ (Op.load _ _) _ _ _ _ :: _) _ _); first | (refine ldA hm ?_) | (refine laA hm ?_)) | ((with_reducible show wpList _ _ _ (Oper.mk _ (Op.store _ _ _) _ _ _ _ :: _) _ _); (refine stA hm ?_; clear hm; intro w hz hm ho)) | ((with_reducible show wpList _ _ _ (Oper.mk _ (Op.alloc _) _ _ _ _ :: _) _ _); (refine alA hm ?_; clear hm; intro n w hn hz hm ho; (try simp only [List.cons_append, List.nil_append] at hm)))); try simp only [Act.put, sxQ]))
  refine bodyPost_ret (results_cell_row rfl _ w n2 35 _ _ _ rfl (by exact hm.at_ 1 rfl) Tryz.underlying35 rfl (by kernel_rfl)) rfl ?_
  exact ⟨nV, rfl, HZ.out _ _ _ (hm.at_ 0 rfl) ((hm.own _ List.mem_cons_self).resolve_left id), hm.low⟩
section
variable {w0 : World} {A : Option Addr} {nn c : Nat} {S : List UInt8}
theorem Mth.state (hb : Byt w0 w0.heap.size A nn c S) : Mth (fun _ => False) w0 w0 [] [] [] [⟨blks #[.slice A nn c], fun u => Byt u u.heap.size A nn c S⟩] :=
  Mth.enter w0 _ _ _ (fun x hx => by cases hx) .nil (fun x hx => by cases hx) (fun x hx => by
    obtain rfl := List.mem_singleton.1 hx
    exact ⟨bytSup hb, fun y hy => by cases hy⟩)
theorem ref12_Read (hb : Byt w0 w0.heap.size A nn c S) (hn0 : 0 < nn) (hn : nn ≤ 1000000) (off n0 : Int) (ho : -9223372036854775808 ≤ off ∧ off ≤ 9223372036854775807) : Calls Tryz.prog 21 #[.agg #[.slice A nn c], .int .i64 off, .int .i64 n0] w0 fun e w' =>
    ∃ A2 k c2, e = .returned (.tuple #[.slice A2 k c2, .int .i64 (Jn.rread S off n0).2]) ∧ k = (Jn.rread S off n0).1.length ∧ Own w' w0.heap.size 5 1 A2 k c2 (bcells (Jn.rread S off n0).1) ∧ Below w0.heap.size w0 w' := by
  have HC := Lib.hid (Mth.state hb)
  have hm := HC.out.rebase
  have HB := Lib.hid hb
  have hl : S.length = nn := hb.1
  have HL := Lib.hid (And.intro hl hn)
  by_cases hbad : off < 0 ∨ n0 < 0 ∨ (S.length : Int) < off ∨ (S.length : Int) - off < n0
  · have e1 : Jn.rread S off n0 = ([], 2) := by unfold Jn.rread; rw [if_pos hbad]
    rw [e1]
    rw [hl] at hbad
    clear hb e1 hl hn
    by_cases h1 : off < 0
    · have d1 : decide (off < 0) = true := decide_eq_true h1
      clear hbad h1
      go_enter Tryz.func21, Tryz.ntmps21
      go_wp2_with (first | go_skip | ((with_reducible show wpList _ _ _ _ _ (World.alloc _ _)); refine wpList_up hm ?_; clear hm; intro n w hn hn2 hk hm hd hd2 ho; (try rw [← hn]); replace hn := Nat.le_of_eq hn.symm) | ((first | ((with_reducible show wpList _ _ _ (Oper.mk _ (Op.box _ _) _ _ _ _ :: _) _ _); (refine bxA hm ?_; clear hm; intro n w hn hz hm ho; (try simp only [List.cons_append, List.nil_append] at hm))) | ((with_reducible show wpList _ _ _ (Oper.mk _ (Op.load _ _) _ _ _ _ :: _) _ _); first | (refine ldA hm ?_) | (refine laA hm ?_)) | ((with_reducible show wpList _ _ _ (Oper.mk _ (Op.store _ _ _) _ _ _ _ :: _) _ _); (refine stA hm ?_; clear hm; intro w hz hm ho)) | ((with_reducible show wpList _ _ _ (Oper.mk _ (Op.alloc _) _ _ _ _ :: _) _ _); (refine alA hm ?_; clear hm; intro n w hn hz hm ho; (try simp only [List.cons_append, List.nil_append] at hm)))); try simp only [Act.put, sxQ]))
      go_ret2
      exact ⟨none, 0, 0, rfl, rfl, Own.none_ _ _ _ _ _, (HC.out.resync hm).quiet⟩
    · have d1 : decide (off < 0) = false := decide_eq_false h1
      by_cases h2 : n0 < 0
      · have d2 : decide (n0 < 0) = true := decide_eq_true h2
        clear hbad h1 h2
        go_enter Tryz.func21, Tryz.ntmps21
        go_wp2_with (first | go_skip | ((with_reducible show wpList _ _ _ _ _ (World.alloc _ _)); refine wpList_up hm ?_; clear hm; intro n w hn hn2 hk hm hd hd2 ho; (try rw [← hn]); replace hn := Nat.le_of_eq hn.symm) | ((first | ((with_reducible show wpList _ _ _ (Oper.mk _ (Op.box _ _) _ _ _ _ :: _) _ _); (refine bxA hm ?_; clear hm; intro n w hn hz hm ho; (try simp only [List.cons_append, List.nil_append] at hm))) | ((with_reducible show wpList _ _ _ (Oper.mk _ (Op.load _ _) _ _ _ _ :: _) _ _); first | (refine ldA hm ?_) | (refine laA hm ?_)) | ((with_reducible show wpList _ _ _ (Oper.mk _ (Op.store _ _ _) _ _ _ _ :: _) _ _); (refine stA hm ?_; clear hm; intro w hz hm ho)) | ((with_reducible show wpList _ _ _ (Oper.mk _ (Op.alloc _) _ _ _ _ :: _) _ _); (refine alA hm ?_; clear hm; intro n w hn hz hm ho; (try simp only [List.cons_append, List.nil_append] at hm)))); try simp only [Act.put, sxQ]))
        go_ret2
        exact ⟨none, 0, 0, rfl, rfl, Own.none_ _ _ _ _ _, (HC.out.resync hm).quiet⟩
      · have d2 : decide (n0 < 0) = false := decide_eq_false h2
        by_cases h3 : (nn : Int) < off
        · have d3 : decide ((nn : Int) < off) = true := decide_eq_true h3
          clear hbad h1 h2 h3
          go_enter Tryz.func21, Tryz.ntmps21
          go_wp2_with (first | go_skip | ((with_reducible show wpList _ _ _ _ _ (World.alloc _ _)); refine wpList_up hm ?_; clear hm; intro n w hn hn2 hk hm hd hd2 ho; (try rw [← hn]); replace hn := Nat.le_of_eq hn.symm) | ((first | ((with_reducible show wpList _ _ _ (Oper.mk _ (Op.box _ _) _ _ _ _ :: _) _ _); (refine bxA hm ?_; clear hm; intro n w hn hz hm ho; (try simp only [List.cons_append, List.nil_append] at hm))) | ((with_reducible show wpList _ _ _ (Oper.mk _ (Op.load _ _) _ _ _ _ :: _) _ _); first | (refine ldA hm ?_) | (refine laA hm ?_)) | ((with_reducible show wpList _ _ _ (Oper.mk _ (Op.store _ _ _) _ _ _ _ :: _) _ _); (refine stA hm ?_; clear hm; intro w hz hm ho)) | ((with_reducible show wpList _ _ _ (Oper.mk _ (Op.alloc _) _ _ _ _ :: _) _ _); (refine alA hm ?_; clear hm; intro n w hn hz hm ho; (try simp only [List.cons_append, List.nil_append] at hm)))); try simp only [Act.put, sxQ]))
          go_ret2
          exact ⟨none, 0, 0, rfl, rfl, Own.none_ _ _ _ _ _, (HC.out.resync hm).quiet⟩
        · have d3 : decide ((nn : Int) < off) = false := decide_eq_false h3
          have u1 : wrap64 ((nn : Int) - off) = (nn : Int) - off := IntWalk.wrap64_in _ (by have := HL.out.2; omega)
          have d4 : decide ((nn : Int) - off < n0) = true := decide_eq_true (by omega)
          clear hbad h1 h2 h3
          go_enter Tryz.func21, Tryz.ntmps21
          go_wp2_with (first | go_skip | ((with_reducible show wpList _ _ _ _ _ (World.alloc _ _)); refine wpList_up hm ?_; clear hm; intro n w hn hn2 hk hm hd hd2 ho; (try rw [← hn]); replace hn := Nat.le_of_eq hn.symm) | ((first | ((with_reducible show wpList _ _ _ (Oper.mk _ (Op.box _ _) _ _ _ _ :: _) _ _); (refine bxA hm ?_; clear hm; intro n w hn hz hm ho; (try simp only [List.cons_append, List.nil_append] at hm))) | ((with_reducible show wpList _ _ _ (Oper.mk _ (Op.load _ _) _ _ _ _ :: _) _ _); first | (refine ldA hm ?_) | (refine laA hm ?_)) | ((with_reducible show wpList _ _ _ (Oper.mk _ (Op.store _ _ _) _ _ _ _ :: _) _ _); (refine stA hm ?_; clear hm; intro w hz hm ho)) | ((with_reducible show wpList _ _ _ (Oper.mk _ (Op.alloc _) _ _ _ _ :: _) _ _); (refine alA hm ?_; clear hm; intro n w hn hz hm ho; (try simp only [List.cons_append, List.nil_append] at hm)))); try simp only [Act.put, sxQ]))
          go_ret2
          exact ⟨none, 0, 0, rfl, rfl, Own.none_ _ _ _ _ _, (HC.out.resync hm).quiet⟩
  · have e1 : Jn.rread S off n0 = ((S.drop off.toNat).take n0.toNat, 0) := by unfold Jn.rread; rw [if_neg hbad]
    rw [e1]
    rw [hl] at hbad
    obtain ⟨o, rfl⟩ : ∃ o : Nat, off = (o : Int) := ⟨off.toNat, by omega⟩
    obtain ⟨k, rfl⟩ : ∃ k : Nat, n0 = (k : Int) := ⟨n0.toNat, by omega⟩
    rw [Int.toNat_natCast, Int.toNat_natCast]
    have hok : o + k ≤ nn := by omega
    have d1 : decide ((o : Int) < 0) = false := decide_eq_false (by omega)
    have d2 : decide ((k : Int) < 0) = false := decide_eq_false (by omega)
    have d3 : decide ((nn : Int) < (o : Int)) = false := decide_eq_false (by omega)
    have u1 : wrap64 ((nn : Int) - (o : Int)) = ((nn - o : Nat) : Int) := wr_sub nn o (nn - o) (by omega) (by omega)
    have d4 : decide (((nn - o : Nat) : Int) < (k : Int)) = false := decide_eq_false (by omega)
    have d5 : decide (nn < o) = false := decide_eq_false (by omega)
    have d6 : decide (nn - o < k) = false := decide_eq_false (by omega)
    have u2 : wrap64 ((o : Int) + (k : Int)) = ((o + k : Nat) : Int) := wr_add o k (o + k) rfl (by omega)
    have u3 : wrap64 ((o : Int) + 0) = (o : Int) := by rw [IntWalk.wrap64_in _ (by omega)]; omega
    have u4 : wrap64 (o : Int) = (o : Int) := IntWalk.wrap64_in _ (by omega)
    have HOK := Lib.hid hok
    clear hb e1 hl hn hbad ho hok
    go_enter Tryz.func21, Tryz.ntmps21
    obtain ⟨ab, ao, rfl, _⟩ := HB.out.at_ hn0
    have hnc : nn ≤ c := HB.out.2.1
    have q1 : o ≤ o + k := by omega
    have q2 : o + k ≤ c := by have := HOK.out; omega
    go_upto_region 4 with (first | go_skip | ((with_reducible show wpList _ _ _ _ _ (World.alloc _ _)); refine wpList_up hm ?_; clear hm; intro n w hn hn2 hk hm hd hd2 ho; (try rw [← hn]); replace hn := Nat.le_of_eq hn.symm) | ((first | ((with_reducible show wpList _ _ _ (Oper.mk _ (Op.box _ _) _ _ _ _ :: _) _ _); (refine bxA hm ?_; clear hm; intro n w hn hz hm ho; (try simp only [List.cons_append, List.nil_append] at hm))) | ((with_reducible show wpList _ _ _ (Oper.mk _ (Op.load _ _) _ _ _ _ :: _) _ _); first | (refine ldA hm ?_) | (refine laA hm ?_)) | ((with_reducible show wpList _ _ _ (Oper.mk _ (Op.store _ _ _) _ _ _ _ :: _) _ _); (refine stA hm ?_; clear hm; intro w hz hm ho)) | ((with_reducible show wpList _ _ _ (Oper.mk _ (Op.alloc _) _ _ _ _ :: _) _ _); (refine alA hm ?_; clear hm; intro n w hn hz hm ho; (try simp only [List.cons_append, List.nil_append] at hm)))); try simp only [Act.put, sxQ]))
    have hrow : Row w0 w0.heap.size (some ⟨ab, ao + o, none⟩) (bcells ((S.drop o).take k)) := by
      rw [bcells, List.map_take, List.map_drop]
      exact Row.take (Row.drop HB.out.2.2 o) k
    have hlen : ((S.drop o).take k).length = k := by rw [List.length_take, List.length_drop, HL.out.1]; have := HOK.out; omega
    have HROW := Lib.hid (fun (u : World) (hu : Below w0.heap.size w0 u) => show Row u u.heap.size (some ⟨ab, ao + o, none⟩) (bcells ((S.drop o).take k)) from (hrow.below hu).more hu.size)
    have HLN := Lib.hid hlen
    have HVS := Lib.hid (fun (x : Thing) (hx : x ∈ [(⟨blks #[.slice (some ⟨ab, ao, none⟩) nn c], fun u => Byt u u.heap.size (some ⟨ab, ao, none⟩) nn c S⟩ : Thing)]) (q : Nat) (hq : x.G q) => show q < w0.heap.size from by obtain rfl := List.mem_singleton.1 hx; exact (bytSup HB.out).lt q hq)
    have hkn : k ≤ 1000000 := by have := HOK.out; have := HL.out.2; omega
    replace hm := hm.empty 5 1 none
    have hc2 := HC.out.resync hm
    clear HC hm
    simp only [List.nil_append, List.cons_append, List.set_cons_zero, List.set_cons_succ] at hc2
    have HC := Lib.hid hc2
    clear hc2
    have hm := HC.out.rebase
    have q3 : o ≤ c := by omega
    by_cases hk0 : k = 0
    · subst hk0
      clear hrow hlen HROW u2 q1 q2 hkn
      by_cases hco : c = o
      · subst hco
        go_wp2_with (first | ((with_reducible show wpList _ _ _ (Oper.mk _ (Op.call { callee := Callee.builtin Builtin.append, args := _, argTypes := _ }) _ _ _ _ :: _) _ _); refine wpList_apJ rfl (.tmp 31) (.tmp 38) rfl none 0 0 [] rfl (HC.out.resync hm) 0 rfl (fun x hx q hq => HVS.out x hx q hq) _ _ 0 _ [] rfl (Row.nil _ 0 _) rfl (by omega) ?_; clear hm; intro A2 c2 w2 hc2; clear HC; (try simp only [Act.put, sxQ]); simp only [List.nil_append, List.cons_append, List.set_cons_zero] at hc2; have HC := Lib.hid hc2; clear hc2; have hm := HC.out.rebase) | go_skip | ((with_reducible show wpList _ _ _ _ _ (World.alloc _ _)); refine wpList_up hm ?_; clear hm; intro n w hn hn2 hk hm hd hd2 ho; (try rw [← hn]); replace hn := Nat.le_of_eq hn.symm) | ((first | ((with_reducible show wpList _ _ _ (Oper.mk _ (Op.box _ _) _ _ _ _ :: _) _ _); (refine bxA hm ?_; clear hm; intro n w hn hz hm ho; (try simp only [List.cons_append, List.nil_append] at hm))) | ((with_reducible show wpList _ _ _ (Oper.mk _ (Op.load _ _) _ _ _ _ :: _) _ _); first | (refine ldA hm ?_) | (refine laA hm ?_)) | ((with_reducible show wpList _ _ _ (Oper.mk _ (Op.store _ _ _) _ _ _ _ :: _) _ _); (refine stA hm ?_; clear hm; intro w hz hm ho)) | ((with_reducible show wpList _ _ _ (Oper.mk _ (Op.alloc _) _ _ _ _ :: _) _ _); (refine alA hm ?_; clear hm; intro n w hn hz hm ho; (try simp only [List.cons_append, List.nil_append] at hm)))); try simp only [Act.put, sxQ]))
        go_ret2
        have hsc := HC.out.resync hm
        exact ⟨A2, 0, c2, rfl, rfl, hsc.own 0 rfl, hsc.quiet⟩
      · skip
        go_wp2_with (first | ((with_reducible show wpList _ _ _ (Oper.mk _ (Op.call { callee := Callee.builtin Builtin.append, args := _, argTypes := _ }) _ _ _ _ :: _) _ _); refine wpList_apJ rfl (.tmp 31) (.tmp 38) rfl none 0 0 [] rfl (HC.out.resync hm) 0 rfl (fun x hx q hq => HVS.out x hx q hq) _ _ 0 _ [] rfl (Row.nil _ 0 _) rfl (by omega) ?_; clear hm; intro A2 c2 w2 hc2; clear HC; (try simp only [Act.put, sxQ]); simp only [List.nil_append, List.cons_append, List.set_cons_zero] at hc2; have HC := Lib.hid hc2; clear hc2; have hm := HC.out.rebase) | go_skip | ((with_reducible show wpList _ _ _ _ _ (World.alloc _ _)); refine wpList_up hm ?_; clear hm; intro n w hn hn2 hk hm hd hd2 ho; (try rw [← hn]); replace hn := Nat.le_of_eq hn.symm) | ((first | ((with_reducible show wpList _ _ _ (Oper.mk _ (Op.box _ _) _ _ _ _ :: _) _ _); (refine bxA hm ?_; clear hm; intro n w hn hz hm ho; (try simp only [List.cons_append, List.nil_append] at hm))) | ((with_reducible show wpList _ _ _ (Oper.mk _ (Op.load _ _) _ _ _ _ :: _) _ _); first | (refine ldA hm ?_) | (refine laA hm ?_)) | ((with_reducible show wpList _ _ _ (Oper.mk _ (Op.store _ _ _) _ _ _ _ :: _) _ _); (refine stA hm ?_; clear hm; intro w hz hm ho)) | ((with_reducible show wpList _ _ _ (Oper.mk _ (Op.alloc _) _ _ _ _ :: _) _ _); (refine alA hm ?_; clear hm; intro n w hn hz hm ho; (try simp only [List.cons_append, List.nil_append] at hm)))); try simp only [Act.put, sxQ]))
        go_ret2
        have hsc := HC.out.resync hm
        exact ⟨A2, 0, c2, rfl, rfl, hsc.own 0 rfl, hsc.quiet⟩
    · have hco : ¬ c = o := by omega
      have q5 : o + k - o = k := Nat.add_sub_cancel_left ..
      clear hk0
      go_wp2_with (first | ((with_reducible show wpList _ _ _ (Oper.mk _ (Op.call { callee := Callee.builtin Builtin.append, args := _, argTypes := _ }) _ _ _ _ :: _) _ _); refine wpList_apJ rfl (.tmp 31) (.tmp 38) rfl none 0 0 [] rfl (HC.out.resync hm) 0 rfl (fun x hx q hq => HVS.out x hx q hq) _ _ (o + k - o) _ ((S.drop o).take k) rfl (HROW.out _ (HC.out.resync hm).quiet) (HLN.out.trans q5.symm) (by rw [q5]; omega) ?_; clear hm; intro A2 c2 w2 hc2; clear HC; (try simp only [Act.put, sxQ]); simp only [List.nil_append, List.cons_append, List.set_cons_zero] at hc2; have HC := Lib.hid hc2; clear hc2; have hm := HC.out.rebase) | go_skip | ((with_reducible show wpList _ _ _ _ _ (World.alloc _ _)); refine wpList_up hm ?_; clear hm; intro n w hn hn2 hk hm hd hd2 ho; (try rw [← hn]); replace hn := Nat.le_of_eq hn.symm) | ((first | ((with_reducible show wpList _ _ _ (Oper.mk _ (Op.box _ _) _ _ _ _ :: _) _ _); (refine bxA hm ?_; clear hm; intro n w hn hz hm ho; (try simp only [List.cons_append, List.nil_append] at hm))) | ((with_reducible show wpList _ _ _ (Oper.mk _ (Op.load _ _) _ _ _ _ :: _) _ _); first | (refine ldA hm ?_) | (refine laA hm ?_)) | ((with_reducible show wpList _ _ _ (Oper.mk _ (Op.store _ _ _) _ _ _ _ :: _) _ _); (refine stA hm ?_; clear hm; intro w hz hm ho)) | ((with_reducible show wpList _ _ _ (Oper.mk _ (Op.alloc _) _ _ _ _ :: _) _ _); (refine alA hm ?_; clear hm; intro n w hn hz hm ho; (try simp only [List.cons_append, List.nil_append] at hm)))); try simp only [Act.put, sxQ]))
      go_ret2
      have hsc := HC.out.resync hm
      have e5 : 0 + (o + k - o) = k := by rw [q5, Nat.zero_add]
      exact ⟨A2, k, c2, by rw [e5]; rfl, HLN.out.symm, by have h9 := hsc.own 0 rfl; rw [e5] at h9; exact h9, hsc.quiet⟩
end
end Go.Proofs.YtmhjddmamknglaaGreat
