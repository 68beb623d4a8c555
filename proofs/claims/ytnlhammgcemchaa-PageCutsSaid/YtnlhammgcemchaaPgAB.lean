/-
  The reference's Write.
-/
import Derived.Test.YtnlhammgcemchaaZ0
import Derived.Test.YtnlhammgcemchaaPgAA
namespace Go.Proofs.Ytnlhammgcemchaa
set_option maxRecDepth 100000
set_option linter.unusedSimpArgs false
set_option linter.unusedVariables false
open Go.RowKit
set_option maxHeartbeats 8000000

theorem take_splV {cs : Array Value} {n : Nat} {l : List Value} (h : cs.toList.take n = l) {i : Nat} (hi : i < l.length) (v : Value) : (spl cs i #[v]).toList.take n = l.set i v := by
  have hl : l.length ≤ cs.size := by
    have := congrArg List.length h
    rw [List.length_take] at this
    simp at this; omega
  have hn : i < n := by
    have := congrArg List.length h
    rw [List.length_take] at this
    omega
  have e : (spl cs i #[v]).toList = cs.toList.set i v := by
    rw [List.set_eq_take_append_cons_drop, if_pos (by simp; omega)]
    simp [spl]
  rw [e, List.take_set, h]
theorem row_of_take {w : World} {q : Nat} {t : TypeId} {cs : Array Value} {n : Nat} {l : List Value} (h : Blk w q t cs) (ht : cs.toList.take n = l) : Row w w.heap.size (some ⟨q, 0, none⟩) l := fun _ =>
  ⟨q, 0, rfl, h.lt, fun j hj => by
    rw [h.cell (0 + j), Nat.zero_add, ← ht, List.getElem?_take]
    have : j < n := by
      have h2 := congrArg List.length ht
      rw [List.length_take] at h2
      omega
    rw [if_pos this]; simp⟩
theorem Mem.openV {R : Nat → Prop} {s w : World} {L : List Ent} {O : List Osl} {t : TypeId} {A : Option Addr} {n c : Nat} {l : List Value} (hm : Mem R s w L (⟨t, 1, A, n, c, l⟩ :: O)) (h0 : 0 < n) :
    ∃ (q : Nat) (cs : Array Value), A = some ⟨q, 0, none⟩ ∧ cs.toList.take n = l ∧ n ≤ cs.size ∧ n ≤ c ∧ Mem R s w (L ++ [⟨q, t, cs⟩]) O := by
  have hs := hm.sl _ List.mem_cons_self
  have hle := hs.2.1
  dsimp only at hle
  obtain ⟨q, cur, e, _, hh, hc, ht⟩ := hs.2.2.2 (by show 0 < c; omega)
  dsimp only at e hh hc ht
  have ho : ownAt A c = some q := by unfold ownAt; rw [if_neg (by omega), e]; rfl
  have hp := List.pairwise_cons.1 hm.slO
  refine ⟨q, cur, e, by simpa using ht, by omega, hle, ?_⟩
  refine { only := hm.only, blk := fun x hx => ?_, own := fun x hx => ?_, diff := ?_, sl := fun x hx => hm.sl x (List.mem_cons_of_mem _ hx), slR := fun x hx => hm.slR x (List.mem_cons_of_mem _ hx), slL := fun x hx y hy => ?_, slO := hp.2 }
  · rcases List.mem_append.1 hx with hx | hx
    · exact hm.blk x hx
    · obtain rfl := List.mem_singleton.1 hx; exact hh
  · rcases List.mem_append.1 hx with hx | hx
    · exact hm.own x hx
    · obtain rfl := List.mem_singleton.1 hx; exact hm.slR _ List.mem_cons_self q ho
  · rw [List.map_append, List.nodup_append]
    refine ⟨hm.diff, by simp, fun a ha b hb e2 => ?_⟩
    simp at hb
    obtain ⟨x, hx, rfl⟩ := List.mem_map.1 ha
    exact hm.slL _ List.mem_cons_self x hx (by rw [ho, e2, hb])
  · rcases List.mem_append.1 hy with hy | hy
    · exact hm.slL x (List.mem_cons_of_mem _ hx) y hy
    · obtain rfl := List.mem_singleton.1 hy
      exact hp.1 x hx q ho
/-- A state, and an error. -/
def WRes (w : World) (vs : List SV) (G : Nat → Prop) (r : List (List UInt8) × Int) (e : Ending) (w' : World) : Prop :=
  ∃ A' n' c' vs' G', e = .returned (.tuple #[.agg #[.slice A' n' c'], .int .i64 r.2]) ∧ RfAt w' A' n' c' vs' G' ∧ svs vs' = r.1 ∧ (∀ q, G' q → G q ∨ w.heap.size ≤ q) ∧ Below w.heap.size w w'
theorem ref11_Write (A : Option Addr) (nv cv : Nat) (vs : List SV) (G : Nat → Prop) (i : Int) (B0 : Option Addr) (m cb : Nat) (b : List UInt8) (w0 : World) (H : RfAt w0 A nv cv vs G) (hb : Byt w0 w0.heap.size B0 m cb b) (hs : nv ≤ 100000) :
    Calls Try.prog 16 #[.agg #[.slice A nv cv], .int .i64 i, .slice B0 m cb] w0 (WRes w0 vs G (Pg.rwrite (svs vs) i b)) := by
  have hl : (svs vs).length = nv := by simp [svs, H.len]
  have hbl := hb.1
  have hm := Mem.nil (fun _ => False) w0
  have HH := Lib.hid H
  by_cases h8 : m = 48
  · have d1 : ((m : Int) != 48) = false := by rw [h8]; rfl
    by_cases h0 : i < 0
    · have e1 : Pg.rwrite (svs vs) i b = (svs vs, 2) := by unfold Pg.rwrite; rw [if_neg (by rw [hbl, h8]; decide), if_pos (.inl h0)]
      rw [e1]
      have d2 : decide (i < 0) = true := decide_eq_true h0
      clear H hl hb hbl h8 hs e1
      go_enter Try.func16, Try.ntmps16
      go_wp2_with (first | go_skip | ((with_reducible show wpList _ _ _ _ _ (World.alloc _ _)); refine wpList_up hm ?_; clear hm; intro n w hn hn2 hk hm hd hd2 ho; (try rw [← hn]); replace hn := Nat.le_of_eq hn.symm) | ((first | ((with_reducible show wpList _ _ _ (Oper.mk _ (Op.box _ _) _ _ _ _ :: _) _ _); (refine bxA hm ?_; clear hm; intro n w hn hz hm ho; (try simp only [List.cons_append, List.nil_append] at hm))) | ((with_reducible show wpList _ _ _ (Oper.mk _ (Op.load _ _) _ _ _ _ :: _) _ _); first | (refine ldA hm ?_) | (refine laA hm ?_)) | ((with_reducible show wpList _ _ _ (Oper.mk _ (Op.store _ _ _) _ _ _ _ :: _) _ _); (refine stA hm ?_; clear hm; intro w hz hm ho)) | ((with_reducible show wpList _ _ _ (Oper.mk _ (Op.alloc _) _ _ _ _ :: _) _ _); (refine alA hm ?_; clear hm; intro n w hn hz hm ho; (try simp only [List.cons_append, List.nil_append] at hm)))); try simp only [Act.put, sxQ]))
      refine bodyPost_ret (results_row_tmp rfl _ _ _ 36 _ (0, 0) _ rfl (by exact hm.at_ 1 rfl) Try.underlying36 rfl (by kernel_rfl)) rfl ?_
      exact ⟨A, nv, cv, vs, G, rfl, HH.out.below hm.low, rfl, fun q h => .inl h, hm.low⟩
    · have d2 : decide (i < 0) = false := decide_eq_false h0
      obtain ⟨k, rfl⟩ := Int.eq_ofNat_of_zero_le (a := i) (by omega)
      by_cases h1 : nv ≤ k
      · have e1 : Pg.rwrite (svs vs) k b = (svs vs, 2) := by unfold Pg.rwrite; rw [if_neg (by rw [hbl, h8]; decide), if_pos (.inr (by omega))]
        rw [e1]
        clear H hl hb hbl h8 hs e1
        go_enter Try.func16, Try.ntmps16
        go_wp2_with (first | go_skip | ((with_reducible show wpList _ _ _ _ _ (World.alloc _ _)); refine wpList_up hm ?_; clear hm; intro n w hn hn2 hk hm hd hd2 ho; (try rw [← hn]); replace hn := Nat.le_of_eq hn.symm) | ((first | ((with_reducible show wpList _ _ _ (Oper.mk _ (Op.box _ _) _ _ _ _ :: _) _ _); (refine bxA hm ?_; clear hm; intro n w hn hz hm ho; (try simp only [List.cons_append, List.nil_append] at hm))) | ((with_reducible show wpList _ _ _ (Oper.mk _ (Op.load _ _) _ _ _ _ :: _) _ _); first | (refine ldA hm ?_) | (refine laA hm ?_)) | ((with_reducible show wpList _ _ _ (Oper.mk _ (Op.store _ _ _) _ _ _ _ :: _) _ _); (refine stA hm ?_; clear hm; intro w hz hm ho)) | ((with_reducible show wpList _ _ _ (Oper.mk _ (Op.alloc _) _ _ _ _ :: _) _ _); (refine alA hm ?_; clear hm; intro n w hn hz hm ho; (try simp only [List.cons_append, List.nil_append] at hm)))); try simp only [Act.put, sxQ]))
        refine bodyPost_ret (results_row_tmp rfl _ _ _ 36 _ (0, 0) _ rfl (by exact hm.at_ 1 rfl) Try.underlying36 rfl (by kernel_rfl)) rfl ?_
        exact ⟨A, nv, cv, vs, G, rfl, HH.out.below hm.low, rfl, fun q h => .inl h, hm.low⟩
      · have hkn : k < nv := by omega
        have e1 : Pg.rwrite (svs vs) k b = ((svs vs).set k b, 0) := by
          unfold Pg.rwrite
          rw [if_neg (by rw [hbl, h8]; decide), if_neg (by omega), Int.toNat_natCast]
        rw [e1]
        obtain ⟨bi, hbi, bz0, bz1, bz2⟩ := info_parts (show (Try.prog.info? 39).map (fun i => (i.zero, i.size, i.bytes)) = some (some (.slice none 0 0), 1, 24) by kernel_rfl)
        have HB := Lib.hid hb
        have HS := Lib.hid hs
        clear H hl hb hbl hs e1
        go_enter Try.func16, Try.ntmps16
        go_wp2_with (first | ((with_reducible show wpList _ _ _ (Oper.mk _ (Op.store _ (Operand.tmp 32) _) _ _ _ _ :: _) _ _); refine stA hm ?_ (hin := (by simpa using hin9)); clear hm; intro w hz hm ho; (try simp only [Act.put, sxQ])) | go_skip | ((with_reducible show wpList _ _ _ _ _ (World.alloc _ _)); refine wpList_up hm ?_; clear hm; intro n w hn hn2 hk hm hd hd2 ho; (try rw [← hn]); replace hn := Nat.le_of_eq hn.symm) | ((first | ((with_reducible show wpList _ _ _ (Oper.mk _ (Op.box _ _) _ _ _ _ :: _) _ _); (refine bxA hm ?_; clear hm; intro n w hn hz hm ho; (try simp only [List.cons_append, List.nil_append] at hm))) | ((with_reducible show wpList _ _ _ (Oper.mk _ (Op.load _ _) _ _ _ _ :: _) _ _); first | (refine ldA hm ?_) | (refine laA hm ?_)) | ((with_reducible show wpList _ _ _ (Oper.mk _ (Op.store _ _ _) _ _ _ _ :: _) _ _); (refine stA hm ?_; clear hm; intro w hz hm ho)) | ((with_reducible show wpList _ _ _ (Oper.mk _ (Op.alloc _) _ _ _ _ :: _) _ _); (refine alA hm ?_; clear hm; intro n w hn hz hm ho; (try simp only [List.cons_append, List.nil_append] at hm)))); try simp only [Act.put, sxQ]) | ((with_reducible show wpList _ _ _ (Oper.mk _ (Op.call { callee := Callee.builtin Builtin.append, args := #[Operand.tmp 23, Operand.tmp 25], argTypes := _ }) _ _ _ _ :: _) _ _); refine wpList_ap (by rfl) (.tmp 23) (.tmp 25) 34 rfl 39 bi _ 1 24 Try.underlying34 hbi bz0 bz1 bz2 rfl (by omega) none 0 0 [] rfl (hm.empty 39 1 none) 0 rfl _ A nv cv (vs.map SV.val) rfl (HH.out.below hm.low).byts.1 (by rw [List.length_map, HH.out.len]; omega) (fun u hu => by obtain ⟨v, _, rfl⟩ := List.mem_map.1 hu; rfl) (by have := HS.out; unfold maxLen; omega) (by have := HS.out; omega) ?_; clear hm; intro A2 c2 w hm ho9 hat; (try simp only [Act.put, sxQ]); simp only [List.nil_append, Nat.zero_add, List.set_cons_zero] at hm) | ((with_reducible show wpList _ _ _ (Oper.mk _ (Op.call { callee := Callee.builtin Builtin.append, args := #[Operand.tmp 29, Operand.tmp 30], argTypes := _ }) _ _ _ _ :: _) _ _); refine wpList_ap9 (by rfl) (.tmp 29) (.tmp 30) rfl _ 0 0 [] rfl (hm.row hk hn2 hd hd2 1 0 [] rfl rfl (by unfold maxLen; omega)) 1 rfl _ _ m _ b rfl ((HB.out.below hm.low).more hm.low.size).2.2 HB.out.1 (by omega) ?_; clear hm; intro A3 c3 w hm; (try simp only [Act.put, sxQ]); simp only [List.nil_append, List.cons_append, Nat.zero_add, List.set_cons_zero, List.set_cons_succ] at hm; obtain ⟨q, cq, hq, htk, hsz, hcc, hm9⟩ := hm.openV (by omega); clear hm; have hm := hm9; clear hm9; subst hq; have hin9 : k + 1 ≤ cq.size := (by omega); simp only [List.nil_append, List.cons_append] at hm))
        refine bodyPost_ret (results_row_tmp rfl _ _ _ 36 _ (0, 0) _ rfl (by exact hm.at_ 1 rfl) Try.underlying36 rfl (by kernel_rfl)) rfl ?_
        have hown := hm.own_ 0 rfl
        dsimp only at hown
        have hc3 : m ≤ c3 := hown.2.1
        have hA3 : ∀ a, A3 = some a → w0.heap.size ≤ a.block ∧ a.block < w.heap.size := fun a e => hown.lt a.block (ownAt_some (by omega) e)
        have hq9 : w0.heap.size ≤ q := (hm.own _ (List.mem_of_getElem? (i := 2) rfl)).resolve_left id
        have hlq := (hm.at_ 2 rfl).lt
        have hz := hm.low.size
        have hkl : k < (vs.map SV.val).length := by rw [List.length_map, HH.out.len]; exact hkn
        have hrow := row_of_take (hm.at_ 2 rfl) (take_splV htk hkl (.slice A3 m c3))
        have hR := HH.out.below hm.low
        refine ⟨some ⟨q, 0, none⟩, nv, c2, vs.set k ⟨A3, m, c3, b⟩, fun p => p = q ∨ (∃ a, A3 = some a ∧ a.block = p) ∨ G p, rfl, { byts := ⟨by rw [List.map_set]; exact hrow, fun v hv => ?_⟩, len := by rw [List.length_set]; exact hR.len, pos := hR.pos, cap := hcc, v48 := fun v hv => ?_, hA := fun a e => by cases e; exact .inl rfl, hv := fun v hv a e => ?_, lt := fun p hp => ?_ }, by rw [svs, List.map_set]; rfl, fun p hp => ?_, hm.low⟩
        · rcases List.mem_or_eq_of_mem_set hv with hv | rfl
          · exact hR.byts.2 v hv
          · exact hown.byt (Nat.le_refl _)
        · rcases List.mem_or_eq_of_mem_set hv with hv | rfl
          · exact hR.v48 v hv
          · exact h8
        · rcases List.mem_or_eq_of_mem_set hv with hv | rfl
          · exact .inr (.inr (hR.hv v hv a e))
          · exact .inr (.inl ⟨a, e, rfl⟩)
        · rcases hp with rfl | ⟨a, e, rfl⟩ | hp
          · exact hlq
          · exact (hA3 a e).2
          · exact hR.lt p hp
        · rcases hp with rfl | ⟨a, e, rfl⟩ | hp
          · exact .inr hq9
          · exact .inr (hA3 a e).1
          · exact .inl hp
  · have e1 : Pg.rwrite (svs vs) i b = (svs vs, 1) := by unfold Pg.rwrite; rw [if_pos (by rw [hbl]; exact h8)]
    rw [e1]
    have d1 : ((m : Int) != 48) = true := by rw [bne_iff_ne]; omega
    clear H hl hb hbl h8 hs e1
    go_enter Try.func16, Try.ntmps16
    go_wp2_with (first | go_skip | ((with_reducible show wpList _ _ _ _ _ (World.alloc _ _)); refine wpList_up hm ?_; clear hm; intro n w hn hn2 hk hm hd hd2 ho; (try rw [← hn]); replace hn := Nat.le_of_eq hn.symm) | ((first | ((with_reducible show wpList _ _ _ (Oper.mk _ (Op.box _ _) _ _ _ _ :: _) _ _); (refine bxA hm ?_; clear hm; intro n w hn hz hm ho; (try simp only [List.cons_append, List.nil_append] at hm))) | ((with_reducible show wpList _ _ _ (Oper.mk _ (Op.load _ _) _ _ _ _ :: _) _ _); first | (refine ldA hm ?_) | (refine laA hm ?_)) | ((with_reducible show wpList _ _ _ (Oper.mk _ (Op.store _ _ _) _ _ _ _ :: _) _ _); (refine stA hm ?_; clear hm; intro w hz hm ho)) | ((with_reducible show wpList _ _ _ (Oper.mk _ (Op.alloc _) _ _ _ _ :: _) _ _); (refine alA hm ?_; clear hm; intro n w hn hz hm ho; (try simp only [List.cons_append, List.nil_append] at hm)))); try simp only [Act.put, sxQ]))
    refine bodyPost_ret (results_row_tmp rfl _ _ _ 36 _ (0, 0) _ rfl (by exact hm.at_ 1 rfl) Try.underlying36 rfl (by kernel_rfl)) rfl ?_
    exact ⟨A, nv, cv, vs, G, rfl, HH.out.below hm.low, rfl, fun q h => .inl h, hm.low⟩
end Go.Proofs.Ytnlhammgcemchaa
