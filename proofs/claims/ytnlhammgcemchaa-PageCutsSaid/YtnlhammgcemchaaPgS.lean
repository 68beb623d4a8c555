/-
  The walks of move and Write.
-/
import Derived.Test.YtnlhammgcemchaaZ0
import Derived.Test.YtnlhammgcemchaaPgR
namespace Go.Proofs.Ytnlhammgcemchaa
set_option maxRecDepth 100000
set_option linter.unusedSimpArgs false
set_option linter.unusedVariables false
open Go.RowKit
set_option maxHeartbeats 8000000

/-- What move needs. -/
structure MvOk (p : Pg.P) (K : Int) : Prop where
  turn : p.turn < p.holds.length
  frames : p.frames = p.holds.length
  hl : p.holds.length < 65536
  fixed : p.fixed + 20 < 4611686018427387904
  pl : ∀ i, p.holds.getD p.turn none = some i → PlOk p i K ∧ ∀ f, p.at_.getD i none = some f → f < 100000000
theorem content_length {p : Pg.P} {i : Nat} (h : (p.content i).2.1 = 0) : (p.content i).1.length = 48 := by
  unfold Pg.P.content at h ⊢
  split
  · rfl
  · rename_i f e
    rw [e] at h
    simp only at h ⊢
    split
    · rename_i h1
      rw [flat_length, List.length_take, read_length h1]; rfl
    · rename_i h1
      rw [if_neg h1] at h
      unfold Pg.P.failure at h
      dsimp only at h
      split at h <;> cases h
theorem page_move {w0 : World} {g : Nat} {G : Nat → Prop} {s : PgS} {p : Pg.P} (H : PAt w0 g G s p) {K : Int} (hok : MvOk p K) :
    Calls Try.prog 39 #[.pointer (some ⟨g, 0, none⟩)] w0 (PlRes w0 g G s p.move) := by
  have hm := H.mem3
  have HK := Lib.hid H.blk
  have HH := Lib.hid H
  have HOK := Lib.hid hok
  have ht := hok.turn
  have hfr := hok.frames
  have hl := hok.hl
  have HHo := Lib.hid H.holds
  clear H hok
  simp only [pcs] at hm HK
  have t1 : (p.turn : Int) < (p.holds.length : Int) := by omega
  have t2 : (0 : Int) < (p.frames : Int) := by omega
  have hfr2 := Lib.hid hfr
  have e1 := Lib.hid (show p.move = match p.holds.getD p.turn none with
    | none => (p.turned, 0)
    | some i => if (p.content i).2.1 ≠ 0 then (p.turned.more (p.content i).2.2, (p.content i).2.1) else (p.turned.more (p.content i).2.2).place i (p.content i).1 from rfl)
  clear hfr
  cases hh : p.holds.getD p.turn none with
  | none =>
    rw [hh] at e1
    have CH := Lib.hid (fun (u : World) (h : Blk u s.Ho 3 (ecells p.holds ++ s.rh).toArray) => show u.cell? ⟨s.Ho, p.turn, none⟩ = some (.int .i64 (-1)) by have := cells_at _ _ p.turn ht h; rwa [hh] at this)
    clear hh
    go_enter Try.func39, Try.ntmps39
    go_wp2_with (first | go_skip | ((with_reducible show wpList _ _ _ _ _ (World.alloc _ _)); refine wpList_up hm ?_; clear hm; intro n w hn hn2 hk hm hd hd2 ho; (try rw [← hn]); replace hn := Nat.le_of_eq hn.symm) | ((first | ((with_reducible show wpList _ _ _ (Oper.mk _ (Op.box _ _) _ _ _ _ :: _) _ _); (refine bxA hm ?_; clear hm; intro n w hn hz hm ho; (try simp only [List.cons_append, List.nil_append] at hm))) | ((with_reducible show wpList _ _ _ (Oper.mk _ (Op.load _ _) _ _ _ _ :: _) _ _); first | (refine ldA hm ?_) | (refine laA hm ?_)) | ((with_reducible show wpList _ _ _ (Oper.mk _ (Op.store _ _ _) _ _ _ _ :: _) _ _); (refine stA hm ?_; clear hm; intro w hz hm ho)) | ((with_reducible show wpList _ _ _ (Oper.mk _ (Op.alloc _) _ _ _ _ :: _) _ _); (refine alA hm ?_; clear hm; intro n w hn hz hm ho; (try simp only [List.cons_append, List.nil_append] at hm)))); try simp only [Act.put, sxQ]))
    refine wp_region_quiet_tail 13 (by kernel_rfl) (by kernel_rfl) ?_
    simp only [List.take_succ_cons, List.take_zero]
    repeat (first | go_big_quiet_skip | ((with_reducible show wpQuiet _ _ _ _ (Oper.mk _ (Op.load _ _) _ _ _ _ :: _) _); first | (refine wpQuiet_ldS (by rfl) _ _ rfl _ _ rfl hm _ _ (by repeat (first | apply In.a | apply In.b)) (by decide +kernel) _ (by simp only [sxN]; first | done | exact rfl) ?_; (try simp only [Act.put, sxQ]))) | go_big_quiet_step (fail))
    refine wpQuiet_nil ?_
    rintro _ ⟨nq, rfl⟩
    simp only [List.drop_succ_cons, List.drop_zero]
    replace hm := hm.drewN nq
    go_wp2_with (first | go_skip | ((with_reducible show wpList _ _ _ _ _ (World.alloc _ _)); refine wpList_up hm ?_; clear hm; intro n w hn hn2 hk hm hd hd2 ho; (try rw [← hn]); replace hn := Nat.le_of_eq hn.symm) | ((first | ((with_reducible show wpList _ _ _ (Oper.mk _ (Op.box _ _) _ _ _ _ :: _) _ _); (refine bxA hm ?_; clear hm; intro n w hn hz hm ho; (try simp only [List.cons_append, List.nil_append] at hm))) | ((with_reducible show wpList _ _ _ (Oper.mk _ (Op.load _ _) _ _ _ _ :: _) _ _); first | (refine ldA hm ?_) | (refine laA hm ?_)) | ((with_reducible show wpList _ _ _ (Oper.mk _ (Op.store _ _ _) _ _ _ _ :: _) _ _); (refine stA hm ?_; clear hm; intro w hz hm ho)) | ((with_reducible show wpList _ _ _ (Oper.mk _ (Op.alloc _) _ _ _ _ :: _) _ _); (refine alA hm ?_; clear hm; intro n w hn hz hm ho; (try simp only [List.cons_append, List.nil_append] at hm)))); try simp only [Act.put, sxQ]) | ((with_reducible show wpList _ _ _ (Oper.mk _ (Op.load _ _) _ _ _ _ :: _) _ _); refine wpList_lc (by rfl) _ _ rfl _ rfl (by decide +kernel) _ (CH.out _ (hm.at_ 2 rfl)) ?_; (try simp only [Act.put, sxQ])))
    go_ret
    rw [e1.out]
    have hbx := hm.at_ 0 rfl
    have em : ((((p.turn + 1) % p.frames : Nat)) : Int) = ((p.turn : Int) + 1) % (p.frames : Int) := by simp
    rw [← em] at hbx
    exact ⟨rfl, G, s, (HH.out.drewN nq).boxed ho p.version _ p.fixed hbx, fun q h => .inl h, ((Only.refl G w0).drewN nq).trans (ho.mono fun q _ e => e ▸ HH.out.hg g (by simp)), rfl⟩
  | some i =>
    rw [hh] at e1
    have CH := Lib.hid (fun (u : World) (h : Blk u s.Ho 3 (ecells p.holds ++ s.rh).toArray) => show u.cell? ⟨s.Ho, p.turn, none⟩ = some (.int .i64 (i : Int)) by have := cells_at _ _ p.turn ht h; rwa [hh] at this)
    have hpl := HOK.out.pl i hh
    have hin : ((i : Int) == -1) = false := by rw [beq_eq_false_iff_ne]; omega
    have HC := Lib.hid (fun (u : World) (h : PAt u g G s p.turned) => show Calls Try.prog 41 #[.pointer (some ⟨g, 0, none⟩), .int .i64 (i : Int)] u (CtRes u g G s p.turned (p.content i).1 (p.content i).2.1 (p.content i).2.2) from page_content h i hpl.1.hi hpl.2 HOK.out.fixed)
    have hpk : PlOk (p.turned.more (p.content i).2.2) i K := ⟨hpl.1.hi, hpl.1.hi24, hpl.1.f2, hpl.1.fl, hpl.1.ff, hpl.1.hl, hpl.1.ho, hpl.1.ver, hpl.1.fine, hpl.1.hK⟩
    have hcl := Lib.hid (@content_length p i)
    have HPK := Lib.hid hpk
    clear hh hpl hpk
    go_enter Try.func39, Try.ntmps39
    go_wp2_with (first | go_skip | ((with_reducible show wpList _ _ _ _ _ (World.alloc _ _)); refine wpList_up hm ?_; clear hm; intro n w hn hn2 hk hm hd hd2 ho; (try rw [← hn]); replace hn := Nat.le_of_eq hn.symm) | ((first | ((with_reducible show wpList _ _ _ (Oper.mk _ (Op.box _ _) _ _ _ _ :: _) _ _); (refine bxA hm ?_; clear hm; intro n w hn hz hm ho; (try simp only [List.cons_append, List.nil_append] at hm))) | ((with_reducible show wpList _ _ _ (Oper.mk _ (Op.load _ _) _ _ _ _ :: _) _ _); first | (refine ldA hm ?_) | (refine laA hm ?_)) | ((with_reducible show wpList _ _ _ (Oper.mk _ (Op.store _ _ _) _ _ _ _ :: _) _ _); (refine stA hm ?_; clear hm; intro w hz hm ho)) | ((with_reducible show wpList _ _ _ (Oper.mk _ (Op.alloc _) _ _ _ _ :: _) _ _); (refine alA hm ?_; clear hm; intro n w hn hz hm ho; (try simp only [List.cons_append, List.nil_append] at hm)))); try simp only [Act.put, sxQ]))
    refine wp_region_quiet_tail 13 (by kernel_rfl) (by kernel_rfl) ?_
    simp only [List.take_succ_cons, List.take_zero]
    repeat (first | go_big_quiet_skip | ((with_reducible show wpQuiet _ _ _ _ (Oper.mk _ (Op.load _ _) _ _ _ _ :: _) _); first | (refine wpQuiet_ldS (by rfl) _ _ rfl _ _ rfl hm _ _ (by repeat (first | apply In.a | apply In.b)) (by decide +kernel) _ (by simp only [sxN]; first | done | exact rfl) ?_; (try simp only [Act.put, sxQ]))) | go_big_quiet_step (fail))
    refine wpQuiet_nil ?_
    rintro _ ⟨nq, rfl⟩
    simp only [List.drop_succ_cons, List.drop_zero]
    replace hm := hm.drewN nq
    go_wp2_with (first | go_skip | ((with_reducible show wpList _ _ _ _ _ (World.alloc _ _)); refine wpList_up hm ?_; clear hm; intro n w hn hn2 hk hm hd hd2 ho; (try rw [← hn]); replace hn := Nat.le_of_eq hn.symm) | ((first | ((with_reducible show wpList _ _ _ (Oper.mk _ (Op.box _ _) _ _ _ _ :: _) _ _); (refine bxA hm ?_; clear hm; intro n w hn hz hm ho; (try simp only [List.cons_append, List.nil_append] at hm))) | ((with_reducible show wpList _ _ _ (Oper.mk _ (Op.load _ _) _ _ _ _ :: _) _ _); first | (refine ldA hm ?_) | (refine laA hm ?_)) | ((with_reducible show wpList _ _ _ (Oper.mk _ (Op.store _ _ _) _ _ _ _ :: _) _ _); (refine stA hm ?_; clear hm; intro w hz hm ho)) | ((with_reducible show wpList _ _ _ (Oper.mk _ (Op.alloc _) _ _ _ _ :: _) _ _); (refine alA hm ?_; clear hm; intro n w hn hz hm ho; (try simp only [List.cons_append, List.nil_append] at hm)))); try simp only [Act.put, sxQ]) | ((with_reducible show wpList _ _ _ (Oper.mk _ (Op.load _ _) _ _ _ _ :: _) _ _); refine wpList_lc (by rfl) _ _ rfl _ rfl (by decide +kernel) _ (CH.out _ (hm.at_ 2 rfl)) ?_; (try simp only [Act.put, sxQ])))
    have hbx := hm.at_ 0 rfl
    have em : ((((p.turn + 1) % p.frames : Nat)) : Int) = ((p.turn : Int) + 1) % (p.frames : Int) := by simp
    rw [← em] at hbx
    have hpt : PAt w g G s p.turned := (HH.out.drewN nq).boxed ho p.version _ p.fixed hbx
    have hot : Only G w0 w := ((Only.refl G w0).drewN nq).trans (ho.mono fun q _ e => e ▸ HH.out.hg g (by simp))
    replace hpt := Lib.hid hpt
    replace hot := Lib.hid hot
    clear hbx em ho hm
    go_at_call 41
    refine (HC.out _ hpt.out).mono ?_
    rintro e w3 ⟨A, c, rfl, hown, hp3, ho3⟩
    by_cases hz : (p.content i).2.1 = 0
    · have h48 := hcl.out hz
      rw [hz, if_neg (by decide)] at e1
      rw [hz, h48]
      rw [h48] at hown
      clear hz
      go_wp2_with fail
      go_at_call 40
      refine (page_place hp3 i HPK.out A c (p.content i).1 (hown.byt (Nat.le_refl _))).mono ?_
      rintro e w4 ⟨rfl, G', s', hp4, hG, ho4, hs4⟩
      go_wp2_with fail
      go_ret
      rw [e1.out]
      exact ⟨rfl, G', s', hp4, fun q h => (hG q h).imp id (fun h => Nat.le_trans (Nat.le_trans hot.out.size ho3.size) h), (hot.out.trans (ho3.mono fun q _ e => e ▸ HH.out.hg g (by simp))).trans ho4, hs4⟩
    · have hzd : ((p.content i).2.1 != 0) = true := by simpa using hz
      rw [if_pos hz] at e1
      clear hz
      go_wp2_with fail
      go_ret
      rw [e1.out]
      exact ⟨rfl, G, s, hp3, fun q h => .inl h, hot.out.trans (ho3.mono fun q _ e => e ▸ HH.out.hg g (by simp)), rfl⟩
theorem page_Write {w0 : World} {g : Nat} {G : Nat → Prop} {s : PgS} {p : Pg.P} (H : PAt w0 g G s p) (i : Int) {K K2 : Int} (B0 : Option Addr) (n cb : Nat) (b : List UInt8) (hb : Byt w0 w0.heap.size B0 n cb b) (hl : p.at_.length = p.count)
    (hb0 : ∀ q, (∃ a, B0 = some a ∧ q = a.block) → 0 < n → ¬ G q)
    (hok : p.access i = 0 → MvOk p K) (hpl : p.access i = 0 → n = 48 → p.move.2 = 0 → PlOk p.move.1 i.toNat K2) :
    Calls Try.prog 14 #[.pointer (some ⟨g, 0, none⟩), .int .i64 i, .slice B0 n cb] w0 (PlRes w0 g G s (p.write i b)) := by
  have HM := Lib.hid (fun (u : World) (h : PAt u g G s p) => page_made h)
  have HA := Lib.hid (fun (u : World) (h : PAt u g G s p) => page_access h i)
  have HH := Lib.hid H
  have hbl := hb.1
  have e1 : p.write i b = if b.length ≠ 48 then (p, 1) else if p.access i ≠ 0 then (p, p.access i) else if p.move.2 ≠ 0 then p.move else p.move.1.place i.toNat b := rfl
  have HB := Lib.hid hb
  by_cases hn : n = 48
  · subst hn
    rw [if_neg (by rw [hbl]; decide)] at e1
    by_cases ha : p.access i = 0
    · rw [if_neg (by rw [ha]; decide)] at e1
      have hi : 0 ≤ i := by
        unfold Pg.P.access at ha
        split at ha
        · cases ha
        · split at ha
          · cases ha
          · rename_i h; omega
      obtain ⟨k, rfl⟩ := Int.eq_ofNat_of_zero_le hi
      rw [Int.toNat_natCast] at e1 hpl
      have HV := Lib.hid (fun (u : World) (h : PAt u g G s p) => page_move h (hok ha))
      have HPL := Lib.hid (hpl ha rfl)
      rw [ha] at HA
      clear hok hpl ha H hb hi hl
      have E1 := Lib.hid e1
      clear e1
      go_enter Try.func14, Try.ntmps14
      go_wp2_with fail
      go_at_call 37
      refine (HM.out _ HH.out).mono ?_
      rintro e w1 ⟨rfl, hb1⟩
      go_wp2_with fail
      go_at_call 38
      refine (HA.out _ (HH.out.below hb1)).mono ?_
      rintro e w2 ⟨rfl, hb2⟩
      go_wp2_with fail
      go_at_call 39
      refine (HV.out _ ((HH.out.below hb1).below hb2)).mono ?_
      rintro e w3 ⟨rfl, G3, s3, hp3, hG3, ho3, hs3⟩
      have hb12 := hb1.trans (hb2.mono hb1.size)
      by_cases hz : p.move.2 = 0
      · have hpk := HPL.out hz
        have e2 := E1.out
        rw [if_neg (by rw [hz]; decide)] at e2
        rw [hz]
        clear hz
        have hby : Byt w3 w3.heap.size B0 48 cb b := ((HB.out.below hb12).more hb12.size).only ho3 (fun a e h => hb0 _ ⟨a, e, rfl⟩ (by omega))
        go_wp2_with fail
        go_at_call 40
        refine (page_place hp3 k hpk B0 cb b hby).mono ?_
        rintro e w4 ⟨rfl, G', s', hp4, hG, ho4, hs4⟩
        go_wp2_with fail
        go_ret
        rw [e2]
        refine ⟨rfl, G', s', hp4, fun q h => ?_, ?_, hs4.trans hs3⟩
        · rcases hG q h with h1 | h1
          · exact (hG3 q h1).imp id (fun h => Nat.le_trans hb12.size h)
          · exact .inr (Nat.le_trans (Nat.le_trans hb12.size ho3.size) h1)
        · exact ((Only.of_below hb12).trans ho3).more ho4 (fun q hq h => (hG3 q h).imp id (fun h => Nat.le_trans hb12.size h))
      · have hzd : (p.move.2 != 0) = true := by simpa using hz
        have e2 := E1.out
        rw [if_pos hz] at e2
        clear hz
        go_wp2_with fail
        go_ret
        rw [e2]
        exact ⟨rfl, G3, s3, hp3, fun q h => (hG3 q h).imp id (fun h => Nat.le_trans hb12.size h), (Only.of_below hb12).trans ho3, hs3⟩
    · rw [if_pos ha] at e1
      rw [e1]
      have hz : (p.access i != 0) = true := by simpa using ha
      generalize p.access i = z at *
      clear e1 ha hok hpl H hb hl
      go_enter Try.func14, Try.ntmps14
      go_wp2_with fail
      go_at_call 37
      refine (HM.out _ HH.out).mono ?_
      rintro e w1 ⟨rfl, hb1⟩
      go_wp2_with fail
      go_at_call 38
      refine (HA.out _ (HH.out.below hb1)).mono ?_
      rintro e w2 ⟨rfl, hb2⟩
      go_wp2_with fail
      go_ret
      have hb12 := hb1.trans (hb2.mono hb1.size)
      exact ⟨rfl, G, s, HH.out.below hb12, fun q h => .inl h, Only.of_below hb12, rfl⟩
  · rw [if_pos (by rw [hbl]; exact hn)] at e1
    rw [e1]
    have hnd : ((n : Int) != 48) = true := by rw [bne_iff_ne]; omega
    clear e1 hok hpl H hb hl hn
    go_enter Try.func14, Try.ntmps14
    go_wp2_with fail
    go_at_call 37
    refine (HM.out _ HH.out).mono ?_
    rintro e w1 ⟨rfl, hb1⟩
    go_wp2_with fail
    go_ret
    exact ⟨rfl, G, s, HH.out.below hb1, fun q h => .inl h, Only.of_below hb1, rfl⟩
end Go.Proofs.Ytnlhammgcemchaa
