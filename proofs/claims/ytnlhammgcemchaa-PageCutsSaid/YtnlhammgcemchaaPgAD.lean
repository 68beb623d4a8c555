/-
  The laws' shows: pages have the bytes of a state.
-/
import Derived.Test.YtnlhammgcemchaaZ0
import Derived.Test.YtnlhammgcemchaaPgAC
namespace Go.Proofs.Ytnlhammgcemchaa
set_option maxRecDepth 100000
set_option linter.unusedSimpArgs false
set_option linter.unusedVariables false
open Go.RowKit
set_option maxHeartbeats 8000000

/-- Pages that still show the state. -/
def ShRes (w : World) (g B : Nat) (G : Nat → Prop) (s : PgS) (p : Pg.P) (fr : Pg.Fs) (st : List (List UInt8)) (e : Ending) (w' : World) : Prop :=
  e = .returned (.bool true) ∧ ∃ c, PAt w' g G s (p.more c) ∧ Pg.Live (B + 1000 * st.length) fr (p.more c) st ∧ (Pg.Exact p.m.words → c = 0) ∧ Only G w w'
set_option maxRecDepth 100000 in
theorem law11_shows {w0 : World} {g B : Nat} {G : Nat → Prop} {s : PgS} {p : Pg.P} {fr : Pg.Fs} {st : List (List UInt8)} (H : PAt w0 g G s p) (L : Pg.Live B fr p st) (hB : B ≤ 800000000) (A : Option Addr) (nv cv : Nat) (vs : List SV) (GR : Nat → Prop) (R : RfAt w0 A nv cv vs GR) (hd : ∀ q, G q → ¬ GR q) (he : svs vs = st) :
    Calls Try.prog 21 #[.pointer (some ⟨g, 0, none⟩), .agg #[.slice A nv cv]] w0 (ShRes w0 g B G s p fr st) := by
  have hnv : st.length = nv := by rw [← he]; simp [svs, R.len]
  have hcp := L.count_pos
  have hln := L.len
  have HH := Lib.hid H
  have HL := Lib.hid L
  have HR := Lib.hid R
  have HD := Lib.hid hd
  have HE := Lib.hid he
  have HG : Hid (∀ q, w0.heap.size ≤ q → ¬ G q) := Lib.hid fun q h1 h2 => absurd (H.lt q h2) (by omega)
  have hm := Mem.nil (fun _ => False) w0
  clear H L R hd he
  go_enter Try.func21, Try.ntmps21
  go_wp2_with (first | go_skip | ((with_reducible show wpList _ _ _ _ _ (World.alloc _ _)); refine wpList_up hm ?_; clear hm; intro n w hn hn2 hk hm hd hd2 ho; (try rw [← hn]); replace hn := Nat.le_of_eq hn.symm) | ((first | ((with_reducible show wpList _ _ _ (Oper.mk _ (Op.box _ _) _ _ _ _ :: _) _ _); (refine bxA hm ?_; clear hm; intro n w hn hz hm ho; (try simp only [List.cons_append, List.nil_append] at hm))) | ((with_reducible show wpList _ _ _ (Oper.mk _ (Op.load _ _) _ _ _ _ :: _) _ _); first | (refine ldA hm ?_) | (refine laA hm ?_)) | ((with_reducible show wpList _ _ _ (Oper.mk _ (Op.store _ _ _) _ _ _ _ :: _) _ _); (refine stA hm ?_; clear hm; intro w hz hm ho)) | ((with_reducible show wpList _ _ _ (Oper.mk _ (Op.alloc _) _ _ _ _ :: _) _ _); (refine alA hm ?_; clear hm; intro n w hn hz hm ho; (try simp only [List.cons_append, List.nil_append] at hm)))); try simp only [Act.put, sxQ]))
  refine wp_region_noPanic ?_
  refine wp_region_held_drew (S := MemS _ _ _ _) (by kernel_rfl) (MemS.of hm.drew) (fun hHeld => ?_)
  refine wpAnyH_fresh (by repeat (first | apply Fresh.a | apply Fresh.b)) ?_
  replace hm := hm.drew
  iterate 1 (first | (refine takeN 0 hHeld ?_) | (refine takeY 0 ?_ hHeld ?_ ?_; rotate_left 1; (first | (intro w9 h9; (with_reducible show (execOp _ (Oper.mk _ (Op.load _ _) _ _ _ _)).run _ _ = _); first | exact h9.ldA) | focus (intro w9 hSw; go_simp; (try (with_reducible rfl)); done))); try simp only [Act.put, sxQ])
  iterate 3 (first | (refine takeN 2 hHeld ?_) | (refine takeY 2 ?_ hHeld ?_ ?_; rotate_left 1; (first | (intro w9 h9; (with_reducible show (execOp _ (Oper.mk _ (Op.load _ _) _ _ _ _)).run _ _ = _); first | exact h9.ldA) | focus (intro w9 hSw; go_simp; (try (with_reducible rfl)); done))); try simp only [Act.put, sxQ])
  refine wpAnyH_ready (rs := [1]) (by kernel_rfl) (by simp) ?_
  refine AllReadyH.cons2 (by simp only [sxN]; first | done | exact rfl) (fun K hK => ?_)
  rw [if_pos (by rfl)]
  go_simp
  refine (live_Count (HH.out.below hm.low) HL.out).mono ?_
  rintro e w2 ⟨rfl, hb2⟩
  replace hm := hm.below hb2
  clear hb2
  rw [hnv]
  go_simp
  refine hK.out _ _ (MemS.of hm) (fun hHeld => ?_)
  clear hK K
  try simp only [Act.put, sxQ]
  iterate 1 (first | (refine takeN 5 hHeld ?_) | (refine takeY 5 ?_ hHeld ?_ ?_; rotate_left 1; (first | (intro w9 h9; (with_reducible show (execOp _ (Oper.mk _ (Op.load _ _) _ _ _ _)).run _ _ = _); first | exact h9.ldA) | focus (intro w9 hSw; go_simp; (try (with_reducible rfl)); done))); try simp only [Act.put, sxQ])
  refine wpAnyH_done (by kernel_rfl) ?_ _
  refine NoPanic.normal ?_
  go_wp2_with (first | go_skip | ((with_reducible show wpList _ _ _ _ _ (World.alloc _ _)); refine wpList_up hm ?_; clear hm; intro n w hn hn2 hk hm hd hd2 ho; (try rw [← hn]); replace hn := Nat.le_of_eq hn.symm) | ((first | ((with_reducible show wpList _ _ _ (Oper.mk _ (Op.box _ _) _ _ _ _ :: _) _ _); (refine bxA hm ?_; clear hm; intro n w hn hz hm ho; (try simp only [List.cons_append, List.nil_append] at hm))) | ((with_reducible show wpList _ _ _ (Oper.mk _ (Op.load _ _) _ _ _ _ :: _) _ _); first | (refine ldA hm ?_) | (refine laA hm ?_)) | ((with_reducible show wpList _ _ _ (Oper.mk _ (Op.store _ _ _) _ _ _ _ :: _) _ _); (refine stA hm ?_; clear hm; intro w hz hm ho)) | ((with_reducible show wpList _ _ _ (Oper.mk _ (Op.alloc _) _ _ _ _ :: _) _ _); (refine alA hm ?_; clear hm; intro n w hn hz hm ho; (try simp only [List.cons_append, List.nil_append] at hm)))); try simp only [Act.put, sxQ]))
  obtain ⟨n3, h9⟩ := hm.nm 0 rfl
  dsimp only at h9
  subst h9
  have hk3 := hm.at_ 0 rfl
  have hn3 : w0.heap.size ≤ n3 := (hm.own _ (List.mem_of_getElem? (i := 0) rfl)).resolve_left id
  have hng : ¬ G n3 := HG.out n3 hn3
  have hlow := hm.low
  go_loopg [5] nv (fun j v5 wr => ∃ k c, k + j = nv ∧ v5 = .int .i64 (k : Int) ∧ Blk wr n3 36 #[.slice A nv cv] ∧ PAt wr g G s (p.more c) ∧ Pg.Live (B + 1000 * k) fr (p.more c) st ∧ (Pg.Exact p.m.words → c = 0) ∧ Only G w0 wr ∧ RfAt wr A nv cv vs GR)
  case atStart => exact ⟨0, 0, by omega, rfl, hk3, HH.out.below hlow, HL.out, fun _ => rfl, Only.of_below hlow, HR.out.below hlow⟩
  case round =>
    clear hm hk3 hlow
    obtain ⟨k, c, hkg, rfl, hk3, hp, hl, hx, hon, hr⟩ := hrel
    have HK := Lib.hid hk3
    have HP := Lib.hid hp
    have HL2 := Lib.hid hl
    have HX := Lib.hid hx
    have HON := Lib.hid hon
    have HR2 := Lib.hid hr
    have hm : Mem (fun q => q = n3) wr wr [⟨n3, _, _⟩] [] := Mem.one hk3 rfl
    clear hk3 hp hl hx hon hr
    cases gk with
    | zero =>
      obtain rfl : k = nv := by omega
      go_wp2_with (first | go_skip | ((with_reducible show wpList _ _ _ _ _ (World.alloc _ _)); refine wpList_up hm ?_; clear hm; intro n w hn hn2 hk hm hd hd2 ho; (try rw [← hn]); replace hn := Nat.le_of_eq hn.symm) | ((first | ((with_reducible show wpList _ _ _ (Oper.mk _ (Op.box _ _) _ _ _ _ :: _) _ _); (refine bxA hm ?_; clear hm; intro n w hn hz hm ho; (try simp only [List.cons_append, List.nil_append] at hm))) | ((with_reducible show wpList _ _ _ (Oper.mk _ (Op.load _ _) _ _ _ _ :: _) _ _); first | (refine ldA hm ?_) | (refine laA hm ?_)) | ((with_reducible show wpList _ _ _ (Oper.mk _ (Op.store _ _ _) _ _ _ _ :: _) _ _); (refine stA hm ?_; clear hm; intro w hz hm ho)) | ((with_reducible show wpList _ _ _ (Oper.mk _ (Op.alloc _) _ _ _ _ :: _) _ _); (refine alA hm ?_; clear hm; intro n w hn hz hm ho; (try simp only [List.cons_append, List.nil_append] at hm)))); try simp only [Act.put, sxQ]))
      go_ret
      have hb := hm.still 0 rfl HK.out
      exact ⟨rfl, c, HP.out.below hb, by rw [hnv]; exact HL2.out, HX.out, HON.out.trans (Only.of_below hb)⟩
    | succ j =>
      have hkn : k < nv := by omega
      have i1 : decide ((k : Int) < (nv : Int)) = true := decide_eq_true (by omega)
      have hcs : st.length = p.count := hln
      go_wp2_with (first | go_skip | ((with_reducible show wpList _ _ _ _ _ (World.alloc _ _)); refine wpList_up hm ?_; clear hm; intro n w hn hn2 hk hm hd hd2 ho; (try rw [← hn]); replace hn := Nat.le_of_eq hn.symm) | ((first | ((with_reducible show wpList _ _ _ (Oper.mk _ (Op.box _ _) _ _ _ _ :: _) _ _); (refine bxA hm ?_; clear hm; intro n w hn hz hm ho; (try simp only [List.cons_append, List.nil_append] at hm))) | ((with_reducible show wpList _ _ _ (Oper.mk _ (Op.load _ _) _ _ _ _ :: _) _ _); first | (refine ldA hm ?_) | (refine laA hm ?_)) | ((with_reducible show wpList _ _ _ (Oper.mk _ (Op.store _ _ _) _ _ _ _ :: _) _ _); (refine stA hm ?_; clear hm; intro w hz hm ho)) | ((with_reducible show wpList _ _ _ (Oper.mk _ (Op.alloc _) _ _ _ _ :: _) _ _); (refine alA hm ?_; clear hm; intro n w hn hz hm ho; (try simp only [List.cons_append, List.nil_append] at hm)))); try simp only [Act.put, sxQ]))
      go_at_call 17
      refine (live_Read (HP.out.below (hm.still 0 rfl HK.out)) HL2.out (by omega) k).mono ?_
      rintro e w6 ⟨A6, k6, m6, c6, rfl, hk6, ho6, hc6, hx6, hp6, hon6⟩
      have hrr : Pg.rread st k = (st.getD k [], 0) := by
        unfold Pg.rread
        rw [if_neg (by omega), Int.toNat_natCast]
      rw [hrr] at hk6 ho6 ⊢
      have h48 : (st.getD k []).length = 48 := HL.out.st_len (by omega)
      dsimp only at hk6 ho6 ⊢
      obtain rfl : k6 = 48 := hk6.trans h48
      have hb6 := hm.still 0 rfl HK.out
      have HK6 := Lib.hid ((hm.at_ 0 rfl).only hon6 hng)
      have HR6 := Lib.hid ((HR2.out.below hb6).away hon6 (fun q hq h => HD.out q h hq))
      have HS1 := Lib.hid (show Byt w6 w6.heap.size A6 48 m6 _ from ho6.byt (Nat.le_refl _))
      have HP6 := Lib.hid hp6
      have HON6 := Lib.hid hon6
      have HB6 := Lib.hid hb6
      have HL6 := Lib.hid (HL2.out.more (c := c6) (by omega))
      have HX6 := Lib.hid (fun h => hx6 h)
      have hkv : k < vs.length := by rw [HR6.out.len]; exact hkn
      obtain ⟨bb, oo, hA, hcell, hby⟩ := HR6.out.byts.at_ hkv
      have h482 := HR6.out.v48 _ (List.getElem_mem hkv)
      have hbs : vs[k].bs = st.getD k [] := by rw [← HE.out, svs_getD vs k hkv]
      have HS2 := Lib.hid hby
      rw [hbs, h482] at HS2
      rw [h482] at hcell
      generalize vs[k] = y at hcell HS2
      obtain ⟨yA, yn, yc, ys⟩ := y
      dsimp only at hcell HS2
      have hm : Mem (fun q => q = n3) w6 w6 [⟨n3, _, _⟩] [] := Mem.one HK6.out rfl
      have RK : Rngs [⟨bb, oo + k, [.slice yA 48 yc]⟩] w6 := fun r hr => by
        obtain rfl := List.mem_singleton.1 hr
        intro q v hv
        cases q with
        | zero => cases hv; exact hcell
        | succ q => simp at hv
      have HRK := Lib.hid (Rngs.below RK ((Below.refl w6.heap.size w6).drew))
      generalize st.getD k [] = pb at *
      subst hA
      clear hb6 hp6 hon6 ho6 hx6 hc6 hk6 hkv h482 hbs hby hcell RK h48 hrr
      go_wp2_with (first | go_skip | ((with_reducible show wpList _ _ _ _ _ (World.alloc _ _)); refine wpList_up hm ?_; clear hm; intro n w hn hn2 hk hm hd hd2 ho; (try rw [← hn]); replace hn := Nat.le_of_eq hn.symm) | ((first | ((with_reducible show wpList _ _ _ (Oper.mk _ (Op.box _ _) _ _ _ _ :: _) _ _); (refine bxA hm ?_; clear hm; intro n w hn hz hm ho; (try simp only [List.cons_append, List.nil_append] at hm))) | ((with_reducible show wpList _ _ _ (Oper.mk _ (Op.load _ _) _ _ _ _ :: _) _ _); first | (refine ldA hm ?_) | (refine laA hm ?_)) | ((with_reducible show wpList _ _ _ (Oper.mk _ (Op.store _ _ _) _ _ _ _ :: _) _ _); (refine stA hm ?_; clear hm; intro w hz hm ho)) | ((with_reducible show wpList _ _ _ (Oper.mk _ (Op.alloc _) _ _ _ _ :: _) _ _); (refine alA hm ?_; clear hm; intro n w hn hz hm ho; (try simp only [List.cons_append, List.nil_append] at hm)))); try simp only [Act.put, sxQ]))
      refine wp_region_noPanic ?_
      refine wp_region_held_drew (S := fun u => KnS [⟨n3, 36, #[.slice (some ⟨bb, oo, none⟩) nv cv]⟩] [⟨bb, oo + k, [.slice yA 48 yc]⟩] u ∧ (convert 39 9 (.slice A6 48 m6)).run Try.prog u = .ok (.string (strOf pb)) u ∧ (convert 39 9 (.slice yA 48 yc)).run Try.prog u = .ok (.string (strOf pb)) u) (by kernel_rfl) (⟨KnS.of hm.drew HRK.out, byt_str (HS1.out.below ((Below.refl _ _).drew)), byt_str (HS2.out.below ((Below.refl _ _).drew))⟩) (fun hHeld => ?_)
      refine wpAnyH_fresh (by repeat (first | apply Fresh.a | apply Fresh.b)) ?_
      replace hm := hm.drew
      generalize strOf pb = sp at *
      iterate 4 (first | (refine takeN 0 hHeld ?_) | (refine takeY 0 ?_ hHeld ?_ ?_; rotate_left 1; (first | (intro w9 h9; (with_reducible show (execOp _ (Oper.mk _ (Op.load _ _) _ _ _ _)).run _ _ = _); first | exact h9.ldA | exact h9.lcA | exact h9.laA | exact h9.lrA) | focus (intro w9 hSw; go_simp; (try (with_reducible rfl)); done))); try simp only [Act.put, sxQ])
      refine takeY 4 (.string sp) hHeld (fun w9 h9 => exec_cv _ _ _ rfl _ h9.2.1) ?_
      try simp only [Act.put, sxQ]
      iterate 1 (first | (refine takeN 5 hHeld ?_) | (refine takeY 5 ?_ hHeld ?_ ?_; rotate_left 1; (first | (intro w9 h9; (with_reducible show (execOp _ (Oper.mk _ (Op.load _ _) _ _ _ _)).run _ _ = _); first | exact h9.ldA | exact h9.lcA | exact h9.laA | exact h9.lrA) | focus (intro w9 hSw; go_simp; (try (with_reducible rfl)); done))); try simp only [Act.put, sxQ])
      (refine takeY 6 ?_ hHeld ?_ ?_; rotate_left 1; (intro w9 h9; exact h9.1.ldA))
      try simp only [Act.put, sxQ]
      iterate 2 (first | (refine takeN 7 hHeld ?_) | (refine takeY 7 ?_ hHeld ?_ ?_; rotate_left 1; (first | (intro w9 h9; (with_reducible show (execOp _ (Oper.mk _ (Op.load _ _) _ _ _ _)).run _ _ = _); first | exact h9.ldA | exact h9.lcA | exact h9.laA | exact h9.lrA) | focus (intro w9 hSw; go_simp; (try (with_reducible rfl)); done))); try simp only [Act.put, sxQ])
      (refine takeY 9 ?_ hHeld ?_ ?_; rotate_left 1; (intro w9 h9; exact h9.1.lcA))
      try simp only [Act.put, sxQ]
      refine takeY 10 (.string sp) hHeld (fun w9 h9 => exec_cv _ _ _ rfl _ h9.2.2) ?_
      try simp only [Act.put, sxQ]
      iterate 2 (first | (refine takeN 11 hHeld ?_) | (refine takeY 11 ?_ hHeld ?_ ?_; rotate_left 1; (first | (intro w9 h9; (with_reducible show (execOp _ (Oper.mk _ (Op.load _ _) _ _ _ _)).run _ _ = _); first | exact h9.ldA | exact h9.lcA | exact h9.laA | exact h9.lrA) | focus (intro w9 hSw; go_simp; (try (with_reducible rfl)); done))); try simp only [Act.put, sxQ])
      refine wpAnyH_done (by kernel_rfl) ?_ _
      refine NoPanic.normal ?_
      go_wp2_with (first | go_skip | ((with_reducible show wpList _ _ _ _ _ (World.alloc _ _)); refine wpList_up hm ?_; clear hm; intro n w hn hn2 hk hm hd hd2 ho; (try rw [← hn]); replace hn := Nat.le_of_eq hn.symm) | ((first | ((with_reducible show wpList _ _ _ (Oper.mk _ (Op.box _ _) _ _ _ _ :: _) _ _); (refine bxA hm ?_; clear hm; intro n w hn hz hm ho; (try simp only [List.cons_append, List.nil_append] at hm))) | ((with_reducible show wpList _ _ _ (Oper.mk _ (Op.load _ _) _ _ _ _ :: _) _ _); first | (refine ldA hm ?_) | (refine laA hm ?_)) | ((with_reducible show wpList _ _ _ (Oper.mk _ (Op.store _ _ _) _ _ _ _ :: _) _ _); (refine stA hm ?_; clear hm; intro w hz hm ho)) | ((with_reducible show wpList _ _ _ (Oper.mk _ (Op.alloc _) _ _ _ _ :: _) _ _); (refine alA hm ?_; clear hm; intro n w hn hz hm ho; (try simp only [List.cons_append, List.nil_append] at hm)))); try simp only [Act.put, sxQ]))
      go_roundg j
      case measure => omega
      case rel =>
        have hb := hm.still 0 rfl HK6.out
        exact ⟨k + 1, c + c6, by omega, by go_num, hm.at_ 0 rfl, by rw [← more_more]; exact HP6.out.below hb, by rw [← more_more]; exact HL6.out.mono (by omega), fun h => by have h8 := HX.out h; have h9 := HX6.out h; omega, ((HON.out.trans (Only.of_below HB6.out)).trans HON6.out).trans (Only.of_below hb), HR6.out.below hb⟩
end Go.Proofs.Ytnlhammgcemchaa
