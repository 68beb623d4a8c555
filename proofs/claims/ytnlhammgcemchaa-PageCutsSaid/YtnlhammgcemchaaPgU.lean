/-
  The walk of order: the free frames, and whose turn it is.
-/
import Derived.Test.YtnlhammgcemchaaZ0
import Derived.Test.YtnlhammgcemchaaPgT
import Derived.Test.YtnlhammgcemchaaZ1
import Derived.Test.YtnlhammgcemchaaPgK
namespace Go.Proofs.Ytnlhammgcemchaa
set_option maxRecDepth 100000
set_option linter.unusedSimpArgs false
set_option linter.unusedVariables false
open Go.RowKit
set_option maxHeartbeats 8000000

/-- Pages whose free frames lie anew. -/
theorem PAt.refreed {w w' : World} {g : Nat} {G R : Nat → Prop} {s : PgS} {p : Pg.P} (H : PAt w g G s p) (ho : Only R w w') (hR : ∀ q, G q → R q → q = g ∨ q = s.Ho) (F' : Option Addr) (cf' : Nat) (fl : List Nat) (tn : Nat)
    (hb : Blk w' g 69 (pcs { s with F := F', cf := cf' } { p with freed := fl, turn := tn })) (hHo : Blk w' s.Ho 3 (ecells p.holds ++ s.rh).toArray) (hown : Own w' w.heap.size 3 1 F' fl.length cf' (ncells fl)) (hl : 0 < fl.length) :
    PAt w' g (fun k => G k ∨ (w.heap.size ≤ k ∧ k < w'.heap.size)) { s with F := F', cf := cf' } { p with freed := fl, turn := tn } := by
  have ne := H.ne
  simp only [List.nodup_cons, List.mem_cons, List.not_mem_nil, or_false, not_or] at ne
  obtain ⟨⟨n1, n2, n3, n4, n5⟩, ⟨n6, n7, n8, n9⟩, ⟨n10, n11, n12⟩, ⟨n13, n14⟩, n15, _⟩ := ne
  have hn : ∀ q, G q → q ≠ g → q ≠ s.Ho → ¬ R q := fun q hq h1 h2 hr => (hR q hq hr).elim h1 h2
  have hg2 : ∀ q ∈ [g, s.gm, s.gw, s.gv, s.A, s.Ho], G q := H.hg
  have hle := hown.le
  have hblk : ∀ a, F' = some a → w.heap.size ≤ a.block ∧ a.block < w'.heap.size := fun a e => hown.lt _ (ownAt_some (by omega) e)
  refine { blk := hb, mem := H.mem.only ho (hn _ (hg2 _ (by simp)) (fun e => n1 e.symm) n9) (hn _ (hg2 _ (by simp)) (fun e => n2 e.symm) n12) (hn _ (hg2 _ (by simp)) (fun e => n3 e.symm) n14), at_ := H.at_.only ho (hn _ (hg2 _ (by simp)) (fun e => n4 e.symm) n15), holds := hHo, freed := hown.row, cap := hle, hg := fun k hk => .inl (H.hg k hk), hF := fun a e => .inr (hblk a e), ne := H.ne, nF := fun a e hmem => ?_, lt := fun k hk => ?_ }
  · have := H.lt _ (hg2 _ hmem); have := hblk a e; omega
  · rcases hk with h | h
    · exact Nat.lt_of_lt_of_le (H.lt k h) ho.size
    · exact h.2
def freesK (holds : List (Option Nat)) (k : Nat) : List Nat := (List.range k).filter fun f => (holds.getD f none).isNone
theorem freesK_yes {holds : List (Option Nat)} {k : Nat} (h : holds.getD k none = none) : freesK holds (k + 1) = freesK holds k ++ [k] := by
  unfold freesK
  rw [List.range_succ, List.filter_append, List.filter_cons_of_pos (by show (holds.getD k none).isNone = true; rw [h]; rfl)]
  rfl
theorem freesK_no {holds : List (Option Nat)} {k i : Nat} (h : holds.getD k none = some i) : freesK holds (k + 1) = freesK holds k := by
  unfold freesK
  rw [List.range_succ, List.filter_append, List.filter_cons_of_neg (by show ¬ (holds.getD k none).isNone = true; rw [h]; simp)]
  simp
theorem freesK_length (holds : List (Option Nat)) (k : Nat) : (freesK holds k).length ≤ k := by
  have := List.length_filter_le (fun f => (holds.getD f none).isNone) (List.range k)
  rwa [List.length_range] at this
theorem freesK_lt {holds : List (Option Nat)} {k f : Nat} (h : f ∈ freesK holds k) : f < k := List.mem_range.1 (List.mem_filter.1 h).1
theorem vcell (vs : List Nat) (i : Nat) (hi : i < vs.length) {u : World} {A : Nat} {t : TypeId} (h : Blk u A t (ncells vs).toArray) : u.cell? ⟨A, i, none⟩ = some (.int .i64 ((vs.getD i 0 : Nat) : Int)) := by
  rw [h.cell]; simp [ncells, List.getD, hi, I64]
theorem newest_le (vs : List Nat) : ∀ k, Pg.newest vs k ≤ k := by
  intro k
  cases k with
  | zero => exact Nat.le_refl _
  | succ k => have := Pg.newest_lt vs (k + 1) (by omega); omega
/-- The state between two rounds. -/
def OrdI (w0 : World) (g V pb : Nat) (s : PgS) (p : Pg.P) (vs : List Nat) (k : Nat) (A : Option Addr) (c : Nat) (wr : World) : Prop :=
  Mem (fun q => q = g ∨ q = s.Ho ∨ q = V) w0 wr [⟨g, 69, pcs { s with F := A, cf := c } { p with freed := freesK p.holds k }⟩, ⟨s.Ho, 3, (ecells p.holds ++ s.rh).toArray⟩, ⟨V, 3, (ncells vs).toArray⟩, ⟨pb, 31, #[.pointer (some ⟨g, 0, none⟩)]⟩] [⟨3, 1, A, (freesK p.holds k).length, c, ncells (freesK p.holds k)⟩]
theorem page_order {w0 : World} {g : Nat} {G : Nat → Prop} {s : PgS} {p : Pg.P} (H : PAt w0 g G s p) (hF : s.F = none) (hcf : s.cf = 0) (hfr0 : p.freed = []) (V m0 : Nat) (vs : List Nat) (hv : Blk w0 V 3 (ncells vs).toArray) (hVG : ¬ G V)
    (hvl : vs.length = m0) (hhl : p.holds.length = m0) (hfm : p.frames = m0) (h1 : 1 ≤ m0) (hm1 : m0 ≤ 100000) (hne : 0 < (Pg.frees p.holds).length) {K : Int} (hK : Cel.Fine K p.m) (h0 : 0 ≤ K ∧ K ≤ 4611686018427387904) :
    Calls Try.prog 36 #[.pointer (some ⟨g, 0, none⟩), .slice (some ⟨V, 0, none⟩) m0 m0] w0 fun e w' => e = .returned (.tuple #[]) ∧ ∃ fq F cf G', fq.Perm (Pg.frees p.holds) ∧ PAt w' g G' { s with F := F, cf := cf } { p with freed := fq, turn := (Pg.newest vs p.frames + 1) % p.frames } ∧ (∀ q, G' q → G q ∨ w0.heap.size ≤ q) ∧ Only (fun q => q = g) w0 w' := by
  obtain ⟨ti, hi0, hz0, hz1, hz2⟩ := info_parts i_int'
  have hmf : ∀ (fn : Fn) (a b : Array Value) (u : World), (Instr.makeFunc fn a b).run Try.prog u = .ok (.func fn a b) u := make_func
  have hgV : g ≠ V := fun e => hVG (e ▸ H.hg g (by simp))
  have hHV : s.Ho ≠ V := fun e => hVG (e ▸ H.hg s.Ho (by simp))
  have hgH : g ≠ s.Ho := by
    have ne := H.ne
    simp only [List.nodup_cons, List.mem_cons, List.not_mem_nil, or_false, not_or] at ne
    exact ne.1.2.2.2.2
  have hm : Mem (fun q => q = g ∨ q = s.Ho ∨ q = V) w0 w0 [⟨g, 69, pcs s p⟩, ⟨s.Ho, 3, (ecells p.holds ++ s.rh).toArray⟩, ⟨V, 3, (ncells vs).toArray⟩] [] := by
    refine (((Mem.nil _ w0).cons hv (.inl (.inr (.inr rfl))) (fun e he => by cases he) (fun x hx => by cases hx)).cons H.holds (.inl (.inr (.inl rfl))) (fun e he => ?_) (fun x hx => by cases hx)).cons H.blk (.inl (.inl rfl)) (fun e he => ?_) (fun x hx => by cases hx)
    · obtain rfl := List.mem_singleton.1 he; exact hHV
    · simp only [List.mem_cons, List.not_mem_nil, or_false] at he
      rcases he with rfl | rfl
      · exact hgH
      · exact hgV
  have HH := Lib.hid H
  have HV := Lib.hid hv
  have hFr : Pg.frees p.holds = freesK p.holds m0 := by unfold Pg.frees freesK; rw [hhl]
  rw [hFr] at hne ⊢
  have hpc : pcs s p = pcs { s with F := none, cf := 0 } { p with freed := [] } := by
    obtain ⟨_, _, _, _, _, _, _, _, _, _, _, _, _, _⟩ := s
    obtain ⟨_, _, _, _, _, _, _, _, _, _⟩ := p
    dsimp only at hF hcf hfr0
    subst hF; subst hcf; subst hfr0
    rfl
  rw [hpc] at hm
  clear H hpc hF hcf hfr0
  have HFM := Lib.hid hfm
  have HHL := Lib.hid hhl
  have HVL := Lib.hid hvl
  have HNE := Lib.hid hne
  have HKK := Lib.hid hK
  clear hFr hfm hhl hvl hne hK
  simp only [pcs] at hm
  go_enter Try.func36, Try.ntmps36
  go_wp2_with (first | go_skip | ((with_reducible show wpList _ _ _ _ _ (World.alloc _ _)); refine wpList_up hm ?_; clear hm; intro n w hn hn2 hk hm hd hd2 ho; (try rw [← hn]); replace hn := Nat.le_of_eq hn.symm) | ((first | ((with_reducible show wpList _ _ _ (Oper.mk _ (Op.box _ _) _ _ _ _ :: _) _ _); (refine bxA hm ?_; clear hm; intro n w hn hz hm ho; (try simp only [List.cons_append, List.nil_append] at hm))) | ((with_reducible show wpList _ _ _ (Oper.mk _ (Op.load _ _) _ _ _ _ :: _) _ _); first | (refine ldA hm ?_) | (refine laA hm ?_)) | ((with_reducible show wpList _ _ _ (Oper.mk _ (Op.store _ _ _) _ _ _ _ :: _) _ _); (refine stA hm ?_; clear hm; intro w hz hm ho)) | ((with_reducible show wpList _ _ _ (Oper.mk _ (Op.alloc _) _ _ _ _ :: _) _ _); (refine alA hm ?_; clear hm; intro n w hn hz hm ho; (try simp only [List.cons_append, List.nil_append] at hm)))); try simp only [Act.put, sxQ]))
  replace hm := hm.empty 3 1 none
  have hx0 : OrdI w0 g V n s p vs 0 none 0 w := hm
  rw [show (p.holds.length : Int) = (m0 : Int) by rw [HHL.out]]
  have hpb : w0.heap.size ≤ n := hn
  generalize n = pb at *
  clear hm ho hz hn
  go_loopg [4, 11] m0 (fun g2 v j wr => ∃ (k : Nat) (A : Option Addr) (c : Nat), k + g2 = m0 ∧ v = .int .i64 ((Pg.newest vs k : Nat) : Int) ∧ j = .int .i64 (k : Int) ∧ OrdI w0 g V pb s p vs k A c wr)
  case atStart => exact ⟨0, none, 0, by omega, rfl, rfl, hx0⟩
  case round =>
    clear hx0
    obtain ⟨k, A, c, hkg, rfl, rfl, hm⟩ := hrel
    unfold OrdI at hm
    simp only [pcs] at hm
    cases gk with
    | zero =>
      obtain rfl : k = m0 := by omega
      have hnw := Pg.newest_lt vs k (by omega)
      go_wp2_with (first | go_skip | ((with_reducible show wpList _ _ _ _ _ (World.alloc _ _)); refine wpList_up hm ?_; clear hm; intro n w hn hn2 hk hm hd hd2 ho; (try rw [← hn]); replace hn := Nat.le_of_eq hn.symm) | ((first | ((with_reducible show wpList _ _ _ (Oper.mk _ (Op.box _ _) _ _ _ _ :: _) _ _); (refine bxA hm ?_; clear hm; intro n w hn hz hm ho; (try simp only [List.cons_append, List.nil_append] at hm))) | ((with_reducible show wpList _ _ _ (Oper.mk _ (Op.load _ _) _ _ _ _ :: _) _ _); first | (refine ldA hm ?_) | (refine laA hm ?_)) | ((with_reducible show wpList _ _ _ (Oper.mk _ (Op.store _ _ _) _ _ _ _ :: _) _ _); (refine stA hm ?_; clear hm; intro w hz hm ho)) | ((with_reducible show wpList _ _ _ (Oper.mk _ (Op.alloc _) _ _ _ _ :: _) _ _); (refine alA hm ?_; clear hm; intro n w hn hz hm ho; (try simp only [List.cons_append, List.nil_append] at hm)))); try simp only [Act.put, sxQ]))
      have hown := hm.fresh 0 rfl (fun q hq => by
        rcases hq with h | h | h
        · exact ⟨_, List.mem_cons_self, h.symm⟩
        · exact ⟨_, List.mem_cons_of_mem _ List.mem_cons_self, h.symm⟩
        · exact ⟨_, List.mem_cons_of_mem _ (List.mem_cons_of_mem _ List.mem_cons_self), h.symm⟩)
      dsimp only at hown
      have hnl : 0 < (freesK p.holds k).length := HNE.out
      have hfl := freesK_length p.holds k
      have hpl := fun f (hf : f ∈ freesK p.holds k) => freesK_lt hf
      have hgF : ∀ q, ownAt A c = some q → w0.heap.size ≤ q := fun q e => (hown.lt q e).1
      have HW : ∀ u, Only (fun q => ownAt A c = some q) wr u → PWk u g { s with F := A, cf := c } { p with freed := freesK p.holds k } := fun u ho => by
        have hne : ∀ q, q < w0.heap.size → ¬ ownAt A c = some q := fun q hq e => by have := hgF q e; omega
        have hg2 := HH.out.hg
        have hl2 := fun q (hq : q ∈ [g, s.gm, s.gw, s.gv, s.A, s.Ho]) => HH.out.lt q (hg2 q hq)
        have ne := HH.out.ne
        simp only [List.nodup_cons, List.mem_cons, List.not_mem_nil, or_false, not_or] at ne
        obtain ⟨⟨n1, n2, n3, n4, n5⟩, ⟨n6, n7, n8, n9⟩, ⟨n10, n11, n12⟩, ⟨n13, n14⟩, n15, _⟩ := ne
        have hR : ∀ q, q ∈ [g, s.gm, s.gw, s.gv, s.A, s.Ho] → q ≠ g → q ≠ s.Ho → ¬ (q = g ∨ q = s.Ho ∨ q = V) := fun q hq e1 e2 h => by
          rcases h with h | h | h
          · exact e1 h
          · exact e2 h
          · exact hVG (h ▸ hg2 q hq)
        refine ⟨(hm.at_ 0 rfl).only ho (hne _ (hl2 _ (by simp))), ?_⟩
        have h1 : MemAt wr s.gm s.gw s.gv s.n s.cw s.cv p.m := HH.out.mem.only hm.only (hR _ (by simp) (fun e => n1 e.symm) n9) (hR _ (by simp) (fun e => n2 e.symm) n12) (hR _ (by simp) (fun e => n3 e.symm) n14)
        exact h1.only ho (hne _ (hl2 _ (by simp))) (hne _ (hl2 _ (by simp))) (hne _ (hl2 _ (by simp)))
      have HB : ∀ u, Only (fun q => ownAt A c = some q) wr u → Blk u pb 31 #[.pointer (some ⟨g, 0, none⟩)] := fun u ho => (hm.at_ 3 rfl).only ho (fun e => hm.slL _ (List.mem_singleton.2 rfl) _ (by simp) e)
      go_at_call 47
      refine (page_sort hown hnl (by omega) (fun f hf => by have := hpl f hf; omega) HW HB HKK.out h0).mono ?_
      rintro e w8 ⟨rfl, fq, hperm, hown8, ho8⟩
      have hm8 := hm.app 0 rfl (hown8.mono (Nat.zero_le _)) ho8 (.inl rfl)
      simp only [List.set_cons_zero] at hm8
      clear hm HW HB hown ho8
      have hm := hm8
      clear hm8
      have hql : fq.length = (freesK p.holds k).length := hperm.length_eq
      have hpq : (0 : Int) < (p.frames : Int) := by rw [HFM.out]; omega
      have HPQ := Lib.hid hperm
      have HOW := Lib.hid hown8
      have hfz : ((p.frames : Int) == 0) = false := by rw [beq_eq_false_iff_ne]; omega
      clear hperm hown8
      go_wp2_with (first | go_skip | ((with_reducible show wpList _ _ _ _ _ (World.alloc _ _)); refine wpList_up hm ?_; clear hm; intro n w hn hn2 hk hm hd hd2 ho; (try rw [← hn]); replace hn := Nat.le_of_eq hn.symm) | ((first | ((with_reducible show wpList _ _ _ (Oper.mk _ (Op.box _ _) _ _ _ _ :: _) _ _); (refine bxA hm ?_; clear hm; intro n w hn hz hm ho; (try simp only [List.cons_append, List.nil_append] at hm))) | ((with_reducible show wpList _ _ _ (Oper.mk _ (Op.load _ _) _ _ _ _ :: _) _ _); first | (refine ldA hm ?_) | (refine laA hm ?_)) | ((with_reducible show wpList _ _ _ (Oper.mk _ (Op.store _ _ _) _ _ _ _ :: _) _ _); (refine stA hm ?_; clear hm; intro w hz hm ho)) | ((with_reducible show wpList _ _ _ (Oper.mk _ (Op.alloc _) _ _ _ _ :: _) _ _); (refine alA hm ?_; clear hm; intro n w hn hz hm ho; (try simp only [List.cons_append, List.nil_append] at hm)))); try simp only [Act.put, sxQ]))
      refine wp_region_quiet_tail 10 (by kernel_rfl) (by kernel_rfl) ?_
      simp only [List.take_succ_cons, List.take_zero]
      repeat (first | go_big_quiet_skip | ((with_reducible show wpQuiet _ _ _ _ (Oper.mk _ (Op.load _ _) _ _ _ _ :: _) _); first | (refine wpQuiet_ldS (by rfl) _ _ rfl _ _ rfl hm _ _ (by repeat (first | apply In.a | apply In.b)) (by decide +kernel) _ (by simp only [sxN]; first | done | exact rfl) ?_; (try simp only [Act.put, sxQ]))) | go_big_quiet_step (fail))
      refine wpQuiet_nil ?_
      rintro _ ⟨nq, rfl⟩
      simp only [List.drop_succ_cons, List.drop_zero]
      replace hm := hm.drewN nq
      go_wp2_with (first | go_skip | ((with_reducible show wpList _ _ _ _ _ (World.alloc _ _)); refine wpList_up hm ?_; clear hm; intro n w hn hn2 hk hm hd hd2 ho; (try rw [← hn]); replace hn := Nat.le_of_eq hn.symm) | ((first | ((with_reducible show wpList _ _ _ (Oper.mk _ (Op.box _ _) _ _ _ _ :: _) _ _); (refine bxA hm ?_; clear hm; intro n w hn hz hm ho; (try simp only [List.cons_append, List.nil_append] at hm))) | ((with_reducible show wpList _ _ _ (Oper.mk _ (Op.load _ _) _ _ _ _ :: _) _ _); first | (refine ldA hm ?_) | (refine laA hm ?_)) | ((with_reducible show wpList _ _ _ (Oper.mk _ (Op.store _ _ _) _ _ _ _ :: _) _ _); (refine stA hm ?_; clear hm; intro w hz hm ho)) | ((with_reducible show wpList _ _ _ (Oper.mk _ (Op.alloc _) _ _ _ _ :: _) _ _); (refine alA hm ?_; clear hm; intro n w hn hz hm ho; (try simp only [List.cons_append, List.nil_append] at hm)))); try simp only [Act.put, sxQ]))
      go_end0
      have hbx := hm.at_ 0 rfl
      have em : ((((Pg.newest vs k + 1) % p.frames : Nat)) : Int) = (((Pg.newest vs k : Nat) : Int) + 1) % (p.frames : Int) := by simp
      rw [← em] at hbx
      have hownE := hm.fresh 0 rfl (fun q hq => by
        rcases hq with h | h | h
        · exact ⟨_, List.mem_cons_self, h.symm⟩
        · exact ⟨_, List.mem_cons_of_mem _ List.mem_cons_self, h.symm⟩
        · exact ⟨_, List.mem_cons_of_mem _ (List.mem_cons_of_mem _ List.mem_cons_self), h.symm⟩)
      dsimp only at hownE
      rw [← hql] at hownE hbx
      rw [show Pg.newest vs p.frames = Pg.newest vs k by rw [HFM.out]]
      refine ⟨rfl, fq, A, c, _, HPQ.out, HH.out.refreed hm.only (fun q hq hr => ?_) A c fq _ hbx (hm.at_ 1 rfl) hownE (by omega), fun q hq => ?_, ?_⟩
      · rcases hr with h | h | h
        · exact .inl h
        · exact .inr h
        · exact absurd hq (h ▸ hVG)
      · exact hq.imp id And.left
      · have hO := hm.only
        refine ⟨hO.os, hO.tape, hO.output, hO.size, fun q hq hn => ?_⟩
        by_cases e1 : q = s.Ho
        · have a1 := hm.at_ 1 rfl
          have a2 := HH.out.holds
          unfold Blk at a1 a2
          rw [e1, a1, a2]
        · by_cases e2 : q = V
          · have a1 := hm.at_ 2 rfl
            have a2 := HV.out
            unfold Blk at a1 a2
            rw [e2, a1, a2]
          · exact hO.block q hq (by rintro (h | h | h) <;> contradiction)
    | succ g2 =>
      have ik : (k : Int) < (m0 : Int) := by omega
      have pk : (0 : Int) ≤ (k : Int) := by omega
      have ikh : (k : Int) < (p.holds.length : Int) := by rw [HHL.out]; exact ik
      have hnk := newest_le vs k
      have inw : ((Pg.newest vs k : Nat) : Int) < (m0 : Int) := by omega
      have pnw : (0 : Int) ≤ ((Pg.newest vs k : Nat) : Int) := by omega
      have C0 := Lib.hid (fun (u : World) (h : Blk u V 3 (ncells vs).toArray) => vcell vs k (by rw [HVL.out]; omega) h)
      have C1 := Lib.hid (fun (u : World) (h : Blk u V 3 (ncells vs).toArray) => vcell vs (Pg.newest vs k) (by rw [HVL.out]; omega) h)
      have hns : Pg.newest vs (k + 1) = if vs.getD (Pg.newest vs k) 0 < vs.getD k 0 then k else Pg.newest vs k := rfl
      have HNS := Lib.hid hns
      clear hns
      have hfl := freesK_length p.holds k
      generalize hx1 : vs.getD k 0 = x1 at *
      generalize hx2 : vs.getD (Pg.newest vs k) 0 = x2 at *
      generalize Pg.newest vs k = nw at *
      clear hx1 hx2
      cases hh : p.holds.getD k none with
      | none =>
        have CH := Lib.hid (fun (u : World) (h : Blk u s.Ho 3 (ecells p.holds ++ s.rh).toArray) => show u.cell? ⟨s.Ho, k, none⟩ = some (.int .i64 (-1)) by have := cells_at _ _ k (by rw [HHL.out]; omega) h; rwa [hh] at this)
        have HFK := Lib.hid (freesK_yes hh)
        clear hh
        generalize freesK p.holds k = fl at *
        go_wp2_with (first | go_skip | ((with_reducible show wpList _ _ _ _ _ (World.alloc _ _)); refine wpList_up hm ?_; clear hm; intro n w hn hn2 hk hm hd hd2 ho; (try rw [← hn]); replace hn := Nat.le_of_eq hn.symm) | ((first | ((with_reducible show wpList _ _ _ (Oper.mk _ (Op.box _ _) _ _ _ _ :: _) _ _); (refine bxA hm ?_; clear hm; intro n w hn hz hm ho; (try simp only [List.cons_append, List.nil_append] at hm))) | ((with_reducible show wpList _ _ _ (Oper.mk _ (Op.load _ _) _ _ _ _ :: _) _ _); first | (refine ldA hm ?_) | (refine laA hm ?_)) | ((with_reducible show wpList _ _ _ (Oper.mk _ (Op.store _ _ _) _ _ _ _ :: _) _ _); (refine stA hm ?_; clear hm; intro w hz hm ho)) | ((with_reducible show wpList _ _ _ (Oper.mk _ (Op.alloc _) _ _ _ _ :: _) _ _); (refine alA hm ?_; clear hm; intro n w hn hz hm ho; (try simp only [List.cons_append, List.nil_append] at hm)))); try simp only [Act.put, sxQ]) | ((with_reducible show wpList _ _ _ (Oper.mk _ (Op.load _ _) _ _ _ _ :: _) _ _); refine wpList_lc (by rfl) _ _ rfl _ rfl (by decide +kernel) _ (CH.out _ (hm.at_ 1 rfl)) ?_; (try simp only [Act.put, sxQ])))
        have hmK := hm.drew
        replace hm := hm.noO
        refine wp_region_noPanic ?_
        refine wp_region_phase (S := MemS _ _ _ _) [10] (by kernel_rfl) (MemS.of hm.drew) (fun hHeld => ?_)
        refine wpAnyP_fresh (by repeat (first | apply Fresh.a | apply Fresh.b)) ?_
        replace hm := hm.drew
        clear hm
        have hm := hmK
        clear hmK
        iterate 6 (first | (refine takePN 0 hHeld ?_) | (refine takePY 0 ?_ hHeld ?_ ?_; rotate_left 1; (first | (intro w9 h9; (with_reducible show (execOp _ (Oper.mk _ (Op.load _ _) _ _ _ _)).run _ _ = _); first | exact h9.ldA | exact h9.laA) | focus (intro w9 hSw; go_simp; (try (with_reducible rfl)); done))); try simp only [Act.put, sxQ])
        refine wpAnyP_one 6 (by kernel_rfl) (by simp only [sxN]; first | done | exact rfl) (fun K hK => ?_)
        rw [if_pos (by rfl)]
        go_simp
        refine K_up hm ?_
        intro n5 w5 hn hn5s hn5 hm1 hn5d hn5d2 hb1
        first | rw [← hn] | rw [← (show n5 = wr.heap.size from hn)]
        have hm := hm1
        clear hm1
        refine hK.out _ _ (MemS.of hm.noO) (fun hHeld => ?_)
        clear hK K
        try simp only [Act.put, sxQ]
        refine wpAnyP_one 7 (by kernel_rfl) (by simp only [sxN]; first | done | exact rfl) (fun K hK => ?_)
        refine step_ap (by rfl) (.tmp 26) (.tmp 28) 63 rfl 3 ti _ 1 8 Try.underlying63 hi0 hz0 hz1 hz2 rfl (by omega) A fl.length c _ rfl hm 0 rfl _ (some ⟨n5, 0, none⟩) 1 1 (ncells [k]) rfl hn5.row (by simp [ncells]) (ncells_one _) (by unfold maxLen; omega) (by omega) ?_
        clear hm; intro A3 c3 w hm ho9 hat
        simp only [List.set_cons_zero] at hm
        refine hK.out _ _ (MemS.of hm.noO) (fun hHeld => ?_)
        clear hK K
        try simp only [Act.put, sxQ]
        iterate 1 (refine wpAnyP_takeP (b := 8) (by repeat (first | apply Seek.a | apply Seek.b | apply Seek.c)) (by simp only [sxN]; first | done | exact rfl) ⟨?_, by kernel_rfl, by kernel_rfl, by kernel_rfl, by kernel_rfl, fun _ _ _ h => h, Or.inl ⟨by rfl, ?_⟩, (by first | exact Early.of hHeld | exact Early.off (by kernel_rfl)), ?_⟩; rotate_left 1; focus (intro w9 hSw; go_simp; (try (with_reducible rfl)); done); try simp only [Act.put, sxQ])
        try simp only [Act.put, sxQ]
        iterate 1 (refine wpAnyP_takeP (b := 9) (by repeat (first | apply Seek.a | apply Seek.b | apply Seek.c)) (by simp only [sxN]; first | done | exact rfl) ⟨?_, by kernel_rfl, by kernel_rfl, by kernel_rfl, by kernel_rfl, fun _ _ _ h => h, Or.inl ⟨by rfl, ?_⟩, (by first | exact Early.of hHeld | exact Early.off (by kernel_rfl)), ?_⟩; rotate_left 1; focus (intro w9 hSw; go_simp; (try (with_reducible rfl)); done); try simp only [Act.put, sxQ])
        try simp only [Act.put, sxQ]
        refine wpAnyP_last 10 (by kernel_rfl) (by simp only [sxN]; first | done | exact rfl) (by kernel_rfl) (fun K hK => ?_)
        refine stB hm ?_
        clear hm; intro w hz hm ho
        refine hK.out _ _ ?_
        clear hK K
        try simp only [Act.put, sxQ]
        refine wpAnyP_done (by kernel_rfl) ?_ _
        refine NoPanic.normal ?_
        clear ho9 hat hn5 hn5d hn5d2 hb1 hn hn5s
        have hll : (fl ++ [k]).length = fl.length + 1 := by simp
        by_cases hc : x2 < x1
        · have hd : decide ((x2 : Int) < (x1 : Int)) = true := by simpa using hc
          have HN2 := HNS.out
          rw [if_pos (by omega)] at HN2
          replace HN2 := Lib.hid HN2
          have hd2 : decide (x2 < x1) = true := by simpa using hc
          clear HNS
          go_wp2_with (first | go_skip | ((with_reducible show wpList _ _ _ _ _ (World.alloc _ _)); refine wpList_up hm ?_; clear hm; intro n w hn hn2 hk hm hd hd2 ho; (try rw [← hn]); replace hn := Nat.le_of_eq hn.symm) | ((first | ((with_reducible show wpList _ _ _ (Oper.mk _ (Op.box _ _) _ _ _ _ :: _) _ _); (refine bxA hm ?_; clear hm; intro n w hn hz hm ho; (try simp only [List.cons_append, List.nil_append] at hm))) | ((with_reducible show wpList _ _ _ (Oper.mk _ (Op.load _ _) _ _ _ _ :: _) _ _); first | (refine ldA hm ?_) | (refine laA hm ?_)) | ((with_reducible show wpList _ _ _ (Oper.mk _ (Op.store _ _ _) _ _ _ _ :: _) _ _); (refine stA hm ?_; clear hm; intro w hz hm ho)) | ((with_reducible show wpList _ _ _ (Oper.mk _ (Op.alloc _) _ _ _ _ :: _) _ _); (refine alA hm ?_; clear hm; intro n w hn hz hm ho; (try simp only [List.cons_append, List.nil_append] at hm)))); try simp only [Act.put, sxQ]))
          refine wp_region_noPanic ?_
          refine wp_region_held_drew (S := MemS _ _ _ _) (by kernel_rfl) (MemS.of hm.drew) (fun hHeld => ?_)
          refine wpAnyH_fresh (by repeat (first | apply Fresh.a | apply Fresh.b)) ?_
          replace hm := hm.drew
          iterate 9 (first | (refine takeN 0 hHeld ?_) | (refine takeY 0 ?_ hHeld ?_ ?_; rotate_left 1; (first | (intro w9 h9; (with_reducible show (execOp _ (Oper.mk _ (Op.load _ _) _ _ _ _)).run _ _ = _); first | exact h9.ldA | (exact exec_lc _ _ rfl _ rfl (by decide +kernel) _ (C0.out _ ((MemS.mem h9).at_ 2 rfl)) _ (by first | done | exact rfl)) | (exact exec_lc _ _ rfl _ rfl (by decide +kernel) _ (C1.out _ ((MemS.mem h9).at_ 2 rfl)) _ (by first | done | exact rfl)) | exact h9.laA) | focus (intro w9 hSw; go_simp; (try (with_reducible rfl)); done))); try simp only [Act.put, sxQ])
          refine wpAnyH_done (by kernel_rfl) ?_ _
          refine NoPanic.normal ?_
          go_wp2_with (first | go_skip | ((with_reducible show wpList _ _ _ _ _ (World.alloc _ _)); refine wpList_up hm ?_; clear hm; intro n w hn hn2 hk hm hd hd2 ho; (try rw [← hn]); replace hn := Nat.le_of_eq hn.symm) | ((first | ((with_reducible show wpList _ _ _ (Oper.mk _ (Op.box _ _) _ _ _ _ :: _) _ _); (refine bxA hm ?_; clear hm; intro n w hn hz hm ho; (try simp only [List.cons_append, List.nil_append] at hm))) | ((with_reducible show wpList _ _ _ (Oper.mk _ (Op.load _ _) _ _ _ _ :: _) _ _); first | (refine ldA hm ?_) | (refine laA hm ?_)) | ((with_reducible show wpList _ _ _ (Oper.mk _ (Op.store _ _ _) _ _ _ _ :: _) _ _); (refine stA hm ?_; clear hm; intro w hz hm ho)) | ((with_reducible show wpList _ _ _ (Oper.mk _ (Op.alloc _) _ _ _ _ :: _) _ _); (refine alA hm ?_; clear hm; intro n w hn hz hm ho; (try simp only [List.cons_append, List.nil_append] at hm)))); try simp only [Act.put, sxQ]))
          go_roundg g2
          case measure => omega
          case rel =>
            refine ⟨k + 1, A3, c3, by omega, by rw [HN2.out], by go_num, ?_⟩
            unfold OrdI
            rw [HFK.out]
            simp only [pcs]
            rw [hll, ncells_append]; exact hm
        · have hd : decide ((x2 : Int) < (x1 : Int)) = false := by simpa using hc
          have HN2 := HNS.out
          rw [if_neg (by omega)] at HN2
          replace HN2 := Lib.hid HN2
          have hd2 : decide (x2 < x1) = false := by simpa using hc
          clear HNS
          go_wp2_with (first | go_skip | ((with_reducible show wpList _ _ _ _ _ (World.alloc _ _)); refine wpList_up hm ?_; clear hm; intro n w hn hn2 hk hm hd hd2 ho; (try rw [← hn]); replace hn := Nat.le_of_eq hn.symm) | ((first | ((with_reducible show wpList _ _ _ (Oper.mk _ (Op.box _ _) _ _ _ _ :: _) _ _); (refine bxA hm ?_; clear hm; intro n w hn hz hm ho; (try simp only [List.cons_append, List.nil_append] at hm))) | ((with_reducible show wpList _ _ _ (Oper.mk _ (Op.load _ _) _ _ _ _ :: _) _ _); first | (refine ldA hm ?_) | (refine laA hm ?_)) | ((with_reducible show wpList _ _ _ (Oper.mk _ (Op.store _ _ _) _ _ _ _ :: _) _ _); (refine stA hm ?_; clear hm; intro w hz hm ho)) | ((with_reducible show wpList _ _ _ (Oper.mk _ (Op.alloc _) _ _ _ _ :: _) _ _); (refine alA hm ?_; clear hm; intro n w hn hz hm ho; (try simp only [List.cons_append, List.nil_append] at hm)))); try simp only [Act.put, sxQ]))
          refine wp_region_noPanic ?_
          refine wp_region_held_drew (S := MemS _ _ _ _) (by kernel_rfl) (MemS.of hm.drew) (fun hHeld => ?_)
          refine wpAnyH_fresh (by repeat (first | apply Fresh.a | apply Fresh.b)) ?_
          replace hm := hm.drew
          iterate 9 (first | (refine takeN 0 hHeld ?_) | (refine takeY 0 ?_ hHeld ?_ ?_; rotate_left 1; (first | (intro w9 h9; (with_reducible show (execOp _ (Oper.mk _ (Op.load _ _) _ _ _ _)).run _ _ = _); first | exact h9.ldA | (exact exec_lc _ _ rfl _ rfl (by decide +kernel) _ (C0.out _ ((MemS.mem h9).at_ 2 rfl)) _ (by first | done | exact rfl)) | (exact exec_lc _ _ rfl _ rfl (by decide +kernel) _ (C1.out _ ((MemS.mem h9).at_ 2 rfl)) _ (by first | done | exact rfl)) | exact h9.laA) | focus (intro w9 hSw; go_simp; (try (with_reducible rfl)); done))); try simp only [Act.put, sxQ])
          refine wpAnyH_done (by kernel_rfl) ?_ _
          refine NoPanic.normal ?_
          go_wp2_with (first | go_skip | ((with_reducible show wpList _ _ _ _ _ (World.alloc _ _)); refine wpList_up hm ?_; clear hm; intro n w hn hn2 hk hm hd hd2 ho; (try rw [← hn]); replace hn := Nat.le_of_eq hn.symm) | ((first | ((with_reducible show wpList _ _ _ (Oper.mk _ (Op.box _ _) _ _ _ _ :: _) _ _); (refine bxA hm ?_; clear hm; intro n w hn hz hm ho; (try simp only [List.cons_append, List.nil_append] at hm))) | ((with_reducible show wpList _ _ _ (Oper.mk _ (Op.load _ _) _ _ _ _ :: _) _ _); first | (refine ldA hm ?_) | (refine laA hm ?_)) | ((with_reducible show wpList _ _ _ (Oper.mk _ (Op.store _ _ _) _ _ _ _ :: _) _ _); (refine stA hm ?_; clear hm; intro w hz hm ho)) | ((with_reducible show wpList _ _ _ (Oper.mk _ (Op.alloc _) _ _ _ _ :: _) _ _); (refine alA hm ?_; clear hm; intro n w hn hz hm ho; (try simp only [List.cons_append, List.nil_append] at hm)))); try simp only [Act.put, sxQ]))
          go_roundg g2
          case measure => omega
          case rel =>
            refine ⟨k + 1, A3, c3, by omega, by rw [HN2.out], by go_num, ?_⟩
            unfold OrdI
            rw [HFK.out]
            simp only [pcs]
            rw [hll, ncells_append]; exact hm
      | some i =>
        have CH := Lib.hid (fun (u : World) (h : Blk u s.Ho 3 (ecells p.holds ++ s.rh).toArray) => show u.cell? ⟨s.Ho, k, none⟩ = some (.int .i64 (i : Int)) by have := cells_at _ _ k (by rw [HHL.out]; omega) h; rwa [hh] at this)
        have HFK := Lib.hid (freesK_no hh)
        have hin : ((i : Int) == -1) = false := by rw [beq_eq_false_iff_ne]; omega
        clear hh
        generalize freesK p.holds k = fl at *
        go_wp2_with (first | go_skip | ((with_reducible show wpList _ _ _ _ _ (World.alloc _ _)); refine wpList_up hm ?_; clear hm; intro n w hn hn2 hk hm hd hd2 ho; (try rw [← hn]); replace hn := Nat.le_of_eq hn.symm) | ((first | ((with_reducible show wpList _ _ _ (Oper.mk _ (Op.box _ _) _ _ _ _ :: _) _ _); (refine bxA hm ?_; clear hm; intro n w hn hz hm ho; (try simp only [List.cons_append, List.nil_append] at hm))) | ((with_reducible show wpList _ _ _ (Oper.mk _ (Op.load _ _) _ _ _ _ :: _) _ _); first | (refine ldA hm ?_) | (refine laA hm ?_)) | ((with_reducible show wpList _ _ _ (Oper.mk _ (Op.store _ _ _) _ _ _ _ :: _) _ _); (refine stA hm ?_; clear hm; intro w hz hm ho)) | ((with_reducible show wpList _ _ _ (Oper.mk _ (Op.alloc _) _ _ _ _ :: _) _ _); (refine alA hm ?_; clear hm; intro n w hn hz hm ho; (try simp only [List.cons_append, List.nil_append] at hm)))); try simp only [Act.put, sxQ]) | ((with_reducible show wpList _ _ _ (Oper.mk _ (Op.load _ _) _ _ _ _ :: _) _ _); refine wpList_lc (by rfl) _ _ rfl _ rfl (by decide +kernel) _ (CH.out _ (hm.at_ 1 rfl)) ?_; (try simp only [Act.put, sxQ])))
        by_cases hc : x2 < x1
        · have hd : decide ((x2 : Int) < (x1 : Int)) = true := by simpa using hc
          have HN2 := HNS.out
          rw [if_pos (by omega)] at HN2
          replace HN2 := Lib.hid HN2
          have hd2 : decide (x2 < x1) = true := by simpa using hc
          clear HNS
          go_wp2_with (first | go_skip | ((with_reducible show wpList _ _ _ _ _ (World.alloc _ _)); refine wpList_up hm ?_; clear hm; intro n w hn hn2 hk hm hd hd2 ho; (try rw [← hn]); replace hn := Nat.le_of_eq hn.symm) | ((first | ((with_reducible show wpList _ _ _ (Oper.mk _ (Op.box _ _) _ _ _ _ :: _) _ _); (refine bxA hm ?_; clear hm; intro n w hn hz hm ho; (try simp only [List.cons_append, List.nil_append] at hm))) | ((with_reducible show wpList _ _ _ (Oper.mk _ (Op.load _ _) _ _ _ _ :: _) _ _); first | (refine ldA hm ?_) | (refine laA hm ?_)) | ((with_reducible show wpList _ _ _ (Oper.mk _ (Op.store _ _ _) _ _ _ _ :: _) _ _); (refine stA hm ?_; clear hm; intro w hz hm ho)) | ((with_reducible show wpList _ _ _ (Oper.mk _ (Op.alloc _) _ _ _ _ :: _) _ _); (refine alA hm ?_; clear hm; intro n w hn hz hm ho; (try simp only [List.cons_append, List.nil_append] at hm)))); try simp only [Act.put, sxQ]))
          refine wp_region_noPanic ?_
          refine wp_region_held_drew (S := MemS _ _ _ _) (by kernel_rfl) (MemS.of hm.drew) (fun hHeld => ?_)
          refine wpAnyH_fresh (by repeat (first | apply Fresh.a | apply Fresh.b)) ?_
          replace hm := hm.drew
          iterate 9 (first | (refine takeN 0 hHeld ?_) | (refine takeY 0 ?_ hHeld ?_ ?_; rotate_left 1; (first | (intro w9 h9; (with_reducible show (execOp _ (Oper.mk _ (Op.load _ _) _ _ _ _)).run _ _ = _); first | exact h9.ldA | (exact exec_lc _ _ rfl _ rfl (by decide +kernel) _ (C0.out _ ((MemS.mem h9).at_ 2 rfl)) _ (by first | done | exact rfl)) | (exact exec_lc _ _ rfl _ rfl (by decide +kernel) _ (C1.out _ ((MemS.mem h9).at_ 2 rfl)) _ (by first | done | exact rfl)) | exact h9.laA) | focus (intro w9 hSw; go_simp; (try (with_reducible rfl)); done))); try simp only [Act.put, sxQ])
          refine wpAnyH_done (by kernel_rfl) ?_ _
          refine NoPanic.normal ?_
          go_wp2_with (first | go_skip | ((with_reducible show wpList _ _ _ _ _ (World.alloc _ _)); refine wpList_up hm ?_; clear hm; intro n w hn hn2 hk hm hd hd2 ho; (try rw [← hn]); replace hn := Nat.le_of_eq hn.symm) | ((first | ((with_reducible show wpList _ _ _ (Oper.mk _ (Op.box _ _) _ _ _ _ :: _) _ _); (refine bxA hm ?_; clear hm; intro n w hn hz hm ho; (try simp only [List.cons_append, List.nil_append] at hm))) | ((with_reducible show wpList _ _ _ (Oper.mk _ (Op.load _ _) _ _ _ _ :: _) _ _); first | (refine ldA hm ?_) | (refine laA hm ?_)) | ((with_reducible show wpList _ _ _ (Oper.mk _ (Op.store _ _ _) _ _ _ _ :: _) _ _); (refine stA hm ?_; clear hm; intro w hz hm ho)) | ((with_reducible show wpList _ _ _ (Oper.mk _ (Op.alloc _) _ _ _ _ :: _) _ _); (refine alA hm ?_; clear hm; intro n w hn hz hm ho; (try simp only [List.cons_append, List.nil_append] at hm)))); try simp only [Act.put, sxQ]))
          go_roundg g2
          case measure => omega
          case rel =>
            refine ⟨k + 1, A, c, by omega, by rw [HN2.out], by go_num, ?_⟩
            unfold OrdI
            rw [HFK.out]
            simp only [pcs]
            exact hm
        · have hd : decide ((x2 : Int) < (x1 : Int)) = false := by simpa using hc
          have HN2 := HNS.out
          rw [if_neg (by omega)] at HN2
          replace HN2 := Lib.hid HN2
          have hd2 : decide (x2 < x1) = false := by simpa using hc
          clear HNS
          go_wp2_with (first | go_skip | ((with_reducible show wpList _ _ _ _ _ (World.alloc _ _)); refine wpList_up hm ?_; clear hm; intro n w hn hn2 hk hm hd hd2 ho; (try rw [← hn]); replace hn := Nat.le_of_eq hn.symm) | ((first | ((with_reducible show wpList _ _ _ (Oper.mk _ (Op.box _ _) _ _ _ _ :: _) _ _); (refine bxA hm ?_; clear hm; intro n w hn hz hm ho; (try simp only [List.cons_append, List.nil_append] at hm))) | ((with_reducible show wpList _ _ _ (Oper.mk _ (Op.load _ _) _ _ _ _ :: _) _ _); first | (refine ldA hm ?_) | (refine laA hm ?_)) | ((with_reducible show wpList _ _ _ (Oper.mk _ (Op.store _ _ _) _ _ _ _ :: _) _ _); (refine stA hm ?_; clear hm; intro w hz hm ho)) | ((with_reducible show wpList _ _ _ (Oper.mk _ (Op.alloc _) _ _ _ _ :: _) _ _); (refine alA hm ?_; clear hm; intro n w hn hz hm ho; (try simp only [List.cons_append, List.nil_append] at hm)))); try simp only [Act.put, sxQ]))
          refine wp_region_noPanic ?_
          refine wp_region_held_drew (S := MemS _ _ _ _) (by kernel_rfl) (MemS.of hm.drew) (fun hHeld => ?_)
          refine wpAnyH_fresh (by repeat (first | apply Fresh.a | apply Fresh.b)) ?_
          replace hm := hm.drew
          iterate 9 (first | (refine takeN 0 hHeld ?_) | (refine takeY 0 ?_ hHeld ?_ ?_; rotate_left 1; (first | (intro w9 h9; (with_reducible show (execOp _ (Oper.mk _ (Op.load _ _) _ _ _ _)).run _ _ = _); first | exact h9.ldA | (exact exec_lc _ _ rfl _ rfl (by decide +kernel) _ (C0.out _ ((MemS.mem h9).at_ 2 rfl)) _ (by first | done | exact rfl)) | (exact exec_lc _ _ rfl _ rfl (by decide +kernel) _ (C1.out _ ((MemS.mem h9).at_ 2 rfl)) _ (by first | done | exact rfl)) | exact h9.laA) | focus (intro w9 hSw; go_simp; (try (with_reducible rfl)); done))); try simp only [Act.put, sxQ])
          refine wpAnyH_done (by kernel_rfl) ?_ _
          refine NoPanic.normal ?_
          go_wp2_with (first | go_skip | ((with_reducible show wpList _ _ _ _ _ (World.alloc _ _)); refine wpList_up hm ?_; clear hm; intro n w hn hn2 hk hm hd hd2 ho; (try rw [← hn]); replace hn := Nat.le_of_eq hn.symm) | ((first | ((with_reducible show wpList _ _ _ (Oper.mk _ (Op.box _ _) _ _ _ _ :: _) _ _); (refine bxA hm ?_; clear hm; intro n w hn hz hm ho; (try simp only [List.cons_append, List.nil_append] at hm))) | ((with_reducible show wpList _ _ _ (Oper.mk _ (Op.load _ _) _ _ _ _ :: _) _ _); first | (refine ldA hm ?_) | (refine laA hm ?_)) | ((with_reducible show wpList _ _ _ (Oper.mk _ (Op.store _ _ _) _ _ _ _ :: _) _ _); (refine stA hm ?_; clear hm; intro w hz hm ho)) | ((with_reducible show wpList _ _ _ (Oper.mk _ (Op.alloc _) _ _ _ _ :: _) _ _); (refine alA hm ?_; clear hm; intro n w hn hz hm ho; (try simp only [List.cons_append, List.nil_append] at hm)))); try simp only [Act.put, sxQ]))
          go_roundg g2
          case measure => omega
          case rel =>
            refine ⟨k + 1, A, c, by omega, by rw [HN2.out], by go_num, ?_⟩
            unfold OrdI
            rw [HFK.out]
            simp only [pcs]
            exact hm
end Go.Proofs.Ytnlhammgcemchaa
