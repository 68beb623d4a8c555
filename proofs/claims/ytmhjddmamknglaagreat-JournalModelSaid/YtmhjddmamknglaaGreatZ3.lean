/-
  The texts that the claims of this seat lean on, part 4.
-/
import Derived.Test.YtmhjddmamknglaaGreatZ2
import Derived.Test.YtmhjddmamknglaaGreatZ0
import Derived.Test.YtmhjddmamknglaaGreatZ1
import Derived.Laws.BytesArg
import Derived.Laws.BytesString
import Derived.Laws.MakeOwn
import Derived.Deep.Fields
import Derived.Deep.Matrix
import Derived.Test.YtmhjddmamknglaaGreatRows

section
namespace Go.Proofs.YtmhjddmamknglaaGreat
set_option maxRecDepth 100000
set_option linter.unusedSimpArgs false
set_option linter.unusedVariables false
open Go.RowKit
set_option maxHeartbeats 8000000

/-- Pages whose free frames lie anew. -/
theorem PAt.refreed {w w' : World} {g : Nat} {G R : Nat → Prop} {s : PgS} {p : Pg.P} (H : PAt w g G s p) (ho : Only R w w') (hR : ∀ q, G q → R q → q = g ∨ q = s.Ho) (F' : Option Addr) (cf' : Nat) (fl : List Nat) (tn : Nat)
    (hb : Blk w' g 66 (pcs { s with F := F', cf := cf' } { p with freed := fl, turn := tn })) (hHo : Blk w' s.Ho 3 (ecells p.holds ++ s.rh).toArray) (hown : Own w' w.heap.size 3 1 F' fl.length cf' (ncells fl)) (hl : 0 < fl.length) :
    PAt w' g (fun k => G k ∨ (w.heap.size ≤ k ∧ k < w'.heap.size)) { s with F := F', cf := cf' } { p with freed := fl, turn := tn } := by
  have ne := H.ne
  simp only [List.nodup_cons, List.mem_cons, List.not_mem_nil, or_false, not_or] at ne
  obtain ⟨⟨n1, n2, n3, n4, n5⟩, ⟨n6, n7, n8, n9⟩, ⟨n10, n11, n12⟩, ⟨n13, n14⟩, n15, _⟩ := ne
  have hn : ∀ q, G q → q ≠ g → q ≠ s.Ho → ¬ R q := fun q hq h1 h2 hr => (hR q hq hr).elim h1 h2
  have hg2 : ∀ q ∈ [g, s.gm, s.gw, s.gv, s.A, s.Ho], G q := H.hg
  have hle := hown.le
  have hblk : ∀ a, F' = some a → w.heap.size ≤ a.block ∧ a.block < w'.heap.size := fun a e => hown.lt _ (ownAt_some (by omega) e)
  refine { blk := hb, mem := H.mem.only ho (hn _ (hg2 _ (by simp)) (fun e => n1 e.symm) n9) (hn _ (hg2 _ (by simp)) (fun e => n2 e.symm) n12) (hn _ (hg2 _ (by simp)) (fun e => n3 e.symm) n14), at_ := H.at_.only ho (hn _ (hg2 _ (by simp)) (fun e => n4 e.symm) n15), holds := hHo, freed := hown.row, cap := hle, hg := fun k hk => .inl (H.hg k hk), hF := fun a e => .inr (hblk a e), ne := H.ne, nF := fun a e hmem => ?_, lt := fun k hk => ?_ }
  · have := H.lt _ (hg2 _ hmem); have := hblk a e; omega
  · rcases hk with h | h
    · exact Nat.lt_of_lt_of_le (H.lt k h) ho.size
    · exact h.2
def freesK (holds : List (Option Nat)) (k : Nat) : List Nat := (List.range k).filter fun f => (holds.getD f none).isNone
theorem freesK_yes {holds : List (Option Nat)} {k : Nat} (h : holds.getD k none = none) : freesK holds (k + 1) = freesK holds k ++ [k] := by
  unfold freesK
  rw [List.range_succ, List.filter_append, List.filter_cons_of_pos (by show (holds.getD k none).isNone = true; rw [h]; rfl)]
  rfl
theorem freesK_no {holds : List (Option Nat)} {k i : Nat} (h : holds.getD k none = some i) : freesK holds (k + 1) = freesK holds k := by
  unfold freesK
  rw [List.range_succ, List.filter_append, List.filter_cons_of_neg (by show ¬ (holds.getD k none).isNone = true; rw [h]; simp)]
  simp
theorem freesK_length (holds : List (Option Nat)) (k : Nat) : (freesK holds k).length ≤ k := by
  have := List.length_filter_le (fun f => (holds.getD f none).isNone) (List.range k)
  rwa [List.length_range] at this
theorem freesK_lt {holds : List (Option Nat)} {k f : Nat} (h : f ∈ freesK holds k) : f < k := List.mem_range.1 (List.mem_filter.1 h).1
theorem vcell (vs : List Nat) (i : Nat) (hi : i < vs.length) {u : World} {A : Nat} {t : TypeId} (h : Blk u A t (ncells vs).toArray) : u.cell? ⟨A, i, none⟩ = some (.int .i64 ((vs.getD i 0 : Nat) : Int)) := by
  rw [h.cell]; simp [ncells, List.getD, hi, I64]
theorem newest_le (vs : List Nat) : ∀ k, Pg.newest vs k ≤ k := by
  intro k
  cases k with
  | zero => exact Nat.le_refl _
  | succ k => have := Pg.newest_lt vs (k + 1) (by omega); omega
/-- The state between two rounds. -/
def OrdI (w0 : World) (g V pb : Nat) (s : PgS) (p : Pg.P) (vs : List Nat) (k : Nat) (A : Option Addr) (c : Nat) (wr : World) : Prop :=
  Mem (fun q => q = g ∨ q = s.Ho ∨ q = V) w0 wr [⟨g, 66, pcs { s with F := A, cf := c } { p with freed := freesK p.holds k }⟩, ⟨s.Ho, 3, (ecells p.holds ++ s.rh).toArray⟩, ⟨V, 3, (ncells vs).toArray⟩, ⟨pb, 27, #[.pointer (some ⟨g, 0, none⟩)]⟩] [⟨3, 1, A, (freesK p.holds k).length, c, ncells (freesK p.holds k)⟩]
theorem page_order {w0 : World} {g : Nat} {G : Nat → Prop} {s : PgS} {p : Pg.P} (H : PAt w0 g G s p) (hF : s.F = none) (hcf : s.cf = 0) (hfr0 : p.freed = []) (V m0 : Nat) (vs : List Nat) (hv : Blk w0 V 3 (ncells vs).toArray) (hVG : ¬ G V)
    (hvl : vs.length = m0) (hhl : p.holds.length = m0) (hfm : p.frames = m0) (h1 : 1 ≤ m0) (hm1 : m0 ≤ 100000) (hne : 0 < (Pg.frees p.holds).length) {K : Int} (hK : Cel.Fine K p.m) (h0 : 0 ≤ K ∧ K ≤ 4611686018427387904) :
    Calls Tryz.prog 43 #[.pointer (some ⟨g, 0, none⟩), .slice (some ⟨V, 0, none⟩) m0 m0] w0 fun e w' => e = .returned (.tuple #[]) ∧ ∃ fq F cf G', fq.Perm (Pg.frees p.holds) ∧ PAt w' g G' { s with F := F, cf := cf } { p with freed := fq, turn := (Pg.newest vs p.frames + 1) % p.frames } ∧ (∀ q, G' q → G q ∨ w0.heap.size ≤ q) ∧ Only (fun q => q = g) w0 w' := by
  obtain ⟨ti, hi0, hz0, hz1, hz2⟩ := info_parts i_int'
  have hmf : ∀ (fn : Fn) (a b : Array Value) (u : World), (Instr.makeFunc fn a b).run Tryz.prog u = .ok (.func fn a b) u := make_func
  have hgV : g ≠ V := fun e => hVG (e ▸ H.hg g (by simp))
  have hHV : s.Ho ≠ V := fun e => hVG (e ▸ H.hg s.Ho (by simp))
  have hgH : g ≠ s.Ho := by
    have ne := H.ne
    simp only [List.nodup_cons, List.mem_cons, List.not_mem_nil, or_false, not_or] at ne
    exact ne.1.2.2.2.2
  have hm : Mem (fun q => q = g ∨ q = s.Ho ∨ q = V) w0 w0 [⟨g, 66, pcs s p⟩, ⟨s.Ho, 3, (ecells p.holds ++ s.rh).toArray⟩, ⟨V, 3, (ncells vs).toArray⟩] [] := by
    refine (((Mem.nil _ w0).cons hv (.inl (.inr (.inr rfl))) (fun e he => by cases he) (fun x hx => by cases hx)).cons H.holds (.inl (.inr (.inl rfl))) (fun e he => ?_) (fun x hx => by cases hx)).cons H.blk (.inl (.inl rfl)) (fun e he => ?_) (fun x hx => by cases hx)
    · obtain rfl := List.mem_singleton.1 he; exact hHV
    · simp only [List.mem_cons, List.not_mem_nil, or_false] at he
      rcases he with rfl | rfl
      · exact hgH
      · exact hgV
  have HH := Lib.hid H
  have HV := Lib.hid hv
  have hFr : Pg.frees p.holds = freesK p.holds m0 := by unfold Pg.frees freesK; rw [hhl]
  rw [hFr] at hne ⊢
  have hpc : pcs s p = pcs { s with F := none, cf := 0 } { p with freed := [] } := by
    obtain ⟨_, _, _, _, _, _, _, _, _, _, _, _, _, _⟩ := s
    obtain ⟨_, _, _, _, _, _, _, _, _, _⟩ := p
    dsimp only at hF hcf hfr0
    subst hF; subst hcf; subst hfr0
    rfl
  rw [hpc] at hm
  clear H hpc hF hcf hfr0
  have HFM := Lib.hid hfm
  have HHL := Lib.hid hhl
  have HVL := Lib.hid hvl
  have HNE := Lib.hid hne
  have HKK := Lib.hid hK
  clear hFr hfm hhl hvl hne hK
  simp only [pcs] at hm
  go_enter Tryz.func43, Tryz.ntmps43
  go_wp2_with (first | go_skip | ((with_reducible show wpList _ _ _ _ _ (World.alloc _ _)); refine wpList_up hm ?_; clear hm; intro n w hn hn2 hk hm hd hd2 ho; (try rw [← hn]); replace hn := Nat.le_of_eq hn.symm) | ((first | ((with_reducible show wpList _ _ _ (Oper.mk _ (Op.box _ _) _ _ _ _ :: _) _ _); (refine bxA hm ?_; clear hm; intro n w hn hz hm ho; (try simp only [List.cons_append, List.nil_append] at hm))) | ((with_reducible show wpList _ _ _ (Oper.mk _ (Op.load _ _) _ _ _ _ :: _) _ _); first | (refine ldA hm ?_) | (refine laA hm ?_)) | ((with_reducible show wpList _ _ _ (Oper.mk _ (Op.store _ _ _) _ _ _ _ :: _) _ _); (refine stA hm ?_; clear hm; intro w hz hm ho)) | ((with_reducible show wpList _ _ _ (Oper.mk _ (Op.alloc _) _ _ _ _ :: _) _ _); (refine alA hm ?_; clear hm; intro n w hn hz hm ho; (try simp only [List.cons_append, List.nil_append] at hm)))); try simp only [Act.put, sxQ]))
  replace hm := hm.empty 3 1 none
  have hx0 : OrdI w0 g V n s p vs 0 none 0 w := hm
  rw [show (p.holds.length : Int) = (m0 : Int) by rw [HHL.out]]
  have hpb : w0.heap.size ≤ n := hn
  generalize n = pb at *
  clear hm ho hz hn
  go_loopg [4, 11] m0 (fun g2 v j wr => ∃ (k : Nat) (A : Option Addr) (c : Nat), k + g2 = m0 ∧ v = .int .i64 ((Pg.newest vs k : Nat) : Int) ∧ j = .int .i64 (k : Int) ∧ OrdI w0 g V pb s p vs k A c wr)
  case atStart => exact ⟨0, none, 0, by omega, rfl, rfl, hx0⟩
  case round =>
    clear hx0
    obtain ⟨k, A, c, hkg, rfl, rfl, hm⟩ := hrel
    unfold OrdI at hm
    simp only [pcs] at hm
    cases gk with
    | zero =>
      obtain rfl : k = m0 := by omega
      have hnw := Pg.newest_lt vs k (by omega)
      go_wp2_with (first | go_skip | ((with_reducible show wpList _ _ _ _ _ (World.alloc _ _)); refine wpList_up hm ?_; clear hm; intro n w hn hn2 hk hm hd hd2 ho; (try rw [← hn]); replace hn := Nat.le_of_eq hn.symm) | ((first | ((with_reducible show wpList _ _ _ (Oper.mk _ (Op.box _ _) _ _ _ _ :: _) _ _); (refine bxA hm ?_; clear hm; intro n w hn hz hm ho; (try simp only [List.cons_append, List.nil_append] at hm))) | ((with_reducible show wpList _ _ _ (Oper.mk _ (Op.load _ _) _ _ _ _ :: _) _ _); first | (refine ldA hm ?_) | (refine laA hm ?_)) | ((with_reducible show wpList _ _ _ (Oper.mk _ (Op.store _ _ _) _ _ _ _ :: _) _ _); (refine stA hm ?_; clear hm; intro w hz hm ho)) | ((with_reducible show wpList _ _ _ (Oper.mk _ (Op.alloc _) _ _ _ _ :: _) _ _); (refine alA hm ?_; clear hm; intro n w hn hz hm ho; (try simp only [List.cons_append, List.nil_append] at hm)))); try simp only [Act.put, sxQ]))
      have hown := hm.fresh 0 rfl (fun q hq => by
        rcases hq with h | h | h
        · exact ⟨_, List.mem_cons_self, h.symm⟩
        · exact ⟨_, List.mem_cons_of_mem _ List.mem_cons_self, h.symm⟩
        · exact ⟨_, List.mem_cons_of_mem _ (List.mem_cons_of_mem _ List.mem_cons_self), h.symm⟩)
      dsimp only at hown
      have hnl : 0 < (freesK p.holds k).length := HNE.out
      have hfl := freesK_length p.holds k
      have hpl := fun f (hf : f ∈ freesK p.holds k) => freesK_lt hf
      have hgF : ∀ q, ownAt A c = some q → w0.heap.size ≤ q := fun q e => (hown.lt q e).1
      have HW : ∀ u, Only (fun q => ownAt A c = some q) wr u → PWk u g { s with F := A, cf := c } { p with freed := freesK p.holds k } := fun u ho => by
        have hne : ∀ q, q < w0.heap.size → ¬ ownAt A c = some q := fun q hq e => by have := hgF q e; omega
        have hg2 := HH.out.hg
        have hl2 := fun q (hq : q ∈ [g, s.gm, s.gw, s.gv, s.A, s.Ho]) => HH.out.lt q (hg2 q hq)
        have ne := HH.out.ne
        simp only [List.nodup_cons, List.mem_cons, List.not_mem_nil, or_false, not_or] at ne
        obtain ⟨⟨n1, n2, n3, n4, n5⟩, ⟨n6, n7, n8, n9⟩, ⟨n10, n11, n12⟩, ⟨n13, n14⟩, n15, _⟩ := ne
        have hR : ∀ q, q ∈ [g, s.gm, s.gw, s.gv, s.A, s.Ho] → q ≠ g → q ≠ s.Ho → ¬ (q = g ∨ q = s.Ho ∨ q = V) := fun q hq e1 e2 h => by
          rcases h with h | h | h
          · exact e1 h
          · exact e2 h
          · exact hVG (h ▸ hg2 q hq)
        refine ⟨(hm.at_ 0 rfl).only ho (hne _ (hl2 _ (by simp))), ?_⟩
        have h1 : MemAt wr s.gm s.gw s.gv s.n s.cw s.cv p.m := HH.out.mem.only hm.only (hR _ (by simp) (fun e => n1 e.symm) n9) (hR _ (by simp) (fun e => n2 e.symm) n12) (hR _ (by simp) (fun e => n3 e.symm) n14)
        exact h1.only ho (hne _ (hl2 _ (by simp))) (hne _ (hl2 _ (by simp))) (hne _ (hl2 _ (by simp)))
      have HB : ∀ u, Only (fun q => ownAt A c = some q) wr u → Blk u pb 27 #[.pointer (some ⟨g, 0, none⟩)] := fun u ho => (hm.at_ 3 rfl).only ho (fun e => hm.slL _ (List.mem_singleton.2 rfl) _ (by simp) e)
      go_at_call 60
      refine (page_sort hown hnl (by omega) (fun f hf => by have := hpl f hf; omega) HW HB HKK.out h0).mono ?_
      rintro e w8 ⟨rfl, fq, hperm, hown8, ho8⟩
      have hm8 := hm.app 0 rfl (hown8.mono (Nat.zero_le _)) ho8 (.inl rfl)
      simp only [List.set_cons_zero] at hm8
      clear hm HW HB hown ho8
      have hm := hm8
      clear hm8
      have hql : fq.length = (freesK p.holds k).length := hperm.length_eq
      have hpq : (0 : Int) < (p.frames : Int) := by rw [HFM.out]; omega
      have HPQ := Lib.hid hperm
      have HOW := Lib.hid hown8
      have hfz : ((p.frames : Int) == 0) = false := by rw [beq_eq_false_iff_ne]; omega
      clear hperm hown8
      go_wp2_with (first | go_skip | ((with_reducible show wpList _ _ _ _ _ (World.alloc _ _)); refine wpList_up hm ?_; clear hm; intro n w hn hn2 hk hm hd hd2 ho; (try rw [← hn]); replace hn := Nat.le_of_eq hn.symm) | ((first | ((with_reducible show wpList _ _ _ (Oper.mk _ (Op.box _ _) _ _ _ _ :: _) _ _); (refine bxA hm ?_; clear hm; intro n w hn hz hm ho; (try simp only [List.cons_append, List.nil_append] at hm))) | ((with_reducible show wpList _ _ _ (Oper.mk _ (Op.load _ _) _ _ _ _ :: _) _ _); first | (refine ldA hm ?_) | (refine laA hm ?_)) | ((with_reducible show wpList _ _ _ (Oper.mk _ (Op.store _ _ _) _ _ _ _ :: _) _ _); (refine stA hm ?_; clear hm; intro w hz hm ho)) | ((with_reducible show wpList _ _ _ (Oper.mk _ (Op.alloc _) _ _ _ _ :: _) _ _); (refine alA hm ?_; clear hm; intro n w hn hz hm ho; (try simp only [List.cons_append, List.nil_append] at hm)))); try simp only [Act.put, sxQ]))
      refine wp_region_quiet_tail 10 (by kernel_rfl) (by kernel_rfl) ?_
      simp only [List.take_succ_cons, List.take_zero]
      repeat (first | go_big_quiet_skip | ((with_reducible show wpQuiet _ _ _ _ (Oper.mk _ (Op.load _ _) _ _ _ _ :: _) _); first | (refine wpQuiet_ldS (by rfl) _ _ rfl _ _ rfl hm _ _ (by repeat (first | apply In.a | apply In.b)) (by decide +kernel) _ (by simp only [sxN]; first | done | exact rfl) ?_; (try simp only [Act.put, sxQ]))) | go_big_quiet_step (fail))
      refine wpQuiet_nil ?_
      rintro _ ⟨nq, rfl⟩
      simp only [List.drop_succ_cons, List.drop_zero]
      replace hm := hm.drewN nq
      go_wp2_with (first | go_skip | ((with_reducible show wpList _ _ _ _ _ (World.alloc _ _)); refine wpList_up hm ?_; clear hm; intro n w hn hn2 hk hm hd hd2 ho; (try rw [← hn]); replace hn := Nat.le_of_eq hn.symm) | ((first | ((with_reducible show wpList _ _ _ (Oper.mk _ (Op.box _ _) _ _ _ _ :: _) _ _); (refine bxA hm ?_; clear hm; intro n w hn hz hm ho; (try simp only [List.cons_append, List.nil_append] at hm))) | ((with_reducible show wpList _ _ _ (Oper.mk _ (Op.load _ _) _ _ _ _ :: _) _ _); first | (refine ldA hm ?_) | (refine laA hm ?_)) | ((with_reducible show wpList _ _ _ (Oper.mk _ (Op.store _ _ _) _ _ _ _ :: _) _ _); (refine stA hm ?_; clear hm; intro w hz hm ho)) | ((with_reducible show wpList _ _ _ (Oper.mk _ (Op.alloc _) _ _ _ _ :: _) _ _); (refine alA hm ?_; clear hm; intro n w hn hz hm ho; (try simp only [List.cons_append, List.nil_append] at hm)))); try simp only [Act.put, sxQ]))
      go_end0
      have hbx := hm.at_ 0 rfl
      have em : ((((Pg.newest vs k + 1) % p.frames : Nat)) : Int) = (((Pg.newest vs k : Nat) : Int) + 1) % (p.frames : Int) := by simp
      rw [← em] at hbx
      have hownE := hm.fresh 0 rfl (fun q hq => by
        rcases hq with h | h | h
        · exact ⟨_, List.mem_cons_self, h.symm⟩
        · exact ⟨_, List.mem_cons_of_mem _ List.mem_cons_self, h.symm⟩
        · exact ⟨_, List.mem_cons_of_mem _ (List.mem_cons_of_mem _ List.mem_cons_self), h.symm⟩)
      dsimp only at hownE
      rw [← hql] at hownE hbx
      rw [show Pg.newest vs p.frames = Pg.newest vs k by rw [HFM.out]]
      refine ⟨rfl, fq, A, c, _, HPQ.out, HH.out.refreed hm.only (fun q hq hr => ?_) A c fq _ hbx (hm.at_ 1 rfl) hownE (by omega), fun q hq => ?_, ?_⟩
      · rcases hr with h | h | h
        · exact .inl h
        · exact .inr h
        · exact absurd hq (h ▸ hVG)
      · exact hq.imp id And.left
      · have hO := hm.only
        refine ⟨hO.os, hO.tape, hO.output, hO.size, fun q hq hn => ?_⟩
        by_cases e1 : q = s.Ho
        · have a1 := hm.at_ 1 rfl
          have a2 := HH.out.holds
          unfold Blk at a1 a2
          rw [e1, a1, a2]
        · by_cases e2 : q = V
          · have a1 := hm.at_ 2 rfl
            have a2 := HV.out
            unfold Blk at a1 a2
            rw [e2, a1, a2]
          · exact hO.block q hq (by rintro (h | h | h) <;> contradiction)
    | succ g2 =>
      have ik : (k : Int) < (m0 : Int) := by omega
      have pk : (0 : Int) ≤ (k : Int) := by omega
      have ikh : (k : Int) < (p.holds.length : Int) := by rw [HHL.out]; exact ik
      have hnk := newest_le vs k
      have inw : ((Pg.newest vs k : Nat) : Int) < (m0 : Int) := by omega
      have pnw : (0 : Int) ≤ ((Pg.newest vs k : Nat) : Int) := by omega
      have C0 := Lib.hid (fun (u : World) (h : Blk u V 3 (ncells vs).toArray) => vcell vs k (by rw [HVL.out]; omega) h)
      have C1 := Lib.hid (fun (u : World) (h : Blk u V 3 (ncells vs).toArray) => vcell vs (Pg.newest vs k) (by rw [HVL.out]; omega) h)
      have hns : Pg.newest vs (k + 1) = if vs.getD (Pg.newest vs k) 0 < vs.getD k 0 then k else Pg.newest vs k := rfl
      have HNS := Lib.hid hns
      clear hns
      have hfl := freesK_length p.holds k
      generalize hx1 : vs.getD k 0 = x1 at *
      generalize hx2 : vs.getD (Pg.newest vs k) 0 = x2 at *
      generalize Pg.newest vs k = nw at *
      clear hx1 hx2
      cases hh : p.holds.getD k none with
      | none =>
        have CH := Lib.hid (fun (u : World) (h : Blk u s.Ho 3 (ecells p.holds ++ s.rh).toArray) => show u.cell? ⟨s.Ho, k, none⟩ = some (.int .i64 (-1)) by have := cells_at _ _ k (by rw [HHL.out]; omega) h; rwa [hh] at this)
        have HFK := Lib.hid (freesK_yes hh)
        clear hh
        generalize freesK p.holds k = fl at *
        go_wp2_with (first | go_skip | ((with_reducible show wpList _ _ _ _ _ (World.alloc _ _)); refine wpList_up hm ?_; clear hm; intro n w hn hn2 hk hm hd hd2 ho; (try rw [← hn]); replace hn := Nat.le_of_eq hn.symm) | ((first | ((with_reducible show wpList _ _ _ (Oper.mk _ (Op.box _ _) _ _ _ _ :: _) _ _); (refine bxA hm ?_; clear hm; intro n w hn hz hm ho; (try simp only [List.cons_append, List.nil_append] at hm))) | ((with_reducible show wpList _ _ _ (Oper.mk _ (Op.load _ _) _ _ _ _ :: _) _ _); first | (refine ldA hm ?_) | (refine laA hm ?_)) | ((with_reducible show wpList _ _ _ (Oper.mk _ (Op.store _ _ _) _ _ _ _ :: _) _ _); (refine stA hm ?_; clear hm; intro w hz hm ho)) | ((with_reducible show wpList _ _ _ (Oper.mk _ (Op.alloc _) _ _ _ _ :: _) _ _); (refine alA hm ?_; clear hm; intro n w hn hz hm ho; (try simp only [List.cons_append, List.nil_append] at hm)))); try simp only [Act.put, sxQ]) | ((with_reducible show wpList _ _ _ (Oper.mk _ (Op.load _ _) _ _ _ _ :: _) _ _); refine wpList_lc (by rfl) _ _ rfl _ rfl (by decide +kernel) _ (CH.out _ (hm.at_ 1 rfl)) ?_; (try simp only [Act.put, sxQ])))
        have hmK := hm.drew
        replace hm := hm.noO
        refine wp_region_noPanic ?_
        refine wp_region_phase (S := MemS _ _ _ _) [10] (by kernel_rfl) (MemS.of hm.drew) (fun hHeld => ?_)
        refine wpAnyP_fresh (by repeat (first | apply Fresh.a | apply Fresh.b)) ?_
        replace hm := hm.drew
        clear hm
        have hm := hmK
        clear hmK
        iterate 6 (first | (refine takePN 0 hHeld ?_) | (refine takePY 0 ?_ hHeld ?_ ?_; rotate_left 1; (first | (intro w9 h9; (with_reducible show (execOp _ (Oper.mk _ (Op.load _ _) _ _ _ _)).run _ _ = _); first | exact h9.ldA | exact h9.laA) | focus (intro w9 hSw; go_simp; (try (with_reducible rfl)); done))); try simp only [Act.put, sxQ])
        refine wpAnyP_one 6 (by kernel_rfl) (by simp only [sxN]; first | done | exact rfl) (fun K hK => ?_)
        rw [if_pos (by rfl)]
        go_simp
        refine K_up hm ?_
        intro n5 w5 hn hn5s hn5 hm1 hn5d hn5d2 hb1
        first | rw [← hn] | rw [← (show n5 = wr.heap.size from hn)]
        have hm := hm1
        clear hm1
        refine hK.out _ _ (MemS.of hm.noO) (fun hHeld => ?_)
        clear hK K
        try simp only [Act.put, sxQ]
        refine wpAnyP_one 7 (by kernel_rfl) (by simp only [sxN]; first | done | exact rfl) (fun K hK => ?_)
        refine step_ap (by rfl) (.tmp 26) (.tmp 28) 64 rfl 3 ti _ 1 8 Tryz.underlying64 hi0 hz0 hz1 hz2 rfl (by omega) A fl.length c _ rfl hm 0 rfl _ (some ⟨n5, 0, none⟩) 1 1 (ncells [k]) rfl hn5.row (by simp [ncells]) (ncells_one _) (by unfold maxLen; omega) (by omega) ?_
        clear hm; intro A3 c3 w hm ho9 hat
        simp only [List.set_cons_zero] at hm
        refine hK.out _ _ (MemS.of hm.noO) (fun hHeld => ?_)
        clear hK K
        try simp only [Act.put, sxQ]
        iterate 1 (refine wpAnyP_takeP (b := 8) (by repeat (first | apply Seek.a | apply Seek.b | apply Seek.c)) (by simp only [sxN]; first | done | exact rfl) ⟨?_, by kernel_rfl, by kernel_rfl, by kernel_rfl, by kernel_rfl, fun _ _ _ h => h, Or.inl ⟨by rfl, ?_⟩, (by first | exact Early.of hHeld | exact Early.off (by kernel_rfl)), ?_⟩; rotate_left 1; focus (intro w9 hSw; go_simp; (try (with_reducible rfl)); done); try simp only [Act.put, sxQ])
        try simp only [Act.put, sxQ]
        iterate 1 (refine wpAnyP_takeP (b := 9) (by repeat (first | apply Seek.a | apply Seek.b | apply Seek.c)) (by simp only [sxN]; first | done | exact rfl) ⟨?_, by kernel_rfl, by kernel_rfl, by kernel_rfl, by kernel_rfl, fun _ _ _ h => h, Or.inl ⟨by rfl, ?_⟩, (by first | exact Early.of hHeld | exact Early.off (by kernel_rfl)), ?_⟩; rotate_left 1; focus (intro w9 hSw; go_simp; (try (with_reducible rfl)); done); try simp only [Act.put, sxQ])
        try simp only [Act.put, sxQ]
        refine wpAnyP_last 10 (by kernel_rfl) (by simp only [sxN]; first | done | exact rfl) (by kernel_rfl) (fun K hK => ?_)
        refine stB hm ?_
        clear hm; intro w hz hm ho
        refine hK.out _ _ ?_
        clear hK K
        try simp only [Act.put, sxQ]
        refine wpAnyP_done (by kernel_rfl) ?_ _
        refine NoPanic.normal ?_
        clear ho9 hat hn5 hn5d hn5d2 hb1 hn hn5s
        have hll : (fl ++ [k]).length = fl.length + 1 := by simp
        by_cases hc : x2 < x1
        · have hd : decide ((x2 : Int) < (x1 : Int)) = true := by simpa using hc
          have HN2 := HNS.out
          rw [if_pos (by omega)] at HN2
          replace HN2 := Lib.hid HN2
          have hd2 : decide (x2 < x1) = true := by simpa using hc
          clear HNS
          go_wp2_with (first | go_skip | ((with_reducible show wpList _ _ _ _ _ (World.alloc _ _)); refine wpList_up hm ?_; clear hm; intro n w hn hn2 hk hm hd hd2 ho; (try rw [← hn]); replace hn := Nat.le_of_eq hn.symm) | ((first | ((with_reducible show wpList _ _ _ (Oper.mk _ (Op.box _ _) _ _ _ _ :: _) _ _); (refine bxA hm ?_; clear hm; intro n w hn hz hm ho; (try simp only [List.cons_append, List.nil_append] at hm))) | ((with_reducible show wpList _ _ _ (Oper.mk _ (Op.load _ _) _ _ _ _ :: _) _ _); first | (refine ldA hm ?_) | (refine laA hm ?_)) | ((with_reducible show wpList _ _ _ (Oper.mk _ (Op.store _ _ _) _ _ _ _ :: _) _ _); (refine stA hm ?_; clear hm; intro w hz hm ho)) | ((with_reducible show wpList _ _ _ (Oper.mk _ (Op.alloc _) _ _ _ _ :: _) _ _); (refine alA hm ?_; clear hm; intro n w hn hz hm ho; (try simp only [List.cons_append, List.nil_append] at hm)))); try simp only [Act.put, sxQ]))
          refine wp_region_noPanic ?_
          refine wp_region_held_drew (S := MemS _ _ _ _) (by kernel_rfl) (MemS.of hm.drew) (fun hHeld => ?_)
          refine wpAnyH_fresh (by repeat (first | apply Fresh.a | apply Fresh.b)) ?_
          replace hm := hm.drew
          iterate 9 (first | (refine takeN 0 hHeld ?_) | (refine takeY 0 ?_ hHeld ?_ ?_; rotate_left 1; (first | (intro w9 h9; (with_reducible show (execOp _ (Oper.mk _ (Op.load _ _) _ _ _ _)).run _ _ = _); first | exact h9.ldA | (exact exec_lc _ _ rfl _ rfl (by decide +kernel) _ (C0.out _ ((MemS.mem h9).at_ 2 rfl)) _ (by first | done | exact rfl)) | (exact exec_lc _ _ rfl _ rfl (by decide +kernel) _ (C1.out _ ((MemS.mem h9).at_ 2 rfl)) _ (by first | done | exact rfl)) | exact h9.laA) | focus (intro w9 hSw; go_simp; (try (with_reducible rfl)); done))); try simp only [Act.put, sxQ])
          refine wpAnyH_done (by kernel_rfl) ?_ _
          refine NoPanic.normal ?_
          go_wp2_with (first | go_skip | ((with_reducible show wpList _ _ _ _ _ (World.alloc _ _)); refine wpList_up hm ?_; clear hm; intro n w hn hn2 hk hm hd hd2 ho; (try rw [← hn]); replace hn := Nat.le_of_eq hn.symm) | ((first | ((with_reducible show wpList _ _ _ (Oper.mk _ (Op.box _ _) _ _ _ _ :: _) _ _); (refine bxA hm ?_; clear hm; intro n w hn hz hm ho; (try simp only [List.cons_append, List.nil_append] at hm))) | ((with_reducible show wpList _ _ _ (Oper.mk _ (Op.load _ _) _ _ _ _ :: _) _ _); first | (refine ldA hm ?_) | (refine laA hm ?_)) | ((with_reducible show wpList _ _ _ (Oper.mk _ (Op.store _ _ _) _ _ _ _ :: _) _ _); (refine stA hm ?_; clear hm; intro w hz hm ho)) | ((with_reducible show wpList _ _ _ (Oper.mk _ (Op.alloc _) _ _ _ _ :: _) _ _); (refine alA hm ?_; clear hm; intro n w hn hz hm ho; (try simp only [List.cons_append, List.nil_append] at hm)))); try simp only [Act.put, sxQ]))
          go_roundg g2
          case measure => omega
          case rel =>
            refine ⟨k + 1, A3, c3, by omega, by rw [HN2.out], by go_num, ?_⟩
            unfold OrdI
            rw [HFK.out]
            simp only [pcs]
            rw [hll, ncells_append]; exact hm
        · have hd : decide ((x2 : Int) < (x1 : Int)) = false := by simpa using hc
          have HN2 := HNS.out
          rw [if_neg (by omega)] at HN2
          replace HN2 := Lib.hid HN2
          have hd2 : decide (x2 < x1) = false := by simpa using hc
          clear HNS
          go_wp2_with (first | go_skip | ((with_reducible show wpList _ _ _ _ _ (World.alloc _ _)); refine wpList_up hm ?_; clear hm; intro n w hn hn2 hk hm hd hd2 ho; (try rw [← hn]); replace hn := Nat.le_of_eq hn.symm) | ((first | ((with_reducible show wpList _ _ _ (Oper.mk _ (Op.box _ _) _ _ _ _ :: _) _ _); (refine bxA hm ?_; clear hm; intro n w hn hz hm ho; (try simp only [List.cons_append, List.nil_append] at hm))) | ((with_reducible show wpList _ _ _ (Oper.mk _ (Op.load _ _) _ _ _ _ :: _) _ _); first | (refine ldA hm ?_) | (refine laA hm ?_)) | ((with_reducible show wpList _ _ _ (Oper.mk _ (Op.store _ _ _) _ _ _ _ :: _) _ _); (refine stA hm ?_; clear hm; intro w hz hm ho)) | ((with_reducible show wpList _ _ _ (Oper.mk _ (Op.alloc _) _ _ _ _ :: _) _ _); (refine alA hm ?_; clear hm; intro n w hn hz hm ho; (try simp only [List.cons_append, List.nil_append] at hm)))); try simp only [Act.put, sxQ]))
          refine wp_region_noPanic ?_
          refine wp_region_held_drew (S := MemS _ _ _ _) (by kernel_rfl) (MemS.of hm.drew) (fun hHeld => ?_)
          refine wpAnyH_fresh (by repeat (first | apply Fresh.a | apply Fresh.b)) ?_
          replace hm := hm.drew
          iterate 9 (first | (refine takeN 0 hHeld ?_) | (refine takeY 0 ?_ hHeld ?_ ?_; rotate_left 1; (first | (intro w9 h9; (with_reducible show (execOp _ (Oper.mk _ (Op.load _ _) _ _ _ _)).run _ _ = _); first | exact h9.ldA | (exact exec_lc _ _ rfl _ rfl (by decide +kernel) _ (C0.out _ ((MemS.mem h9).at_ 2 rfl)) _ (by first | done | exact rfl)) | (exact exec_lc _ _ rfl _ rfl (by decide +kernel) _ (C1.out _ ((MemS.mem h9).at_ 2 rfl)) _ (by first | done | exact rfl)) | exact h9.laA) | focus (intro w9 hSw; go_simp; (try (with_reducible rfl)); done))); try simp only [Act.put, sxQ])
          refine wpAnyH_done (by kernel_rfl) ?_ _
          refine NoPanic.normal ?_
          go_wp2_with (first | go_skip | ((with_reducible show wpList _ _ _ _ _ (World.alloc _ _)); refine wpList_up hm ?_; clear hm; intro n w hn hn2 hk hm hd hd2 ho; (try rw [← hn]); replace hn := Nat.le_of_eq hn.symm) | ((first | ((with_reducible show wpList _ _ _ (Oper.mk _ (Op.box _ _) _ _ _ _ :: _) _ _); (refine bxA hm ?_; clear hm; intro n w hn hz hm ho; (try simp only [List.cons_append, List.nil_append] at hm))) | ((with_reducible show wpList _ _ _ (Oper.mk _ (Op.load _ _) _ _ _ _ :: _) _ _); first | (refine ldA hm ?_) | (refine laA hm ?_)) | ((with_reducible show wpList _ _ _ (Oper.mk _ (Op.store _ _ _) _ _ _ _ :: _) _ _); (refine stA hm ?_; clear hm; intro w hz hm ho)) | ((with_reducible show wpList _ _ _ (Oper.mk _ (Op.alloc _) _ _ _ _ :: _) _ _); (refine alA hm ?_; clear hm; intro n w hn hz hm ho; (try simp only [List.cons_append, List.nil_append] at hm)))); try simp only [Act.put, sxQ]))
          go_roundg g2
          case measure => omega
          case rel =>
            refine ⟨k + 1, A3, c3, by omega, by rw [HN2.out], by go_num, ?_⟩
            unfold OrdI
            rw [HFK.out]
            simp only [pcs]
            rw [hll, ncells_append]; exact hm
      | some i =>
        have CH := Lib.hid (fun (u : World) (h : Blk u s.Ho 3 (ecells p.holds ++ s.rh).toArray) => show u.cell? ⟨s.Ho, k, none⟩ = some (.int .i64 (i : Int)) by have := cells_at _ _ k (by rw [HHL.out]; omega) h; rwa [hh] at this)
        have HFK := Lib.hid (freesK_no hh)
        have hin : ((i : Int) == -1) = false := by rw [beq_eq_false_iff_ne]; omega
        clear hh
        generalize freesK p.holds k = fl at *
        go_wp2_with (first | go_skip | ((with_reducible show wpList _ _ _ _ _ (World.alloc _ _)); refine wpList_up hm ?_; clear hm; intro n w hn hn2 hk hm hd hd2 ho; (try rw [← hn]); replace hn := Nat.le_of_eq hn.symm) | ((first | ((with_reducible show wpList _ _ _ (Oper.mk _ (Op.box _ _) _ _ _ _ :: _) _ _); (refine bxA hm ?_; clear hm; intro n w hn hz hm ho; (try simp only [List.cons_append, List.nil_append] at hm))) | ((with_reducible show wpList _ _ _ (Oper.mk _ (Op.load _ _) _ _ _ _ :: _) _ _); first | (refine ldA hm ?_) | (refine laA hm ?_)) | ((with_reducible show wpList _ _ _ (Oper.mk _ (Op.store _ _ _) _ _ _ _ :: _) _ _); (refine stA hm ?_; clear hm; intro w hz hm ho)) | ((with_reducible show wpList _ _ _ (Oper.mk _ (Op.alloc _) _ _ _ _ :: _) _ _); (refine alA hm ?_; clear hm; intro n w hn hz hm ho; (try simp only [List.cons_append, List.nil_append] at hm)))); try simp only [Act.put, sxQ]) | ((with_reducible show wpList _ _ _ (Oper.mk _ (Op.load _ _) _ _ _ _ :: _) _ _); refine wpList_lc (by rfl) _ _ rfl _ rfl (by decide +kernel) _ (CH.out _ (hm.at_ 1 rfl)) ?_; (try simp only [Act.put, sxQ])))
        by_cases hc : x2 < x1
        · have hd : decide ((x2 : Int) < (x1 : Int)) = true := by simpa using hc
          have HN2 := HNS.out
          rw [if_pos (by omega)] at HN2
          replace HN2 := Lib.hid HN2
          have hd2 : decide (x2 < x1) = true := by simpa using hc
          clear HNS
          go_wp2_with (first | go_skip | ((with_reducible show wpList _ _ _ _ _ (World.alloc _ _)); refine wpList_up hm ?_; clear hm; intro n w hn hn2 hk hm hd hd2 ho; (try rw [← hn]); replace hn := Nat.le_of_eq hn.symm) | ((first | ((with_reducible show wpList _ _ _ (Oper.mk _ (Op.box _ _) _ _ _ _ :: _) _ _); (refine bxA hm ?_; clear hm; intro n w hn hz hm ho; (try simp only [List.cons_append, List.nil_append] at hm))) | ((with_reducible show wpList _ _ _ (Oper.mk _ (Op.load _ _) _ _ _ _ :: _) _ _); first | (refine ldA hm ?_) | (refine laA hm ?_)) | ((with_reducible show wpList _ _ _ (Oper.mk _ (Op.store _ _ _) _ _ _ _ :: _) _ _); (refine stA hm ?_; clear hm; intro w hz hm ho)) | ((with_reducible show wpList _ _ _ (Oper.mk _ (Op.alloc _) _ _ _ _ :: _) _ _); (refine alA hm ?_; clear hm; intro n w hn hz hm ho; (try simp only [List.cons_append, List.nil_append] at hm)))); try simp only [Act.put, sxQ]))
          refine wp_region_noPanic ?_
          refine wp_region_held_drew (S := MemS _ _ _ _) (by kernel_rfl) (MemS.of hm.drew) (fun hHeld => ?_)
          refine wpAnyH_fresh (by repeat (first | apply Fresh.a | apply Fresh.b)) ?_
          replace hm := hm.drew
          iterate 9 (first | (refine takeN 0 hHeld ?_) | (refine takeY 0 ?_ hHeld ?_ ?_; rotate_left 1; (first | (intro w9 h9; (with_reducible show (execOp _ (Oper.mk _ (Op.load _ _) _ _ _ _)).run _ _ = _); first | exact h9.ldA | (exact exec_lc _ _ rfl _ rfl (by decide +kernel) _ (C0.out _ ((MemS.mem h9).at_ 2 rfl)) _ (by first | done | exact rfl)) | (exact exec_lc _ _ rfl _ rfl (by decide +kernel) _ (C1.out _ ((MemS.mem h9).at_ 2 rfl)) _ (by first | done | exact rfl)) | exact h9.laA) | focus (intro w9 hSw; go_simp; (try (with_reducible rfl)); done))); try simp only [Act.put, sxQ])
          refine wpAnyH_done (by kernel_rfl) ?_ _
          refine NoPanic.normal ?_
          go_wp2_with (first | go_skip | ((with_reducible show wpList _ _ _ _ _ (World.alloc _ _)); refine wpList_up hm ?_; clear hm; intro n w hn hn2 hk hm hd hd2 ho; (try rw [← hn]); replace hn := Nat.le_of_eq hn.symm) | ((first | ((with_reducible show wpList _ _ _ (Oper.mk _ (Op.box _ _) _ _ _ _ :: _) _ _); (refine bxA hm ?_; clear hm; intro n w hn hz hm ho; (try simp only [List.cons_append, List.nil_append] at hm))) | ((with_reducible show wpList _ _ _ (Oper.mk _ (Op.load _ _) _ _ _ _ :: _) _ _); first | (refine ldA hm ?_) | (refine laA hm ?_)) | ((with_reducible show wpList _ _ _ (Oper.mk _ (Op.store _ _ _) _ _ _ _ :: _) _ _); (refine stA hm ?_; clear hm; intro w hz hm ho)) | ((with_reducible show wpList _ _ _ (Oper.mk _ (Op.alloc _) _ _ _ _ :: _) _ _); (refine alA hm ?_; clear hm; intro n w hn hz hm ho; (try simp only [List.cons_append, List.nil_append] at hm)))); try simp only [Act.put, sxQ]))
          go_roundg g2
          case measure => omega
          case rel =>
            refine ⟨k + 1, A, c, by omega, by rw [HN2.out], by go_num, ?_⟩
            unfold OrdI
            rw [HFK.out]
            simp only [pcs]
            exact hm
        · have hd : decide ((x2 : Int) < (x1 : Int)) = false := by simpa using hc
          have HN2 := HNS.out
          rw [if_neg (by omega)] at HN2
          replace HN2 := Lib.hid HN2
          have hd2 : decide (x2 < x1) = false := by simpa using hc
          clear HNS
          go_wp2_with (first | go_skip | ((with_reducible show wpList _ _ _ _ _ (World.alloc _ _)); refine wpList_up hm ?_; clear hm; intro n w hn hn2 hk hm hd hd2 ho; (try rw [← hn]); replace hn := Nat.le_of_eq hn.symm) | ((first | ((with_reducible show wpList _ _ _ (Oper.mk _ (Op.box _ _) _ _ _ _ :: _) _ _); (refine bxA hm ?_; clear hm; intro n w hn hz hm ho; (try simp only [List.cons_append, List.nil_append] at hm))) | ((with_reducible show wpList _ _ _ (Oper.mk _ (Op.load _ _) _ _ _ _ :: _) _ _); first | (refine ldA hm ?_) | (refine laA hm ?_)) | ((with_reducible show wpList _ _ _ (Oper.mk _ (Op.store _ _ _) _ _ _ _ :: _) _ _); (refine stA hm ?_; clear hm; intro w hz hm ho)) | ((with_reducible show wpList _ _ _ (Oper.mk _ (Op.alloc _) _ _ _ _ :: _) _ _); (refine alA hm ?_; clear hm; intro n w hn hz hm ho; (try simp only [List.cons_append, List.nil_append] at hm)))); try simp only [Act.put, sxQ]))
          refine wp_region_noPanic ?_
          refine wp_region_held_drew (S := MemS _ _ _ _) (by kernel_rfl) (MemS.of hm.drew) (fun hHeld => ?_)
          refine wpAnyH_fresh (by repeat (first | apply Fresh.a | apply Fresh.b)) ?_
          replace hm := hm.drew
          iterate 9 (first | (refine takeN 0 hHeld ?_) | (refine takeY 0 ?_ hHeld ?_ ?_; rotate_left 1; (first | (intro w9 h9; (with_reducible show (execOp _ (Oper.mk _ (Op.load _ _) _ _ _ _)).run _ _ = _); first | exact h9.ldA | (exact exec_lc _ _ rfl _ rfl (by decide +kernel) _ (C0.out _ ((MemS.mem h9).at_ 2 rfl)) _ (by first | done | exact rfl)) | (exact exec_lc _ _ rfl _ rfl (by decide +kernel) _ (C1.out _ ((MemS.mem h9).at_ 2 rfl)) _ (by first | done | exact rfl)) | exact h9.laA) | focus (intro w9 hSw; go_simp; (try (with_reducible rfl)); done))); try simp only [Act.put, sxQ])
          refine wpAnyH_done (by kernel_rfl) ?_ _
          refine NoPanic.normal ?_
          go_wp2_with (first | go_skip | ((with_reducible show wpList _ _ _ _ _ (World.alloc _ _)); refine wpList_up hm ?_; clear hm; intro n w hn hn2 hk hm hd hd2 ho; (try rw [← hn]); replace hn := Nat.le_of_eq hn.symm) | ((first | ((with_reducible show wpList _ _ _ (Oper.mk _ (Op.box _ _) _ _ _ _ :: _) _ _); (refine bxA hm ?_; clear hm; intro n w hn hz hm ho; (try simp only [List.cons_append, List.nil_append] at hm))) | ((with_reducible show wpList _ _ _ (Oper.mk _ (Op.load _ _) _ _ _ _ :: _) _ _); first | (refine ldA hm ?_) | (refine laA hm ?_)) | ((with_reducible show wpList _ _ _ (Oper.mk _ (Op.store _ _ _) _ _ _ _ :: _) _ _); (refine stA hm ?_; clear hm; intro w hz hm ho)) | ((with_reducible show wpList _ _ _ (Oper.mk _ (Op.alloc _) _ _ _ _ :: _) _ _); (refine alA hm ?_; clear hm; intro n w hn hz hm ho; (try simp only [List.cons_append, List.nil_append] at hm)))); try simp only [Act.put, sxQ]))
          go_roundg g2
          case measure => omega
          case rel =>
            refine ⟨k + 1, A, c, by omega, by rw [HN2.out], by go_num, ?_⟩
            unfold OrdI
            rw [HFK.out]
            simp only [pcs]
            exact hm
end Go.Proofs.YtmhjddmamknglaaGreat
end

section
namespace Go.Proofs.YtmhjddmamknglaaGreat.Pg
set_option maxRecDepth 100000
set_option linter.unusedSimpArgs false
set_option linter.unusedVariables false
open Go.Proofs.YtmhjddmamknglaaGreat

structure Kept (o q : O) (k : Nat) : Prop where
  m : q.p.m = o.p.m
  cuts : q.p.cuts = o.p.cuts
  count : q.p.count = o.p.count
  frames : q.p.frames = o.p.frames
  turn : q.p.turn = o.p.turn
  freed : q.p.freed = o.p.freed
  la : q.p.at_.length = o.p.at_.length
  lh : q.p.holds.length = o.p.holds.length
  lv : q.vs.length = o.vs.length
  fixed : q.p.fixed ≤ o.p.fixed + 21 * k
theorem header_count (m : Cel.Mem) (count f : Nat) : (header m count f).2 ≤ 21 := by
  have h5 := word_count m (f * 20 + 19); have h6 := read_count m f
  unfold header
  split
  · dsimp only; omega
  · split <;> dsimp only <;> omega
theorem header_page {m : Cel.Mem} {count f i : Nat} (h : (header m count f).1.page = some i) : i < count := by
  unfold header at h
  split at h
  · cases h
  · split at h
    · cases h
    · rename_i h2
      cases h
      have := not_or.1 h2
      omega
theorem next_kept (o : O) (f : Nat) (h : Hd) : Kept o (o.next f h) 0 := by
  unfold O.next
  split
  · exact ⟨rfl, rfl, rfl, rfl, rfl, rfl, rfl, rfl, by simp, by simp⟩
  · split
    · exact ⟨rfl, rfl, rfl, rfl, rfl, rfl, by simp, by simp, by simp, by simp⟩
    · split
      · exact ⟨rfl, rfl, rfl, rfl, rfl, rfl, rfl, rfl, by simp, by simp⟩
      · exact ⟨rfl, rfl, rfl, rfl, rfl, rfl, by simp, by simp, by simp, by simp⟩
theorem scan_kept {m : Cel.Mem} {o : O} : ∀ k q, scan m o k = some q → Kept o q k := by
  intro k
  induction k with
  | zero => intro q h; unfold scan at h; cases h; exact ⟨rfl, rfl, rfl, rfl, rfl, rfl, rfl, rfl, rfl, by omega⟩
  | succ k ih =>
    intro q h
    unfold scan at h
    cases hs : scan m o k with
    | none => rw [hs] at h; cases h
    | some q0 =>
      rw [hs] at h
      simp only at h
      split at h
      · cases h
      · cases h
        have h1 := ih q0 hs
        have h2 := next_kept (q0.more (header m o.p.count k).2) k (header m o.p.count k).1
        have hc := header_count m o.p.count k
        exact ⟨h2.m.trans h1.m, h2.cuts.trans h1.cuts, h2.count.trans h1.count, h2.frames.trans h1.frames, h2.turn.trans h1.turn, h2.freed.trans h1.freed, h2.la.trans h1.la, h2.lh.trans h1.lh, h2.lv.trans h1.lv, by
          have h3 := h2.fixed; have h4 := h1.fixed
          have h5 : (q0.more (header m o.p.count k).2).p.fixed = q0.p.fixed + (header m o.p.count k).2 := rfl
          omega⟩
theorem scan_at {m : Cel.Mem} : ∀ k q, scan m (start m) k = some q → ∀ i f, q.p.at_.getD i none = some f → f < k := by
  intro k
  induction k with
  | zero =>
    intro q h i f hi
    unfold scan at h; cases h
    simp only [start, List.getD, List.getElem?_replicate] at hi
    split at hi <;> cases hi
  | succ k ih =>
    intro q h i f hi
    unfold scan at h
    cases hs : scan m (start m) k with
    | none => rw [hs] at h; cases h
    | some q0 =>
      rw [hs] at h
      simp only at h
      split at h
      · cases h
      · cases h
        have h1 := ih q0 hs
        have hset : ∀ (l : List (Option Nat)) (j : Nat) (hl : ∀ i f, l.getD i none = some f → f < k) (i f : Nat), (l.set j (some k)).getD i none = some f → f < k + 1 := fun l j hl i f h => by
          simp only [List.getD, List.getElem?_set] at h
          split at h
          · split at h
            · cases h; omega
            · cases h
          · have := hl i f h; omega
        unfold O.next at hi
        split at hi
        · have := h1 i f hi; omega
        · split at hi
          · exact hset _ _ h1 _ _ hi
          · split at hi
            · have := h1 i f hi; omega
            · exact hset _ _ h1 _ _ hi
theorem scan_succ {m : Cel.Mem} {o q : O} {k : Nat} (h : scan m o k = some q) (hb : (header m o.p.count k).1.bad = false) : scan m o (k + 1) = some ((q.more (header m o.p.count k).2).next k (header m o.p.count k).1) := by
  show (match scan m o k with
    | none => none
    | some q => if (header m o.p.count k).1.bad then none else some ((q.more (header m o.p.count k).2).next k (header m o.p.count k).1)) = _
  rw [h]
  simp only
  rw [if_neg (by rw [hb]; decide)]
theorem scan_bad {m : Cel.Mem} {o : O} {k : Nat} (hb : (header m o.p.count k).1.bad = true) : ∀ j, k < j → scan m o j = none := by
  have h1 : scan m o (k + 1) = none := by
    show (match scan m o k with
      | none => none
      | some q => if (header m o.p.count k).1.bad then none else some ((q.more (header m o.p.count k).2).next k (header m o.p.count k).1)) = _
    split
    · rfl
    · rw [if_pos hb]
  intro j
  induction j with
  | zero => intro h; omega
  | succ j ih =>
    intro h
    by_cases e : j = k
    · rw [e]; exact h1
    · show (match scan m o j with
        | none => none
        | some q => if (header m o.p.count j).1.bad then none else some ((q.more (header m o.p.count j).2).next j (header m o.p.count j).1)) = _
      rw [ih (by omega)]
end Go.Proofs.YtmhjddmamknglaaGreat.Pg
end

section
namespace Go.Proofs.YtmhjddmamknglaaGreat
set_option maxRecDepth 100000
set_option linter.unusedSimpArgs false
set_option linter.unusedVariables false
open Go.RowKit
set_option maxHeartbeats 8000000

theorem page_headers (w0 : World) (g : Nat) : Calls Tryz.prog 41 #[.pointer (some ⟨g, 0, none⟩)] w0 fun e w' => ∃ pb, e = .returned (.func (.func 58) #[] #[.pointer (some ⟨pb, 0, none⟩)]) ∧ w0.heap.size ≤ pb ∧ Blk w' pb 27 #[.pointer (some ⟨g, 0, none⟩)] ∧ Below w0.heap.size w0 w' := by
  have hmf : ∀ (fn : Fn) (a b : Array Value) (u : World), (Instr.makeFunc fn a b).run Tryz.prog u = .ok (.func fn a b) u := make_func
  have hm := Mem.nil (fun _ => False) w0
  go_enter Tryz.func41, Tryz.ntmps41
  go_wp2_with (first | go_skip | ((with_reducible show wpList _ _ _ _ _ (World.alloc _ _)); refine wpList_up hm ?_; clear hm; intro n w hn hn2 hk hm hd hd2 ho; (try rw [← hn]); replace hn := Nat.le_of_eq hn.symm) | ((first | ((with_reducible show wpList _ _ _ (Oper.mk _ (Op.box _ _) _ _ _ _ :: _) _ _); (refine bxA hm ?_; clear hm; intro n w hn hz hm ho; (try simp only [List.cons_append, List.nil_append] at hm))) | ((with_reducible show wpList _ _ _ (Oper.mk _ (Op.load _ _) _ _ _ _ :: _) _ _); first | (refine ldA hm ?_) | (refine laA hm ?_)) | ((with_reducible show wpList _ _ _ (Oper.mk _ (Op.store _ _ _) _ _ _ _ :: _) _ _); (refine stA hm ?_; clear hm; intro w hz hm ho)) | ((with_reducible show wpList _ _ _ (Oper.mk _ (Op.alloc _) _ _ _ _ :: _) _ _); (refine alA hm ?_; clear hm; intro n w hn hz hm ho; (try simp only [List.cons_append, List.nil_append] at hm)))); try simp only [Act.put, sxQ]))
  go_ret
  exact ⟨_, rfl, hn, hm.at_ 0 rfl, hm.low⟩
/-- Pages that Open makes: their memory is what it has made, and the words. -/
theorem PAt.opened {w0 w : World} {g : Nat} {s : PgS} {p : Pg.P} (hM : MemAt w s.gm s.gw s.gv s.n s.cw s.cv p.m) (hl : s.gm < w0.heap.size ∧ s.gw < w0.heap.size ∧ s.gv < w0.heap.size) (hb : Blk w g 66 (pcs s p)) (hA : Blk w s.A 3 (ecells p.at_ ++ s.ra).toArray) (hH : Blk w s.Ho 3 (ecells p.holds ++ s.rh).toArray)
    (hF : s.F = none) (hf : p.freed = []) (h1 : w0.heap.size ≤ g) (h2 : w0.heap.size ≤ s.A) (h3 : w0.heap.size ≤ s.Ho) (d1 : g ≠ s.A) (d2 : g ≠ s.Ho) (d3 : s.A ≠ s.Ho) : PAt w g (fun q => q ∈ [g, s.gm, s.gw, s.gv, s.A, s.Ho]) s p := by
  obtain ⟨l1, l2, l3⟩ := hl
  have n1 := hM.gw_ne; have n2 := hM.gv_ne; have n3 := hM.wv_ne
  refine { blk := hb, mem := hM, at_ := hA, holds := hH, freed := ?_, cap := by rw [hf]; exact Nat.zero_le _, hg := fun q hq => hq, hF := fun a e => (by rw [hF] at e; cases e), ne := ?_, nF := fun a e => (by rw [hF] at e; cases e), lt := fun q hq => ?_ }
  · rw [hF, hf]
    exact fun hn => absurd hn (Nat.lt_irrefl 0)
  · simp only [List.nodup_cons, List.mem_cons, List.not_mem_nil, or_false, not_or, List.nodup_nil, and_true]
    refine ⟨⟨?_, ?_, ?_, d1, d2⟩, ⟨?_, ?_, ?_, ?_⟩, ⟨?_, ?_, ?_⟩, ⟨?_, ?_⟩, d3, not_false⟩ <;> omega
  · simp only [List.mem_cons, List.not_mem_nil, or_false] at hq
    rcases hq with rfl | rfl | rfl | rfl | rfl | rfl
    · exact hb.lt
    · exact hM.box.lt
    · exact (hM.words.lt _ (ownAt_some (by have := hM.words.le; have := hM.pos; omega) rfl)).2
    · exact (hM.wear.lt _ (ownAt_some (by have := hM.wear.le; have := hM.pos; omega) rfl)).2
    · exact hA.lt
    · exact hH.lt
/-- Where Open's own variables lie. -/
structure OpS where
  n2 : Nat
  n3 : Nat
  g : Nat
  n4 : Nat
  V : Nat
  n5 : Nat
  pb : Nat
/-- What is known between two headers. -/
def opL (x : OpS) (s : PgS) (q : Pg.O) : List Ent := [⟨x.pb, 27, #[.pointer (some ⟨x.g, 0, none⟩)]⟩, ⟨x.V, 3, (ncells q.vs).toArray⟩, ⟨s.Ho, 3, (ecells q.p.holds ++ s.rh).toArray⟩, ⟨s.A, 3, (ecells q.p.at_ ++ s.ra).toArray⟩,
  ⟨x.n2, 27, #[.pointer none]⟩, ⟨x.n3, 38, #[.int .i64 0]⟩, ⟨x.g, 66, pcs s q.p⟩, ⟨x.n4, 27, #[.pointer (some ⟨x.g, 0, none⟩)]⟩, ⟨x.n5, 64, #[.slice (some ⟨x.V, 0, none⟩) q.vs.length q.vs.length]⟩]
theorem Mem.apart {R : Nat → Prop} {s w : World} {L : List Ent} {O : List Osl} (h : Mem R s w L O) (i j : Nat) (hij : i ≠ j) {a b : Ent} (hi : L[i]? = some a) (hj : L[j]? = some b) : a.g ≠ b.g := fun e => by
  obtain ⟨h1, h2⟩ := List.getElem?_eq_some_iff.1 hi
  obtain ⟨h3, h4⟩ := List.getElem?_eq_some_iff.1 hj
  have h5 : (L.map (·.g))[i]'(by simpa using h1) = (L.map (·.g))[j]'(by simpa using h3) := by rw [List.getElem_map, List.getElem_map, h2, h4, e]
  exact hij ((List.getElem_inj h.diff).1 h5)
def OpI (w0 : World) (m : Cel.Mem) (x : OpS) (s : PgS) (k : Nat) (W : World) : Prop := ∃ q, Pg.scan m (Pg.start m) k = some q ∧ Mem (fun _ => False) w0 W (opL x s q) []
/-- Behind the next header. -/
def OpH (w0 : World) (m : Cel.Mem) (x : OpS) (s : PgS) (k : Nat) (W : World) : Prop := ∃ q, Pg.scan m (Pg.start m) k = some q ∧ k < m.words.length / 20 ∧ Mem (fun _ => False) w0 W (opL x s (q.more (Pg.header m (m.words.length / 24) k).2)) []
structure OpOk (w0 : World) (m : Cel.Mem) (x : OpS) (s : PgS) : Prop where
  mem : MemAt w0 s.gm s.gw s.gv s.n s.cw s.cv m
  F : s.F = none
theorem MemAt.lts {w : World} {g gw gv n cw cv : Nat} {m : Cel.Mem} (hM : MemAt w g gw gv n cw cv m) : g < w.heap.size ∧ gw < w.heap.size ∧ gv < w.heap.size :=
  ⟨hM.box.lt, (hM.words.lt _ (ownAt_some (by have := hM.words.le; have := hM.pos; omega) rfl)).2, (hM.wear.lt _ (ownAt_some (by have := hM.wear.le; have := hM.pos; omega) rfl)).2⟩
/-- The pages, as they lie there. -/
theorem OpOk.pat {w0 W : World} {m : Cel.Mem} {x : OpS} {s : PgS} {q : Pg.O} (h : OpOk w0 m x s) (hm : Mem (fun _ => False) w0 W (opL x s q) []) (hq : q.p.m = m) (hf : q.p.freed = []) : PAt W x.g (fun k => k ∈ [x.g, s.gm, s.gw, s.gv, s.A, s.Ho]) s q.p := by
  have hge := fun (k : Nat) (e : Ent) (hk : (opL x s q)[k]? = some e) => (hm.own e (List.mem_of_getElem? hk)).resolve_left id
  have hM : MemAt W s.gm s.gw s.gv s.n s.cw s.cv q.p.m := by rw [hq]; exact h.mem.below hm.low
  exact PAt.opened hM h.mem.lts (hm.at_ 6 rfl) (hm.at_ 3 rfl) (hm.at_ 2 rfl) h.F hf (hge 6 _ rfl) (hge 3 _ rfl) (hge 2 _ rfl) (hm.apart 6 3 (by decide) rfl rfl) (hm.apart 6 2 (by decide) rfl rfl) (hm.apart 3 2 (by decide) rfl rfl)
theorem start_kept {m : Cel.Mem} {q : Pg.O} {k : Nat} (h : Pg.scan m (Pg.start m) k = some q) : q.p.m = m ∧ q.p.cuts = m.cuts ∧ q.p.count = m.words.length / 24 ∧ q.p.frames = m.words.length / 20 ∧ q.p.turn = 0 ∧ q.p.freed = [] ∧ q.p.at_.length = m.words.length / 24 ∧ q.p.holds.length = m.words.length / 20 ∧ q.vs.length = m.words.length / 20 ∧ q.p.fixed ≤ 21 * k := by
  have hk := Pg.scan_kept k q h
  refine ⟨hk.m, hk.cuts, hk.count, hk.frames, hk.turn, hk.freed, hk.la.trans (by simp [Pg.start]), hk.lh.trans (by simp [Pg.start]), hk.lv.trans (by simp [Pg.start]), ?_⟩
  have := hk.fixed
  have e : (Pg.start m).p.fixed = 0 := rfl
  omega
theorem OpI.pat {w0 W : World} {m : Cel.Mem} {x : OpS} {s : PgS} {q : Pg.O} {k : Nat} (h : OpOk w0 m x s) (hq : Pg.scan m (Pg.start m) k = some q) (hm : Mem (fun _ => False) w0 W (opL x s q) []) : PAt W x.g (fun k => k ∈ [x.g, s.gm, s.gw, s.gv, s.A, s.Ho]) s q.p :=
  h.pat hm (start_kept hq).1 (start_kept hq).2.2.2.2.2.1
def OpBad (w0 : World) (m : Cel.Mem) (x : OpS) (c : Code) (W : World) : Prop := c = .ret ∧ Pg.scan m (Pg.start m) (m.words.length / 20) = none ∧ Below w0.heap.size w0 W ∧ W.cell? ⟨x.n2, 0, none⟩ = some (.pointer none) ∧ W.cell? ⟨x.n3, 0, none⟩ = some (.int .i64 9)
theorem page_iter {w0 : World} {m : Cel.Mem} {x : OpS} {s : PgS} (h : OpOk w0 m x s) (B : Nat) :
    Iter Tryz.prog 58 #[.pointer (some ⟨x.pb, 0, none⟩)] (fun k : Nat => #[.int .i64 (k : Int), hdV (Pg.header m (m.words.length / 24) k).1]) B (OpI w0 m x s 0) (OpI w0 m x s (m.words.length / 20)) (OpH w0 m x s) (fun k => OpI w0 m x s (k + 1)) (OpBad w0 m x) := by
  intro l Y Z W1 hBl hY hZ hr hI hY1
  have hsm := h.mem.small
  have hlen := h.mem.len
  obtain ⟨q0, hq0, hm⟩ := hI
  have hk0 := start_kept hq0
  have HOK := Lib.hid h
  have HYK := Lib.hid hY
  have HR := Lib.hid hr
  have HY1 := Lib.hid hY1
  have HQ0 := Lib.hid hq0
  have hm1 := hm
  have HM1 := Lib.hid hm1
  clear hm1 h hY hr hY1 hZ hq0
  simp only [opL, pcs] at hm
  rw [hk0.2.2.2.1] at hm
  generalize hfr : m.words.length / 20 = fr at *
  refine callsIn_of_wp Tryz.func58 rfl trivial ((wpIn_wide (n := 0)).2 ?_) rfl
  simp only [Tryz.ntmps58, List.size_toArray, List.length_cons, List.length_nil, Nat.reduceAdd, Nat.reduceSub, Array.replicate_succ, Array.replicate_zero, List.push_toArray, List.append_toArray, List.nil_append, List.cons_append]
  go_wp2_with (first | go_skip | ((with_reducible show wpList _ _ _ _ _ (World.alloc _ _)); refine wpList_up hm ?_; clear hm; intro n w hn hn2 hk hm hd hd2 ho; (try rw [← hn]); replace hn := Nat.le_of_eq hn.symm) | ((first | ((with_reducible show wpList _ _ _ (Oper.mk _ (Op.box _ _) _ _ _ _ :: _) _ _); (refine bxA hm ?_; clear hm; intro n w hn hz hm ho; (try simp only [List.cons_append, List.nil_append] at hm))) | ((with_reducible show wpList _ _ _ (Oper.mk _ (Op.load _ _) _ _ _ _ :: _) _ _); first | (refine ldA hm ?_) | (refine laA hm ?_)) | ((with_reducible show wpList _ _ _ (Oper.mk _ (Op.store _ _ _) _ _ _ _ :: _) _ _); (refine stA hm ?_; clear hm; intro w hz hm ho)) | ((with_reducible show wpList _ _ _ (Oper.mk _ (Op.alloc _) _ _ _ _ :: _) _ _); (refine alA hm ?_; clear hm; intro n w hn hz hm ho; (try simp only [List.cons_append, List.nil_append] at hm)))); try simp only [Act.put, sxQ]))
  clear hm
  go_loopg [3, 8] fr (fun g2 v3 j wr => ∃ k : Nat, k + g2 = fr ∧ j = .int .i64 (k : Int) ∧ OpI w0 m x s k wr ∧ Y wr)
  case atStart => exact ⟨0, by omega, rfl, ⟨q0, HQ0.out, HM1.out⟩, HY1.out⟩
  case round =>
    clear HY1 HM1 HQ0 hk0
    obtain ⟨k, hkg, rfl, ⟨q, hq, hm⟩, hYk⟩ := hrel
    cases gk with
    | zero =>
      obtain rfl : k = fr := by omega
      go_wp2_with fail
      go_end0
      exact ⟨⟨_, rfl⟩, .inl ⟨⟨q, hq, hm⟩, hYk⟩⟩
    | succ g2 =>
      have ik : (k : Int) < (fr : Int) := by omega
      have hk0 := start_kept hq
      have hp := OpI.pat HOK.out hq hm
      have hHD := page_header hp k (by omega) (by omega)
      rw [hk0.1, hk0.2.2.1] at hHD
      have hHN : ∀ W', PAt W' x.g (fun k => k ∈ [x.g, s.gm, s.gw, s.gv, s.A, s.Ho]) s (q.p.more (Pg.header m (m.words.length / 24) k).2) → Only (fun z => z = x.g) wr W' → OpH w0 m x s k W' ∧ Y W' := fun W' h1 h2 => by
        refine ⟨⟨q, hq, by rw [hfr]; omega, ?_⟩, HYK.out _ _ hYk (KeepsOthers.of_only h2 fun z hz => ⟨_, _, hz ▸ hm.at_ 6 rfl⟩)⟩
        exact hm.put 6 rfl h2 h1.blk
      have hRk := HR.out k
      generalize Pg.header m (m.words.length / 24) k = hd at *
      have HHD := Lib.hid hHD
      have HHN := Lib.hid hHN
      have HRK := Lib.hid hRk
      have hm' := hm
      simp only [opL] at hm'
      clear hm hHD hHN hRk hp hk0 hq
      have hm := hm'
      clear hm'
      go_upto_region 3 with (first | go_skip | ((with_reducible show wpList _ _ _ _ _ (World.alloc _ _)); refine wpList_up hm ?_; clear hm; intro n w hn hn2 hk hm hd hd2 ho; (try rw [← hn]); replace hn := Nat.le_of_eq hn.symm) | ((first | ((with_reducible show wpList _ _ _ (Oper.mk _ (Op.box _ _) _ _ _ _ :: _) _ _); (refine bxA hm ?_; clear hm; intro n w hn hz hm ho; (try simp only [List.cons_append, List.nil_append] at hm))) | ((with_reducible show wpList _ _ _ (Oper.mk _ (Op.load _ _) _ _ _ _ :: _) _ _); first | (refine ldA hm ?_) | (refine laA hm ?_)) | ((with_reducible show wpList _ _ _ (Oper.mk _ (Op.store _ _ _) _ _ _ _ :: _) _ _); (refine stA hm ?_; clear hm; intro w hz hm ho)) | ((with_reducible show wpList _ _ _ (Oper.mk _ (Op.alloc _) _ _ _ _ :: _) _ _); (refine alA hm ?_; clear hm; intro n w hn hz hm ho; (try simp only [List.cons_append, List.nil_append] at hm)))); try simp only [Act.put, sxQ]))
      refine (wpIn_wide (n := 0)).1 (wpIn_region_lit ?_)
      refine list_in_split 5 (by kernel_rfl) ?_
      simp only [List.take_succ_cons, List.take_zero, List.drop_succ_cons, List.drop_zero]
      go_wp2_with (first | go_skip | ((with_reducible show wpList _ _ _ _ _ (World.alloc _ _)); refine wpList_up hm ?_; clear hm; intro n w hn hn2 hk hm hd hd2 ho; (try rw [← hn]); replace hn := Nat.le_of_eq hn.symm) | ((first | ((with_reducible show wpList _ _ _ (Oper.mk _ (Op.box _ _) _ _ _ _ :: _) _ _); (refine bxA hm ?_; clear hm; intro n w hn hz hm ho; (try simp only [List.cons_append, List.nil_append] at hm))) | ((with_reducible show wpList _ _ _ (Oper.mk _ (Op.load _ _) _ _ _ _ :: _) _ _); first | (refine ldA hm ?_) | (refine laA hm ?_)) | ((with_reducible show wpList _ _ _ (Oper.mk _ (Op.store _ _ _) _ _ _ _ :: _) _ _); (refine stA hm ?_; clear hm; intro w hz hm ho)) | ((with_reducible show wpList _ _ _ (Oper.mk _ (Op.alloc _) _ _ _ _ :: _) _ _); (refine alA hm ?_; clear hm; intro n w hn hz hm ho; (try simp only [List.cons_append, List.nil_append] at hm)))); try simp only [Act.put, sxQ]))
      go_at_call 59
      refine HHD.out.mono ?_
      rintro e w3 ⟨rfl, hp3, ho3⟩
      obtain ⟨hH3, hY3⟩ := HHN.out _ hp3 ho3
      go_wp2_with fail
      obtain ⟨fn, tm, asg, bdy, hy, hRd⟩ := HRK.out _ hH3 hY3
      have HRD := Lib.hid hRd
      clear hRd hH3 hY3 HRK HHN HHD hp3 ho3
      unfold Upto
      unfold hdV at hy ⊢
      gi_wp2
      refine ⟨rfl, HRD.out.mono ?_⟩
      clear hy HRD hm
      rintro e W4 (⟨rfl, hI4, hY4⟩ | ⟨rfl, c4, hX4, hZ4⟩)
      · gi_wp2
        go_wp2_with fail
        go_roundg g2
        case measure => omega
        case rel => exact ⟨k + 1, by omega, by go_num, hI4, hY4⟩
      · gi_wp2
        go_wp2_with fail
        refine bodyPost_ret (results_none rfl _ _ _) rfl ?_
        exact ⟨⟨_, rfl⟩, .inr ⟨c4, hX4, hZ4⟩⟩
end Go.Proofs.YtmhjddmamknglaaGreat
end

section
namespace Go.Proofs.YtmhjddmamknglaaGreat
set_option maxRecDepth 100000
set_option linter.unusedSimpArgs false
set_option linter.unusedVariables false
open Go.RowKit
set_option maxHeartbeats 8000000

/-- Behind the two slices that Open makes. -/
def OpCut (w0 : World) (gm n0 n2 n3 g n4 : Nat) (m : Cel.Mem) (wx : World) : Prop := ∃ qA qH, Mem (fun _ => False) w0 wx [⟨qH, 3, (ecells (List.replicate (n0 / 20) none)).toArray⟩, ⟨qA, 3, (ecells (List.replicate (n0 / 24) none)).toArray⟩, ⟨n2, 27, #[.pointer none]⟩, ⟨n3, 38, #[.int .i64 0]⟩,
  ⟨g, 66, #[.pointer (some ⟨gm, 0, none⟩), .int .i64 m.cuts, .int .i64 ((n0 : Int) / 24), .int .i64 ((n0 : Int) / 20), .int .i64 0, .int .i64 0, .slice (some ⟨qA, 0, none⟩) (n0 / 24) (n0 / 24), .slice (some ⟨qH, 0, none⟩) (n0 / 20) (n0 / 20), .slice none 0 0, .int .i64 0]⟩, ⟨n4, 27, #[.pointer (some ⟨g, 0, none⟩)]⟩] []
theorem spl_ncells (l : List Nat) (i : Nat) (hi : i < l.length) (v : Nat) : spl (ncells l).toArray i #[Value.int .i64 (v : Int)] = (ncells (l.set i v)).toArray := by
  unfold spl
  congr 1
  simp only [List.toList_toArray, List.size_toArray, List.length_cons, List.length_nil, Nat.zero_add]
  have h1 : i < (ncells l).length := by simpa [ncells] using hi
  have h2 : (ncells l).set i (Value.int .i64 (v : Int)) = (ncells l).take i ++ [Value.int .i64 (v : Int)] ++ (ncells l).drop (i + 1) := by
    rw [List.set_eq_take_append_cons_drop, if_pos h1]; simp
  rw [← h2]
  simp [ncells, List.map_set, I64]
theorem opI_own {w0 : World} {m : Cel.Mem} {x : OpS} {s : PgS} {B : Nat} (hB : w0.heap.size ≤ B) : OwnFrom B (OpI w0 m x s) := fun k W W' row hs hg hr => by
  obtain ⟨q, hq, hm⟩ := hs
  exact ⟨q, hq, hm.grown hg hr hB⟩
theorem opBad_own {w0 : World} {m : Cel.Mem} {x : OpS} {B : Nat} (hB : w0.heap.size ≤ B) : OwnFrom B (OpBad w0 m x) := fun c W W' row hs hg hr => by
  obtain ⟨h1, h2, h3, h4, h5⟩ := hs
  have h6 : Below w0.heap.size W W' := ⟨hg.os, hg.tape, hg.output, hg.size, fun k hk => by
    by_cases hk2 : k < W.heap.size
    · exact hg.block k hk2 (fun e => by have := (hr k e.symm).1; omega)
    · have := h3.size; omega⟩
  exact ⟨h1, h2, h3.trans h6, cell_kept h4 hg (fun r e => (hr r e).2), cell_kept h5 hg (fun r e => (hr r e).2)⟩
theorem Pg.opened_nil (m : Cel.Mem) : (Pg.start m).p = ⟨m, m.cuts, m.words.length / 24, m.words.length / 20, 0, 0, List.replicate (m.words.length / 24) none, List.replicate (m.words.length / 20) none, [], 0⟩ := rfl
theorem page_Open_on {w0 : World} {gm gw gv n0 cw cv : Nat} {m : Cel.Mem} (H : MemAt w0 gm gw gv n0 cw cv m) (hon : m.off = false) (h240 : 240 ≤ n0) {K : Int} (hK : Cel.Fine K m) (h0 : 0 ≤ K ∧ K ≤ 4611686018427387904) (hfrees : ∀ q, Pg.scan m (Pg.start m) (n0 / 20) = some q → 0 < (Pg.frees q.p.holds).length) :
    Calls Tryz.prog 15 #[.pointer (some ⟨gm, 0, none⟩)] w0 fun e w' => Below w0.heap.size w0 w' ∧ ((Pg.scan m (Pg.start m) (n0 / 20) = none ∧ e = .returned (.tuple #[.pointer none, .int .i64 9])) ∨
      ∃ g G s p, e = .returned (.tuple #[.pointer (some ⟨g, 0, none⟩), .int .i64 0]) ∧ Pg.Opened m p ∧ PAt w' g G s p ∧ s.gm = gm ∧ s.gw = gw ∧ s.gv = gv ∧ s.n = n0 ∧ s.cw = cw ∧ s.cv = cv ∧ (∀ q, G q → q = gm ∨ q = gw ∨ q = gv ∨ w0.heap.size ≤ q)) := by
  obtain ⟨ti, hi0, hz0, hz1, hz2⟩ := info_parts i_int'
  have hlen := H.len
  have hsmall := H.small
  have hm := Mem.nil (fun _ => False) w0
  have HM := Lib.hid H
  have HON := Lib.hid hon
  have HKK := Lib.hid hK
  have HFR := Lib.hid hfrees
  have hlt := H.lts
  have hPO := Lib.hid (fun (u : World) (h : MemAt u gm gw gv n0 cw cv m) => show Calls Tryz.prog 12 #[.pointer (some ⟨gm, 0, none⟩)] u fun e w' => e = .returned (.bool true) ∧ u = w' from (cell_Power h).mono fun e w' h2 => ⟨by rw [h2.1, hon]; rfl, h2.2⟩)
  have c24 : ((n0 / 24 : Nat) : Int) = (n0 : Int) / 24 := by simp
  have c20 : ((n0 / 20 : Nat) : Int) = (n0 : Int) / 20 := by simp
  have r24 : 1 ≤ n0 / 24 := by omega
  have r20 : 1 ≤ n0 / 20 := by omega
  have z0 : ((n0 : Int) == 0) = false := by rw [beq_eq_false_iff_ne]; omega
  have z1 : decide ((n0 : Int) < 240) = false := by rw [decide_eq_false_iff_not]; omega
  have mk : ∀ u : World, (Instr.makeSlice 64 (.int .i64 ((n0 : Int) / 20)) (.int .i64 ((n0 : Int) / 20))).run Tryz.prog u = .ok (.slice (some ⟨u.heap.size, 0, none⟩) (n0 / 20) (n0 / 20)) (u.alloc (.cells (List.replicate (n0 / 20) (I64 0)).toArray 3)) := fun u => by
    rw [← zz_cells]
    have h := run_make (P := Tryz.prog) u 64 3 ti (.int .i64 0) Tryz.underlying64 hi0 hz0 .i64 .i64 ((n0 : Int) / 20) ((n0 : Int) / 20) (by omega) (Int.le_refl _) (by rw [hz2]; omega) (by omega)
    have e : ((n0 : Int) / 20).toNat = n0 / 20 := by omega
    simpa [hz1, Value.cells, e] using h
  have HRA := Lib.hid (fun (u : World) (b : Nat) (hb : Blk u b 3 #[.int .i64 (-1)]) => show Calls Tryz.prog 40 #[.slice (some ⟨b, 0, none⟩) 1 1, .int .i64 ((n0 : Int) / 24)] u fun e w' => ∃ q, e = .returned (.slice (some ⟨q, 0, none⟩) (n0 / 24) (n0 / 24)) ∧ u.heap.size ≤ q ∧ Blk w' q 3 (ecells (List.replicate (n0 / 24) none)).toArray ∧ Below u.heap.size u w' by
    rw [← c24]
    exact slices_RepeatN ⟨b, 0, none⟩ 1 (n0 / 24) u (by rw [hb.cell]; rfl) hb.lt (by omega) (by omega))
  have HRH := Lib.hid (fun (u : World) (b : Nat) (hb : Blk u b 3 #[.int .i64 (-1)]) => show Calls Tryz.prog 40 #[.slice (some ⟨b, 0, none⟩) 1 1, .int .i64 ((n0 : Int) / 20)] u fun e w' => ∃ q, e = .returned (.slice (some ⟨q, 0, none⟩) (n0 / 20) (n0 / 20)) ∧ u.heap.size ≤ q ∧ Blk w' q 3 (ecells (List.replicate (n0 / 20) none)).toArray ∧ Below u.heap.size u w' by
    rw [← c20]
    exact slices_RepeatN ⟨b, 0, none⟩ 1 (n0 / 20) u (by rw [hb.cell]; rfl) hb.lt (by omega) (by omega))
  clear H hon hK hfrees
  refine calls_marks Tryz.func15 rfl ?_
  simp only [Tryz.ntmps15, List.size_toArray, List.length_cons, List.length_nil, Nat.reduceAdd, Nat.reduceSub, Array.replicate_succ, Array.replicate_zero, List.push_toArray, List.append_toArray, List.nil_append, List.cons_append]
  go_wp2_with (first | go_skip | ((with_reducible show wpList _ _ _ _ _ (World.alloc _ _)); refine wpList_up hm ?_; clear hm; intro n w hn hn2 hk hm hd hd2 ho; (try rw [← hn]); replace hn := Nat.le_of_eq hn.symm) | ((first | ((with_reducible show wpList _ _ _ (Oper.mk _ (Op.box _ _) _ _ _ _ :: _) _ _); (refine bxA hm ?_; clear hm; intro n w hn hz hm ho; (try simp only [List.cons_append, List.nil_append] at hm))) | ((with_reducible show wpList _ _ _ (Oper.mk _ (Op.load _ _) _ _ _ _ :: _) _ _); first | (refine ldA hm ?_) | (refine laA hm ?_)) | ((with_reducible show wpList _ _ _ (Oper.mk _ (Op.store _ _ _) _ _ _ _ :: _) _ _); (refine stA hm ?_; clear hm; intro w hz hm ho)) | ((with_reducible show wpList _ _ _ (Oper.mk _ (Op.alloc _) _ _ _ _ :: _) _ _); (refine alA hm ?_; clear hm; intro n w hn hz hm ho; (try simp only [List.cons_append, List.nil_append] at hm)))); try simp only [Act.put, sxQ]) | (go_at_call 38; refine (cell_Words (HM.out.below hm.low)).mono ?_; rintro e w2 ⟨rfl, rfl⟩) | (go_at_call 12; refine (hPO.out _ (HM.out.below hm.low)).mono ?_; rintro e w2 ⟨rfl, rfl⟩) | (go_at_call 39; refine (cell_Cuts (HM.out.below hm.low)).mono ?_; rintro e w2 ⟨rfl, rfl⟩))
  obtain ⟨n2, h9⟩ := hm.nm 0 rfl
  dsimp only at h9
  subst h9
  obtain ⟨n3, h9⟩ := hm.nm 1 rfl
  dsimp only at h9
  subst h9
  obtain ⟨g, h9⟩ := hm.nm 2 rfl
  dsimp only at h9
  subst h9
  obtain ⟨n4, h9⟩ := hm.nm 3 rfl
  dsimp only at h9
  subst h9
  go_cut [] from 36 to 53 (fun wx => OpCut w0 gm n0 n2 n3 g n4 m wx)
  case first =>
    refine wp_region_noPanic ?_
    refine wp_region_held_drew (S := fun u => Blk u n4 27 #[.pointer (some ⟨g, 0, none⟩)] ∧ u.cell? ⟨g, 2, none⟩ = some (.int .i64 ((n0 : Int) / 24)) ∧ u.cell? ⟨g, 3, none⟩ = some (.int .i64 ((n0 : Int) / 20))) (by kernel_rfl) (⟨(hm.at_ 3 rfl).drew, (hm.drew.at_ 2 rfl).cell 2, (hm.drew.at_ 2 rfl).cell 3⟩) (fun hHeld => ?_)
    refine wpAnyH_fresh (by repeat (first | apply Fresh.a | apply Fresh.b)) ?_
    replace hm := hm.drew
    have hS := hm
    refine takeY 0 ?_ hHeld ?_ ?_; rotate_left 1; (intro w9 h9; (with_reducible show (execOp _ (Oper.mk _ (Op.load _ _) _ _ _ _)).run _ _ = _); exact exec_ld h9.1 _ _ rfl rfl (by decide +kernel) _ (by first | done | exact rfl))
    try simp only [Act.put, sxQ]
    refine takeY 1 ?_ hHeld ?_ ?_; rotate_left 1; (intro w9 h9; (with_reducible show (execOp _ (Oper.mk _ (Op.load _ _) _ _ _ _)).run _ _ = _); exact exec_ld h9.1 _ _ rfl rfl (by decide +kernel) _ (by first | done | exact rfl))
    try simp only [Act.put, sxQ]
    refine takeY 3 ?_ hHeld ?_ ?_; rotate_left 1; (intro w9 h9; (with_reducible show (execOp _ (Oper.mk _ (Op.load _ _) _ _ _ _)).run _ _ = _); exact exec_ld h9.1 _ _ rfl rfl (by decide +kernel) _ (by first | done | exact rfl))
    try simp only [Act.put, sxQ]
    iterate 1 (refine wpAnyH_take3 (b := 4) (by repeat (first | apply Seek.a | apply Seek.b | apply Seek.c)) (by simp only [sxN]; first | done | exact rfl) ⟨?_, by kernel_rfl, by kernel_rfl, by kernel_rfl, fun _ _ _ h => h, Or.inl ⟨by rfl, ?_⟩, by assumption, ?_⟩; rotate_left 1; focus (intro w9 hSw; (try dsimp only at hSw); go_simp; try (with_reducible rfl)); try simp only [Act.put, sxQ])
    try simp only [Act.put, sxQ]
    iterate 1 (refine wpAnyH_take3 (b := 5) (by repeat (first | apply Seek.a | apply Seek.b | apply Seek.c)) (by simp only [sxN]; first | done | exact rfl) ⟨?_, by kernel_rfl, by kernel_rfl, by kernel_rfl, fun _ _ _ h => h, Or.inl ⟨by rfl, ?_⟩, by assumption, ?_⟩; rotate_left 1; focus (intro w9 hSw; (try dsimp only at hSw); go_simp; try (with_reducible rfl)); try simp only [Act.put, sxQ])
    try simp only [Act.put, sxQ]
    refine takeY 6 ?_ hHeld ?_ ?_; rotate_left 1; (intro w9 h9; (with_reducible show (execOp _ (Oper.mk _ (Op.load _ _) _ _ _ _)).run _ _ = _); exact exec_lc _ _ rfl _ rfl (by decide +kernel) _ h9.2.1 _ (by first | done | exact rfl))
    try simp only [Act.put, sxQ]
    refine takeY 9 ?_ hHeld ?_ ?_; rotate_left 1; (intro w9 h9; (with_reducible show (execOp _ (Oper.mk _ (Op.load _ _) _ _ _ _)).run _ _ = _); exact exec_ld h9.1 _ _ rfl rfl (by decide +kernel) _ (by first | done | exact rfl))
    try simp only [Act.put, sxQ]
    iterate 1 (refine wpAnyH_take3 (b := 10) (by repeat (first | apply Seek.a | apply Seek.b | apply Seek.c)) (by simp only [sxN]; first | done | exact rfl) ⟨?_, by kernel_rfl, by kernel_rfl, by kernel_rfl, fun _ _ _ h => h, Or.inl ⟨by rfl, ?_⟩, by assumption, ?_⟩; rotate_left 1; focus (intro w9 hSw; (try dsimp only at hSw); go_simp; try (with_reducible rfl)); try simp only [Act.put, sxQ])
    try simp only [Act.put, sxQ]
    iterate 1 (refine wpAnyH_take3 (b := 11) (by repeat (first | apply Seek.a | apply Seek.b | apply Seek.c)) (by simp only [sxN]; first | done | exact rfl) ⟨?_, by kernel_rfl, by kernel_rfl, by kernel_rfl, fun _ _ _ h => h, Or.inl ⟨by rfl, ?_⟩, by assumption, ?_⟩; rotate_left 1; focus (intro w9 hSw; (try dsimp only at hSw); go_simp; try (with_reducible rfl)); try simp only [Act.put, sxQ])
    try simp only [Act.put, sxQ]
    refine takeY 12 ?_ hHeld ?_ ?_; rotate_left 1; (intro w9 h9; (with_reducible show (execOp _ (Oper.mk _ (Op.load _ _) _ _ _ _)).run _ _ = _); exact exec_lc _ _ rfl _ rfl (by decide +kernel) _ h9.2.2 _ (by first | done | exact rfl))
    try simp only [Act.put, sxQ]
    refine wpAnyH_ready (rs := [2, 8]) (by kernel_rfl) (by simp) ?_
    refine AllReadyH.cons3 (by simp only [sxN]; first | done | exact rfl) (fun K hK => ?_) (AllReadyH.cons2 (by simp only [sxN]; first | done | exact rfl) (fun K hK => ?_))
    · rw [if_pos (by rfl)]
      go_simp
      refine K_up hm ?_
      intro b1 w1 hn1 hs1 hB1 hm1 hd1 hd1b hb1
      first | rw [← hn1] | rw [← (show b1 = w.heap.size from hn1)] | rw [← (show b1 = w4.heap.size from hn1)] | rw [← (show b1 = w9.heap.size from hn1)]
      have hm := hm1
      clear hm1 hn1
      replace hS := hS.below hb1
      refine hK.out _ _ (⟨hS.at_ 3 rfl, (hS.at_ 2 rfl).cell 2, (hS.at_ 2 rfl).cell 3⟩) (fun hHeld => ?_)
      clear hK K
      try simp only [Act.put, sxQ]
      refine wpAnyH_ready (rs := [7, 8]) (by kernel_rfl) (by simp) ?_
      refine AllReadyH.cons3 (by simp only [sxN]; first | done | exact rfl) (fun K hK => ?_) (AllReadyH.cons2 (by simp only [sxN]; first | done | exact rfl) (fun K hK => ?_))
      · rw [if_pos (by rfl)]
        go_simp
        refine (HRA.out _ b1 hB1).mono ?_
        rintro e w4 ⟨qA, rfl, hq9, hB9, hb9⟩
        replace hS := hS.below hb9
        replace hm := hm.gotB hb9 hq9 hB9
        go_simp
        refine hK.out _ _ (⟨hS.at_ 3 rfl, (hS.at_ 2 rfl).cell 2, (hS.at_ 2 rfl).cell 3⟩) (fun hHeld => ?_)
        clear hK K
        try simp only [Act.put, sxQ]
        refine wpAnyH_ready (rs := [8]) (by kernel_rfl) (by simp) ?_
        refine AllReadyH.cons2 (by simp only [sxN]; first | done | exact rfl) (fun K hK => ?_)
        rw [if_pos (by rfl)]
        go_simp
        refine K_up hm ?_
        intro b2 w1 hn1 hs1 hB2 hm1 hd1 hd1b hb1
        first | rw [← hn1] | rw [← (show b2 = w.heap.size from hn1)] | rw [← (show b2 = w4.heap.size from hn1)] | rw [← (show b2 = w9.heap.size from hn1)]
        have hm := hm1
        clear hm1 hn1
        replace hS := hS.below hb1
        refine hK.out _ _ (⟨hS.at_ 3 rfl, (hS.at_ 2 rfl).cell 2, (hS.at_ 2 rfl).cell 3⟩) (fun hHeld => ?_)
        clear hK K
        try simp only [Act.put, sxQ]
        refine wpAnyH_ready (rs := [13]) (by kernel_rfl) (by simp) ?_
        refine AllReadyH.cons2 (by simp only [sxN]; first | done | exact rfl) (fun K hK => ?_)
        rw [if_pos (by rfl)]
        go_simp
        refine (HRH.out _ b2 hB2).mono ?_
        rintro e w4 ⟨qH, rfl, hq9, hB9, hb9⟩
        replace hS := hS.below hb9
        replace hm := hm.gotB hb9 hq9 hB9
        go_simp
        refine hK.out _ _ (⟨hS.at_ 3 rfl, (hS.at_ 2 rfl).cell 2, (hS.at_ 2 rfl).cell 3⟩) (fun hHeld => ?_)
        clear hK K
        try simp only [Act.put, sxQ]
        iterate 1 (refine wpAnyH_take3 (b := 14) (by repeat (first | apply Seek.a | apply Seek.b | apply Seek.c)) (by simp only [sxN]; first | done | exact rfl) ⟨?_, by kernel_rfl, by kernel_rfl, by kernel_rfl, fun _ _ _ h => h, Or.inl ⟨by rfl, ?_⟩, by assumption, ?_⟩; rotate_left 1; focus (intro w9 hSw; (try dsimp only at hSw); go_simp; try (with_reducible rfl)); try simp only [Act.put, sxQ])
        try simp only [Act.put, sxQ]
        iterate 1 (refine wpAnyH_take3 (b := 15) (by repeat (first | apply Seek.a | apply Seek.b | apply Seek.c)) (by simp only [sxN]; first | done | exact rfl) ⟨?_, by kernel_rfl, by kernel_rfl, by kernel_rfl, fun _ _ _ h => h, Or.inl ⟨by rfl, ?_⟩, by assumption, ?_⟩; rotate_left 1; focus (intro w9 hSw; (try dsimp only at hSw); go_simp; try (with_reducible rfl)); try simp only [Act.put, sxQ])
        try simp only [Act.put, sxQ]
        refine wpAnyH_ready (rs := [16]) (by kernel_rfl) (by simp) ?_
        refine AllReadyH.cons2 (by simp only [sxN]; first | done | exact rfl) (fun K hK => ?_)
        refine stB hm ?_
        clear hm hS; intro w hz hm ho
        refine hK.out _ _ (⟨hm.at_ 5 rfl, (hm.at_ 4 rfl).cell 2, (hm.at_ 4 rfl).cell 3⟩) (fun hHeld => ?_)
        clear hK K
        try simp only [Act.put, sxQ]
        iterate 1 (refine wpAnyH_take3 (b := 17) (by repeat (first | apply Seek.a | apply Seek.b | apply Seek.c)) (by simp only [sxN]; first | done | exact rfl) ⟨?_, by kernel_rfl, by kernel_rfl, by kernel_rfl, fun _ _ _ h => h, Or.inl ⟨by rfl, ?_⟩, by assumption, ?_⟩; rotate_left 1; focus (intro w9 hSw; (try dsimp only at hSw); go_simp; try (with_reducible rfl)); try simp only [Act.put, sxQ])
        try simp only [Act.put, sxQ]
        iterate 1 (refine wpAnyH_take3 (b := 18) (by repeat (first | apply Seek.a | apply Seek.b | apply Seek.c)) (by simp only [sxN]; first | done | exact rfl) ⟨?_, by kernel_rfl, by kernel_rfl, by kernel_rfl, fun _ _ _ h => h, Or.inl ⟨by rfl, ?_⟩, by assumption, ?_⟩; rotate_left 1; focus (intro w9 hSw; (try dsimp only at hSw); go_simp; try (with_reducible rfl)); try simp only [Act.put, sxQ])
        try simp only [Act.put, sxQ]
        refine wpAnyH_ready (rs := [19]) (by kernel_rfl) (by simp) ?_
        refine AllReadyH.cons2 (by simp only [sxN]; first | done | exact rfl) (fun K hK => ?_)
        refine stB hm ?_
        clear hm; intro w hz hm ho
        refine hK.out _ _ (⟨hm.at_ 5 rfl, (hm.at_ 4 rfl).cell 2, (hm.at_ 4 rfl).cell 3⟩) (fun hHeld => ?_)
        clear hK K
        try simp only [Act.put, sxQ]
        refine wpAnyH_done (by kernel_rfl) ?_ _
        refine NoPanic.normal ?_
        go_wp2_with fail
        go_meet
        exact ⟨qA, qH, hm⟩
      · rw [if_pos (by rfl)]
        go_simp
        refine K_up hm ?_
        intro b2 w1 hn1 hs1 hB2 hm1 hd1 hd1b hb1
        first | rw [← hn1] | rw [← (show b2 = w.heap.size from hn1)] | rw [← (show b2 = w4.heap.size from hn1)] | rw [← (show b2 = w9.heap.size from hn1)]
        have hm := hm1
        clear hm1 hn1
        replace hS := hS.below hb1
        replace hB1 := hB1.below hb1 hB1.lt
        refine hK.out _ _ (⟨hS.at_ 3 rfl, (hS.at_ 2 rfl).cell 2, (hS.at_ 2 rfl).cell 3⟩) (fun hHeld => ?_)
        clear hK K
        try simp only [Act.put, sxQ]
        refine wpAnyH_ready (rs := [7]) (by kernel_rfl) (by simp) ?_
        refine AllReadyH.cons2 (by simp only [sxN]; first | done | exact rfl) (fun K hK => ?_)
        rw [if_pos (by rfl)]
        go_simp
        refine (HRA.out _ b1 hB1).mono ?_
        rintro e w4 ⟨qA, rfl, hq9, hB9, hb9⟩
        replace hS := hS.below hb9
        replace hm := hm.gotB hb9 hq9 hB9
        replace hB2 := hB2.below hb9 hB2.lt
        go_simp
        refine hK.out _ _ (⟨hS.at_ 3 rfl, (hS.at_ 2 rfl).cell 2, (hS.at_ 2 rfl).cell 3⟩) (fun hHeld => ?_)
        clear hK K
        try simp only [Act.put, sxQ]
        refine wpAnyH_ready (rs := [13]) (by kernel_rfl) (by simp) ?_
        refine AllReadyH.cons2 (by simp only [sxN]; first | done | exact rfl) (fun K hK => ?_)
        rw [if_pos (by rfl)]
        go_simp
        refine (HRH.out _ b2 hB2).mono ?_
        rintro e w4 ⟨qH, rfl, hq9, hB9, hb9⟩
        replace hS := hS.below hb9
        replace hm := hm.gotB hb9 hq9 hB9
        go_simp
        refine hK.out _ _ (⟨hS.at_ 3 rfl, (hS.at_ 2 rfl).cell 2, (hS.at_ 2 rfl).cell 3⟩) (fun hHeld => ?_)
        clear hK K
        try simp only [Act.put, sxQ]
        iterate 1 (refine wpAnyH_take3 (b := 14) (by repeat (first | apply Seek.a | apply Seek.b | apply Seek.c)) (by simp only [sxN]; first | done | exact rfl) ⟨?_, by kernel_rfl, by kernel_rfl, by kernel_rfl, fun _ _ _ h => h, Or.inl ⟨by rfl, ?_⟩, by assumption, ?_⟩; rotate_left 1; focus (intro w9 hSw; (try dsimp only at hSw); go_simp; try (with_reducible rfl)); try simp only [Act.put, sxQ])
        try simp only [Act.put, sxQ]
        iterate 1 (refine wpAnyH_take3 (b := 15) (by repeat (first | apply Seek.a | apply Seek.b | apply Seek.c)) (by simp only [sxN]; first | done | exact rfl) ⟨?_, by kernel_rfl, by kernel_rfl, by kernel_rfl, fun _ _ _ h => h, Or.inl ⟨by rfl, ?_⟩, by assumption, ?_⟩; rotate_left 1; focus (intro w9 hSw; (try dsimp only at hSw); go_simp; try (with_reducible rfl)); try simp only [Act.put, sxQ])
        try simp only [Act.put, sxQ]
        refine wpAnyH_ready (rs := [16]) (by kernel_rfl) (by simp) ?_
        refine AllReadyH.cons2 (by simp only [sxN]; first | done | exact rfl) (fun K hK => ?_)
        refine stB hm ?_
        clear hm hS; intro w hz hm ho
        refine hK.out _ _ (⟨hm.at_ 5 rfl, (hm.at_ 4 rfl).cell 2, (hm.at_ 4 rfl).cell 3⟩) (fun hHeld => ?_)
        clear hK K
        try simp only [Act.put, sxQ]
        iterate 1 (refine wpAnyH_take3 (b := 17) (by repeat (first | apply Seek.a | apply Seek.b | apply Seek.c)) (by simp only [sxN]; first | done | exact rfl) ⟨?_, by kernel_rfl, by kernel_rfl, by kernel_rfl, fun _ _ _ h => h, Or.inl ⟨by rfl, ?_⟩, by assumption, ?_⟩; rotate_left 1; focus (intro w9 hSw; (try dsimp only at hSw); go_simp; try (with_reducible rfl)); try simp only [Act.put, sxQ])
        try simp only [Act.put, sxQ]
        iterate 1 (refine wpAnyH_take3 (b := 18) (by repeat (first | apply Seek.a | apply Seek.b | apply Seek.c)) (by simp only [sxN]; first | done | exact rfl) ⟨?_, by kernel_rfl, by kernel_rfl, by kernel_rfl, fun _ _ _ h => h, Or.inl ⟨by rfl, ?_⟩, by assumption, ?_⟩; rotate_left 1; focus (intro w9 hSw; (try dsimp only at hSw); go_simp; try (with_reducible rfl)); try simp only [Act.put, sxQ])
        try simp only [Act.put, sxQ]
        refine wpAnyH_ready (rs := [19]) (by kernel_rfl) (by simp) ?_
        refine AllReadyH.cons2 (by simp only [sxN]; first | done | exact rfl) (fun K hK => ?_)
        refine stB hm ?_
        clear hm; intro w hz hm ho
        refine hK.out _ _ (⟨hm.at_ 5 rfl, (hm.at_ 4 rfl).cell 2, (hm.at_ 4 rfl).cell 3⟩) (fun hHeld => ?_)
        clear hK K
        try simp only [Act.put, sxQ]
        refine wpAnyH_done (by kernel_rfl) ?_ _
        refine NoPanic.normal ?_
        go_wp2_with fail
        go_meet
        exact ⟨qA, qH, hm⟩
    · rw [if_pos (by rfl)]
      go_simp
      refine K_up hm ?_
      intro b2 w1 hn1 hs1 hB2 hm1 hd1 hd1b hb1
      first | rw [← hn1] | rw [← (show b2 = w.heap.size from hn1)] | rw [← (show b2 = w4.heap.size from hn1)] | rw [← (show b2 = w9.heap.size from hn1)]
      have hm := hm1
      clear hm1 hn1
      replace hS := hS.below hb1
      refine hK.out _ _ (⟨hS.at_ 3 rfl, (hS.at_ 2 rfl).cell 2, (hS.at_ 2 rfl).cell 3⟩) (fun hHeld => ?_)
      clear hK K
      try simp only [Act.put, sxQ]
      refine wpAnyH_ready (rs := [2]) (by kernel_rfl) (by simp) ?_
      refine AllReadyH.cons2 (by simp only [sxN]; first | done | exact rfl) (fun K hK => ?_)
      rw [if_pos (by rfl)]
      go_simp
      refine K_up hm ?_
      intro b1 w1 hn1 hs1 hB1 hm1 hd1 hd1b hb1
      first | rw [← hn1] | rw [← (show b1 = w.heap.size from hn1)] | rw [← (show b1 = w4.heap.size from hn1)] | rw [← (show b1 = w9.heap.size from hn1)]
      have hm := hm1
      clear hm1 hn1
      replace hS := hS.below hb1
      replace hB2 := hB2.below hb1 hB2.lt
      refine hK.out _ _ (⟨hS.at_ 3 rfl, (hS.at_ 2 rfl).cell 2, (hS.at_ 2 rfl).cell 3⟩) (fun hHeld => ?_)
      clear hK K
      try simp only [Act.put, sxQ]
      refine wpAnyH_ready (rs := [7]) (by kernel_rfl) (by simp) ?_
      refine AllReadyH.cons2 (by simp only [sxN]; first | done | exact rfl) (fun K hK => ?_)
      rw [if_pos (by rfl)]
      go_simp
      refine (HRA.out _ b1 hB1).mono ?_
      rintro e w4 ⟨qA, rfl, hq9, hB9, hb9⟩
      replace hS := hS.below hb9
      replace hm := hm.gotB hb9 hq9 hB9
      replace hB2 := hB2.below hb9 hB2.lt
      go_simp
      refine hK.out _ _ (⟨hS.at_ 3 rfl, (hS.at_ 2 rfl).cell 2, (hS.at_ 2 rfl).cell 3⟩) (fun hHeld => ?_)
      clear hK K
      try simp only [Act.put, sxQ]
      refine wpAnyH_ready (rs := [13]) (by kernel_rfl) (by simp) ?_
      refine AllReadyH.cons2 (by simp only [sxN]; first | done | exact rfl) (fun K hK => ?_)
      rw [if_pos (by rfl)]
      go_simp
      refine (HRH.out _ b2 hB2).mono ?_
      rintro e w4 ⟨qH, rfl, hq9, hB9, hb9⟩
      replace hS := hS.below hb9
      replace hm := hm.gotB hb9 hq9 hB9
      go_simp
      refine hK.out _ _ (⟨hS.at_ 3 rfl, (hS.at_ 2 rfl).cell 2, (hS.at_ 2 rfl).cell 3⟩) (fun hHeld => ?_)
      clear hK K
      try simp only [Act.put, sxQ]
      iterate 1 (refine wpAnyH_take3 (b := 14) (by repeat (first | apply Seek.a | apply Seek.b | apply Seek.c)) (by simp only [sxN]; first | done | exact rfl) ⟨?_, by kernel_rfl, by kernel_rfl, by kernel_rfl, fun _ _ _ h => h, Or.inl ⟨by rfl, ?_⟩, by assumption, ?_⟩; rotate_left 1; focus (intro w9 hSw; (try dsimp only at hSw); go_simp; try (with_reducible rfl)); try simp only [Act.put, sxQ])
      try simp only [Act.put, sxQ]
      iterate 1 (refine wpAnyH_take3 (b := 15) (by repeat (first | apply Seek.a | apply Seek.b | apply Seek.c)) (by simp only [sxN]; first | done | exact rfl) ⟨?_, by kernel_rfl, by kernel_rfl, by kernel_rfl, fun _ _ _ h => h, Or.inl ⟨by rfl, ?_⟩, by assumption, ?_⟩; rotate_left 1; focus (intro w9 hSw; (try dsimp only at hSw); go_simp; try (with_reducible rfl)); try simp only [Act.put, sxQ])
      try simp only [Act.put, sxQ]
      refine wpAnyH_ready (rs := [16]) (by kernel_rfl) (by simp) ?_
      refine AllReadyH.cons2 (by simp only [sxN]; first | done | exact rfl) (fun K hK => ?_)
      refine stB hm ?_
      clear hm hS; intro w hz hm ho
      refine hK.out _ _ (⟨hm.at_ 5 rfl, (hm.at_ 4 rfl).cell 2, (hm.at_ 4 rfl).cell 3⟩) (fun hHeld => ?_)
      clear hK K
      try simp only [Act.put, sxQ]
      iterate 1 (refine wpAnyH_take3 (b := 17) (by repeat (first | apply Seek.a | apply Seek.b | apply Seek.c)) (by simp only [sxN]; first | done | exact rfl) ⟨?_, by kernel_rfl, by kernel_rfl, by kernel_rfl, fun _ _ _ h => h, Or.inl ⟨by rfl, ?_⟩, by assumption, ?_⟩; rotate_left 1; focus (intro w9 hSw; (try dsimp only at hSw); go_simp; try (with_reducible rfl)); try simp only [Act.put, sxQ])
      try simp only [Act.put, sxQ]
      iterate 1 (refine wpAnyH_take3 (b := 18) (by repeat (first | apply Seek.a | apply Seek.b | apply Seek.c)) (by simp only [sxN]; first | done | exact rfl) ⟨?_, by kernel_rfl, by kernel_rfl, by kernel_rfl, fun _ _ _ h => h, Or.inl ⟨by rfl, ?_⟩, by assumption, ?_⟩; rotate_left 1; focus (intro w9 hSw; (try dsimp only at hSw); go_simp; try (with_reducible rfl)); try simp only [Act.put, sxQ])
      try simp only [Act.put, sxQ]
      refine wpAnyH_ready (rs := [19]) (by kernel_rfl) (by simp) ?_
      refine AllReadyH.cons2 (by simp only [sxN]; first | done | exact rfl) (fun K hK => ?_)
      refine stB hm ?_
      clear hm; intro w hz hm ho
      refine hK.out _ _ (⟨hm.at_ 5 rfl, (hm.at_ 4 rfl).cell 2, (hm.at_ 4 rfl).cell 3⟩) (fun hHeld => ?_)
      clear hK K
      try simp only [Act.put, sxQ]
      refine wpAnyH_done (by kernel_rfl) ?_ _
      refine NoPanic.normal ?_
      go_wp2_with fail
      go_meet
      exact ⟨qA, qH, hm⟩
  case rest =>
    clear hm
    obtain ⟨qA, qH, hm⟩ := hcut
    go_wp2_with (first | ((with_reducible show wpList _ _ _ _ _ (World.alloc _ _)); refine wpList_up hm ?_; clear hm; intro V w hnV hnV2 hkV hm hdV hdV2 ho; (try rw [← hnV]); replace hnV := Nat.le_of_eq hnV.symm; replace hm := hm.cons hkV (.inr hnV2) (fun e he e2 => hdV e he e2.symm) hdV2; clear hkV hdV hdV2) | go_skip | ((with_reducible show wpList _ _ _ _ _ (World.alloc _ _)); refine wpList_up hm ?_; clear hm; intro n w hn hn2 hk hm hd hd2 ho; (try rw [← hn]); replace hn := Nat.le_of_eq hn.symm) | ((first | ((with_reducible show wpList _ _ _ (Oper.mk _ (Op.box _ _) _ _ _ _ :: _) _ _); (refine bxA hm ?_; clear hm; intro n w hn hz hm ho; (try simp only [List.cons_append, List.nil_append] at hm))) | ((with_reducible show wpList _ _ _ (Oper.mk _ (Op.load _ _) _ _ _ _ :: _) _ _); first | (refine ldA hm ?_) | (refine laA hm ?_)) | ((with_reducible show wpList _ _ _ (Oper.mk _ (Op.store _ _ _) _ _ _ _ :: _) _ _); (refine stA hm ?_; clear hm; intro w hz hm ho)) | ((with_reducible show wpList _ _ _ (Oper.mk _ (Op.alloc _) _ _ _ _ :: _) _ _); (refine alA hm ?_; clear hm; intro n w hn hz hm ho; (try simp only [List.cons_append, List.nil_append] at hm)))); try simp only [Act.put, sxQ]) | (go_at_call 41; refine (page_headers _ _).mono ?_; rintro e w8 ⟨pb, rfl, hpb, hBp, hbp⟩; replace hm := hm.gotB hbp hpb hBp))
    obtain ⟨n5, h9⟩ := hm.nm 8 rfl
    dsimp only at h9
    subst h9
    obtain ⟨s, hs⟩ : ∃ s : PgS, s = ⟨gm, gw, gv, n0, cw, cv, qA, n0 / 24, qH, n0 / 20, none, 0, [], []⟩ := ⟨_, rfl⟩
    obtain ⟨x, hx⟩ : ∃ x : OpS, x = ⟨n2, n3, g, n4, V, n5, pb⟩ := ⟨_, rfl⟩
    have hI0 : OpI w0 m x s 0 w8 := ⟨Pg.start m, rfl, by
      rw [hs, hx]
      have h9 := hm
      rw [← c24, ← c20] at h9
      simpa [opL, pcs, Pg.start, hlen, ncells, I64] using h9⟩
    have hOK : OpOk w0 m x s := ⟨by rw [hs]; exact HM.out, by rw [hs]⟩
    have hB8 : w0.heap.size ≤ w8.heap.size := hm.low.size
    refine wp_rangeF rfl (enters_of Tryz.func58 (by kernel_rfl) rfl) (fun k => rfl) (by rw [show pb = x.pb by rw [hx]]; exact page_iter hOK _) (fun _ => opI_own hB8 0) (fun _ => opI_own hB8 (m.words.length / 20)) (fun k => opI_own hB8 (k + 1)) (opBad_own hB8) hI0 ?round ?done ?stop
    case round =>
      rintro l k W ⟨q, hq, hkf, hm0⟩
      have hk0 := start_kept hq
      have hat := Pg.scan_at k q hq
      have hbd := Pg.scan_bad (m := m) (o := Pg.start m) (k := k)
      have hsc := Pg.scan_succ hq
      have hpg := fun i => @Pg.header_page m (m.words.length / 24) k i
      have hcn : (Pg.start m).p.count = m.words.length / 24 := rfl
      rw [hcn] at hbd hsc
      generalize Pg.header m (m.words.length / 24) k = hd at *
      obtain ⟨hdr, hc⟩ := hd
      obtain ⟨pg, ver, bad⟩ := hdr
      dsimp only [hdV] at *
      have hm := hm0.rebase
      subst hs
      subst hx
      simp only [opL, pcs, Pg.O.more] at hm
      gi_step
      refine region_in (by kernel_rfl) (fun _ _ h => h) ?_
      go_wp2_with (first | go_skip | ((with_reducible show wpList _ _ _ _ _ (World.alloc _ _)); refine wpList_up hm ?_; clear hm; intro n w hn hn2 hk hm hd hd2 ho; (try rw [← hn]); replace hn := Nat.le_of_eq hn.symm) | ((first | ((with_reducible show wpList _ _ _ (Oper.mk _ (Op.box _ _) _ _ _ _ :: _) _ _); (refine bxA hm ?_; clear hm; intro n w hn hz hm ho; (try simp only [List.cons_append, List.nil_append] at hm))) | ((with_reducible show wpList _ _ _ (Oper.mk _ (Op.load _ _) _ _ _ _ :: _) _ _); first | (refine ldA hm ?_) | (refine laA hm ?_)) | ((with_reducible show wpList _ _ _ (Oper.mk _ (Op.store _ _ _) _ _ _ _ :: _) _ _); (refine stA hm ?_; clear hm; intro w hz hm ho)) | ((with_reducible show wpList _ _ _ (Oper.mk _ (Op.alloc _) _ _ _ _ :: _) _ _); (refine alA hm ?_; clear hm; intro n w hn hz hm ho; (try simp only [List.cons_append, List.nil_append] at hm)))); try simp only [Act.put, sxQ]))
      refine region_in (by kernel_rfl) (fun _ _ h => h) ?_
      go_wp2_with (first | go_skip | ((with_reducible show wpList _ _ _ _ _ (World.alloc _ _)); refine wpList_up hm ?_; clear hm; intro n w hn hn2 hk hm hd hd2 ho; (try rw [← hn]); replace hn := Nat.le_of_eq hn.symm) | ((first | ((with_reducible show wpList _ _ _ (Oper.mk _ (Op.box _ _) _ _ _ _ :: _) _ _); (refine bxA hm ?_; clear hm; intro n w hn hz hm ho; (try simp only [List.cons_append, List.nil_append] at hm))) | ((with_reducible show wpList _ _ _ (Oper.mk _ (Op.load _ _) _ _ _ _ :: _) _ _); first | (refine ldA hm ?_) | (refine laA hm ?_)) | ((with_reducible show wpList _ _ _ (Oper.mk _ (Op.store _ _ _) _ _ _ _ :: _) _ _); (refine stA hm ?_; clear hm; intro w hz hm ho)) | ((with_reducible show wpList _ _ _ (Oper.mk _ (Op.alloc _) _ _ _ _ :: _) _ _); (refine alA hm ?_; clear hm; intro n w hn hz hm ho; (try simp only [List.cons_append, List.nil_append] at hm)))); try simp only [Act.put, sxQ]))
      refine ⟨KeepsOthers.of_mem hm0 hm, fun W₂ hbh => ?_⟩
      have hm1 := (hm0.backO hm).behind hbh hB8
      clear hm hm0
      obtain ⟨hv, h9⟩ := hm1.nm 9 rfl
      dsimp only at h9
      subst h9
      have hm := hm1.rebase
      simp only [List.nil_append] at hm1
      have HM1 := Lib.hid hm1
      clear hm1
      have hP : PAt W₂ g _ _ (q.p.more hc) := hOK.pat (q := q.more hc) (show Mem (fun _ => False) w0 W₂ (opL _ _ (q.more hc)) _ from HM1.out.takeL 9) hk0.1 hk0.2.2.2.2.2.1
      have hfail : (q.p.more hc).failure = 9 := by
        show (if (!q.p.m.off && (q.p.m.cuts == q.p.cuts)) then (9 : Int) else 7) = 9
        rw [hk0.1, hk0.2.1, HON.out]; simp
      have hFL := page_failure hP
      rw [hfail] at hFL
      have HFL := Lib.hid hFL
      have HSC := Lib.hid hsc
      have HBD := Lib.hid hbd
      have HPG := Lib.hid hpg
      have HK0 := Lib.hid hk0
      have HAT := Lib.hid hat
      have hkv : k < q.vs.length := by rw [HK0.out.2.2.2.2.2.2.2.2.1]; exact hkf
      have ikv : (k : Int) < (q.vs.length : Int) := by omega
      have pk : (0 : Int) ≤ (k : Int) := by omega
      have hlh : q.p.holds.length = m.words.length / 20 := HK0.out.2.2.2.2.2.2.2.1
      have hla : q.p.at_.length = m.words.length / 24 := HK0.out.2.2.2.2.2.2.1
      clear hP hfail hFL hsc hbd hpg hk0 hat
      gi_step
      gi_step
      gi_step
      refine region_in (by kernel_rfl) (fun _ _ h => h) ?_
      cases bad with
      | true =>
        go_wp2_with (first | go_skip | ((with_reducible show wpList _ _ _ _ _ (World.alloc _ _)); refine wpList_up hm ?_; clear hm; intro n w hn hn2 hk hm hd hd2 ho; (try rw [← hn]); replace hn := Nat.le_of_eq hn.symm) | ((first | ((with_reducible show wpList _ _ _ (Oper.mk _ (Op.box _ _) _ _ _ _ :: _) _ _); (refine bxA hm ?_; clear hm; intro n w hn hz hm ho; (try simp only [List.cons_append, List.nil_append] at hm))) | ((with_reducible show wpList _ _ _ (Oper.mk _ (Op.load _ _) _ _ _ _ :: _) _ _); first | (refine ldA hm ?_) | (refine laA hm ?_)) | ((with_reducible show wpList _ _ _ (Oper.mk _ (Op.store _ _ _) _ _ _ _ :: _) _ _); (refine stA hm ?_; clear hm; intro w hz hm ho)) | ((with_reducible show wpList _ _ _ (Oper.mk _ (Op.alloc _) _ _ _ _ :: _) _ _); (refine alA hm ?_; clear hm; intro n w hn hz hm ho; (try simp only [List.cons_append, List.nil_append] at hm)))); try simp only [Act.put, sxQ]))
        gi_step
        gi_step
        refine region_in (by kernel_rfl) (fun _ _ h => h) ?_
        go_wp2_with (first | go_skip | ((with_reducible show wpList _ _ _ _ _ (World.alloc _ _)); refine wpList_up hm ?_; clear hm; intro n w hn hn2 hk hm hd hd2 ho; (try rw [← hn]); replace hn := Nat.le_of_eq hn.symm) | ((first | ((with_reducible show wpList _ _ _ (Oper.mk _ (Op.box _ _) _ _ _ _ :: _) _ _); (refine bxA hm ?_; clear hm; intro n w hn hz hm ho; (try simp only [List.cons_append, List.nil_append] at hm))) | ((with_reducible show wpList _ _ _ (Oper.mk _ (Op.load _ _) _ _ _ _ :: _) _ _); first | (refine ldA hm ?_) | (refine laA hm ?_)) | ((with_reducible show wpList _ _ _ (Oper.mk _ (Op.store _ _ _) _ _ _ _ :: _) _ _); (refine stA hm ?_; clear hm; intro w hz hm ho)) | ((with_reducible show wpList _ _ _ (Oper.mk _ (Op.alloc _) _ _ _ _ :: _) _ _); (refine alA hm ?_; clear hm; intro n w hn hz hm ho; (try simp only [List.cons_append, List.nil_append] at hm)))); try simp only [Act.put, sxQ]) | (go_at_call 42; refine HFL.out.mono ?_; rintro e w3 ⟨rfl, hb3⟩; replace hm := hm.below hb3))
        gi_step
        exact ⟨KeepsOthers.of_mem HM1.out hm, rfl, HBD.out (by first | trivial | rfl) _ hkf, (HM1.out.backO hm).low, (hm.at_ 4 rfl).cell 0, (hm.at_ 5 rfl).cell 0⟩
      | false =>
        go_wp2_with (first | go_skip | ((with_reducible show wpList _ _ _ _ _ (World.alloc _ _)); refine wpList_up hm ?_; clear hm; intro n w hn hn2 hk hm hd hd2 ho; (try rw [← hn]); replace hn := Nat.le_of_eq hn.symm) | ((first | ((with_reducible show wpList _ _ _ (Oper.mk _ (Op.box _ _) _ _ _ _ :: _) _ _); (refine bxA hm ?_; clear hm; intro n w hn hz hm ho; (try simp only [List.cons_append, List.nil_append] at hm))) | ((with_reducible show wpList _ _ _ (Oper.mk _ (Op.load _ _) _ _ _ _ :: _) _ _); first | (refine ldA hm ?_) | (refine laA hm ?_)) | ((with_reducible show wpList _ _ _ (Oper.mk _ (Op.store _ _ _) _ _ _ _ :: _) _ _); (refine stA hm ?_; clear hm; intro w hz hm ho)) | ((with_reducible show wpList _ _ _ (Oper.mk _ (Op.alloc _) _ _ _ _ :: _) _ _); (refine alA hm ?_; clear hm; intro n w hn hz hm ho; (try simp only [List.cons_append, List.nil_append] at hm)))); try simp only [Act.put, sxQ]))
        gi_step
        gi_step
        gi_step
        gi_step
        gi_step
        refine region_in (by kernel_rfl) (fun _ _ h => h) ?_
        cases pg with
        | none =>
          have he : Pg.enc none = -1 := rfl
          go_wp2_with (first | ((with_reducible show wpList _ _ _ (Oper.mk _ (Op.store _ (Operand.tmp 71) _) _ _ _ _ :: _) _ _); refine stA hm ?_ (hcs := spl_ncells _ _ hkv ver) (hin := by simp [ncells]; omega); clear hm; intro w hz hm ho; (try simp only [Act.put, sxQ])) | go_skip | ((with_reducible show wpList _ _ _ _ _ (World.alloc _ _)); refine wpList_up hm ?_; clear hm; intro n w hn hn2 hk hm hd hd2 ho; (try rw [← hn]); replace hn := Nat.le_of_eq hn.symm) | ((first | ((with_reducible show wpList _ _ _ (Oper.mk _ (Op.box _ _) _ _ _ _ :: _) _ _); (refine bxA hm ?_; clear hm; intro n w hn hz hm ho; (try simp only [List.cons_append, List.nil_append] at hm))) | ((with_reducible show wpList _ _ _ (Oper.mk _ (Op.load _ _) _ _ _ _ :: _) _ _); first | (refine ldA hm ?_) | (refine laA hm ?_)) | ((with_reducible show wpList _ _ _ (Oper.mk _ (Op.store _ _ _) _ _ _ _ :: _) _ _); (refine stA hm ?_; clear hm; intro w hz hm ho)) | ((with_reducible show wpList _ _ _ (Oper.mk _ (Op.alloc _) _ _ _ _ :: _) _ _); (refine alA hm ?_; clear hm; intro n w hn hz hm ho; (try simp only [List.cons_append, List.nil_append] at hm)))); try simp only [Act.put, sxQ]))
          gi_step
          gi_step
          refine region_in (by kernel_rfl) (fun _ _ h => h) ?_
          go_wp2_with (first | go_skip | ((with_reducible show wpList _ _ _ _ _ (World.alloc _ _)); refine wpList_up hm ?_; clear hm; intro n w hn hn2 hk hm hd hd2 ho; (try rw [← hn]); replace hn := Nat.le_of_eq hn.symm) | ((first | ((with_reducible show wpList _ _ _ (Oper.mk _ (Op.box _ _) _ _ _ _ :: _) _ _); (refine bxA hm ?_; clear hm; intro n w hn hz hm ho; (try simp only [List.cons_append, List.nil_append] at hm))) | ((with_reducible show wpList _ _ _ (Oper.mk _ (Op.load _ _) _ _ _ _ :: _) _ _); first | (refine ldA hm ?_) | (refine laA hm ?_)) | ((with_reducible show wpList _ _ _ (Oper.mk _ (Op.store _ _ _) _ _ _ _ :: _) _ _); (refine stA hm ?_; clear hm; intro w hz hm ho)) | ((with_reducible show wpList _ _ _ (Oper.mk _ (Op.alloc _) _ _ _ _ :: _) _ _); (refine alA hm ?_; clear hm; intro n w hn hz hm ho; (try simp only [List.cons_append, List.nil_append] at hm)))); try simp only [Act.put, sxQ]))
          gi_step
          gi_step
          gi_step
          refine ⟨KeepsOthers.of_mem HM1.out hm, _, HSC.out (by first | trivial | rfl), ?_⟩
          have h9 := (HM1.out.backO hm).takeL 9
          simpa [opL, pcs, Pg.O.next, Pg.O.more] using h9
        | some i =>
          have he : Pg.enc (some i) = (i : Int) := rfl
          have hie : ((i : Int) == -1) = false := by rw [beq_eq_false_iff_ne]; omega
          have hi := HPG.out i rfl
          rw [← hla] at hi
          have ia : (i : Int) < (q.p.at_.length : Int) := by omega
          have emx : ((max q.p.version ver : Nat) : Int) = max (q.p.version : Int) (ver : Int) := by omega
          have EMX := Lib.hid emx
          clear emx
          have ia2 : (i : Int) < (n0 : Int) / 24 := by omega
          have ik2 : (k : Int) < (n0 : Int) / 20 := by omega
          have pi : (0 : Int) ≤ (i : Int) := by omega
          go_wp2_with (first | ((with_reducible show wpList _ _ _ (Oper.mk _ (Op.store _ (Operand.tmp 71) _) _ _ _ _ :: _) _ _); refine stA hm ?_ (hcs := spl_ncells _ _ hkv ver) (hin := by simp [ncells]; omega); clear hm; intro w hz hm ho; (try simp only [Act.put, sxQ])) | go_skip | ((with_reducible show wpList _ _ _ _ _ (World.alloc _ _)); refine wpList_up hm ?_; clear hm; intro n w hn hn2 hk hm hd hd2 ho; (try rw [← hn]); replace hn := Nat.le_of_eq hn.symm) | ((first | ((with_reducible show wpList _ _ _ (Oper.mk _ (Op.box _ _) _ _ _ _ :: _) _ _); (refine bxA hm ?_; clear hm; intro n w hn hz hm ho; (try simp only [List.cons_append, List.nil_append] at hm))) | ((with_reducible show wpList _ _ _ (Oper.mk _ (Op.load _ _) _ _ _ _ :: _) _ _); first | (refine ldA hm ?_) | (refine laA hm ?_)) | ((with_reducible show wpList _ _ _ (Oper.mk _ (Op.store _ _ _) _ _ _ _ :: _) _ _); (refine stA hm ?_; clear hm; intro w hz hm ho)) | ((with_reducible show wpList _ _ _ (Oper.mk _ (Op.alloc _) _ _ _ _ :: _) _ _); (refine alA hm ?_; clear hm; intro n w hn hz hm ho; (try simp only [List.cons_append, List.nil_append] at hm)))); try simp only [Act.put, sxQ]))
          gi_step
          gi_step
          refine region_in (by kernel_rfl) (fun _ _ h => h) ?_
          go_wp2_with (first | go_skip | ((with_reducible show wpList _ _ _ _ _ (World.alloc _ _)); refine wpList_up hm ?_; clear hm; intro n w hn hn2 hk hm hd hd2 ho; (try rw [← hn]); replace hn := Nat.le_of_eq hn.symm) | ((first | ((with_reducible show wpList _ _ _ (Oper.mk _ (Op.box _ _) _ _ _ _ :: _) _ _); (refine bxA hm ?_; clear hm; intro n w hn hz hm ho; (try simp only [List.cons_append, List.nil_append] at hm))) | ((with_reducible show wpList _ _ _ (Oper.mk _ (Op.load _ _) _ _ _ _ :: _) _ _); first | (refine ldA hm ?_) | (refine laA hm ?_)) | ((with_reducible show wpList _ _ _ (Oper.mk _ (Op.store _ _ _) _ _ _ _ :: _) _ _); (refine stA hm ?_; clear hm; intro w hz hm ho)) | ((with_reducible show wpList _ _ _ (Oper.mk _ (Op.alloc _) _ _ _ _ :: _) _ _); (refine alA hm ?_; clear hm; intro n w hn hz hm ho; (try simp only [List.cons_append, List.nil_append] at hm)))); try simp only [Act.put, sxQ]))
          gi_step
          gi_step
          gi_step
          gi_step
          gi_step
          refine drawn_in (by kernel_rfl) (by kernel_rfl) (fun _ _ h => h) ?_
          refine anyP_start (S := MemS _ _ _ _) [10] (MemS.of hm.drew) (fun hHeld => ?_)
          refine wpAnyP_fresh (by repeat (first | apply Fresh.a | apply Fresh.b)) ?_
          replace hm := hm.drew
          iterate 8 (first | (refine takePN 0 hHeld ?_) | (refine takePY 0 ?_ hHeld ?_ ?_; rotate_left 1; (first | (intro w9 h9; (with_reducible show (execOp _ (Oper.mk _ (Op.load _ _) _ _ _ _)).run _ _ = _); first | exact h9.ldA | exact h9.laA) | focus (intro w9 hSw; go_simp; (try (with_reducible rfl)); done))); try simp only [Act.put, sxQ])
          iterate 1 (refine wpAnyP_takeP (b := 8) (by repeat (first | apply Seek.a | apply Seek.b | apply Seek.c)) (by simp only [sxN]; first | done | exact rfl) ⟨?_, by kernel_rfl, by kernel_rfl, by kernel_rfl, by kernel_rfl, fun _ _ _ h => h, Or.inl ⟨by rfl, ?_⟩, (by first | exact Early.of hHeld | exact Early.off (by kernel_rfl)), ?_⟩; rotate_left 1; focus (intro w9 hSw; go_simp; (try (with_reducible rfl)); done); try simp only [Act.put, sxQ])
          try simp only [Act.put, sxQ]
          iterate 1 (refine wpAnyP_takeP (b := 9) (by repeat (first | apply Seek.a | apply Seek.b | apply Seek.c)) (by simp only [sxN]; first | done | exact rfl) ⟨?_, by kernel_rfl, by kernel_rfl, by kernel_rfl, by kernel_rfl, fun _ _ _ h => h, Or.inl ⟨by rfl, ?_⟩, (by first | exact Early.of hHeld | exact Early.off (by kernel_rfl)), ?_⟩; rotate_left 1; focus (intro w9 hSw; go_simp; (try (with_reducible rfl)); done); try simp only [Act.put, sxQ])
          try simp only [Act.put, sxQ]
          refine wpAnyP_last 10 (by kernel_rfl) (by simp only [sxN]; first | done | exact rfl) (by kernel_rfl) (fun K hK => ?_)
          refine stB hm ?_
          clear hm; intro w hz hm ho
          refine hK.out _ _ ?_
          clear hK K
          try simp only [Act.put, sxQ]
          refine wpAnyP_done (by kernel_rfl) ?_ _
          refine NoPanic.normal ?_
          gi_step
          gi_step
          gi_step
          gi_step
          cases ha : q.p.at_.getD i none with
          | none =>
            have CA := Lib.hid (fun (u : World) (h : Blk u qA 3 (ecells q.p.at_ ++ []).toArray) => show u.cell? ⟨qA, i, none⟩ = some (.int .i64 (-1)) by have := cells_at q.p.at_ [] i hi h; rwa [ha] at this)
            refine drawn_in (by kernel_rfl) (by kernel_rfl) (fun _ _ h => h) ?_
            refine anyH_start (S := MemS _ _ _ _) (MemS.of hm.drew) (fun hHeld => ?_)
            refine wpAnyH_fresh (by repeat (first | apply Fresh.a | apply Fresh.b)) ?_
            replace hm := hm.drew
            iterate 9 (first | (refine takeN 0 hHeld ?_) | (refine takeY 0 ?_ hHeld ?_ ?_; rotate_left 1; (first | (intro w9 h9; (with_reducible show (execOp _ (Oper.mk _ (Op.load _ _) _ _ _ _)).run _ _ = _); first | exact h9.ldA | (exact exec_lc _ _ rfl _ rfl (by decide +kernel) _ (CA.out _ ((MemS.mem h9).at_ 3 rfl)) _ (by first | done | exact rfl)) | exact h9.laA) | focus (intro w9 hSw; go_simp; (try (with_reducible rfl)); done))); try simp only [Act.put, sxQ])
            refine wpAnyH_done (by kernel_rfl) ?_ _
            refine NoPanic.normal ?_
            gi_step
            gi_step
            gi_step
            refine region_in (by kernel_rfl) (fun _ _ h => h) ?_
            go_wp2_with (first | go_skip | ((with_reducible show wpList _ _ _ _ _ (World.alloc _ _)); refine wpList_up hm ?_; clear hm; intro n w hn hn2 hk hm hd hd2 ho; (try rw [← hn]); replace hn := Nat.le_of_eq hn.symm) | ((first | ((with_reducible show wpList _ _ _ (Oper.mk _ (Op.box _ _) _ _ _ _ :: _) _ _); (refine bxA hm ?_; clear hm; intro n w hn hz hm ho; (try simp only [List.cons_append, List.nil_append] at hm))) | ((with_reducible show wpList _ _ _ (Oper.mk _ (Op.load _ _) _ _ _ _ :: _) _ _); first | (refine ldA hm ?_) | (refine laA hm ?_)) | ((with_reducible show wpList _ _ _ (Oper.mk _ (Op.store _ _ _) _ _ _ _ :: _) _ _); (refine stA hm ?_; clear hm; intro w hz hm ho)) | ((with_reducible show wpList _ _ _ (Oper.mk _ (Op.alloc _) _ _ _ _ :: _) _ _); (refine alA hm ?_; clear hm; intro n w hn hz hm ho; (try simp only [List.cons_append, List.nil_append] at hm)))); try simp only [Act.put, sxQ]))
            gi_step
            gi_step
            gi_step
            gi_step
            have hw9 := (hm.drew.wo 3).wo 2
            simp only [List.eraseIdx_cons_zero, List.eraseIdx_cons_succ] at hw9
            refine drawn_in (by kernel_rfl) (by kernel_rfl) (fun _ _ h => h) ?_
            refine anyH_start (S := MemS _ _ _ _) (MemS.of hw9) (fun hHeld => ?_)
            refine wpAnyH_fresh (by repeat (first | apply Fresh.a | apply Fresh.b)) ?_
            clear hw9
            replace hm := hm.drew
            iterate 15 (first | (refine takeN 0 hHeld ?_) | (refine takeY 0 ?_ hHeld ?_ ?_; rotate_left 1; (first | (intro w9 h9; (with_reducible show (execOp _ (Oper.mk _ (Op.load _ _) _ _ _ _)).run _ _ = _); first | exact h9.ldA) | focus (intro w9 hSw; go_simp; (try (with_reducible rfl)); done))); try simp only [Act.put, sxQ])
            refine wpAnyH_ready (rs := [15]) (by kernel_rfl) (by simp) ?_
            refine AllReadyH.cons2 (by simp only [sxN]; first | done | exact rfl) (fun K hK => ?_)
            refine stB hm ?_ (hcs := spl_cells q.p.at_ [] i hi (some k)) (hin := by simp [ecells]; omega)
            clear hm; intro w hz hm ho
            have hw9 := (hm.wo 3).wo 2
            simp only [List.eraseIdx_cons_zero, List.eraseIdx_cons_succ] at hw9
            refine hK.out _ _ (MemS.of hw9) (fun hHeld => ?_)
            clear hK K
            try simp only [Act.put, sxQ]
            clear hw9
            iterate 1 (first | (refine takeN 16 hHeld ?_) | (refine takeY 16 ?_ hHeld ?_ ?_; rotate_left 1; (first | (intro w9 h9; (with_reducible show (execOp _ (Oper.mk _ (Op.load _ _) _ _ _ _)).run _ _ = _); first | exact h9.ldA) | focus (intro w9 hSw; go_simp; (try (with_reducible rfl)); done))); try simp only [Act.put, sxQ])
            refine wpAnyH_ready (rs := [17]) (by kernel_rfl) (by simp) ?_
            refine AllReadyH.cons2 (by simp only [sxN]; first | done | exact rfl) (fun K hK => ?_)
            refine stB hm ?_ (hcs := spl_cells _ [] k (by rw [hlh]; omega) (some i)) (hin := by simp [ecells]; omega)
            clear hm; intro w hz hm ho
            have hw9 := (hm.wo 3).wo 2
            simp only [List.eraseIdx_cons_zero, List.eraseIdx_cons_succ] at hw9
            refine hK.out _ _ (MemS.of hw9) (fun hHeld => ?_)
            clear hK K
            try simp only [Act.put, sxQ]
            clear hw9
            refine wpAnyH_done (by kernel_rfl) ?_ _
            refine NoPanic.normal ?_
            gi_step
            refine ⟨KeepsOthers.of_mem HM1.out hm, _, HSC.out (by first | trivial | rfl), ?_⟩
            have h9 := (HM1.out.backO hm).takeL 9
            have e9 : (q.more hc).next k ⟨some i, ver, false⟩ = { p := { q.p with version := max q.p.version ver, fixed := q.p.fixed + hc, holds := q.p.holds.set k (some i), at_ := q.p.at_.set i (some k) }, vs := q.vs.set k ver } := by
              unfold Pg.O.next
              simp only [Pg.O.more, ha]
            rw [e9]
            simpa [opL, pcs, EMX.out] using h9
          | some old =>
            have hoe : ((old : Int) != -1) = true := by rw [bne_iff_ne]; omega
            have hold := HAT.out i old ha
            have CA := Lib.hid (fun (u : World) (h : Blk u qA 3 (ecells q.p.at_ ++ []).toArray) => show u.cell? ⟨qA, i, none⟩ = some (.int .i64 (old : Int)) by have := cells_at q.p.at_ [] i hi h; rwa [ha] at this)
            have CV := Lib.hid (fun (u : World) (h : Blk u V 3 (ncells (q.vs.set k ver)).toArray) => vcell (q.vs.set k ver) old (by rw [List.length_set, HK0.out.2.2.2.2.2.2.2.2.1]; omega) h)
            have io2 : (old : Int) < (n0 : Int) / 20 := by omega
            have io3 : (old : Int) < (q.vs.length : Int) := by rw [HK0.out.2.2.2.2.2.2.2.2.1]; omega
            have po : (0 : Int) ≤ (old : Int) := by omega
            refine drawn_in (by kernel_rfl) (by kernel_rfl) (fun _ _ h => h) ?_
            refine anyH_start (S := MemS _ _ _ _) (MemS.of hm.drew) (fun hHeld => ?_)
            refine wpAnyH_fresh (by repeat (first | apply Fresh.a | apply Fresh.b)) ?_
            replace hm := hm.drew
            iterate 9 (first | (refine takeN 0 hHeld ?_) | (refine takeY 0 ?_ hHeld ?_ ?_; rotate_left 1; (first | (intro w9 h9; (with_reducible show (execOp _ (Oper.mk _ (Op.load _ _) _ _ _ _)).run _ _ = _); first | exact h9.ldA | (exact exec_lc _ _ rfl _ rfl (by decide +kernel) _ (CA.out _ ((MemS.mem h9).at_ 3 rfl)) _ (by first | done | exact rfl)) | exact h9.laA) | focus (intro w9 hSw; go_simp; (try (with_reducible rfl)); done))); try simp only [Act.put, sxQ])
            refine wpAnyH_done (by kernel_rfl) ?_ _
            refine NoPanic.normal ?_
            gi_step
            gi_step
            gi_step
            refine region_in (by kernel_rfl) (fun _ _ h => h) ?_
            go_wp2_with (first | go_skip | ((with_reducible show wpList _ _ _ _ _ (World.alloc _ _)); refine wpList_up hm ?_; clear hm; intro n w hn hn2 hk hm hd hd2 ho; (try rw [← hn]); replace hn := Nat.le_of_eq hn.symm) | ((first | ((with_reducible show wpList _ _ _ (Oper.mk _ (Op.box _ _) _ _ _ _ :: _) _ _); (refine bxA hm ?_; clear hm; intro n w hn hz hm ho; (try simp only [List.cons_append, List.nil_append] at hm))) | ((with_reducible show wpList _ _ _ (Oper.mk _ (Op.load _ _) _ _ _ _ :: _) _ _); first | (refine ldA hm ?_) | (refine laA hm ?_)) | ((with_reducible show wpList _ _ _ (Oper.mk _ (Op.store _ _ _) _ _ _ _ :: _) _ _); (refine stA hm ?_; clear hm; intro w hz hm ho)) | ((with_reducible show wpList _ _ _ (Oper.mk _ (Op.alloc _) _ _ _ _ :: _) _ _); (refine alA hm ?_; clear hm; intro n w hn hz hm ho; (try simp only [List.cons_append, List.nil_append] at hm)))); try simp only [Act.put, sxQ]))
            gi_step
            gi_step
            gi_step
            have e9 : (q.more hc).next k ⟨some i, ver, false⟩ = (if ver < (q.vs.set k ver).getD old 0 then { p := { q.p with version := max q.p.version ver, fixed := q.p.fixed + hc }, vs := q.vs.set k ver } else { p := { q.p with version := max q.p.version ver, fixed := q.p.fixed + hc, holds := (q.p.holds.set old none).set k (some i), at_ := q.p.at_.set i (some k) }, vs := q.vs.set k ver }) := by
              unfold Pg.O.next
              simp only [Pg.O.more, ha]
              rfl
            have hy9 : ∃ y, y = (q.vs.set k ver).getD old 0 := ⟨_, rfl⟩
            obtain ⟨y, hy⟩ := hy9
            rw [← hy] at e9 CV
            clear hy
            by_cases hlt : ver < y
            · rw [if_pos hlt] at e9
              have E9 := Lib.hid e9
              clear e9
              have hd1 : decide (ver < y) = true := decide_eq_true hlt
              have hd2 : decide ((ver : Int) < (y : Int)) = true := decide_eq_true (by omega)
              refine drawn_in (by kernel_rfl) (by kernel_rfl) (fun _ _ h => h) ?_
              refine anyH_start (S := MemS _ _ _ _) (MemS.of hm.drew) (fun hHeld => ?_)
              refine wpAnyH_fresh (by repeat (first | apply Fresh.a | apply Fresh.b)) ?_
              replace hm := hm.drew
              iterate 7 (first | (refine takeN 0 hHeld ?_) | (refine takeY 0 ?_ hHeld ?_ ?_; rotate_left 1; (first | (intro w9 h9; (with_reducible show (execOp _ (Oper.mk _ (Op.load _ _) _ _ _ _)).run _ _ = _); first | exact h9.ldA | (exact exec_lc _ _ rfl _ rfl (by decide +kernel) _ (CV.out _ ((MemS.mem h9).at_ 1 rfl)) _ (by first | done | exact rfl)) | exact h9.laA) | focus (intro w9 hSw; go_simp; (try (with_reducible rfl)); done))); try simp only [Act.put, sxQ])
              refine wpAnyH_done (by kernel_rfl) ?_ _
              refine NoPanic.normal ?_
              gi_step
              gi_step
              gi_step
              gi_step
              gi_step
              refine ⟨KeepsOthers.of_mem HM1.out hm, _, HSC.out (by first | trivial | rfl), ?_⟩
              have h9 := (HM1.out.backO hm).takeL 9
              rw [E9.out]
              simpa [opL, pcs, EMX.out] using h9
            · rw [if_neg hlt] at e9
              have E9 := Lib.hid e9
              clear e9
              have hd1 : decide (ver < y) = false := decide_eq_false hlt
              have hd2 : decide ((ver : Int) < (y : Int)) = false := decide_eq_false (by omega)
              refine drawn_in (by kernel_rfl) (by kernel_rfl) (fun _ _ h => h) ?_
              refine anyH_start (S := MemS _ _ _ _) (MemS.of hm.drew) (fun hHeld => ?_)
              refine wpAnyH_fresh (by repeat (first | apply Fresh.a | apply Fresh.b)) ?_
              replace hm := hm.drew
              iterate 7 (first | (refine takeN 0 hHeld ?_) | (refine takeY 0 ?_ hHeld ?_ ?_; rotate_left 1; (first | (intro w9 h9; (with_reducible show (execOp _ (Oper.mk _ (Op.load _ _) _ _ _ _)).run _ _ = _); first | exact h9.ldA | (exact exec_lc _ _ rfl _ rfl (by decide +kernel) _ (CV.out _ ((MemS.mem h9).at_ 1 rfl)) _ (by first | done | exact rfl)) | exact h9.laA) | focus (intro w9 hSw; go_simp; (try (with_reducible rfl)); done))); try simp only [Act.put, sxQ])
              refine wpAnyH_done (by kernel_rfl) ?_ _
              refine NoPanic.normal ?_
              gi_step
              gi_step
              gi_step
              gi_step
              gi_step
              gi_step
              refine region_in (by kernel_rfl) (fun _ _ h => h) ?_
              go_wp2_with (first | ((with_reducible show wpList _ _ _ (Oper.mk _ (Op.store _ (Operand.tmp 107) _) _ _ _ _ :: _) _ _); refine stA hm ?_ (hcs := spl_cells q.p.holds [] old (by rw [hlh]; omega) none) (hin := by simp [ecells]; omega); clear hm; intro w hz hm ho; (try simp only [Act.put, sxQ])) | go_skip | ((with_reducible show wpList _ _ _ _ _ (World.alloc _ _)); refine wpList_up hm ?_; clear hm; intro n w hn hn2 hk hm hd hd2 ho; (try rw [← hn]); replace hn := Nat.le_of_eq hn.symm) | ((first | ((with_reducible show wpList _ _ _ (Oper.mk _ (Op.box _ _) _ _ _ _ :: _) _ _); (refine bxA hm ?_; clear hm; intro n w hn hz hm ho; (try simp only [List.cons_append, List.nil_append] at hm))) | ((with_reducible show wpList _ _ _ (Oper.mk _ (Op.load _ _) _ _ _ _ :: _) _ _); first | (refine ldA hm ?_) | (refine laA hm ?_)) | ((with_reducible show wpList _ _ _ (Oper.mk _ (Op.store _ _ _) _ _ _ _ :: _) _ _); (refine stA hm ?_; clear hm; intro w hz hm ho)) | ((with_reducible show wpList _ _ _ (Oper.mk _ (Op.alloc _) _ _ _ _ :: _) _ _); (refine alA hm ?_; clear hm; intro n w hn hz hm ho; (try simp only [List.cons_append, List.nil_append] at hm)))); try simp only [Act.put, sxQ]))
              have hw9 := (hm.drew.wo 3).wo 2
              simp only [List.eraseIdx_cons_zero, List.eraseIdx_cons_succ] at hw9
              refine drawn_in (by kernel_rfl) (by kernel_rfl) (fun _ _ h => h) ?_
              refine anyH_start (S := MemS _ _ _ _) (MemS.of hw9) (fun hHeld => ?_)
              refine wpAnyH_fresh (by repeat (first | apply Fresh.a | apply Fresh.b)) ?_
              clear hw9
              replace hm := hm.drew
              iterate 15 (first | (refine takeN 0 hHeld ?_) | (refine takeY 0 ?_ hHeld ?_ ?_; rotate_left 1; (first | (intro w9 h9; (with_reducible show (execOp _ (Oper.mk _ (Op.load _ _) _ _ _ _)).run _ _ = _); first | exact h9.ldA) | focus (intro w9 hSw; go_simp; (try (with_reducible rfl)); done))); try simp only [Act.put, sxQ])
              refine wpAnyH_ready (rs := [15]) (by kernel_rfl) (by simp) ?_
              refine AllReadyH.cons2 (by simp only [sxN]; first | done | exact rfl) (fun K hK => ?_)
              refine stB hm ?_ (hcs := spl_cells q.p.at_ [] i hi (some k)) (hin := by simp [ecells]; omega)
              clear hm; intro w hz hm ho
              have hw9 := (hm.wo 3).wo 2
              simp only [List.eraseIdx_cons_zero, List.eraseIdx_cons_succ] at hw9
              refine hK.out _ _ (MemS.of hw9) (fun hHeld => ?_)
              clear hK K
              try simp only [Act.put, sxQ]
              clear hw9
              iterate 1 (first | (refine takeN 16 hHeld ?_) | (refine takeY 16 ?_ hHeld ?_ ?_; rotate_left 1; (first | (intro w9 h9; (with_reducible show (execOp _ (Oper.mk _ (Op.load _ _) _ _ _ _)).run _ _ = _); first | exact h9.ldA) | focus (intro w9 hSw; go_simp; (try (with_reducible rfl)); done))); try simp only [Act.put, sxQ])
              refine wpAnyH_ready (rs := [17]) (by kernel_rfl) (by simp) ?_
              refine AllReadyH.cons2 (by simp only [sxN]; first | done | exact rfl) (fun K hK => ?_)
              refine stB hm ?_ (hcs := spl_cells _ [] k (by rw [List.length_set, hlh]; omega) (some i)) (hin := by simp [ecells]; omega)
              clear hm; intro w hz hm ho
              have hw9 := (hm.wo 3).wo 2
              simp only [List.eraseIdx_cons_zero, List.eraseIdx_cons_succ] at hw9
              refine hK.out _ _ (MemS.of hw9) (fun hHeld => ?_)
              clear hK K
              try simp only [Act.put, sxQ]
              clear hw9
              refine wpAnyH_done (by kernel_rfl) ?_ _
              refine NoPanic.normal ?_
              gi_step
              refine ⟨KeepsOthers.of_mem HM1.out hm, _, HSC.out (by first | trivial | rfl), ?_⟩
              have h9 := (HM1.out.backO hm).takeL 9
              rw [E9.out]
              simpa [opL, pcs, EMX.out] using h9
    case done =>
      rintro D W hD ⟨q, hq, hm0⟩ hKD
      have l0 := HM.out.lts
      have l8 := fun (e : Ent) he => hm.lt (e := e) he
      have lg := l8 _ (List.mem_of_getElem? (i := 6) rfl)
      have lA := l8 _ (List.mem_of_getElem? (i := 3) rfl)
      have lH := l8 _ (List.mem_of_getElem? (i := 2) rfl)
      dsimp only at lg lA lH
      clear l8
      have hk0 := start_kept hq
      have hp := OpI.pat hOK hq hm0
      have hfr := HFR.out q (by rw [← hlen]; exact hq)
      have hVn : ¬ x.V ∈ [x.g, s.gm, s.gw, s.gv, s.A, s.Ho] := by
        have l0 := hOK.mem.lts
        have hge := (hm0.own _ (List.mem_of_getElem? (i := 1) (show (opL x s q)[1]? = some _ from rfl))).resolve_left id
        simp only [List.mem_cons, List.not_mem_nil, or_false, not_or]
        exact ⟨hm0.apart 1 6 (by decide) rfl rfl, by dsimp only at hge; omega, by dsimp only at hge; omega, by dsimp only at hge; omega, hm0.apart 1 3 (by decide) rfl rfl, hm0.apart 1 2 (by decide) rfl rfl⟩
      have hord := page_order hp hOK.F (by rw [hs]) hk0.2.2.2.2.2.1 x.V (n0 / 20) q.vs (hm0.at_ 1 rfl) hVn (by rw [hk0.2.2.2.2.2.2.2.2.1, hlen]) (by rw [hk0.2.2.2.2.2.2.2.1, hlen]) (by rw [hk0.2.2.2.1, hlen]) r20 (by omega) hfr (by rw [hk0.1]; exact HKK.out) h0
      have hvl : q.vs.length = n0 / 20 := by rw [hk0.2.2.2.2.2.2.2.2.1, hlen]
      have HQ := Lib.hid hq
      have HORD := Lib.hid hord
      have HK0 := Lib.hid hk0
      have HKD := Lib.hid hKD
      have HP := Lib.hid hp
      subst hs
      subst hx
      simp only [opL, pcs] at hm0
      rw [hvl] at hm0
      have hm := hm0.rebase
      have HM0 := Lib.hid hm0
      clear hq hord hk0 hm0 hKD hp hfr hVn
      go_wp2_with (first | go_skip | ((with_reducible show wpList _ _ _ _ _ (World.alloc _ _)); refine wpList_up hm ?_; clear hm; intro n w hn hn2 hk hm hd hd2 ho; (try rw [← hn]); replace hn := Nat.le_of_eq hn.symm) | ((first | ((with_reducible show wpList _ _ _ (Oper.mk _ (Op.box _ _) _ _ _ _ :: _) _ _); (refine bxA hm ?_; clear hm; intro n w hn hz hm ho; (try simp only [List.cons_append, List.nil_append] at hm))) | ((with_reducible show wpList _ _ _ (Oper.mk _ (Op.load _ _) _ _ _ _ :: _) _ _); first | (refine ldA hm ?_) | (refine laA hm ?_)) | ((with_reducible show wpList _ _ _ (Oper.mk _ (Op.store _ _ _) _ _ _ _ :: _) _ _); (refine stA hm ?_; clear hm; intro w hz hm ho)) | ((with_reducible show wpList _ _ _ (Oper.mk _ (Op.alloc _) _ _ _ _ :: _) _ _); (refine alA hm ?_; clear hm; intro n w hn hz hm ho; (try simp only [List.cons_append, List.nil_append] at hm)))); try simp only [Act.put, sxQ]))
      go_at_call 43
      refine HORD.out.mono ?_
      rintro e w3 ⟨rfl, fq, F9, cf9, G9, hperm, hp9, hG9, ho9⟩
      have hm3 := hm.put 6 rfl ho9 hp9.blk
      simp only [List.set_cons_zero, List.set_cons_succ] at hm3
      clear hm
      have hm := hm3
      clear hm3
      have HP9 := Lib.hid hp9
      have HPM := Lib.hid hperm
      have HO9 := Lib.hid ho9
      clear hp9 hperm ho9
      go_wp2_with (first | ((with_reducible show wpList _ _ _ (Oper.mk _ (Op.store _ (Operand.tmp 2) _) _ _ _ _ :: _) _ _); refine stA hm ?_; clear hm; intro wA hzA hm hoA; (try simp only [Act.put, sxQ])) | ((with_reducible show wpList _ _ _ (Oper.mk _ (Op.store _ (Operand.tmp 3) _) _ _ _ _ :: _) _ _); refine stA hm ?_; clear hm; intro wB hzB hm hoB; (try simp only [Act.put, sxQ])) | go_skip | ((with_reducible show wpList _ _ _ _ _ (World.alloc _ _)); refine wpList_up hm ?_; clear hm; intro n w hn hn2 hk hm hd hd2 ho; (try rw [← hn]); replace hn := Nat.le_of_eq hn.symm) | ((first | ((with_reducible show wpList _ _ _ (Oper.mk _ (Op.box _ _) _ _ _ _ :: _) _ _); (refine bxA hm ?_; clear hm; intro n w hn hz hm ho; (try simp only [List.cons_append, List.nil_append] at hm))) | ((with_reducible show wpList _ _ _ (Oper.mk _ (Op.load _ _) _ _ _ _ :: _) _ _); first | (refine ldA hm ?_) | (refine laA hm ?_)) | ((with_reducible show wpList _ _ _ (Oper.mk _ (Op.store _ _ _) _ _ _ _ :: _) _ _); (refine stA hm ?_; clear hm; intro w hz hm ho)) | ((with_reducible show wpList _ _ _ (Oper.mk _ (Op.alloc _) _ _ _ _ :: _) _ _); (refine alA hm ?_; clear hm; intro n w hn hz hm ho; (try simp only [List.cons_append, List.nil_append] at hm)))); try simp only [Act.put, sxQ]))
      have hko := KeepsOthers.of_mem HM0.out hm
      have hKE := hko.same D _ HKD.out rfl
      refine ⟨by simp, .inl ⟨_, _, rfl, run_takeDeferred hKE, ?_⟩⟩
      have hg := grownBy_putObj' wB D (.deferred none)
      have hr : ∀ r, some D = some r → ∃ o : Obj, wB.heap[r]? = some o ∧ o.isCells = false := fun r e => by cases e; exact ⟨_, hKE, rfl⟩
      have hc2 := cell_kept ((hm.at_ 4 rfl).cell 0) hg hr
      have hc3 := cell_kept ((hm.at_ 5 rfl).cell 0) hg hr
      have hlow := (HM0.out.backO hm).low
      have hDlt : D < W.heap.size := (Array.getElem?_eq_some_iff.1 HKD.out).1
      have hbD : Below w0.heap.size wB (wB.putObj D (.deferred none)) := ⟨hg.os, hg.tape, hg.output, hg.size, fun k hk => World.putObj_heap_other (by omega)⟩
      have hg0 : ∀ z, z ∈ [g, gm, gw, gv, qA, qH] → z < w8.heap.size := fun z hz => by
        simp only [List.mem_cons, List.not_mem_nil, or_false] at hz
        rcases hz with h | h | h | h | h | h <;> omega
      have ln2 := HM0.out.lt (List.mem_of_getElem? (i := 4) rfl)
      have ln3 := HM0.out.lt (List.mem_of_getElem? (i := 5) rfl)
      have ge2 := (HM0.out.own _ (List.mem_of_getElem? (i := 4) rfl)).resolve_left id
      have ge3 := (HM0.out.own _ (List.mem_of_getElem? (i := 5) rfl)).resolve_left id
      dsimp only at ln2 ln3 ge2 ge3
      have nG : ∀ z, G9 z → z ≠ n2 ∧ z ≠ n3 ∧ z ≠ D := fun z hz => by
        rcases hG9 z hz with h | h
        · have := hg0 z h
          simp only [List.mem_cons, List.not_mem_nil, or_false] at h
          refine ⟨?_, ?_, by omega⟩
          · rcases h with h | h | h | h | h | h
            · exact h ▸ HM0.out.apart 6 4 (by decide) rfl rfl
            · omega
            · omega
            · omega
            · exact h ▸ HM0.out.apart 3 4 (by decide) rfl rfl
            · exact h ▸ HM0.out.apart 2 4 (by decide) rfl rfl
          · rcases h with h | h | h | h | h | h
            · exact h ▸ HM0.out.apart 6 5 (by decide) rfl rfl
            · omega
            · omega
            · omega
            · exact h ▸ HM0.out.apart 3 5 (by decide) rfl rfl
            · exact h ▸ HM0.out.apart 2 5 (by decide) rfl rfl
        · exact ⟨by omega, by omega, by omega⟩
      have hoD : Only (fun z => z = D) wB (wB.putObj D (.deferred none)) := ⟨hg.os, hg.tape, hg.output, hg.size, fun k _ hn => World.putObj_heap_other hn⟩
      have hPE := ((HP9.out.away hoA (fun z hz => (nG z hz).1)).away hoB (fun z hz => (nG z hz).2.1)).away hoD (fun z hz => (nG z hz).2.2)
      refine ⟨.tuple #[.pointer (some ⟨g, 0, none⟩), .int .i64 0], ?_, hlow.trans hbD, .inr ⟨g, G9, _, _, rfl, ⟨q, HQ.out, fq, HPM.out, rfl⟩, hPE, rfl, rfl, rfl, rfl, rfl, rfl, fun z hz => ?_⟩⟩
      · simp [results, Tryz.f15, go_sem, hc2, hc3]
      · rcases hG9 z hz with h | h
        · simp only [List.mem_cons, List.not_mem_nil, or_false] at h
          have g6 := (HM0.out.own _ (List.mem_of_getElem? (i := 6) rfl)).resolve_left id
          have g3 := (HM0.out.own _ (List.mem_of_getElem? (i := 3) rfl)).resolve_left id
          have g2 := (HM0.out.own _ (List.mem_of_getElem? (i := 2) rfl)).resolve_left id
          dsimp only at g6 g3 g2
          rcases h with h | h | h | h | h | h
          · exact .inr (.inr (.inr (h ▸ g6)))
          · exact .inl h
          · exact .inr (.inl h)
          · exact .inr (.inr (.inl h))
          · exact .inr (.inr (.inr (h ▸ g3)))
          · exact .inr (.inr (.inr (h ▸ g2)))
        · exact .inr (.inr (.inr (by have := HM0.out.low.size; omega)))
    case stop =>
      rintro D c W hD ⟨rfl, hno, hlow, hc2, hc3⟩ hKD
      go_wp2_with fail
      refine ⟨by simp, .inl ⟨_, _, rfl, run_takeDeferred hKD, ?_⟩⟩
      have hg := grownBy_putObj' W D (.deferred none)
      have hr : ∀ r, some D = some r → ∃ o : Obj, W.heap[r]? = some o ∧ o.isCells = false := fun r e => by cases e; exact ⟨_, hKD, rfl⟩
      have hc2' := cell_kept hc2 hg hr
      have hc3' := cell_kept hc3 hg hr
      have hbD : Below w0.heap.size W (W.putObj D (.deferred none)) := ⟨hg.os, hg.tape, hg.output, hg.size, fun k hk => World.putObj_heap_other (by have := hm.low.size; omega)⟩
      rw [hx] at hc2' hc3'
      refine ⟨.tuple #[.pointer none, .int .i64 9], ?_, hlow.trans hbD, .inl ⟨by rw [← hlen]; exact hno, rfl⟩⟩
      simp [results, Tryz.f15, go_sem, hc2', hc3']
end Go.Proofs.YtmhjddmamknglaaGreat
end

section
namespace Go.Proofs.YtmhjddmamknglaaGreat.Pg
set_option maxRecDepth 100000
set_option linter.unusedSimpArgs false
set_option linter.unusedVariables false
open Go.Proofs.YtmhjddmamknglaaGreat

structure Worn (p : P) (N : Nat) (u : Nat → Nat) : Prop where
  writes : p.m.writes = 21 * (N : Int)
  wear : ∀ f, f < p.frames → ∀ k, k < 20 → p.m.wear.getD (f * 20 + k) 0 = if k = 19 then 2 * (u f : Int) else (u f : Int)
  rest : ∀ a, p.frames * 20 ≤ a → p.m.wear.getD a 0 = 0
  held : ∀ f, f < p.frames → p.holds.getD f none ≠ none → u f * (p.frames - p.count + 1) ≤ N + (p.frames - p.count)
  queue : ∀ j f, p.freed[j]? = some f → u f * (p.frames - p.count + 1) ≤ N + j
theorem Worn.turned {p : P} {N : Nat} {u : Nat → Nat} (h : Worn p N u) : Worn p.turned N u := ⟨h.writes, h.wear, h.rest, h.held, h.queue⟩
theorem Worn.more {p : P} {N : Nat} {u : Nat → Nat} (h : Worn p N u) (c : Nat) : Worn (p.more c) N u := ⟨h.writes, h.wear, h.rest, h.held, h.queue⟩
theorem wearK_append (f : Nat) (l r : List (Nat × Nat)) (ws : List Int) : wearK f (l ++ r) ws = wearK f r (wearK f l ws) := by
  induction l generalizing ws with
  | nil => rfl
  | cons x l ih => simp only [List.cons_append, wearK]; rw [ih]
theorem wearK_cons (f : Nat) (x : Nat × Nat) (l : List (Nat × Nat)) (ws : List Int) : wearK f (x :: l) ws = wearK f l (ws.set (f * 20 + x.1) (ws.getD (f * 20 + x.1) 0 + 1)) := rfl
theorem wearK_one (f : Nat) (x : Nat × Nat) (ws : List Int) : wearK f [x] ws = ws.set (f * 20 + x.1) (ws.getD (f * 20 + x.1) 0 + 1) := rfl
theorem wearK_length (f : Nat) (l : List (Nat × Nat)) (ws : List Int) : (wearK f l ws).length = ws.length := by
  induction l generalizing ws with
  | nil => rfl
  | cons x l ih => rw [wearK_cons, ih, List.length_set]
theorem wearK_other (f : Nat) (l : List (Nat × Nat)) (ws : List Int) (a : Nat) (h : ∀ x ∈ l, a ≠ f * 20 + x.1) : (wearK f l ws).getD a 0 = ws.getD a 0 := by
  induction l generalizing ws with
  | nil => rfl
  | cons x l ih =>
    rw [wearK_cons, ih _ (fun y hy => h y (List.mem_cons_of_mem _ hy))]
    simp only [List.getD, List.getElem?_set]
    rw [if_neg (fun e => h x List.mem_cons_self e.symm)]
theorem set_get (ws : List Int) (a b : Nat) (v : Int) (ha : a < ws.length) : (ws.set a v).getD b 0 = if b = a then v else ws.getD b 0 := getD_set ws a b v 0 ha
theorem wear_mid (f : Nat) (W : List Nat) (ws : List Int) (hf : f * 20 + 20 ≤ ws.length) (i : Nat) : ∀ n, n ≤ 19 → (wearK f (mid W n) ws).getD (f * 20 + i) 0 = ws.getD (f * 20 + i) 0 + if i < n then 1 else 0 := by
  intro n
  induction n with
  | zero => intro _; simp [mid, wearK]
  | succ n ih =>
    intro hn
    have ih := ih (by omega)
    rw [mid_succ, wearK_append, wearK_one]
    rw [set_get _ _ _ _ (by rw [wearK_length]; omega)]
    by_cases e : i = n
    · subst e
      rw [if_pos rfl, ih, if_neg (by omega), if_pos (by omega)]
      simp
    · rw [if_neg (by omega), ih]
      by_cases h : i < n
      · rw [if_pos h, if_pos (by omega)]
      · rw [if_neg h, if_neg (by omega)]
theorem wear_plan (f : Nat) (W : List Nat) (hl : W.length = 19) (ws : List Int) (hf : f * 20 + 20 ≤ ws.length) (i : Nat) (hi : i < 20) : (wearK f (plan W) ws).getD (f * 20 + i) 0 = ws.getD (f * 20 + i) 0 + if i = 19 then 2 else 1 := by
  rw [plan_mid W hl, wearK_cons, wearK_append, wearK_one]
  dsimp only
  have hm := fun i => wear_mid f W (ws.set (f * 20 + 19) (ws.getD (f * 20 + 19) 0 + 1)) (by rw [List.length_set]; exact hf) i 19 (Nat.le_refl _)
  rw [set_get _ _ _ _ (by rw [wearK_length, List.length_set]; omega)]
  by_cases e : i = 19
  · subst e
    rw [if_pos rfl, hm, if_neg (by omega), if_pos rfl, set_get _ _ _ _ (by omega), if_pos rfl]
    omega
  · rw [if_neg (by omega), hm, if_pos (by omega), if_neg e, set_get _ _ _ _ (by omega), if_neg (by omega)]
section
variable {B : Nat} {fr : Fs} {p : P} {st : List (List UInt8)} {i N : Nat} {u : Nat → Nat}
theorem Worn.place (hw : Worn p N u) (h : Live B fr p st) (hi : i < p.count) {b : List UInt8} {m' : Cel.Mem} {K : Int} (hr : Wrote (p.freed.getD 0 0) (plan (frameWords i (p.version + 1) b)) p.m m' K) :
    Worn (p.moved i (p.freed.getD 0 0) m') (N + 1) (fun g => if g = p.freed.getD 0 0 then u g + 1 else u g) := by
  have hfl := h.inv.count_freed
  have hcp := h.count_pos
  obtain ⟨f, l, hq⟩ : ∃ f l, p.freed = f :: l := by
    cases hq : p.freed with
    | nil => rw [hq] at hfl; simp at hfl; omega
    | cons f l => exact ⟨f, l, rfl⟩
  have hf0 : p.freed.getD 0 0 = f := by rw [hq]; rfl
  rw [hf0] at hr ⊢
  have hnd := h.inv.fnd
  rw [hq, List.nodup_cons] at hnd
  obtain ⟨hf1, hf2⟩ := (h.inv.fmem f).1 (by rw [hq]; exact List.mem_cons_self)
  have hwl : p.m.wear.length = p.m.words.length := h.wl
  have hfr := h.inv.fms
  have hxw : (frameWords i (p.version + 1) b).length = 19 := (Fr.mk i (p.version + 1) b).words_length
  have hin : f * 20 + 20 ≤ p.m.wear.length := by rw [hwl]; omega
  have hq0 := hw.queue 0 f (by rw [hq]; rfl)
  refine { writes := ?_, wear := fun g hg k hk => ?_, rest := fun a ha => ?_, held := fun g hg hh => ?_, queue := fun j g hj => ?_ }
  · show m'.writes = _
    rw [hr.writes, frame_plan, hw.writes]; omega
  · show m'.wear.getD (g * 20 + k) 0 = _
    rw [hr.wear]
    by_cases e : g = f
    · subst e
      rw [wear_plan g _ hxw _ hin k hk, hw.wear g hg k hk]
      by_cases e2 : k = 19
      · simp [e2]; omega
      · simp [e2]
    · rw [wearK_other _ _ _ _ (fun x hx e2 => by
        have := plan_pos hxw hx
        rcases Nat.lt_or_gt_of_ne e with h1 | h1 <;> omega), hw.wear g hg k hk]
      simp [e]
  · show m'.wear.getD a 0 = 0
    have ha : p.frames * 20 ≤ a := ha
    rw [hr.wear, wearK_other _ _ _ _ (fun x hx e2 => by have := plan_pos hxw hx; omega)]
    exact hw.rest a ha
  · have hg : g < p.frames := hg
    show (if g = f then u g + 1 else u g) * (p.frames - p.count + 1) ≤ N + 1 + (p.frames - p.count)
    by_cases e : g = f
    · subst e
      rw [if_pos rfl, Nat.add_mul]
      omega
    · rw [if_neg e]
      -- it was held before
      have hh2 : p.holds.getD g none ≠ none := fun e2 => hh (by
        show ((match p.at_.getD i none with | none => p.holds | some old => p.holds.set old none).set f (some i)).getD g none = none
        have hl : (match p.at_.getD i none with | none => p.holds | some old => p.holds.set old none).length = p.holds.length := by
          split
          · rfl
          · rw [List.length_set]
        rw [getD_set _ _ _ _ _ (by rw [hl, h.inv.cur.lh]; exact hf1), if_neg e]
        cases ha : p.at_.getD i none with
        | none => exact e2
        | some old =>
          obtain ⟨ho, _⟩ := h.inv.data_some hi ha
          simp only
          rw [getD_set _ _ _ _ _ (by rw [h.inv.cur.lh]; exact ho)]
          split
          · rfl
          · exact e2)
      have := hw.held g hg hh2
      omega
  · show (if g = f then u g + 1 else u g) * (p.frames - p.count + 1) ≤ N + 1 + j
    have hj : (p.freed.drop 1 ++ (p.at_.getD i none).toList)[j]? = some g := hj
    have hd : p.freed.drop 1 = l := by rw [hq]; rfl
    rw [hd, List.getElem?_append] at hj
    split at hj
    · have hmem := List.mem_of_getElem? hj
      rw [if_neg (fun e : g = f => hnd.1 (by rw [← e]; exact hmem))]
      have := hw.queue (j + 1) g (by rw [hq]; exact hj)
      omega
    · rename_i hjl
      cases ha : p.at_.getD i none with
      | none => rw [ha] at hj; simp [Option.toList] at hj
      | some old =>
        rw [ha] at hj
        obtain rfl : old = g := by
          have h9 := List.mem_of_getElem? hj
          have h8 : g = old := List.mem_singleton.1 h9
          exact h8.symm
        obtain ⟨ho, _⟩ := h.inv.data_some hi ha
        have hold := (h.inv.cur.held old ho i).2 ⟨hi, ha⟩
        rw [if_neg (fun e => by rw [e, hf2] at hold; cases hold)]
        have := hw.held old ho (by rw [hold]; simp)
        rw [hq] at hfl
        simp only [List.length_cons] at hfl
        omega
/-- What Write keeps. -/
theorem Live.write_keeps (Φ : P → Prop) (h1 : ∀ p, Φ p → Φ p.turned) (h2 : ∀ p c, Φ p → Φ (p.more c))
    (h3 : ∀ (B : Nat) fr p st i b m', Live B fr p st → i < p.count → b.length = 48 → Wrote (p.freed.getD 0 0) (plan (frameWords i (p.version + 1) b)) p.m m' B → Φ p → Φ (p.moved i (p.freed.getD 0 0) m'))
    (h : Live B fr p st) (hB : B ≤ 900000000) (hi : i < p.count) {b : List UInt8} (hb : b.length = 48) {p' : P} (he : p.write i b = (p', 0)) (hp : Φ p) : Φ p' := by
  have ha : p.access (i : Int) = 0 := by rw [h.access, if_neg (by omega)]
  have e0 : p.write i b = if p.move.2 ≠ 0 then p.move else p.move.1.place i b := by
    unfold P.write
    rw [if_neg (by omega), ha, if_neg (by simp), Int.toNat_natCast]
  rw [e0] at he
  have fin : ∀ (B2 : Nat) fr2 p2 st2, Live B2 fr2 p2 st2 → B2 ≤ 950000000 → p2.count = p.count → Φ p2 → p2.place i b = (p', 0) → Φ p' := fun B2 fr2 p2 st2 hl hB2 hc hp2 he2 => by
    rcases hl.place (i := i) (by omega) (by omega) hb with ⟨m', fr', e1, hw, _, _⟩ | ⟨m', fr', e1, _⟩
    · rw [e1] at he2
      cases he2
      exact h3 _ _ _ _ _ _ _ hl (by omega) hb hw hp2
    · rw [e1] at he2; cases he2
  cases e : p.holds.getD p.turn none with
  | none =>
    rw [move_none e, if_neg (by simp)] at he
    exact fin _ _ _ _ h.turned (by omega) rfl (h1 _ hp) he
  | some j =>
    obtain ⟨c, c1, c2, c3⟩ := h.move_some e
    have hj := h.held e
    rcases (h.turned.more (c := c) (by omega)).place (i := j) (by omega) hj (h.st_len hj) with ⟨m', fr', e1, hw, hl, _⟩ | ⟨m', fr', e1, _⟩
    · rw [c3, e1, if_neg (by simp)] at he
      exact fin _ _ _ _ hl (by omega) rfl (h3 _ _ _ _ _ _ _ (h.turned.more (c := c) (by omega)) hj (h.st_len hj) hw (h2 _ _ (h1 _ hp))) he
    · rw [c3, e1, if_pos (by simp)] at he
      cases he
theorem Worn.write (hw : ∃ N u, Worn p N u) (h : Live B fr p st) (hB : B ≤ 900000000) (hi : i < p.count) {b : List UInt8} (hb : b.length = 48) {p' : P} (he : p.write i b = (p', 0)) : ∃ N u, Worn p' N u :=
  Live.write_keeps (fun p => ∃ N u, Worn p N u) (fun _ ⟨N, u, h⟩ => ⟨N, u, h.turned⟩) (fun _ c ⟨N, u, h⟩ => ⟨N, u, h.more c⟩) (fun _ _ _ _ _ _ _ hl hi _ hr ⟨_, _, hw⟩ => ⟨_, _, hw.place hl hi hr⟩) h hB hi hb he hw
/-- No word wears out much faster than the others. -/
theorem Worn.even (hw : Worn p N u) (h : Live B fr p st) (hs : p.m.words.length ≤ 600) (a : Nat) : p.m.wear.getD a 0 ≤ 100 + (16 * p.m.writes) / (p.m.words.length : Int) := by
  have h1 := h.inv.cnt; have h2 := h.inv.fms; have h3 := h.big
  have hfl := h.inv.count_freed
  have hbig : ∀ f, f < p.frames → 2 * (u f : Int) ≤ 100 + (16 * p.m.writes) / (p.m.words.length : Int) := fun f hf => by
    have hu : u f * (p.frames - p.count + 1) ≤ N + 30 := by
      cases e : p.holds.getD f none with
      | some i => have := hw.held f hf (by rw [e]; simp); omega
      | none =>
        obtain ⟨j, hj, e2⟩ := List.mem_iff_getElem.1 ((h.inv.fmem f).2 ⟨hf, e⟩)
        have := hw.queue j f (by rw [List.getElem?_eq_getElem hj, e2])
        omega
    rw [hw.writes]
    have hR : p.m.words.length ≤ 168 * (p.frames - p.count + 1) := by omega
    have hmul : u f * p.m.words.length ≤ u f * (168 * (p.frames - p.count + 1)) := Nat.mul_le_mul_left _ hR
    have hmul2 : u f * (168 * (p.frames - p.count + 1)) = 168 * (u f * (p.frames - p.count + 1)) := by
      rw [Nat.mul_left_comm]
    have e4 : ((16 * (21 * (N : Int))) / (p.m.words.length : Int)) = (((336 * N) / p.m.words.length : Nat) : Int) := by
      rw [show (16 * (21 * (N : Int))) = ((336 * N : Nat) : Int) by omega]; simp
    rw [e4]
    have h5 : 2 * u f - 100 ≤ (336 * N) / p.m.words.length := by
      rw [Nat.le_div_iff_mul_le (by omega), Nat.sub_mul, Nat.mul_assoc]
      omega
    omega
  by_cases ha : p.frames * 20 ≤ a
  · rw [hw.rest a ha, hw.writes]
    have : 0 ≤ (16 * (21 * (N : Int))) / (p.m.words.length : Int) := Int.ediv_nonneg (by omega) (by omega)
    omega
  · have h6 := hw.wear (a / 20) (by omega) (a % 20) (by omega)
    have h7 := hbig (a / 20) (by omega)
    rw [show a / 20 * 20 + a % 20 = a by omega] at h6
    rw [h6]
    split <;> omega
end
/-- New pages of a new memory. -/
theorem worn_new {n : Nat} {p : P} (h1 : 240 ≤ n) (h2 : n ≤ 65536) (hm : p.m = Cel.Mem.new n 1073741824) : ∃ N u, Worn p N u := by
  have hg : ∀ a, (List.replicate n (0 : Int)).getD a 0 = 0 := fun a => by simp only [List.getD, List.getElem?_replicate]; split <;> rfl
  have hwe : p.m.wear = List.replicate n 0 := by rw [hm]; rfl
  refine ⟨0, fun _ => 0, ⟨by rw [hm]; rfl, fun f hf k hk => ?_, fun a ha => ?_, fun f hf hh => by simp, fun j f hj => by simp⟩⟩
  · rw [hwe, hg]; simp
  · rw [hwe, hg]
end Go.Proofs.YtmhjddmamknglaaGreat.Pg
end

section
namespace Go.Proofs.YtmhjddmamknglaaGreat
set_option maxRecDepth 100000
set_option linter.unusedSimpArgs false
set_option linter.unusedVariables false
open Go.RowKit
set_option maxHeartbeats 8000000

theorem Pg.Can.frees {B : Nat} {fr : Pg.Fs} {m : Cel.Mem} {st : List (List UInt8)} (h : Pg.Can B fr m st) (ho : m.off = false) (q : Pg.O) (hq : Pg.scan m (Pg.start m) (m.words.length / 20) = some q) : 0 < (Pg.frees q.p.holds).length := by
  obtain ⟨hl, _⟩ := h.opened ho (p := { q.p with freed := Pg.frees q.p.holds, turn := (Pg.newest q.vs q.p.frames + 1) % q.p.frames }) ⟨q, hq, _, List.Perm.refl _, rfl⟩
  have h1 := hl.inv.count_freed
  have h2 := hl.count_pos
  have h3 : (Pg.frees q.p.holds).length = ({ q.p with freed := Pg.frees q.p.holds, turn := (Pg.newest q.vs q.p.frames + 1) % q.p.frames } : Pg.P).freed.length := rfl
  omega
/-- What Open gives. -/
def OpRes (w : World) (gm gw gv n cw cv : Nat) (B : Nat) (fr : Pg.Fs) (m : Cel.Mem) (st : List (List UInt8)) (e : Ending) (w' : World) : Prop :=
  Below w.heap.size w w' ∧ ∃ g G s p, e = .returned (.tuple #[.pointer (some ⟨g, 0, none⟩), .int .i64 0]) ∧ Pg.Live B fr p st ∧ p.m = m ∧ (Pg.Exact m.words → p.fixed = 0) ∧ PAt w' g G s p ∧ s.gm = gm ∧ s.gw = gw ∧ s.gv = gv ∧ s.n = n ∧ s.cw = cw ∧ s.cv = cv ∧ (∀ q, G q → q = gm ∨ q = gw ∨ q = gv ∨ w.heap.size ≤ q)
theorem page_Open_can {w : World} {gm gw gv n cw cv B : Nat} {fr : Pg.Fs} {m : Cel.Mem} {st : List (List UInt8)} (H : MemAt w gm gw gv n cw cv m) (hon : m.off = false) (hc : Pg.Can B fr m st) (hB : B ≤ 1000000000) :
    Calls Tryz.prog 15 #[.pointer (some ⟨gm, 0, none⟩)] w (OpRes w gm gw gv n cw cv B fr m st) := by
  have hl := H.len
  refine (page_Open_on H hon (by have := hc.big; omega) hc.fine ⟨by omega, by omega⟩ (fun q hq => hc.frees hon q (by rw [hl]; exact hq))).mono ?_
  rintro e w' ⟨hb, h⟩
  refine ⟨hb, ?_⟩
  rcases h with ⟨h1, _⟩ | ⟨g, G, s, p, rfl, ho, hp, e1, e2, e3, e4, e5, e6, hG⟩
  · obtain ⟨q, hq, _⟩ := hc.scan hon
    rw [hl, h1] at hq; cases hq
  · obtain ⟨hL, h2, _, _, h5⟩ := hc.opened hon ho
    exact ⟨g, G, s, p, rfl, hL, h2, h5, hp, e1, e2, e3, e4, e5, e6, hG⟩
theorem page_Open_nil (w : World) : Calls Tryz.prog 15 #[.pointer none] w fun e w' => e = .returned (.tuple #[.pointer none, .int .i64 31]) ∧ Below w.heap.size w w' := by
  have hm := Mem.nil (fun _ => False) w
  go_enter Tryz.func15, Tryz.ntmps15
  go_wp2_with (first | go_skip | ((with_reducible show wpList _ _ _ _ _ (World.alloc _ _)); refine wpList_up hm ?_; clear hm; intro n w hn hn2 hk hm hd hd2 ho; (try rw [← hn]); replace hn := Nat.le_of_eq hn.symm) | ((first | ((with_reducible show wpList _ _ _ (Oper.mk _ (Op.box _ _) _ _ _ _ :: _) _ _); (refine bxA hm ?_; clear hm; intro n w hn hz hm ho; (try simp only [List.cons_append, List.nil_append] at hm))) | ((with_reducible show wpList _ _ _ (Oper.mk _ (Op.load _ _) _ _ _ _ :: _) _ _); first | (refine ldA hm ?_) | (refine laA hm ?_)) | ((with_reducible show wpList _ _ _ (Oper.mk _ (Op.store _ _ _) _ _ _ _ :: _) _ _); (refine stA hm ?_; clear hm; intro w hz hm ho)) | ((with_reducible show wpList _ _ _ (Oper.mk _ (Op.alloc _) _ _ _ _ :: _) _ _); (refine alA hm ?_; clear hm; intro n w hn hz hm ho; (try simp only [List.cons_append, List.nil_append] at hm)))); try simp only [Act.put, sxQ]))
  have h2 := (hm.at_ 0 rfl).cell 0
  have h3 := (hm.at_ 1 rfl).cell 0
  refine bodyPost_ret (v := .tuple #[.pointer none, .int .i64 31]) ?_ rfl ⟨rfl, hm.low⟩
  simp [results, Tryz.f15, go_sem, h2, h3]
/-! Pages that are nil. -/
theorem pnil_made (w : World) : Calls Tryz.prog 25 #[.pointer none] w fun e w' => e = .returned (.bool false) ∧ w' = w := by
  go_enter Tryz.func25, Tryz.ntmps25
  go_wp2_with fail
  go_ret
  exact ⟨rfl, rfl⟩
theorem pnil_Alive (w : World) : Calls Tryz.prog 27 #[.pointer none] w fun e w' => e = .returned (.bool false) ∧ Below w.heap.size w w' := by
  have hm := Mem.nil (fun _ => False) w
  go_enter Tryz.func27, Tryz.ntmps27
  go_wp2_with (first | go_skip | ((with_reducible show wpList _ _ _ _ _ (World.alloc _ _)); refine wpList_up hm ?_; clear hm; intro n w hn hn2 hk hm hd hd2 ho; (try rw [← hn]); replace hn := Nat.le_of_eq hn.symm) | ((first | ((with_reducible show wpList _ _ _ (Oper.mk _ (Op.box _ _) _ _ _ _ :: _) _ _); (refine bxA hm ?_; clear hm; intro n w hn hz hm ho; (try simp only [List.cons_append, List.nil_append] at hm))) | ((with_reducible show wpList _ _ _ (Oper.mk _ (Op.load _ _) _ _ _ _ :: _) _ _); first | (refine ldA hm ?_) | (refine laA hm ?_)) | ((with_reducible show wpList _ _ _ (Oper.mk _ (Op.store _ _ _) _ _ _ _ :: _) _ _); (refine stA hm ?_; clear hm; intro w hz hm ho)) | ((with_reducible show wpList _ _ _ (Oper.mk _ (Op.alloc _) _ _ _ _ :: _) _ _); (refine alA hm ?_; clear hm; intro n w hn hz hm ho; (try simp only [List.cons_append, List.nil_append] at hm)))); try simp only [Act.put, sxQ]))
  refine wp_region_noPanic ?_
  refine wp_region_held_drew (S := MemS _ _ _ _) (by kernel_rfl) (MemS.of hm.drew) (fun hHeld => ?_)
  refine wpAnyH_fresh (by repeat (first | apply Fresh.a | apply Fresh.b)) ?_
  replace hm := hm.drew
  iterate 1 (first | (refine takeN 0 hHeld ?_) | (refine takeY 0 ?_ hHeld ?_ ?_; rotate_left 1; (first | (intro w9 h9; (with_reducible show (execOp _ (Oper.mk _ (Op.load _ _) _ _ _ _)).run _ _ = _); first | exact h9.ldA) | focus (intro w9 hSw; go_simp; (try (with_reducible rfl)); done))); try simp only [Act.put, sxQ])
  refine wpAnyH_ready (rs := [1]) (by kernel_rfl) (by simp) ?_
  refine AllReadyH.cons2 (by simp only [sxN]; first | done | exact rfl) (fun K hK => ?_)
  rw [if_pos (by rfl)]
  go_simp
  refine (pnil_made _).mono ?_
  rintro e w2 ⟨rfl, rfl⟩
  go_simp
  refine hK.out _ _ (MemS.of hm) (fun hHeld => ?_)
  clear hK K
  try simp only [Act.put, sxQ]
  iterate 5 (first | (refine takeN 2 hHeld ?_) | (refine takeY 2 ?_ hHeld ?_ ?_; rotate_left 1; (first | (intro w9 h9; (with_reducible show (execOp _ (Oper.mk _ (Op.load _ _) _ _ _ _)).run _ _ = _); first | exact h9.ldA) | focus (intro w9 hSw; go_simp; (try (with_reducible rfl)); done))); try simp only [Act.put, sxQ])
  refine wpAnyH_take3 (b := 7) (by repeat (first | apply Seek.a | apply Seek.b | apply Seek.c)) (by simp only [sxN]; first | done | exact rfl) ⟨undef, by kernel_rfl, by kernel_rfl, by kernel_rfl, fun _ _ _ h => h, Or.inr ⟨by kernel_rfl, rfl⟩, hHeld, ?_⟩
  try simp only [Act.put, sxQ]
  iterate 6 (first | (refine takeN 8 hHeld ?_) | (refine takeY 8 ?_ hHeld ?_ ?_; rotate_left 1; (first | (intro w9 h9; (with_reducible show (execOp _ (Oper.mk _ (Op.load _ _) _ _ _ _)).run _ _ = _); first | exact h9.ldA) | focus (intro w9 hSw; go_simp; (try (with_reducible rfl)); done))); try simp only [Act.put, sxQ])
  refine wpAnyH_take3 (b := 14) (by repeat (first | apply Seek.a | apply Seek.b | apply Seek.c)) (by simp only [sxN]; first | done | exact rfl) ⟨undef, by kernel_rfl, by kernel_rfl, by kernel_rfl, fun _ _ _ h => h, Or.inr ⟨by kernel_rfl, rfl⟩, hHeld, ?_⟩
  try simp only [Act.put, sxQ]
  iterate 7 (first | (refine takeN 15 hHeld ?_) | (refine takeY 15 ?_ hHeld ?_ ?_; rotate_left 1; (first | (intro w9 h9; (with_reducible show (execOp _ (Oper.mk _ (Op.load _ _) _ _ _ _)).run _ _ = _); first | exact h9.ldA) | focus (intro w9 hSw; go_simp; (try (with_reducible rfl)); done))); try simp only [Act.put, sxQ])
  refine wpAnyH_done (by kernel_rfl) ?_ _
  refine NoPanic.normal ?_
  go_wp2_with (first | go_skip | ((with_reducible show wpList _ _ _ _ _ (World.alloc _ _)); refine wpList_up hm ?_; clear hm; intro n w hn hn2 hk hm hd hd2 ho; (try rw [← hn]); replace hn := Nat.le_of_eq hn.symm) | ((first | ((with_reducible show wpList _ _ _ (Oper.mk _ (Op.box _ _) _ _ _ _ :: _) _ _); (refine bxA hm ?_; clear hm; intro n w hn hz hm ho; (try simp only [List.cons_append, List.nil_append] at hm))) | ((with_reducible show wpList _ _ _ (Oper.mk _ (Op.load _ _) _ _ _ _ :: _) _ _); first | (refine ldA hm ?_) | (refine laA hm ?_)) | ((with_reducible show wpList _ _ _ (Oper.mk _ (Op.store _ _ _) _ _ _ _ :: _) _ _); (refine stA hm ?_; clear hm; intro w hz hm ho)) | ((with_reducible show wpList _ _ _ (Oper.mk _ (Op.alloc _) _ _ _ _ :: _) _ _); (refine alA hm ?_; clear hm; intro n w hn hz hm ho; (try simp only [List.cons_append, List.nil_append] at hm)))); try simp only [Act.put, sxQ]))
  go_ret
  exact ⟨rfl, hm.low⟩
theorem pnil_Count (w : World) : Calls Tryz.prog 8 #[.pointer none] w fun e w' => e = .returned (.int .i64 0) ∧ w' = w := by
  go_enter Tryz.func8, Tryz.ntmps8
  go_wp2_with (go_at_call 25; refine (pnil_made _).mono ?_; rintro e w1 ⟨rfl, rfl⟩)
  go_ret
  exact ⟨rfl, rfl⟩
theorem pnil_Read (w : World) (i : Int) : Calls Tryz.prog 44 #[.pointer none, .int .i64 i] w fun e w' => e = .returned (.tuple #[.slice none 0 0, .int .i64 31]) ∧ w' = w := by
  go_enter Tryz.func44, Tryz.ntmps44
  go_wp2_with (go_at_call 25; refine (pnil_made _).mono ?_; rintro e w1 ⟨rfl, rfl⟩)
  go_ret2
  exact ⟨rfl, rfl⟩
theorem pnil_Write (w : World) (i : Int) (v : Value) : Calls Tryz.prog 51 #[.pointer none, .int .i64 i, v] w fun e w' => e = .returned (.int .i64 31) ∧ w' = w := by
  go_enter Tryz.func51, Tryz.ntmps51
  go_wp2_with (go_at_call 25; refine (pnil_made _).mono ?_; rintro e w1 ⟨rfl, rfl⟩)
  go_ret
  exact ⟨rfl, rfl⟩
end Go.Proofs.YtmhjddmamknglaaGreat
end

section
namespace Go.Proofs.YtmhjddmamknglaaGreat.Pg
set_option maxRecDepth 100000
set_option linter.unusedSimpArgs false
set_option linter.unusedVariables false
open Go.Proofs.YtmhjddmamknglaaGreat

/-- The reference. -/
def rfirst (n : Nat) : List (List UInt8) := zeros n
def rread (st : List (List UInt8)) (i : Int) : List UInt8 × Int := if i < 0 ∨ (st.length : Int) ≤ i then ([], 2) else (st.getD i.toNat [], 0)
def rwrite (st : List (List UInt8)) (i : Int) (b : List UInt8) : List (List UInt8) × Int := if b.length ≠ 48 then (st, 1) else if i < 0 ∨ (st.length : Int) ≤ i then (st, 2) else (st.set i.toNat b, 0)
section
variable {B : Nat} {fr : Fs} {p : P} {st : List (List UInt8)}
theorem rwrite_length (st : List (List UInt8)) (i : Int) (b : List UInt8) : (rwrite st i b).1.length = st.length := by
  unfold rwrite
  split
  · rfl
  · split
    · rfl
    · simp
theorem Live.plOk (h : Live B fr p st) (hB : B ≤ 1000000000) {i : Nat} (hi : i < p.count) : PlOk p i (B : Int) := by
  obtain ⟨c1, c2, c3, c4⟩ := h.count_pos
  have h1 := h.inv.count_freed
  have h2 := h.version
  have hfree : p.freed.getD 0 0 ∈ p.freed := by
    cases hq : p.freed with
    | nil => rw [hq] at h1; simp at h1; omega
    | cons a l => simp
  exact { hi := by rw [h.inv.cur.la]; exact hi, hi24 := by omega, f2 := by omega, fl := by omega, ff := by rw [h.inv.cur.lh]; exact ((h.inv.fmem _).1 hfree).1, hl := by rw [h.inv.cur.lh]; omega, ho := fun f e => by rw [h.inv.cur.lh]; exact (h.inv.data_some hi e).1, ver := by omega, fine := h.fine, hK := by omega }
theorem Live.mvOk (h : Live B fr p st) (hB : B ≤ 1000000000) : MvOk p (B : Int) := by
  obtain ⟨c1, c2, c3, c4⟩ := h.count_pos
  have h2 := h.fixed
  exact { turn := by rw [h.inv.cur.lh]; exact h.inv.turn, frames := h.inv.cur.lh.symm, hl := by rw [h.inv.cur.lh]; omega, fixed := by omega, pl := fun i e => ⟨h.plOk hB (h.held e), fun f e2 => by have := (h.inv.data_some (h.held e) e2).1; omega⟩ }
theorem Live.writes (h : Live B fr p st) (hB : B ≤ 900000000) (i : Int) (b : List UInt8) :
    (∃ p' fr', p.write i b = (p', (rwrite st i b).2) ∧ Live (B + 1200) fr' p' (rwrite st i b).1 ∧ p'.count = p.count ∧ p'.cuts = p.cuts ∧ p'.m.words.length = p.m.words.length ∧ (p.m.pending = false → p'.m.pending = false) ∧ p'.m.writes ≤ p.m.writes + 42 ∧ (Exact p.m.words → Exact p'.m.words ∧ p'.fixed = p.fixed)) ∨
      (∃ p' fr', p.write i b = (p', 7) ∧ p.m.pending = true ∧ Dead (B + 1200) fr' p' st ∧ p'.count = p.count) := by
  have hl := h.len
  by_cases h1 : b.length = 48
  · by_cases h2 : i < 0 ∨ (st.length : Int) ≤ i
    · have e1 : rwrite st i b = (st, 2) := by unfold rwrite; rw [if_neg (by omega), if_pos h2]
      have e2 : p.write i b = (p, 2) := by
        unfold P.write
        have ha : p.access i = 2 := by rw [h.access, if_pos (by omega)]
        rw [if_neg (by omega), ha, if_pos (by decide)]
      rw [e1, e2]
      exact .inl ⟨p, fr, rfl, h.mono (by omega), rfl, rfl, rfl, id, by omega, fun hx => ⟨hx, rfl⟩⟩
    · obtain ⟨k, rfl⟩ := Int.eq_ofNat_of_zero_le (a := i) (by omega)
      have e1 : rwrite st k b = (st.set k b, 0) := by unfold rwrite; rw [if_neg (by omega), if_neg h2]; rfl
      rw [e1]
      exact h.write hB (by omega) h1
  · have e1 : rwrite st i b = (st, 1) := by unfold rwrite; rw [if_pos h1]
    have e2 : p.write i b = (p, 1) := by unfold P.write; rw [if_pos h1]
    rw [e1, e2]
    exact .inl ⟨p, fr, rfl, h.mono (by omega), rfl, rfl, rfl, id, by omega, fun hx => ⟨hx, rfl⟩⟩
theorem Live.reads (h : Live B fr p st) (i : Int) : ∃ c, c ≤ 20 ∧ (Exact p.m.words → c = 0) ∧ p.read i = (p.more c, (rread st i).1, (rread st i).2) := by
  have hl := h.len
  by_cases h2 : i < 0 ∨ (st.length : Int) ≤ i
  · have e1 : rread st i = ([], 2) := by unfold rread; rw [if_pos h2]
    have e2 : p.read i = (p, [], 2) := by
      have ha : p.access i = 2 := by rw [h.access, if_pos (by omega)]
      unfold P.read; rw [ha, if_pos (by decide)]
    exact ⟨0, by omega, fun _ => rfl, by rw [e1, e2]; rfl⟩
  · obtain ⟨k, rfl⟩ := Int.eq_ofNat_of_zero_le (a := i) (by omega)
    have e1 : rread st k = (st.getD k [], 0) := by unfold rread; rw [if_neg h2]; rfl
    obtain ⟨c, h3, h4, h5⟩ := h.content (i := k) (by omega)
    refine ⟨c, h3, h4, ?_⟩
    unfold P.read
    have ha : p.access k = 0 := by rw [h.access, if_neg (by omega)]
    rw [ha, if_neg (by decide), Int.toNat_natCast, h5, e1]
theorem Live.at_small (h : Live B fr p st) (k f : Nat) (e : p.at_.getD k none = some f) : f < 100000000 := by
  obtain ⟨c1, c2, c3, c4⟩ := h.count_pos
  have hk : k < p.at_.length := by
    rcases Nat.lt_or_ge k p.at_.length with h1 | h1
    · exact h1
    · rw [List.getD, List.getElem?_eq_none h1] at e; cases e
  have := (h.inv.data_some (by rw [← h.inv.cur.la]; exact hk) e).1
  omega
end
end Go.Proofs.YtmhjddmamknglaaGreat.Pg
namespace Go.Proofs.YtmhjddmamknglaaGreat
open Go.RowKit
theorem PAt.sup {w : World} {g : Nat} {G : Nat → Prop} {s : PgS} {p : Pg.P} (H : PAt w g G s p) : Sup w G (fun u => PAt u g G s p) := ⟨H, H.lt, fun _ _ ho hd => H.away ho hd⟩
theorem MemAt.sup {w : World} {gm gw gv n cw cv : Nat} {m : Cel.Mem} (H : MemAt w gm gw gv n cw cv m) : Sup w (MemR gm gw gv) (fun u => MemAt u gm gw gv n cw cv m) :=
  ⟨H, fun q hq => by
    obtain ⟨h1, h2, h3⟩ : gm < w.heap.size ∧ gw < w.heap.size ∧ gv < w.heap.size := ⟨H.box.lt, World.block_lt_of_cell? w _ (H.word H.pos), World.block_lt_of_cell? w _ (H.worn H.pos)⟩
    rcases hq with rfl | rfl | rfl <;> assumption, fun _ _ ho hd => H.only ho (hd _ (.inl rfl)) (hd _ (.inr (.inl rfl))) (hd _ (.inr (.inr rfl)))⟩
theorem PAt.memR {w : World} {g : Nat} {G : Nat → Prop} {s : PgS} {p : Pg.P} (H : PAt w g G s p) {q : Nat} (hq : MemR s.gm s.gw s.gv q) : G q := H.hg q (by rcases hq with h | h | h <;> simp [h])
section
variable {w : World} {g B : Nat} {G : Nat → Prop} {s : PgS} {p : Pg.P} {fr : Pg.Fs} {st : List (List UInt8)}
theorem live_Write (H : PAt w g G s p) (L : Pg.Live B fr p st) (hB : B ≤ 900000000) (i : Int) (B0 : Option Addr) (n cb : Nat) (b : List UInt8) (hb : Byt w w.heap.size B0 n cb b ∧ ∀ a, B0 = some a → 0 < n → ¬ G a.block) :
    Calls Tryz.prog 51 #[.pointer (some ⟨g, 0, none⟩), .int .i64 i, .slice B0 n cb] w (PlRes w g G s (p.write i b)) := by
  have hl : p.access i = 0 → 0 ≤ i ∧ i.toNat < p.count := fun ha => by
    rw [L.access] at ha
    split at ha
    · cases ha
    · omega
  refine page_Write (K := (B : Int)) (K2 := ((B + 1100 : Nat) : Int)) H i B0 n cb b hb.1 L.inv.cur.la (fun q ⟨a, e, e2⟩ hn => e2 ▸ hb.2 a e hn) (fun _ => L.mvOk (by omega)) (fun ha _ hz => ?_)
  obtain ⟨h1, h2⟩ := hl ha
  rcases L.move hB with ⟨p1, fr1, e1, hl, hc, _⟩ | ⟨p1, fr1, e1, _⟩
  · rw [e1]
    exact hl.plOk (by omega) (by rw [hc]; exact h2)
  · rw [e1] at hz; cases hz
theorem live_Read (H : PAt w g G s p) (L : Pg.Live B fr p st) (hB : B ≤ 900000000) (i : Int) :
    Calls Tryz.prog 44 #[.pointer (some ⟨g, 0, none⟩), .int .i64 i] w fun e w' =>
      ∃ A k m c, e = .returned (.tuple #[.slice A k m, .int .i64 (Pg.rread st i).2]) ∧ k = (Pg.rread st i).1.length ∧ Own w' w.heap.size 5 1 A k m (bcells (Pg.rread st i).1) ∧ c ≤ 20 ∧ (Pg.Exact p.m.words → c = 0) ∧ PAt w' g G s (p.more c) ∧ Only G w w' := by
  have hfx := L.fixed
  obtain ⟨c, h1, h2, h3⟩ := L.reads i
  refine (page_Read H i L.inv.cur.la L.at_small (by omega)).mono ?_
  rw [h3]
  rintro e w' ⟨A, m, he, hown, hp, ho⟩
  exact ⟨A, _, m, c, he, rfl, hown, h1, h2, hp, ho.mono fun q _ e => e ▸ H.hg g (by simp)⟩
theorem live_Count (H : PAt w g G s p) (L : Pg.Live B fr p st) : Calls Tryz.prog 8 #[.pointer (some ⟨g, 0, none⟩)] w fun e w' => e = .returned (.int .i64 (st.length : Int)) ∧ Below w.heap.size w w' := by
  rw [L.len]; exact page_Count H
theorem live_Alive (H : PAt w g G s p) (L : Pg.Live B fr p st) : Calls Tryz.prog 27 #[.pointer (some ⟨g, 0, none⟩)] w fun e w' => e = .returned (.bool true) ∧ Below w.heap.size w w' := by
  have := page_Alive H
  rwa [L.alive] at this
end
end Go.Proofs.YtmhjddmamknglaaGreat
end

section
namespace Go.Proofs.YtmhjddmamknglaaGreat
set_option maxRecDepth 100000
set_option linter.unusedSimpArgs false
set_option linter.unusedVariables false
open Go.RowKit

theorem Own.made0 {w : World} {g base c : Nat} {t : TypeId} {z : Value} (hb : Blk w g t (madeCells #[z] c)) (hg : base ≤ g) (hm : c ≤ maxLen) : Own w base t 1 (some ⟨g, 0, none⟩) 0 c [] := by
  have h := Own.blk (s := 1) (n := 0) (c := c) hb hg (Nat.zero_le _) hm (by simp [madeCells]) (by simp)
  simpa using h
theorem bcells_zs (n : Nat) : List.replicate n (Value.int .u8 0) = bcells (zs n) := by simp [bcells, zs, B8]
/-- The cells of a slice of bytes are read off as they stand. -/
theorem byt_load {P : Program} {w : World} {B : Nat} {a : Addr} {n c : Nat} {bs : List UInt8} (h : Byt w B (some a) n c bs) : (loadCells a n).run P w = .ok (bcells bs).toArray w := by
  have := run_loadCells_list (P := P) w a (bcells bs) (fun j v hj => by
    have hjl : j < (bcells bs).length := (List.getElem?_eq_some_iff.1 hj).1
    obtain ⟨b, o, e, _, hc⟩ := h.2.2 (by omega)
    obtain rfl : a = ⟨b, o, none⟩ := by simpa using e
    rw [add_eq, hc j hjl, hj])
  rw [length_bcells, h.1] at this
  exact this
theorem byt_string {P : Program} {w : World} {B : Nat} {A : Option Addr} {n c : Nat} {bs : List UInt8} (src e : TypeId) (hs : P.underlying src = some (.slice e)) (he : P.underlying e = some (.int .u8)) (h : Byt w B A n c bs) (dst : TypeId) (hd : P.underlying dst = some .string) :
    (convert src dst (.slice A n c)).run P w = .ok (.string ⟨bs.toArray⟩) w := by
  cases A with
  | none =>
    have hb : bs = [] := by
      rcases Nat.eq_zero_or_pos n with h0 | h0
      · exact List.eq_nil_of_length_eq_zero (by rw [h.1]; exact h0)
      · obtain ⟨b, o, e, _⟩ := h.at_ h0; cases e
    subst hb
    exact run_convert_bytes_nil w src e hs he n c dst hd
  | some a =>
    have hl : (loadCells a n).run P w = .ok ((bs.map fun b => (b.toNat : Int)).map (Value.int .u8)).toArray w := by
      rw [byt_load h, List.map_map]; rfl
    rw [run_convert_bytes_string w src dst e _ n c hs he hd, run_bytesToString w a n c _ hl, foldl_push_bytes]
    simp only [List.map_map]
    congr 2
    have : (bs.map ((fun n : Int => UInt8.ofNat n.toNat) ∘ fun b : UInt8 => (b.toNat : Int))) = bs := by
      rw [List.map_congr_left (g := id)]
      · simp
      · intro b _; simp
    rw [this]
    simp [ByteArray.empty, ByteArray.emptyWithCapacity]
    rfl
theorem made_u8 {P : Program} (t e : TypeId) (i : TypeInfo) (ht : P.underlying t = some (.slice e)) (hi : P.info? e = some i) (hz : i.zero = some (.int .u8 0)) (hs : i.size = 1) (hb : i.bytes = 1)
    (n : Nat) (hn : n ≤ 1099511627776) (u : World) : (Instr.makeSlice t (.int .i64 (n : Int)) (.int .i64 (n : Int))).run P u = .ok (.slice (some ⟨u.heap.size, 0, none⟩) n n) (u.alloc (.cells (madeCells #[.int .u8 0] n) e)) := by
  have h := run_make (P := P) u t e i (.int .u8 0) ht hi hz .i64 .i64 (n : Int) (n : Int) (by omega) (Int.le_refl _) (by rw [hb]; omega) (by omega)
  rw [hs, Int.toNat_natCast, Nat.mul_one] at h
  exact h
theorem made0_u8 {P : Program} (t e : TypeId) (i : TypeInfo) (ht : P.underlying t = some (.slice e)) (hi : P.info? e = some i) (hz : i.zero = some (.int .u8 0)) (hs : i.size = 1) (hb : i.bytes = 1)
    (n : Nat) (hn : n ≤ 1099511627776) (u : World) : (Instr.makeSlice t (.int .i64 0) (.int .i64 (n : Int))).run P u = .ok (.slice (some ⟨u.heap.size, 0, none⟩) 0 n) (u.alloc (.cells (madeCells #[.int .u8 0] n) e)) := by
  have h := run_make (P := P) u t e i (.int .u8 0) ht hi hz .i64 .i64 0 (n : Int) (by omega) (by omega) (by rw [hb]; omega) (by omega)
  rw [hs, Int.toNat_natCast, Nat.mul_one] at h
  exact h
/-- A quiet call behind an earlier quiet region: the draws are joined. -/
theorem Calls.quiet_more {P : Program} {f : FuncId} {args : Array Value} {w : World} {d k : Nat} {v : Value} (h : Calls P f args (w.drewN (d + k)) fun e u => e = .returned v ∧ ∃ m, u = (w.drewN (d + k)).drewN m) :
    Calls P f args (w.drewN (d + k)) fun e u => e = .returned v ∧ ∃ m, u = w.drewN (d + m) :=
  h.mono fun _ _ ⟨he, m, hu⟩ => ⟨he, k + m, by rw [hu, World.drewN_drewN, Nat.add_assoc]⟩
/-- What a call leaves that hands back bytes and an error. -/
def BRes (t : TypeId) (w : World) (bs : List UInt8) (er : Int) (e : Ending) (w' : World) : Prop :=
  ∃ A c, e = .returned (.tuple #[.slice A bs.length c, .int .i64 er]) ∧ Own w' w.heap.size t 1 A bs.length c (bcells bs) ∧ Below w.heap.size w w'
theorem BRes.nil (t : TypeId) {w w' : World} {er : Int} (h : Below w.heap.size w w') : BRes t w [] er (.returned (.tuple #[.slice none 0 0, .int .i64 er])) w' := ⟨none, 0, rfl, Own.none_ _ _ _ _ _, h⟩
theorem BRes.mk {t : TypeId} {w w' : World} {A : Option Addr} {n c : Nat} {bs : List UInt8} {er : Int} (hn : bs.length = n) (h : Own w' w.heap.size t 1 A n c (bcells bs)) (hb : Below w.heap.size w w') : BRes t w bs er (.returned (.tuple #[.slice A n c, .int .i64 er])) w' := by
  subst hn; exact ⟨A, c, rfl, h, hb⟩
section
variable {P : Program} (w : World)
/-- 'wp_append' as a step of a region that draws its order. -/
theorem step_append {ops : Array Oper} {o : Oper} {a : Act} {K : Act → World → Prop} {Q : Exit → Act → World → Prop} {E : Prop} (hgd : o.guard = none) (x y : Operand) (t : TypeId)
    (ho : o.op = .call { callee := .builtin .append, args := #[x, y], argTypes := #[t, t] })
    (base : Nat) (e : TypeId) (i : TypeInfo) (z : Value) (s bytes : Nat) (ht : P.underlying t = some (.slice e)) (hi : P.info? e = some i) (hz : i.zero = some z)
    (hsize : i.size = s) (hby : i.bytes = bytes) (hzs : z.cells.size = s) (hsz : 0 < s)
    (A : Option Addr) (n c : Nat) (cs : List Value) (hx : a.eval x = .slice A n c) (hown : Own w base e s A n c cs)
    (B : Nat) (A' : Option Addr) (m c' : Nat) (news : List Value) (hy : a.eval y = .slice A' m c') (hr : Row w B A' news) (hl : news.length = m * s) (h1 : ∀ u ∈ news, u.oneCell' = true)
    (h63 : n + m ≤ maxLen) (hbytes : (n + m) * bytes ≤ 140737488355328) (hbase : base ≤ w.heap.size)
    (h : ∀ A2 c2 w2, Own w2 base e s A2 (n + m) c2 (cs ++ news) → w.grownBy w2 (ownAt A c) → (ownAt A2 c2 = ownAt A c ∨ ownAt A2 c2 = some w.heap.size) → K (a.put o.dst (.slice A2 (n + m) c2)) w2) :
    if Region.wanted o (yielded ops a.tmps) = true then Oper.wp P o a w K Q else E := by
  have hw : Region.wanted o (yielded ops a.tmps) = true := by simp [Region.wanted, hgd]
  rw [if_pos hw]
  exact wp_append w x y t ho base e i z s bytes ht hi hz hsize hby hzs hsz A n c cs hx hown B A' m c' news hy hr hl h1 h63 hbytes hbase h
end
end Go.Proofs.YtmhjddmamknglaaGreat
end

section
namespace Go.Proofs.YtmhjddmamknglaaGreat
set_option maxRecDepth 100000
set_option linter.unusedSimpArgs false
set_option linter.unusedVariables false
open Go.RowKit

theorem zeroCells_u8 (m : Nat) : Builtin.zeroCells #[Value.int .u8 0] m = (bcells (zs m)).toArray := by
  apply Array.ext
  · simp [Builtin.zeroCells, zs]
  · intro i h1 h2; simp [Builtin.zeroCells, Nat.mod_one, bcells, zs, B8]

section
variable {P : Program} (w : World)
theorem run_appendz (base : Nat) (t ti ty e : TypeId) (i : TypeInfo) (ht : P.underlying t = some (.slice e)) (hti : P.underlying ti = some (.int .i64)) (hi : P.info? e = some i) (hz : i.zero = some (.int .u8 0))
    (hs : i.size = 1) (hb : i.bytes = 1) (A : Option Addr) (n c : Nat) (cs : List Value) (hown : Own w base e 1 A n c cs) (hc0 : 0 < c) (m : Nat) (hm : 0 < m) (hnm : n + m ≤ 1099511627776) (hbase : base ≤ w.heap.size) :
    ∃ A2 c2 w2, (Builtin.append_ #[t, ti] ty #[.slice A n c, .int .i64 (m : Int)]).run P w = .ok (.slice A2 (n + m) c2) w2 ∧ Own w2 base e 1 A2 (n + m) c2 (cs ++ bcells (zs m)) ∧ w.grownBy w2 (ownAt A c) := by
  obtain ⟨hlen, hnc, hcm, hc⟩ := hown
  obtain ⟨g, cur, rfl, hbg, hg, hcs, htake⟩ := hc hc0
  have wm : IntKind.i64.wrap (m : Int) = (m : Int) := by rw [IntKind.wrap_i64]; omega
  have n1 : ¬ (m : Int) < 0 := by omega
  have n2 : ¬ (281474976710656 : Int) < (m : Int) := by omega
  have n3 : ¬ m = 0 := by omega
  have hlen2 : (cs ++ bcells (zs m)).length = (n + m) * 1 := by rw [List.length_append, hlen, length_bcells, zs_length]; omega
  by_cases hroom : n + m ≤ c
  · have hst := run_storeCells_at P g n e (bcells (zs m)) 0 cur w hg (by rw [length_bcells, zs_length]; omega) (bcells_one _)
    simp only [Nat.add_zero] at hst
    have hr : (Builtin.append_ #[t, ti] ty #[.slice (some ⟨g, 0, none⟩) n c, .int .i64 (m : Int)]).run P w = .ok (.slice (some ⟨g, 0, none⟩) (n + m) c) (w.setRow g (cur.toList.take n ++ bcells (zs m) ++ cur.toList.drop (n + (bcells (zs m)).length)).toArray) := by
      simp [Builtin.append_, run_underlying ht, run_underlying hti, sizeOf, typeInfo, zeroValue, asInt, asIntOf, hi, hz, hs, hb, wm, n1, n2, n3, hroom, Addr.add_lit, zeroCells_u8, Value.cells] at hst ⊢
      rw [hst]; rfl
    refine ⟨_, _, _, hr, ⟨hlen2, hroom, hcm, fun _ => ⟨g, _, rfl, hbg, setRow_heap w g cur _ e _ hg, ?_, ?_⟩⟩, ⟨rfl, rfl, rfl, by simp, fun k hk hne => setRow_other w g k _ (fun e => hne (by simp [ownAt, e]; omega))⟩⟩
    · simp only [List.size_toArray, List.length_append, List.length_take, List.length_drop, Array.length_toList]
      omega
    · rw [← htake, Nat.mul_one, Nat.mul_one, show n + m = (cur.toList.take n ++ bcells (zs m)).length by rw [List.length_append, List.length_take, Array.length_toList, length_bcells, zs_length]; omega]
      exact List.take_left
  · have hfo := run_firstCells_some (P := P) w.drew 1 n ⟨g, 0, none⟩ n c cs hlen (fun j u hu => by
      have hj : j < cs.length := (List.getElem?_eq_some_iff.1 hu).1
      show w.cell? _ = _
      rw [add_eq, Nat.zero_add, cell_of_row w g j cur e (0, 0) hg]
      rw [← htake, List.getElem?_take] at hu
      split at hu
      · simpa using hu
      · cases hu)
    have hcap := grownCap_ge w (n + m) c e
    have hcap2 := grownCap_le_maxLen w (n + m) c e (by unfold maxLen; omega)
    have h63 : ¬ (9223372036854775807 < ((n : Int) + (m : Int))) := by omega
    have h48 : ¬ (281474976710656 < Builtin.nextslicecap (n + m) c) := by
      have := growslice_fits (need := n + m) (old := c) (bytes := 1) (by omega) (by omega)
      omega
    have hr : (Builtin.append_ #[t, ti] ty #[.slice (some ⟨g, 0, none⟩) n c, .int .i64 (m : Int)]).run P w =
        .ok (.slice (some ⟨w.heap.size, 0, none⟩) (n + m) (grownCap w (n + m) c e))
          (w.drew.alloc (.cells (cs.toArray ++ (bcells (zs m)).toArray ++ Builtin.zeroCells #[.int .u8 0] (grownCap w (n + m) c e - (n + m))) e)) := by
      simp [Builtin.append_, run_underlying ht, run_underlying hti, sizeOf, typeInfo, zeroValue, asInt, asIntOf, hi, hz, hs, hb, wm, n1, n2, n3, hroom, h63, h48, Question.forced, zeroCells_u8, Value.cells, hfo, newRow, grownCap]
    refine ⟨_, _, _, hr, ⟨hlen2, hcap, hcap2, fun _ => ⟨w.heap.size, _, rfl, hbase, heap_alloc_new w.drew _, ?_, ?_⟩⟩, ⟨rfl, rfl, rfl, by simp, fun k hk _ => Below.heap_alloc w.drew _ k hk⟩⟩
    · simp only [Array.size_append, List.size_toArray, size_zeroCells, hlen, length_bcells, zs_length]
      simp
      omega
    · simp only [Array.toList_append]
      rw [← hlen2]
      exact List.take_left

theorem wpList_appendz {ops : Array Oper} {rest : List Oper} {o : Oper} {a : Act} {Q : Exit → Act → World → Prop} (hgd : o.guard = none) (x y : Operand) (t ti : TypeId)
    (ho : o.op = .call { callee := .builtin .append, args := #[x, y], argTypes := #[t, ti] })
    (base : Nat) (e : TypeId) (i : TypeInfo) (ht : P.underlying t = some (.slice e)) (hti : P.underlying ti = some (.int .i64)) (hi : P.info? e = some i) (hz : i.zero = some (.int .u8 0))
    (hs : i.size = 1) (hb : i.bytes = 1) (A : Option Addr) (n c : Nat) (cs : List Value) (hx : a.eval x = .slice A n c) (hown : Own w base e 1 A n c cs) (hc0 : 0 < c) (z : Int) (m : Nat) (hzm : z = (m : Int)) (hy : a.eval y = .int .i64 z) (hm : 0 < m) (hnm : n + m ≤ 1099511627776) (hbase : base ≤ w.heap.size)
    (h : ∀ A2 c2 w2, Own w2 base e 1 A2 (n + m) c2 (cs ++ bcells (zs m)) → w.grownBy w2 (ownAt A c) → wpList P ops Q rest (a.put o.dst (.slice A2 (n + m) c2)) w2) : wpList P ops Q (o :: rest) a w := by
  subst hzm
  refine wpList_plain hgd fun _ hK => ?_
  obtain ⟨A2, c2, w2, hrun, h2, h3⟩ := run_appendz (P := P) w base t ti o.type e i ht hti hi hz hs hb A n c cs hown hc0 m hm hnm hbase
  unfold Oper.wp execOp
  simp only [ho, resolve, invoke, builtin, Sem.run_bind, Sem.run_pure, Result.andThen_ok, List.map_toArray, List.map_cons, List.map_nil, hx, hy, hrun]
  exact hK _ _ (h A2 c2 w2 h2 h3)
end
end Go.Proofs.YtmhjddmamknglaaGreat
end

section
namespace Go.Proofs.YtmhjddmamknglaaGreat
set_option maxRecDepth 100000
set_option linter.unusedSimpArgs false
set_option linter.unusedVariables false
open Go.RowKit

theorem bytSup {w : World} {A : Option Addr} {n c : Nat} {bs : List UInt8} (h : Byt w w.heap.size A n c bs) : Sup w (blks #[.slice A n c]) (fun u => Byt u u.heap.size A n c bs) := by
  have hin : 0 < n → ∀ a, A = some a → blks #[.slice A n c] a.block := fun hn a e => ⟨A, n, c, a, by simp, hn, e, rfl⟩
  refine ⟨h, fun q hq => ?_, fun R w' ho hd => h.only ho fun a e hn => hd _ (hin hn a e)⟩
  obtain ⟨A', n', c', a, hm, hn, e, rfl⟩ := hq
  simp at hm
  obtain ⟨rfl, rfl, rfl⟩ := hm
  obtain ⟨b, o, e2, hb⟩ := h.at_ hn
  rw [e] at e2; injection e2 with e2; subst e2
  exact hb
theorem Scn.asVal {w0 w : World} {L : List Ent} {O : List Osl} {Fs Vs : List Thing} (h : Scn w0 w L O Fs Vs) (i : Nat) {A : Option Addr} {n c : Nat} {t : TypeId} {bs : List UInt8} (hi : O[i]? = some ⟨t, 1, A, n, c, bcells bs⟩) :
    Scn w0 w L O Fs (Vs ++ [⟨blks #[.slice A n c], fun u => Byt u u.heap.size A n c bs⟩]) := by
  have hb := h.byt i hi
  have hc := hb.2.1
  refine ⟨h.cal, h.fs, fun x hx => ?_⟩
  rcases List.mem_append.1 hx with hx | hx
  · exact h.vs x hx
  · obtain rfl := List.mem_singleton.1 hx
    have key : ∀ q, blks #[.slice A n c] q → ownAt A c = some q := by
      intro q hq
      obtain ⟨A', n', c', a, hm, hn, e, rfl⟩ := hq
      simp at hm
      obtain ⟨rfl, rfl, rfl⟩ := hm
      exact ownAt_some (Nat.lt_of_lt_of_le hn hc) e
    refine ⟨bytSup hb, fun y hy q hy2 hq2 => ?_, fun e he hq2 => ?_⟩
    · exact h.cal.ds _ (List.mem_map.2 ⟨y, hy, rfl⟩) _ (List.mem_of_getElem? hi) q (key q hq2) hy2
    · exact h.cal.mem.slL _ (List.mem_of_getElem? hi) e he (key _ hq2)
theorem Scn.bytV {w0 w : World} {L : List Ent} {O : List Osl} {Fs Vs : List Thing} (h : Scn w0 w L O Fs Vs) (i k : Nat) {x : Thing} (hk : Fs[k]? = some x) {A : Option Addr} {n c : Nat} {bs : List UInt8} (hi : Vs[i]? = some ⟨blks #[.slice A n c], fun u => Byt u u.heap.size A n c bs⟩) : Byt w w.heap.size A n c bs ∧ ∀ a, A = some a → 0 < n → ¬ x.G a.block :=
  ⟨h.val i hi, fun a e hn hq => (h.vs _ (List.mem_of_getElem? hi)).2.1 x (List.mem_of_getElem? hk) a.block hq ⟨A, n, c, a, by simp, hn, e, rfl⟩⟩
end Go.Proofs.YtmhjddmamknglaaGreat
end

section
namespace Go.Proofs.YtmhjddmamknglaaGreat
set_option maxRecDepth 100000
set_option linter.unusedSimpArgs false
set_option linter.unusedVariables false
open Go.RowKit

/-- The same world without its memory. -/
def bareW (w : World) : World := { w with heap := #[] }
theorem bareW_below (w : World) : Below 0 (bareW w) w := ⟨rfl, rfl, rfl, Nat.zero_le _, fun k hk => absurd hk (Nat.not_lt_zero _)⟩
structure Mth (G0 : Nat → Prop) (w0 w : World) (L : List Ent) (O : List Osl) (Fs Vs : List Thing) : Prop where
  scn : Scn (bareW w0) w L O Fs Vs
  only : Only G0 w0 w
  lnew : ∀ e ∈ L, w0.heap.size ≤ e.g
  onew : ∀ x ∈ O, ∀ q, ownAt x.A x.c = some q → w0.heap.size ≤ q
  fold : ∀ x ∈ Fs, ∀ q, x.G q → G0 q ∨ w0.heap.size ≤ q
section
variable {G0 : Nat → Prop} {w0 w w' : World} {L L2 : List Ent} {O O2 : List Osl} {Fs Vs Vs2 : List Thing} {G : Nat → Prop} {p p' : World → Prop}
theorem Mth.enter (w0 : World) (G0 : Nat → Prop) (Fs Vs : List Thing) (hf : ∀ x ∈ Fs, Sup w0 x.G x.p) (hp : Fs.Pairwise fun x y => ∀ q, x.G q → ¬ y.G q) (h0 : ∀ x ∈ Fs, ∀ q, x.G q → G0 q) (hv : ∀ x ∈ Vs, Sup w0 x.G x.p ∧ ∀ y ∈ Fs, ∀ q, y.G q → ¬ x.G q) : Mth G0 w0 w0 [] [] Fs Vs :=
  { scn :=
      { cal :=
          { mem := (Mem.nil _ (bareW w0)).below (bareW_below w0)
            lo := fun F _ q _ => Nat.zero_le q
            lt := fun F hF q hq => by
              obtain ⟨x, hx, rfl⟩ := List.mem_map.1 hF
              exact (hf x hx).lt q hq
            dl := fun F _ e he => by cases he
            ds := fun F _ x hx => by cases hx
            df := by rw [List.pairwise_map]; exact hp }
        fs := hf
        vs := fun x hx => ⟨(hv x hx).1, (hv x hx).2, fun e he => by cases he⟩ }
    only := Only.refl _ _
    lnew := fun e he => by cases he
    onew := fun x hx => by cases hx
    fold := fun x hx q hq => .inl (h0 x hx q hq) }
theorem Mth.low (h : Mth G0 w0 w L O Fs Vs) : Only G0 w0 w := h.only
theorem Mth.size (h : Mth G0 w0 w L O Fs Vs) : w0.heap.size ≤ w.heap.size := h.only.size
theorem Mth.rebase (h : Mth G0 w0 w L O Fs Vs) : Mem (fun q => ∃ e ∈ L, q = e.g) w w L [] := h.scn.rebase
theorem Mth.obj (h : Mth G0 w0 w L O Fs Vs) (k : Nat) {x : Thing} (hk : Fs[k]? = some x) : x.p w := h.scn.obj k hk
theorem Mth.val (h : Mth G0 w0 w L O Fs Vs) (k : Nat) {x : Thing} (hk : Vs[k]? = some x) : x.p w := h.scn.val k hk
theorem Mth.lt (h : Mth G0 w0 w L O Fs Vs) (k : Nat) {x : Thing} (hk : Fs[k]? = some x) (q : Nat) (hq : x.G q) : q < w.heap.size := h.scn.lt k hk q hq
theorem Mth.ent (h : Mth G0 w0 w L O Fs Vs) (k : Nat) {e : Ent} (hk : L[k]? = some e) : Blk w e.g e.t e.cs := h.scn.ent k hk
theorem Mth.byt {A : Option Addr} {n c : Nat} {t : TypeId} {bs : List UInt8} (h : Mth G0 w0 w L O Fs Vs) (k : Nat) (hk : O[k]? = some ⟨t, 1, A, n, c, bcells bs⟩) : Byt w w.heap.size A n c bs := h.scn.byt k hk
theorem Mth.bytO (h : Mth G0 w0 w L O Fs Vs) (i k : Nat) {x : Thing} (hk : Fs[k]? = some x) {A : Option Addr} {n c : Nat} {t : TypeId} {bs : List UInt8} (hi : O[i]? = some ⟨t, 1, A, n, c, bcells bs⟩) : Byt w w.heap.size A n c bs ∧ ∀ a, A = some a → 0 < n → ¬ x.G a.block := h.scn.bytO i k hk hi
theorem Mth.bytV (h : Mth G0 w0 w L O Fs Vs) (i k : Nat) {x : Thing} (hk : Fs[k]? = some x) {A : Option Addr} {n c : Nat} {bs : List UInt8} (hi : Vs[i]? = some ⟨blks #[.slice A n c], fun u => Byt u u.heap.size A n c bs⟩) : Byt w w.heap.size A n c bs ∧ ∀ a, A = some a → 0 < n → ¬ x.G a.block := h.scn.bytV i k hk hi
/-- A slice of the method's own: it is new. -/
theorem Mth.own (h : Mth G0 w0 w L O Fs Vs) (k : Nat) {x : Osl} (hk : O[k]? = some x) : Own w w0.heap.size x.t x.s x.A x.n x.c x.cs := by
  have hm := List.mem_of_getElem? hk
  have h1 := h.scn.cal.mem.sl _ hm
  refine ⟨h1.1, h1.2.1, h1.2.2.1, fun hc => ?_⟩
  obtain ⟨g, cur, e, _, h2⟩ := h1.2.2.2 hc
  exact ⟨g, cur, e, h.onew _ hm g (by unfold ownAt; rw [if_neg (by omega), e]; rfl), h2⟩
theorem Mth.resync (h : Mth G0 w0 w L O Fs Vs) (hm : Mem (fun q => ∃ e ∈ L, q = e.g) w w' L2 O2) : Mth G0 w0 w' L2 (O ++ O2) Fs Vs :=
  { scn := h.scn.resync hm
    only := h.only.more hm.only (fun q _ ⟨e, he, e2⟩ => .inr (e2 ▸ h.lnew e he))
    lnew := fun e he => by
      have := h.size
      rcases hm.own e he with ⟨e2, he2, e3⟩ | h4
      · rw [e3]; exact h.lnew e2 he2
      · omega
    onew := fun x hx q hq => by
      have := h.size
      rcases List.mem_append.1 hx with hx | hx
      · exact h.onew x hx q hq
      · rcases hm.slR x hx q hq with ⟨e2, he2, e3⟩ | h4
        · rw [e3]; exact h.lnew e2 he2
        · omega
    fold := h.fold }
theorem Mth.below (h : Mth G0 w0 w L O Fs Vs) (hb : Below w.heap.size w w') : Mth G0 w0 w' L O Fs Vs :=
  { scn := h.scn.below hb, only := h.only.trans ((Only.of_below hb).mono fun _ _ e => e), lnew := h.lnew, onew := h.onew, fold := h.fold }
theorem Mth.got {t : TypeId} {k : Nat} {A : Option Addr} {n c : Nat} {cs : List Value} (h : Mth G0 w0 w L O Fs Vs) (hb : Below w.heap.size w w') (hx : Own w' w.heap.size t k A n c cs) : Mth G0 w0 w' L (O ++ [⟨t, k, A, n, c, cs⟩]) Fs Vs :=
  { scn := h.scn.got hb hx
    only := (h.below hb).only
    lnew := h.lnew
    onew := fun x hm q hq => by
      rcases List.mem_append.1 hm with hm | hm
      · exact h.onew x hm q hq
      · obtain rfl := List.mem_singleton.1 hm
        have := (hx.lt q hq).1; have := h.size; omega
    fold := h.fold }
theorem Mth.born (h : Mth G0 w0 w L O Fs Vs) (hb : Below w.heap.size w w') (hs : Sup w' G p) (hF : ∀ q, G q → w.heap.size ≤ q) : Mth G0 w0 w' L O (Fs ++ [⟨G, p⟩]) Vs :=
  { scn := h.scn.born hb hs hF
    only := (h.below hb).only
    lnew := h.lnew
    onew := h.onew
    fold := fun x hx q hq => by
      rcases List.mem_append.1 hx with hx | hx
      · exact h.fold x hx q hq
      · obtain rfl := List.mem_singleton.1 hx
        have := hF q hq; have := h.size; exact .inr (by omega) }
theorem Mth.turn (h : Mth G0 w0 w L O Fs Vs) (i : Nat) (hi : Fs[i]? = some ⟨G, p⟩) {G' : Nat → Prop} (ho : Only G w w') (hF : ∀ q, G' q → G q ∨ w.heap.size ≤ q) (hs : Sup w' G' p') : Mth G0 w0 w' L O (Fs.set i ⟨G', p'⟩) Vs :=
  { scn := h.scn.turn i hi ho hF hs
    only := h.only.more ho (fun q _ hq => h.fold _ (List.mem_of_getElem? hi) q hq)
    lnew := h.lnew
    onew := h.onew
    fold := fun x hx q hq => by
      rcases List.mem_or_eq_of_mem_set hx with hx | rfl
      · exact h.fold x hx q hq
      · rcases hF q hq with h1 | h1
        · exact h.fold _ (List.mem_of_getElem? hi) q h1
        · have := h.size; exact .inr (by omega) }
theorem Mth.turned {t : TypeId} {k : Nat} {A : Option Addr} {n c : Nat} {cs : List Value} (h : Mth G0 w0 w L O Fs Vs) (i : Nat) (hi : Fs[i]? = some ⟨G, p⟩) {G' : Nat → Prop} (ho : Only G w w') (hF : ∀ q, G' q → G q ∨ w.heap.size ≤ q) (hs : Sup w' G' p')
    (hx : Own w' w.heap.size t k A n c cs) (hd : ∀ q, G' q → ownAt A c ≠ some q) : Mth G0 w0 w' L (O ++ [⟨t, k, A, n, c, cs⟩]) (Fs.set i ⟨G', p'⟩) Vs :=
  have h2 := h.turn i hi ho hF hs
  { scn := h.scn.turned i hi ho hF hs hx hd
    only := h2.only
    lnew := h.lnew
    onew := fun x hm q hq => by
      rcases List.mem_append.1 hm with hm | hm
      · exact h.onew x hm q hq
      · obtain rfl := List.mem_singleton.1 hm
        have := (hx.lt q hq).1; have := h.size; omega
    fold := h2.fold }
theorem Mth.part (h : Mth G0 w0 w L O Fs Vs) (hL : L2.Sublist L) (hO : O2.Sublist O) (hV : Vs2.Sublist Vs) : Mth G0 w0 w L2 O2 Fs Vs2 :=
  { scn := h.scn.part hL hO hV, only := h.only, lnew := fun e he => h.lnew e (hL.subset he), onew := fun x hx => h.onew x (hO.subset hx), fold := h.fold }
theorem Mth.keep (h : Mth G0 w0 w L O Fs Vs) (i j k : Nat) : Mth G0 w0 w (L.take i) (O.take j) Fs (Vs.drop k) := h.part (List.take_sublist _ _) (List.take_sublist _ _) (List.drop_sublist _ _)
/-- The last of the method's own slices alone. -/
theorem Mth.lastO (h : Mth G0 w0 w L O Fs Vs) (j : Nat) {x : Osl} (hj : O[j]? = some x) : Mth G0 w0 w L [x] Fs Vs := h.part (List.Sublist.refl _) (List.singleton_sublist.2 (List.mem_of_getElem? hj)) (List.Sublist.refl _)
/-- A slice of the caller's own is appended to. -/
theorem Cal.app {Gs : List (Nat → Prop)} {t : TypeId} {s : Nat} {A : Option Addr} {n c : Nat} {cs news : List Value} {m : Nat} {A2 : Option Addr} {c2 : Nat} (h : Cal w0 w L O Gs) (k : Nat) (hk : O[k]? = some ⟨t, s, A, n, c, cs⟩)
    (h2 : Own w' 0 t s A2 m c2 news) (h3 : Only (fun q => ownAt A c = some q) w w') (h4 : ownAt A2 c2 = ownAt A c ∨ ownAt A2 c2 = some w.heap.size) : Cal w0 w' L (O.set k ⟨t, s, A2, m, c2, news⟩) Gs :=
  { mem := h.mem.app k hk h2 h3 h4
    lo := h.lo
    lt := fun F hF q hq => Nat.lt_of_lt_of_le (h.lt F hF q hq) h3.size
    dl := h.dl
    ds := fun F hF x hx q hq hq2 => by
      rcases List.mem_or_eq_of_mem_set hx with hx | rfl
      · exact h.ds F hF x hx q hq hq2
      · rcases h4 with h4 | h4
        · exact h.ds F hF _ (List.mem_of_getElem? hk) q (by rw [← h4]; exact hq) hq2
        · have hq : ownAt A2 c2 = some q := hq
          rw [h4] at hq
          cases hq
          have := h.lt F hF _ hq2; omega
    df := h.df }
theorem Mth.app {t : TypeId} {s : Nat} {A : Option Addr} {n c : Nat} {cs news : List Value} {m : Nat} {A2 : Option Addr} {c2 : Nat} (h : Mth G0 w0 w L O Fs Vs) (k : Nat) (hk : O[k]? = some ⟨t, s, A, n, c, cs⟩)
    (h2 : Own w' 0 t s A2 m c2 news) (hg : w.grownBy w' (ownAt A c)) (h4 : ownAt A2 c2 = ownAt A c ∨ ownAt A2 c2 = some w.heap.size) (hV : ∀ x ∈ Vs, ∀ q, x.G q → q < w0.heap.size) : Mth G0 w0 w' L (O.set k ⟨t, s, A2, m, c2, news⟩) Fs Vs := by
  have h3 : Only (fun q => ownAt A c = some q) w w' := (Only.refl (fun q => ownAt A c = some q) w).grown hg (fun _ e => e)
  have hmem := List.mem_of_getElem? hk
  refine { scn := { cal := h.scn.cal.app k hk h2 h3 h4, fs := fun x hx => (h.scn.fs x hx).only h3 (fun q hq e => h.scn.cal.ds _ (List.mem_map.2 ⟨x, hx, rfl⟩) _ hmem q e hq), vs := fun x hx => ?_ }, only := h.only.more h3 (fun q _ hq => .inr (h.onew _ hmem q hq)), lnew := h.lnew, onew := fun x hx q hq => ?_, fold := h.fold }
  · obtain ⟨h5, h6, h7⟩ := h.scn.vs x hx
    exact ⟨h5.only h3 (fun q hq e => by have := hV x hx q hq; have := h.onew _ hmem q e; omega), h6, h7⟩
  · rcases List.mem_or_eq_of_mem_set hx with hx | rfl
    · exact h.onew x hx q hq
    · rcases h4 with h4 | h4
      · exact h.onew _ hmem q (by rw [← h4]; exact hq)
      · have hq : ownAt A2 c2 = some q := hq
        rw [h4] at hq
        cases hq
        exact h.size
end
end Go.Proofs.YtmhjddmamknglaaGreat
end

section
namespace Go.Proofs.YtmhjddmamknglaaGreat
set_option maxRecDepth 100000
set_option linter.unusedSimpArgs false
set_option linter.unusedVariables false
open Go.RowKit

theorem byt_of_row {w : World} {a : Option Addr} {len cap : Nat} {zs : List Int}
    (h : (a = none ∧ len = 0 ∧ cap = 0 ∧ zs = []) ∨ ∃ x, a = some x ∧ len ≤ cap ∧ cap ≤ maxLen ∧ zs.length = cap ∧ (∀ i, i < zs.length → w.cell? (x.add i) = some (.int .u8 (zs.getD i 0))) ∧ ∀ n ∈ zs, (Lit.int .u8 n).wf = true) :
    ∃ bs, Byt w w.heap.size a len cap bs ∧ cap ≤ maxLen := by
  rcases h with ⟨rfl, rfl, rfl, rfl⟩ | ⟨x, rfl, hl, hm, hz, hc, hw⟩
  · exact ⟨[], ⟨rfl, Nat.le_refl _, Row.nil _ _ _⟩, Nat.zero_le _⟩
  · refine ⟨(zs.take len).map fun z => UInt8.ofNat z.toNat, ⟨by simp; omega, hl, fun hn => ?_⟩, hm⟩
    have hn' : 0 < len := by simp at hn; omega
    have hc0 := hc 0 (by omega)
    have hx0 : x.add 0 = x := by unfold Addr.add; simp
    rw [hx0] at hc0
    obtain ⟨b, o, s⟩ := x
    have hs : s = none := by
      cases s with
      | none => rfl
      | some q => simp only [World.cell?] at hc0; split at hc0 <;> simp at hc0
    subst hs
    refine ⟨b, o, rfl, World.block_lt_of_cell? w _ hc0, fun j hj => ?_⟩
    rw [length_bcells, List.length_map, List.length_take] at hj
    have hj' : j < zs.length := by omega
    have h1 := hc j hj'
    rw [add_eq] at h1
    rw [h1, bcells_get, List.getElem?_map, List.getElem?_take, if_pos (by omega), List.getElem?_eq_getElem hj']
    have hb := hw zs[j] (List.getElem_mem hj')
    have hbd : 0 ≤ zs[j] ∧ zs[j] ≤ 255 := by simpa [Lit.wf, IntKind.min, IntKind.max, IntKind.signed, IntKind.bits] using hb
    simp only [List.getD, List.getElem?_eq_getElem hj', Option.getD_some, Option.map_some, B8]
    congr 2
    rw [UInt8.toNat_ofNat_of_lt' (by simp only [UInt8.size]; omega)]
    omega
end Go.Proofs.YtmhjddmamknglaaGreat
end

section
namespace Go.Proofs.YtmhjddmamknglaaGreat
set_option maxRecDepth 100000
set_option linter.unusedSimpArgs false
set_option linter.unusedVariables false
open Go.RowKit Go.ChangeShapes Go.WideShapes Go.Deep

section
variable {H : Type} {enc : TypeId × Value → H} {P : Program} {w : World} {base : Nat} {spare : Nat → Bool} {held : Bool}
/-- Every field of every element has its cell, and is read by itself. -/
theorem fields_of_slice {t e : TypeId} {fs : Array Field} {fuel : Nat} {cs : List Value} {x : DataW H × List MemPlace} (ht : P.underlying t = some (.slice e)) (he : P.underlying e = some (.struct fs))
    (hone : oneCellFields P fs = true) (hC : P.cellsOf e = fs.size) (h : DataW.trod enc P w base spare held fuel t cs = some x) :
    cs = [.slice none 0 0] ∨ ∃ (a : Addr) (len cap : Nat), cs = [.slice (some a) len cap] ∧ len ≤ cap ∧ cap ≤ maxLen ∧
      ∀ (i j : Nat) (f : Field), i < len → fs[j]? = some f → ∃ (v : Value) (y : DataW H × List MemPlace) (n : Nat), w.cell? (a.add (i * fs.size + j)) = some v ∧ DataW.trod enc P w base spare held n f.type [v] = some y := by
  rcases open_slice ht h with h0 | ⟨a, len, cap, m, n, D, Pl, hcs, _, hl, hm, hmm, _, hi⟩
  · exact .inl h0.1
  · refine .inr ⟨a, len, cap, hcs, hl, hm, fun i j f hlt hj => ?_⟩
    obtain ⟨l, hc, hd⟩ := hi i (by rw [hmm]; split <;> omega)
    rw [hC] at hc
    obtain ⟨ys, k, _, _, _, hyl, hf⟩ := DataW.trod_struct he hd
    obtain ⟨_, hll, hat⟩ := World.cells?_some hc
    obtain ⟨ho, hk⟩ := hone_of hone j f hj
    have hjl : j < fs.size := (Array.getElem?_eq_some_iff.1 hj).1
    have h1 := hf j f hj
    have hd1 : l.drop j = l[j]'(by omega) :: l.drop (j + 1) := List.drop_eq_getElem_cons (by omega)
    rw [ho, hk, hd1, List.getElem?_eq_getElem (by omega)] at h1
    refine ⟨l[j]'(by omega), _, k, ?_, h1⟩
    rw [← add_add, hat j hjl, List.getElem?_eq_getElem (by omega)]
end

/-- An address whose cell 0 is there has no path. -/
theorem spot_none {w : World} {a : Addr} {v : Value} (h : w.cell? (a.add 0) = some v) : ∃ b o, a = ⟨b, o, none⟩ ∧ b < w.heap.size := by
  have hx0 : a.add 0 = a := by unfold Addr.add; simp
  rw [hx0] at h
  obtain ⟨b, o, s⟩ := a
  have hs : s = none := by
    cases s with
    | none => rfl
    | some q => simp only [World.cell?] at h; split at h <;> simp at h
  subst hs
  exact ⟨b, o, rfl, World.block_lt_of_cell? w _ h⟩
end Go.Proofs.YtmhjddmamknglaaGreat
end

section
namespace Go.Proofs.YtmhjddmamknglaaGreat
set_option maxRecDepth 100000
set_option linter.unusedSimpArgs false
set_option linter.unusedVariables false
open Go.RowKit Go.ChangeShapes Go.WideShapes Go.Deep

section
variable {H : Type} {enc : TypeId × Value → H} {P : Program} {w : World} {base : Nat} {spare : Nat → Bool} {held : Bool}
theorem agg_of_trod {t : TypeId} {fs : Array Field} {r : Reach} {b0 : Nat} {v : Value} {d : DataW H} {p : List MemPlace} (hs : P.underlying t = some (.struct fs)) (hone : oneCellFields P fs = true) (hC : P.cellsOf t = fs.size)
    (hv : Value.okWide P w r b0 t v) (h : DataW.Trod enc P w base spare held t v d p) :
    ∃ cs : Array Value, v = .agg cs ∧ cs.size = fs.size ∧ ∀ (j : Nat) (f : Field), fs[j]? = some f → ∃ (x : Value) (y : DataW H × List MemPlace) (n : Nat), cs[j]? = some x ∧ DataW.trod enc P w base spare held n f.type [x] = some y := by
  obtain ⟨cs, rfl, hsz⟩ := okWide_struct hs hv
  obtain ⟨fuel, hf⟩ := h
  refine ⟨cs, rfl, hsz.trans hC, fun j f hj => ?_⟩
  obtain ⟨ys, k, _, _, _, hyl, hg⟩ := DataW.trod_struct hs hf
  obtain ⟨ho, hk⟩ := hone_of hone j f hj
  have hjl : j < fs.size := (Array.getElem?_eq_some_iff.1 hj).1
  have h1 := hg j f hj
  have hl : (Value.agg cs).cells = cs := rfl
  rw [hl] at h1
  have hjc : j < cs.toList.length := by rw [Array.length_toList, hsz, hC]; exact hjl
  rw [ho, hk, List.drop_eq_getElem_cons hjc, List.getElem?_eq_getElem (by omega)] at h1
  exact ⟨cs.toList[j], _, k, by rw [← Array.getElem?_toList, List.getElem?_eq_getElem hjc], h1⟩

/-- A field that is an int. -/
theorem fint_of_trod {t : TypeId} {n : Nat} {v : Value} {y : DataW H × List MemPlace} (ht : P.underlying t = some (.int .i64)) (h : DataW.trod enc P w base spare held n t [v] = some y) : ∃ z, v = .int .i64 z ∧ -9223372036854775808 ≤ z ∧ z ≤ 9223372036854775807 := by
  obtain ⟨z, e, _, hw⟩ := DataW.trod_int ht h
  exact ⟨z, by simpa using e, by simpa [Lit.wf, IntKind.min, IntKind.max, IntKind.signed, IntKind.bits] using hw⟩
theorem fbool_of_trod {t : TypeId} {n : Nat} {v : Value} {y : DataW H × List MemPlace} (ht : P.underlying t = some .bool) (h : DataW.trod enc P w base spare held n t [v] = some y) : ∃ z, v = .bool z := by
  obtain ⟨z, e, _⟩ := DataW.trod_bool ht h
  exact ⟨z, by simpa using e⟩
/-- A field that is a slice of bytes. -/
theorem fbyt_of_trod {t e : TypeId} {n : Nat} {v : Value} {y : DataW H × List MemPlace} (ht : P.underlying t = some (.slice e)) (he : P.underlying e = some (.int .u8)) (hC : P.cellsOf e = 1) (h : DataW.trod enc P w base spare held n t [v] = some y) :
    ∃ A len cap bs, v = .slice A len cap ∧ Byt w w.heap.size A len cap bs ∧ cap ≤ maxLen := by
  rcases open_slice1 ht hC h with ⟨h0, _⟩ | ⟨a, len, cap, m, n, V, D, Pl, hcs, _, hl, hm, hmm, _, hx⟩
  · exact ⟨none, 0, 0, [], by simpa using h0, ⟨rfl, Nat.le_refl _, Row.nil _ _ _⟩, Nat.zero_le _⟩
  · have key : ∀ i, i < len → ∃ b : UInt8, w.cell? (a.add i) = some (B8 b) := fun i hi => by
      obtain ⟨h1, h2⟩ := hx i (by rw [hmm]; split <;> omega)
      obtain ⟨z, e2, _, hw⟩ := DataW.trod_int he h2
      have hbd : 0 ≤ z ∧ z ≤ 255 := by simpa [Lit.wf, IntKind.min, IntKind.max, IntKind.signed, IntKind.bits] using hw
      refine ⟨UInt8.ofNat z.toNat, ?_⟩
      rw [h1]
      have e3 : V i = .int .u8 z := by simpa using e2
      rw [e3, B8, UInt8.toNat_ofNat_of_lt' (by simp only [UInt8.size]; omega), show ((z.toNat : Nat) : Int) = z by omega]
    obtain ⟨f, hf⟩ := @choose_lt _ ⟨(0 : UInt8)⟩ len _ key
    refine ⟨some a, len, cap, (List.range len).map f, by simpa using hcs, ⟨by simp, hl, fun hn => ?_⟩, hm⟩
    have hn0 : 0 < len := by simpa using hn
    obtain ⟨b, o, rfl, hb⟩ := spot_none (hf 0 hn0)
    refine ⟨b, o, rfl, hb, fun j hj => ?_⟩
    have hjn : j < len := by simpa using hj
    have := hf j hjn
    rw [add_eq] at this
    rw [this]
    simp [bcells, hjn]
end
end Go.Proofs.YtmhjddmamknglaaGreat
end

section
namespace Go.Proofs.YtmhjddmamknglaaGreat
set_option maxRecDepth 100000
set_option linter.unusedSimpArgs false
set_option linter.unusedVariables false
open Go.RowKit

/-- A slice of bytes as a value, with what it shows. -/
structure SV where
  a : Option Addr
  n : Nat
  c : Nat
  bs : List UInt8
def SV.val (v : SV) : Value := .slice v.a v.n v.c
/-- What the strings are together. -/
def joined (vs : List SV) : List UInt8 := vs.flatMap (·.bs)
theorem joined_nil : joined [] = [] := rfl
theorem joined_take (vs : List SV) (k : Nat) (h : k < vs.length) : joined (vs.take (k + 1)) = joined (vs.take k) ++ vs[k].bs := by
  unfold joined
  rw [List.take_succ_eq_append_getElem h, List.flatMap_append]; simp
theorem joined_le (vs : List SV) (k : Nat) : (joined (vs.take k)).length ≤ (joined vs).length := by
  have h : joined vs = joined (vs.take k) ++ joined (vs.drop k) := by
    unfold joined; rw [← List.flatMap_append, List.take_append_drop]
  rw [h, List.length_append]; omega
/-- A slice of such slices. -/
def Byts (w : World) (B : Nat) (A : Option Addr) (vs : List SV) : Prop := Row w B A (vs.map SV.val) ∧ ∀ v ∈ vs, Byt w B v.a v.n v.c v.bs
section
variable {w w' : World} {B B' : Nat} {A : Option Addr} {vs : List SV}
theorem Byts.below (h : Byts w B A vs) (hb : Below B w w') : Byts w' B A vs := ⟨h.1.below hb, fun v hv => (h.2 v hv).below hb⟩
theorem Byts.more (h : Byts w B A vs) (hB : B ≤ B') : Byts w B' A vs := ⟨h.1.more hB, fun v hv => (h.2 v hv).more hB⟩
theorem Byts.at_ (h : Byts w B A vs) {k : Nat} (hk : k < vs.length) : ∃ b o, A = some ⟨b, o, none⟩ ∧ w.cell? ⟨b, o + k, none⟩ = some (.slice vs[k].a vs[k].n vs[k].c) ∧ Byt w B vs[k].a vs[k].n vs[k].c vs[k].bs := by
  obtain ⟨b, o, e, _, hc⟩ := h.1.at_ (j := k) (by simpa using hk)
  exact ⟨b, o, e, by rw [hc, List.getElem_map]; rfl, h.2 _ (List.getElem_mem hk)⟩
end
/-- One slice in a block of its own. -/
theorem Byts.one {w : World} {A : Option Addr} {n c : Nat} {bs : List UInt8} {t : TypeId} (h : Byt w w.heap.size A n c bs) :
    Byts (w.alloc (.cells #[.slice A n c] t)) (w.heap.size + 1) (some ⟨w.heap.size, 0, none⟩) [⟨A, n, c, bs⟩] := by
  refine ⟨Row.new w rfl, fun v hv => ?_⟩
  obtain rfl := List.mem_singleton.1 hv
  exact (h.below ((Below.refl _ _).alloc (Nat.le_refl _) _)).more (by omega)
end Go.Proofs.YtmhjddmamknglaaGreat
end

section
namespace Go.Proofs.YtmhjddmamknglaaGreat
set_option maxRecDepth 100000
set_option linter.unusedSimpArgs false
set_option linter.unusedVariables false
open Go.RowKit Go.ChangeShapes Go.WideShapes Go.Deep

theorem weights_all {H : Type} {P : Program} {e : TypeId} {d : DataW H} {x : Nat} : ∀ {l : List (DataW H)}, d ∈ l → x ∈ DataW.weights P e d → x ∈ DataW.weightsAll P e l
  | [], hd, _ => by cases hd
  | y :: l, hd, hx => by
    simp only [DataW.weightsAll, List.mem_append]
    rcases List.mem_cons.1 hd with rfl | h
    · exact .inl hx
    · exact .inr (weights_all h hx)
theorem bss_of_trod {H : Type} {enc : TypeId × Value → H} {w : World} {base : Nat} {held : Bool} {A : Option Addr} {n c : Nat} {d : DataW H} {p : List MemPlace}
    (h : DataW.Trod enc Tryz.prog w base (fun _ => true) held 104 (.slice A n c) d p) (hsz : ∀ x ∈ DataW.weights Tryz.prog 104 d, x ≤ reachBytes) : ∃ vs : List SV, (vs.length = n ∧ Byts w w.heap.size A vs ∧ n ≤ c ∧ ∀ v ∈ vs, v.c ≤ 140737488351232) ∧ c ≤ maxLen := by
  obtain ⟨fuel, hf⟩ := h
  rcases open_int_rows Tryz.underlying104 Tryz.underlying33 Tryz.underlying5 (by kernel_rfl) (by kernel_rfl) hf with ⟨hcs, _⟩ | ⟨a, len, cap, X, L, C, Z, hcs, _, hl, hm, hdp, hr⟩
  · simp [Value.cells] at hcs
    obtain ⟨rfl, rfl, rfl⟩ := hcs
    exact ⟨[], ⟨rfl, ⟨Row.nil _ _ _, fun v hv => (by cases hv)⟩, Nat.le_refl _, fun v hv => (by cases hv)⟩, Nat.zero_le _⟩
  · simp [Value.cells] at hcs
    obtain ⟨rfl, rfl, rfl⟩ := hcs
    have hd : d = .slice ((List.range n).map fun r => intRow .u8 (X r) (L r) (Z r)) ((List.range (c - n)).map fun j => intRow .u8 (X (n + j)) (L (n + j)) (Z (n + j))) := by
      injection hdp
    have hbyt : (Tryz.prog).bytesOf 5 = 1 := by kernel_rfl
    have key : ∀ r, r < n → ∃ v : SV, w.cell? (a.add r) = some (.slice v.a v.n v.c) ∧ Byt w w.heap.size v.a v.n v.c v.bs ∧ v.c ≤ 140737488351232 := fun r hrn => by
      obtain ⟨h1, h2, h3, h4, h5, h6, h7⟩ := hr r (by omega)
      have hcr : C r ≤ 140737488351232 := by
        cases hx : X r with
        | none => have := h6 hx; omega
        | some a' =>
          have hw : C r ∈ DataW.weights (H := H) Tryz.prog 33 (intRow .u8 (X r) (L r) (Z r)) := by
            rw [hx]
            simp only [intRow, DataW.weights, Tryz.underlying33, hbyt, Nat.mul_one]
            refine List.mem_cons.2 (.inl ?_)
            simp only [lits, List.length_map, List.length_take, List.length_drop]
            omega
          have hin : C r ∈ DataW.weights (H := H) Tryz.prog 104 d := by
            rw [hd]
            simp only [DataW.weights, Tryz.underlying104]
            refine List.mem_cons.2 (.inr (List.mem_append.2 (.inl (weights_all (List.mem_map.2 ⟨r, List.mem_range.2 hrn, rfl⟩) hw))))
          have := hsz _ hin
          simp only [reachBytes] at this
          omega
      have : ∃ bs, Byt w w.heap.size (X r) (L r) (C r) bs ∧ C r ≤ maxLen := by
        refine byt_of_row (zs := Z r) ?_
        cases hx : X r with
        | none =>
          have hc0 := h6 hx
          exact .inl ⟨rfl, by omega, hc0, List.eq_nil_of_length_eq_zero (by rw [h4]; exact hc0)⟩
        | some a' =>
          obtain ⟨_, h8⟩ := h7 a' hx
          exact .inr ⟨a', rfl, h2, h3, h4, fun i hi => h8 i (by omega), h5⟩
      obtain ⟨bs, hb, _⟩ := this
      exact ⟨⟨X r, L r, C r, bs⟩, h1, hb, hcr⟩
    obtain ⟨f, hf⟩ := @choose_lt _ ⟨(⟨none, 0, 0, []⟩ : SV)⟩ n _ key
    refine ⟨(List.range n).map f, ⟨by simp, ⟨fun hn => ?_, fun v hv => ?_⟩, hl, fun v hv => ?_⟩, hm⟩
    · have hn0 : 0 < n := by simpa using hn
      obtain ⟨b, o, rfl, hb⟩ := spot_none ((hf 0 hn0).1)
      refine ⟨b, o, rfl, hb, fun j hj => ?_⟩
      have hjn : j < n := by simpa using hj
      have := (hf j hjn).1
      rw [add_eq] at this
      rw [this]
      simp [hjn, SV.val]
    · obtain ⟨r, hr2, rfl⟩ := List.mem_map.1 hv
      exact (hf r (List.mem_range.1 hr2)).2.1
    · obtain ⟨r, hr2, rfl⟩ := List.mem_map.1 hv
      exact (hf r (List.mem_range.1 hr2)).2.2
end Go.Proofs.YtmhjddmamknglaaGreat
end
