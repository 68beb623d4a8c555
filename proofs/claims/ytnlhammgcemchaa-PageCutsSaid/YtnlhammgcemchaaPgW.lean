/-
  Pages as they lie in memory; the walks of their small functions.
-/
import Derived.Test.YtnlhammgcemchaaZ0
import Derived.Test.YtnlhammgcemchaaPgB
import Derived.Test.YtnlhammgcemchaaZ1
namespace Go.Proofs.Ytnlhammgcemchaa
set_option maxRecDepth 100000
set_option linter.unusedSimpArgs false
set_option linter.unusedVariables false
open Go.RowKit
set_option maxHeartbeats 8000000

/-- Where the parts of pages lie. -/
structure PgS where
  gm : Nat
  gw : Nat
  gv : Nat
  n : Nat
  cw : Nat
  cv : Nat
  A : Nat
  ca : Nat
  Ho : Nat
  ch : Nat
  F : Option Addr
  cf : Nat
  ra : List Value
  rh : List Value
def ecells (l : List (Option Nat)) : List Value := l.map fun o => I64 (Pg.enc o)
def ncells (l : List Nat) : List Value := l.map fun f : Nat => I64 (f : Int)
def pcs (s : PgS) (p : Pg.P) : Array Value :=
  #[.pointer (some ⟨s.gm, 0, none⟩), .int .i64 p.cuts, .int .i64 (p.count : Int), .int .i64 (p.frames : Int), .int .i64 (p.version : Int), .int .i64 (p.turn : Int), .slice (some ⟨s.A, 0, none⟩) p.at_.length s.ca, .slice (some ⟨s.Ho, 0, none⟩) p.holds.length s.ch, .slice s.F p.freed.length s.cf, .int .i64 (p.fixed : Int)]
/-- Pages at block g, all of whose memory is in G. -/
structure PAt (w : World) (g : Nat) (G : Nat → Prop) (s : PgS) (p : Pg.P) : Prop where
  blk : Blk w g 69 (pcs s p)
  mem : MemAt w s.gm s.gw s.gv s.n s.cw s.cv p.m
  at_ : Blk w s.A 3 (ecells p.at_ ++ s.ra).toArray
  holds : Blk w s.Ho 3 (ecells p.holds ++ s.rh).toArray
  freed : Row w w.heap.size s.F (ncells p.freed)
  cap : p.freed.length ≤ s.cf
  hg : ∀ q ∈ [g, s.gm, s.gw, s.gv, s.A, s.Ho], G q
  hF : ∀ a, s.F = some a → G a.block
  ne : [g, s.gm, s.gw, s.gv, s.A, s.Ho].Nodup
  nF : ∀ a, s.F = some a → a.block ∉ [g, s.gm, s.gw, s.gv, s.A, s.Ho]
  lt : ∀ q, G q → q < w.heap.size
section
variable {w w' : World} {g : Nat} {G R : Nat → Prop} {s : PgS} {p : Pg.P}
theorem Row.only {B : Nat} {A : Option Addr} {cs : List Value} (h : Row w w.heap.size A cs) (ho : Only R w w') (hd : ∀ a, A = some a → ¬ R a.block) : Row w' w'.heap.size A cs :=
  h.far (F := fun q => ¬ R q) (fun _ a e => hd a e) ho (fun q _ h1 h2 => h2 h1)
theorem PAt.away (H : PAt w g G s p) (ho : Only R w w') (hd : ∀ q, G q → ¬ R q) : PAt w' g G s p :=
  { H with
    blk := H.blk.only ho (hd _ (H.hg _ (by simp)))
    mem := H.mem.only ho (hd _ (H.hg _ (by simp))) (hd _ (H.hg _ (by simp))) (hd _ (H.hg _ (by simp)))
    at_ := H.at_.only ho (hd _ (H.hg _ (by simp)))
    holds := H.holds.only ho (hd _ (H.hg _ (by simp)))
    freed := Row.only (B := 0) H.freed ho (fun a e => hd _ (H.hF a e))
    lt := fun q hq => Nat.lt_of_lt_of_le (H.lt q hq) ho.size }
theorem PAt.below (H : PAt w g G s p) (hb : Below w.heap.size w w') : PAt w' g G s p := H.away (R := fun _ => False) (Only.of_below hb) (fun _ _ e => e)
theorem PAt.drewN (H : PAt w g G s p) (k : Nat) : PAt (w.drewN k) g G s p := { H with blk := H.blk, mem := H.mem.drewN k, at_ := H.at_.drewN k, holds := H.holds.drewN k, freed := H.freed, lt := H.lt }
/-- The memory has turned. -/
theorem PAt.memd (H : PAt w g G s p) (ho : Only (MemR s.gm s.gw s.gv) w w') {m : Cel.Mem} (hm : MemAt w' s.gm s.gw s.gv s.n s.cw s.cv m) : PAt w' g G s { p with m := m } := by
  have ne := H.ne
  simp only [List.nodup_cons, List.mem_cons, List.not_mem_nil, or_false, not_or] at ne
  obtain ⟨⟨n1, n2, n3, n4, n5⟩, ⟨n6, n7, n8, n9⟩, ⟨n10, n11, n12⟩, ⟨n13, n14⟩, n15, _⟩ := ne
  have hF : ∀ a, s.F = some a → ¬ MemR s.gm s.gw s.gv a.block := fun a e hr => H.nF a e (by rcases hr with h | h | h <;> simp [h])
  exact { H with
    blk := H.blk.only ho (by rintro (h | h | h) <;> contradiction)
    mem := hm
    at_ := H.at_.only ho (by rintro (h | h | h) <;> simp_all)
    holds := H.holds.only ho (by rintro (h | h | h) <;> simp_all)
    freed := Row.only (B := 0) H.freed ho hF
    lt := fun q hq => Nat.lt_of_lt_of_le (H.lt q hq) ho.size }
/-- The fields written anew, all else as it is. -/
theorem PAt.boxed (H : PAt w g G s p) (ho : Only (fun q => q = g) w w') (version turn fixed : Nat) (hb : Blk w' g 69 (pcs s { p with version := version, turn := turn, fixed := fixed })) : PAt w' g G s { p with version := version, turn := turn, fixed := fixed } := by
  have ne := H.ne
  simp only [List.nodup_cons, List.mem_cons, List.not_mem_nil, or_false, not_or] at ne
  obtain ⟨⟨n1, n2, n3, n4, n5⟩, _⟩ := ne
  exact { H with
    blk := hb
    mem := H.mem.only ho (fun e => n1 e.symm) (fun e => n2 e.symm) (fun e => n3 e.symm)
    at_ := H.at_.only ho (fun e => n4 e.symm)
    holds := H.holds.only ho (fun e => n5 e.symm)
    freed := Row.only (B := 0) H.freed ho (fun a e hr => H.nF a e (by simp [hr]))
    lt := fun q hq => Nat.lt_of_lt_of_le (H.lt q hq) ho.size }
end
section
variable {w : World} {g : Nat} {G : Nat → Prop} {s : PgS} {p : Pg.P}
theorem page_made (H : PAt w g G s p) : Calls Try.prog 37 #[.pointer (some ⟨g, 0, none⟩)] w fun e w' => e = .returned (.bool true) ∧ Below w.heap.size w w' := by
  have HK := Lib.hid H.blk
  have hm : Mem (fun q => q = g) w w [⟨g, _, _⟩] [] := Mem.one H.blk rfl
  clear H
  simp only [pcs] at hm HK
  go_enter Try.func37, Try.ntmps37
  go_wp2_with (first | go_skip | ((with_reducible show wpList _ _ _ _ _ (World.alloc _ _)); refine wpList_up hm ?_; clear hm; intro n w hn hn2 hk hm hd hd2 ho; (try rw [← hn]); replace hn := Nat.le_of_eq hn.symm) | ((first | ((with_reducible show wpList _ _ _ (Oper.mk _ (Op.box _ _) _ _ _ _ :: _) _ _); (refine bxA hm ?_; clear hm; intro n w hn hz hm ho; (try simp only [List.cons_append, List.nil_append] at hm))) | ((with_reducible show wpList _ _ _ (Oper.mk _ (Op.load _ _) _ _ _ _ :: _) _ _); first | (refine ldA hm ?_) | (refine laA hm ?_)) | ((with_reducible show wpList _ _ _ (Oper.mk _ (Op.store _ _ _) _ _ _ _ :: _) _ _); (refine stA hm ?_; clear hm; intro w hz hm ho)) | ((with_reducible show wpList _ _ _ (Oper.mk _ (Op.alloc _) _ _ _ _ :: _) _ _); (refine alA hm ?_; clear hm; intro n w hn hz hm ho; (try simp only [List.cons_append, List.nil_append] at hm)))); try simp only [Act.put, sxQ]))
  go_ret
  exact ⟨rfl, hm.still 0 rfl HK.out⟩
theorem page_Power (H : PAt w g G s p) (b : Bool) (hb : p.m.off = b) : Calls Try.prog 31 #[.pointer (some ⟨s.gm, 0, none⟩)] w fun e w' => e = .returned (.bool !b) ∧ w' = w :=
  (cell_Power H.mem).mono fun e w' h => ⟨by rw [← hb]; exact h.1, h.2.symm⟩
theorem page_Alive (H : PAt w g G s p) : Calls Try.prog 20 #[.pointer (some ⟨g, 0, none⟩)] w fun e w' => e = .returned (.bool p.alive) ∧ Below w.heap.size w w' := by
  have HK := Lib.hid H.blk
  have HH := Lib.hid H
  have hm : Mem (fun q => q = g) w w [⟨g, _, _⟩] [] := Mem.one H.blk rfl
  have e1 := Lib.hid (show p.alive = (!p.m.off && (p.m.cuts == p.cuts)) from rfl)
  clear H
  simp only [pcs] at hm HK
  cases ho : p.m.off with
  | true =>
    have HO := Lib.hid ho
    rw [ho] at e1
    clear ho
    go_enter Try.func20, Try.ntmps20
    go_wp2_with (first | go_skip | ((with_reducible show wpList _ _ _ _ _ (World.alloc _ _)); refine wpList_up hm ?_; clear hm; intro n w hn hn2 hk hm hd hd2 ho; (try rw [← hn]); replace hn := Nat.le_of_eq hn.symm) | ((first | ((with_reducible show wpList _ _ _ (Oper.mk _ (Op.box _ _) _ _ _ _ :: _) _ _); (refine bxA hm ?_; clear hm; intro n w hn hz hm ho; (try simp only [List.cons_append, List.nil_append] at hm))) | ((with_reducible show wpList _ _ _ (Oper.mk _ (Op.load _ _) _ _ _ _ :: _) _ _); first | (refine ldA hm ?_) | (refine laA hm ?_)) | ((with_reducible show wpList _ _ _ (Oper.mk _ (Op.store _ _ _) _ _ _ _ :: _) _ _); (refine stA hm ?_; clear hm; intro w hz hm ho)) | ((with_reducible show wpList _ _ _ (Oper.mk _ (Op.alloc _) _ _ _ _ :: _) _ _); (refine alA hm ?_; clear hm; intro n w hn hz hm ho; (try simp only [List.cons_append, List.nil_append] at hm)))); try simp only [Act.put, sxQ]))
    refine wp_region_noPanic ?_
    refine wp_region_held_drew (S := MemS _ _ _ _) (by kernel_rfl) (MemS.of hm.drew) (fun hHeld => ?_)
    refine wpAnyH_fresh (by repeat (first | apply Fresh.a | apply Fresh.b)) ?_
    replace hm := hm.drew
    iterate 1 (first | (refine takeN 0 hHeld ?_) | (refine takeY 0 ?_ hHeld ?_ ?_; rotate_left 1; (first | (intro w9 h9; (with_reducible show (execOp _ (Oper.mk _ (Op.load _ _) _ _ _ _)).run _ _ = _); first | exact h9.ldA) | focus (intro w9 hSw; go_simp; (try (with_reducible rfl)); done))); try simp only [Act.put, sxQ])
    refine wpAnyH_ready (rs := [1]) (by kernel_rfl) (by simp) ?_
    refine AllReadyH.cons2 (by simp only [sxN]; first | done | exact rfl) (fun K hK => ?_)
    rw [if_pos (by rfl)]
    go_simp
    refine (page_made (HH.out.below (hm.still 0 rfl HK.out))).mono ?_
    rintro e w2 ⟨rfl, hb2⟩
    replace hm := hm.below hb2
    go_simp
    refine hK.out _ _ (MemS.of hm) (fun hHeld => ?_)
    clear hK K
    try simp only [Act.put, sxQ]
    iterate 5 (first | (refine takeN 2 hHeld ?_) | (refine takeY 2 ?_ hHeld ?_ ?_; rotate_left 1; (first | (intro w9 h9; (with_reducible show (execOp _ (Oper.mk _ (Op.load _ _) _ _ _ _)).run _ _ = _); first | exact h9.ldA) | focus (intro w9 hSw; go_simp; (try (with_reducible rfl)); done))); try simp only [Act.put, sxQ])
    refine wpAnyH_ready (rs := [7]) (by kernel_rfl) (by simp) ?_
    refine AllReadyH.cons2 (by simp only [sxN]; first | done | exact rfl) (fun K hK => ?_)
    rw [if_pos (by rfl)]
    go_simp
    refine (page_Power (HH.out.below (hm.still 0 rfl HK.out)) _ HO.out).mono ?_
    rintro e w3 ⟨rfl, rfl⟩
    go_simp
    refine hK.out _ _ (MemS.of hm) (fun hHeld => ?_)
    clear hK K
    try simp only [Act.put, sxQ]
    iterate 6 (first | (refine takeN 8 hHeld ?_) | (refine takeY 8 ?_ hHeld ?_ ?_; rotate_left 1; (first | (intro w9 h9; (with_reducible show (execOp _ (Oper.mk _ (Op.load _ _) _ _ _ _)).run _ _ = _); first | exact h9.ldA) | focus (intro w9 hSw; go_simp; (try (with_reducible rfl)); done))); try simp only [Act.put, sxQ])
    refine wpAnyH_take3 (b := 14) (by repeat (first | apply Seek.a | apply Seek.b | apply Seek.c)) (by simp only [sxN]; first | done | exact rfl) ⟨undef, by kernel_rfl, by kernel_rfl, by kernel_rfl, fun _ _ _ h => h, Or.inr ⟨by kernel_rfl, rfl⟩, hHeld, ?_⟩
    try simp only [Act.put, sxQ]
    iterate 7 (first | (refine takeN 15 hHeld ?_) | (refine takeY 15 ?_ hHeld ?_ ?_; rotate_left 1; (first | (intro w9 h9; (with_reducible show (execOp _ (Oper.mk _ (Op.load _ _) _ _ _ _)).run _ _ = _); first | exact h9.ldA) | focus (intro w9 hSw; go_simp; (try (with_reducible rfl)); done))); try simp only [Act.put, sxQ])
    refine wpAnyH_done (by kernel_rfl) ?_ _
    refine NoPanic.normal ?_
    go_wp2_with (first | go_skip | ((with_reducible show wpList _ _ _ _ _ (World.alloc _ _)); refine wpList_up hm ?_; clear hm; intro n w hn hn2 hk hm hd hd2 ho; (try rw [← hn]); replace hn := Nat.le_of_eq hn.symm) | ((first | ((with_reducible show wpList _ _ _ (Oper.mk _ (Op.box _ _) _ _ _ _ :: _) _ _); (refine bxA hm ?_; clear hm; intro n w hn hz hm ho; (try simp only [List.cons_append, List.nil_append] at hm))) | ((with_reducible show wpList _ _ _ (Oper.mk _ (Op.load _ _) _ _ _ _ :: _) _ _); first | (refine ldA hm ?_) | (refine laA hm ?_)) | ((with_reducible show wpList _ _ _ (Oper.mk _ (Op.store _ _ _) _ _ _ _ :: _) _ _); (refine stA hm ?_; clear hm; intro w hz hm ho)) | ((with_reducible show wpList _ _ _ (Oper.mk _ (Op.alloc _) _ _ _ _ :: _) _ _); (refine alA hm ?_; clear hm; intro n w hn hz hm ho; (try simp only [List.cons_append, List.nil_append] at hm)))); try simp only [Act.put, sxQ]))
    go_ret
    exact ⟨by rw [e1.out]; rfl, hm.still 0 rfl HK.out⟩
  | false =>
    have HO := Lib.hid ho
    rw [ho] at e1
    clear ho
    go_enter Try.func20, Try.ntmps20
    go_wp2_with (first | go_skip | ((with_reducible show wpList _ _ _ _ _ (World.alloc _ _)); refine wpList_up hm ?_; clear hm; intro n w hn hn2 hk hm hd hd2 ho; (try rw [← hn]); replace hn := Nat.le_of_eq hn.symm) | ((first | ((with_reducible show wpList _ _ _ (Oper.mk _ (Op.box _ _) _ _ _ _ :: _) _ _); (refine bxA hm ?_; clear hm; intro n w hn hz hm ho; (try simp only [List.cons_append, List.nil_append] at hm))) | ((with_reducible show wpList _ _ _ (Oper.mk _ (Op.load _ _) _ _ _ _ :: _) _ _); first | (refine ldA hm ?_) | (refine laA hm ?_)) | ((with_reducible show wpList _ _ _ (Oper.mk _ (Op.store _ _ _) _ _ _ _ :: _) _ _); (refine stA hm ?_; clear hm; intro w hz hm ho)) | ((with_reducible show wpList _ _ _ (Oper.mk _ (Op.alloc _) _ _ _ _ :: _) _ _); (refine alA hm ?_; clear hm; intro n w hn hz hm ho; (try simp only [List.cons_append, List.nil_append] at hm)))); try simp only [Act.put, sxQ]))
    refine wp_region_noPanic ?_
    refine wp_region_held_drew (S := MemS _ _ _ _) (by kernel_rfl) (MemS.of hm.drew) (fun hHeld => ?_)
    refine wpAnyH_fresh (by repeat (first | apply Fresh.a | apply Fresh.b)) ?_
    replace hm := hm.drew
    iterate 1 (first | (refine takeN 0 hHeld ?_) | (refine takeY 0 ?_ hHeld ?_ ?_; rotate_left 1; (first | (intro w9 h9; (with_reducible show (execOp _ (Oper.mk _ (Op.load _ _) _ _ _ _)).run _ _ = _); first | exact h9.ldA) | focus (intro w9 hSw; go_simp; (try (with_reducible rfl)); done))); try simp only [Act.put, sxQ])
    refine wpAnyH_ready (rs := [1]) (by kernel_rfl) (by simp) ?_
    refine AllReadyH.cons2 (by simp only [sxN]; first | done | exact rfl) (fun K hK => ?_)
    rw [if_pos (by rfl)]
    go_simp
    refine (page_made (HH.out.below (hm.still 0 rfl HK.out))).mono ?_
    rintro e w2 ⟨rfl, hb2⟩
    replace hm := hm.below hb2
    go_simp
    refine hK.out _ _ (MemS.of hm) (fun hHeld => ?_)
    clear hK K
    try simp only [Act.put, sxQ]
    iterate 5 (first | (refine takeN 2 hHeld ?_) | (refine takeY 2 ?_ hHeld ?_ ?_; rotate_left 1; (first | (intro w9 h9; (with_reducible show (execOp _ (Oper.mk _ (Op.load _ _) _ _ _ _)).run _ _ = _); first | exact h9.ldA) | focus (intro w9 hSw; go_simp; (try (with_reducible rfl)); done))); try simp only [Act.put, sxQ])
    refine wpAnyH_ready (rs := [7]) (by kernel_rfl) (by simp) ?_
    refine AllReadyH.cons2 (by simp only [sxN]; first | done | exact rfl) (fun K hK => ?_)
    rw [if_pos (by rfl)]
    go_simp
    refine (page_Power (HH.out.below (hm.still 0 rfl HK.out)) _ HO.out).mono ?_
    rintro e w3 ⟨rfl, rfl⟩
    go_simp
    refine hK.out _ _ (MemS.of hm) (fun hHeld => ?_)
    clear hK K
    try simp only [Act.put, sxQ]
    iterate 6 (first | (refine takeN 8 hHeld ?_) | (refine takeY 8 ?_ hHeld ?_ ?_; rotate_left 1; (first | (intro w9 h9; (with_reducible show (execOp _ (Oper.mk _ (Op.load _ _) _ _ _ _)).run _ _ = _); first | exact h9.ldA) | focus (intro w9 hSw; go_simp; (try (with_reducible rfl)); done))); try simp only [Act.put, sxQ])
    iterate 4 (first | (refine takeN 15 hHeld ?_) | (refine takeY 15 ?_ hHeld ?_ ?_; rotate_left 1; (first | (intro w9 h9; (with_reducible show (execOp _ (Oper.mk _ (Op.load _ _) _ _ _ _)).run _ _ = _); first | exact h9.ldA) | focus (intro w9 hSw; go_simp; (try (with_reducible rfl)); done))); try simp only [Act.put, sxQ])
    refine wpAnyH_ready (rs := [14]) (by kernel_rfl) (by simp) ?_
    refine AllReadyH.cons2 (by simp only [sxN]; first | done | exact rfl) (fun K hK => ?_)
    rw [if_pos (by rfl)]
    go_simp
    refine (cell_Cuts (HH.out.below (hm.still 0 rfl HK.out)).mem).mono ?_
    rintro e w4 ⟨rfl, rfl⟩
    go_simp
    refine hK.out _ _ (MemS.of hm) (fun hHeld => ?_)
    clear hK K
    try simp only [Act.put, sxQ]
    iterate 3 (first | (refine takeN 19 hHeld ?_) | (refine takeY 19 ?_ hHeld ?_ ?_; rotate_left 1; (first | (intro w9 h9; (with_reducible show (execOp _ (Oper.mk _ (Op.load _ _) _ _ _ _)).run _ _ = _); first | exact h9.ldA) | focus (intro w9 hSw; go_simp; (try (with_reducible rfl)); done))); try simp only [Act.put, sxQ])
    refine wpAnyH_done (by kernel_rfl) ?_ _
    refine NoPanic.normal ?_
    go_wp2_with (first | go_skip | ((with_reducible show wpList _ _ _ _ _ (World.alloc _ _)); refine wpList_up hm ?_; clear hm; intro n w hn hn2 hk hm hd hd2 ho; (try rw [← hn]); replace hn := Nat.le_of_eq hn.symm) | ((first | ((with_reducible show wpList _ _ _ (Oper.mk _ (Op.box _ _) _ _ _ _ :: _) _ _); (refine bxA hm ?_; clear hm; intro n w hn hz hm ho; (try simp only [List.cons_append, List.nil_append] at hm))) | ((with_reducible show wpList _ _ _ (Oper.mk _ (Op.load _ _) _ _ _ _ :: _) _ _); first | (refine ldA hm ?_) | (refine laA hm ?_)) | ((with_reducible show wpList _ _ _ (Oper.mk _ (Op.store _ _ _) _ _ _ _ :: _) _ _); (refine stA hm ?_; clear hm; intro w hz hm ho)) | ((with_reducible show wpList _ _ _ (Oper.mk _ (Op.alloc _) _ _ _ _ :: _) _ _); (refine alA hm ?_; clear hm; intro n w hn hz hm ho; (try simp only [List.cons_append, List.nil_append] at hm)))); try simp only [Act.put, sxQ]))
    go_ret
    exact ⟨by rw [e1.out]; rfl, hm.still 0 rfl HK.out⟩
theorem page_Count (H : PAt w g G s p) : Calls Try.prog 24 #[.pointer (some ⟨g, 0, none⟩)] w fun e w' => e = .returned (.int .i64 (p.count : Int)) ∧ Below w.heap.size w w' := by
  have HK := Lib.hid H.blk
  have HH := Lib.hid H
  have hm : Mem (fun q => q = g) w w [⟨g, _, _⟩] [] := Mem.one H.blk rfl
  clear H
  simp only [pcs] at hm HK
  go_enter Try.func24, Try.ntmps24
  go_wp2_with (first | go_skip | ((with_reducible show wpList _ _ _ _ _ (World.alloc _ _)); refine wpList_up hm ?_; clear hm; intro n w hn hn2 hk hm hd hd2 ho; (try rw [← hn]); replace hn := Nat.le_of_eq hn.symm) | ((first | ((with_reducible show wpList _ _ _ (Oper.mk _ (Op.box _ _) _ _ _ _ :: _) _ _); (refine bxA hm ?_; clear hm; intro n w hn hz hm ho; (try simp only [List.cons_append, List.nil_append] at hm))) | ((with_reducible show wpList _ _ _ (Oper.mk _ (Op.load _ _) _ _ _ _ :: _) _ _); first | (refine ldA hm ?_) | (refine laA hm ?_)) | ((with_reducible show wpList _ _ _ (Oper.mk _ (Op.store _ _ _) _ _ _ _ :: _) _ _); (refine stA hm ?_; clear hm; intro w hz hm ho)) | ((with_reducible show wpList _ _ _ (Oper.mk _ (Op.alloc _) _ _ _ _ :: _) _ _); (refine alA hm ?_; clear hm; intro n w hn hz hm ho; (try simp only [List.cons_append, List.nil_append] at hm)))); try simp only [Act.put, sxQ]))
  go_at_call 37
  refine (page_made (HH.out.below (hm.still 0 rfl HK.out))).mono ?_
  rintro e w2 ⟨rfl, hb2⟩
  replace hm := hm.below hb2
  go_wp2_with (first | go_skip | ((with_reducible show wpList _ _ _ _ _ (World.alloc _ _)); refine wpList_up hm ?_; clear hm; intro n w hn hn2 hk hm hd hd2 ho; (try rw [← hn]); replace hn := Nat.le_of_eq hn.symm) | ((first | ((with_reducible show wpList _ _ _ (Oper.mk _ (Op.box _ _) _ _ _ _ :: _) _ _); (refine bxA hm ?_; clear hm; intro n w hn hz hm ho; (try simp only [List.cons_append, List.nil_append] at hm))) | ((with_reducible show wpList _ _ _ (Oper.mk _ (Op.load _ _) _ _ _ _ :: _) _ _); first | (refine ldA hm ?_) | (refine laA hm ?_)) | ((with_reducible show wpList _ _ _ (Oper.mk _ (Op.store _ _ _) _ _ _ _ :: _) _ _); (refine stA hm ?_; clear hm; intro w hz hm ho)) | ((with_reducible show wpList _ _ _ (Oper.mk _ (Op.alloc _) _ _ _ _ :: _) _ _); (refine alA hm ?_; clear hm; intro n w hn hz hm ho; (try simp only [List.cons_append, List.nil_append] at hm)))); try simp only [Act.put, sxQ]))
  go_ret
  exact ⟨rfl, hm.still 0 rfl HK.out⟩
theorem page_Fixed (H : PAt w g G s p) : Calls Try.prog 19 #[.pointer (some ⟨g, 0, none⟩)] w fun e w' => e = .returned (.int .i64 (p.fixed : Int)) ∧ Below w.heap.size w w' := by
  have HK := Lib.hid H.blk
  have HH := Lib.hid H
  have hm : Mem (fun q => q = g) w w [⟨g, _, _⟩] [] := Mem.one H.blk rfl
  clear H
  simp only [pcs] at hm HK
  go_enter Try.func19, Try.ntmps19
  go_wp2_with (first | go_skip | ((with_reducible show wpList _ _ _ _ _ (World.alloc _ _)); refine wpList_up hm ?_; clear hm; intro n w hn hn2 hk hm hd hd2 ho; (try rw [← hn]); replace hn := Nat.le_of_eq hn.symm) | ((first | ((with_reducible show wpList _ _ _ (Oper.mk _ (Op.box _ _) _ _ _ _ :: _) _ _); (refine bxA hm ?_; clear hm; intro n w hn hz hm ho; (try simp only [List.cons_append, List.nil_append] at hm))) | ((with_reducible show wpList _ _ _ (Oper.mk _ (Op.load _ _) _ _ _ _ :: _) _ _); first | (refine ldA hm ?_) | (refine laA hm ?_)) | ((with_reducible show wpList _ _ _ (Oper.mk _ (Op.store _ _ _) _ _ _ _ :: _) _ _); (refine stA hm ?_; clear hm; intro w hz hm ho)) | ((with_reducible show wpList _ _ _ (Oper.mk _ (Op.alloc _) _ _ _ _ :: _) _ _); (refine alA hm ?_; clear hm; intro n w hn hz hm ho; (try simp only [List.cons_append, List.nil_append] at hm)))); try simp only [Act.put, sxQ]))
  go_at_call 37
  refine (page_made (HH.out.below (hm.still 0 rfl HK.out))).mono ?_
  rintro e w2 ⟨rfl, hb2⟩
  replace hm := hm.below hb2
  go_wp2_with (first | go_skip | ((with_reducible show wpList _ _ _ _ _ (World.alloc _ _)); refine wpList_up hm ?_; clear hm; intro n w hn hn2 hk hm hd hd2 ho; (try rw [← hn]); replace hn := Nat.le_of_eq hn.symm) | ((first | ((with_reducible show wpList _ _ _ (Oper.mk _ (Op.box _ _) _ _ _ _ :: _) _ _); (refine bxA hm ?_; clear hm; intro n w hn hz hm ho; (try simp only [List.cons_append, List.nil_append] at hm))) | ((with_reducible show wpList _ _ _ (Oper.mk _ (Op.load _ _) _ _ _ _ :: _) _ _); first | (refine ldA hm ?_) | (refine laA hm ?_)) | ((with_reducible show wpList _ _ _ (Oper.mk _ (Op.store _ _ _) _ _ _ _ :: _) _ _); (refine stA hm ?_; clear hm; intro w hz hm ho)) | ((with_reducible show wpList _ _ _ (Oper.mk _ (Op.alloc _) _ _ _ _ :: _) _ _); (refine alA hm ?_; clear hm; intro n w hn hz hm ho; (try simp only [List.cons_append, List.nil_append] at hm)))); try simp only [Act.put, sxQ]))
  go_ret
  exact ⟨rfl, hm.still 0 rfl HK.out⟩
theorem page_failure (H : PAt w g G s p) : Calls Try.prog 35 #[.pointer (some ⟨g, 0, none⟩)] w fun e w' => e = .returned (.int .i64 p.failure) ∧ Below w.heap.size w w' := by
  have HA := Lib.hid (page_Alive H)
  have e1 := Lib.hid (show p.failure = if p.alive then 9 else 7 from rfl)
  clear H
  cases ha : p.alive with
  | true =>
    rw [ha] at e1 HA
    clear ha
    go_enter Try.func35, Try.ntmps35
    go_wp2_with fail
    go_at_call 20
    refine HA.out.mono ?_
    rintro e w2 ⟨rfl, hb2⟩
    go_wp2_with fail
    go_ret
    exact ⟨by rw [e1.out]; rfl, hb2⟩
  | false =>
    rw [ha] at e1 HA
    clear ha
    go_enter Try.func35, Try.ntmps35
    go_wp2_with fail
    go_at_call 20
    refine HA.out.mono ?_
    rintro e w2 ⟨rfl, hb2⟩
    go_wp2_with fail
    go_ret
    exact ⟨by rw [e1.out]; rfl, hb2⟩
theorem page_access (H : PAt w g G s p) (i : Int) : Calls Try.prog 38 #[.pointer (some ⟨g, 0, none⟩), .int .i64 i] w fun e w' => e = .returned (.int .i64 (p.access i)) ∧ Below w.heap.size w w' := by
  have HK := Lib.hid H.blk
  have HH := Lib.hid H
  have hm : Mem (fun q => q = g) w w [⟨g, _, _⟩] [] := Mem.one H.blk rfl
  have HA := Lib.hid (page_Alive H)
  have e1 := Lib.hid (show p.access i = if p.alive = false then 7 else if i < 0 ∨ p.count ≤ i then 2 else 0 from rfl)
  clear H
  simp only [pcs] at hm HK
  cases ha : p.alive with
  | false =>
    rw [ha] at e1 HA
    clear ha
    go_enter Try.func38, Try.ntmps38
    go_wp2_with (first | go_skip | ((with_reducible show wpList _ _ _ _ _ (World.alloc _ _)); refine wpList_up hm ?_; clear hm; intro n w hn hn2 hk hm hd hd2 ho; (try rw [← hn]); replace hn := Nat.le_of_eq hn.symm) | ((first | ((with_reducible show wpList _ _ _ (Oper.mk _ (Op.box _ _) _ _ _ _ :: _) _ _); (refine bxA hm ?_; clear hm; intro n w hn hz hm ho; (try simp only [List.cons_append, List.nil_append] at hm))) | ((with_reducible show wpList _ _ _ (Oper.mk _ (Op.load _ _) _ _ _ _ :: _) _ _); first | (refine ldA hm ?_) | (refine laA hm ?_)) | ((with_reducible show wpList _ _ _ (Oper.mk _ (Op.store _ _ _) _ _ _ _ :: _) _ _); (refine stA hm ?_; clear hm; intro w hz hm ho)) | ((with_reducible show wpList _ _ _ (Oper.mk _ (Op.alloc _) _ _ _ _ :: _) _ _); (refine alA hm ?_; clear hm; intro n w hn hz hm ho; (try simp only [List.cons_append, List.nil_append] at hm)))); try simp only [Act.put, sxQ]))
    go_at_call 20
    refine HA.out.mono ?_
    rintro e w2 ⟨rfl, hb2⟩
    go_wp2_with fail
    go_ret
    exact ⟨by rw [e1.out]; rfl, hb2⟩
  | true =>
    rw [ha] at e1 HA
    clear ha
    by_cases h0 : i < 0
    · go_enter Try.func38, Try.ntmps38
      go_wp2_with (first | go_skip | ((with_reducible show wpList _ _ _ _ _ (World.alloc _ _)); refine wpList_up hm ?_; clear hm; intro n w hn hn2 hk hm hd hd2 ho; (try rw [← hn]); replace hn := Nat.le_of_eq hn.symm) | ((first | ((with_reducible show wpList _ _ _ (Oper.mk _ (Op.box _ _) _ _ _ _ :: _) _ _); (refine bxA hm ?_; clear hm; intro n w hn hz hm ho; (try simp only [List.cons_append, List.nil_append] at hm))) | ((with_reducible show wpList _ _ _ (Oper.mk _ (Op.load _ _) _ _ _ _ :: _) _ _); first | (refine ldA hm ?_) | (refine laA hm ?_)) | ((with_reducible show wpList _ _ _ (Oper.mk _ (Op.store _ _ _) _ _ _ _ :: _) _ _); (refine stA hm ?_; clear hm; intro w hz hm ho)) | ((with_reducible show wpList _ _ _ (Oper.mk _ (Op.alloc _) _ _ _ _ :: _) _ _); (refine alA hm ?_; clear hm; intro n w hn hz hm ho; (try simp only [List.cons_append, List.nil_append] at hm)))); try simp only [Act.put, sxQ]))
      go_at_call 20
      refine HA.out.mono ?_
      rintro e w2 ⟨rfl, hb2⟩
      replace hm := hm.below hb2
      go_wp2_with (first | go_skip | ((with_reducible show wpList _ _ _ _ _ (World.alloc _ _)); refine wpList_up hm ?_; clear hm; intro n w hn hn2 hk hm hd hd2 ho; (try rw [← hn]); replace hn := Nat.le_of_eq hn.symm) | ((first | ((with_reducible show wpList _ _ _ (Oper.mk _ (Op.box _ _) _ _ _ _ :: _) _ _); (refine bxA hm ?_; clear hm; intro n w hn hz hm ho; (try simp only [List.cons_append, List.nil_append] at hm))) | ((with_reducible show wpList _ _ _ (Oper.mk _ (Op.load _ _) _ _ _ _ :: _) _ _); first | (refine ldA hm ?_) | (refine laA hm ?_)) | ((with_reducible show wpList _ _ _ (Oper.mk _ (Op.store _ _ _) _ _ _ _ :: _) _ _); (refine stA hm ?_; clear hm; intro w hz hm ho)) | ((with_reducible show wpList _ _ _ (Oper.mk _ (Op.alloc _) _ _ _ _ :: _) _ _); (refine alA hm ?_; clear hm; intro n w hn hz hm ho; (try simp only [List.cons_append, List.nil_append] at hm)))); try simp only [Act.put, sxQ]))
      go_ret
      exact ⟨by rw [e1.out, if_neg (by decide), if_pos (.inl h0)]; rfl, hm.still 0 rfl HK.out⟩
    · have hd0 : decide (i < 0) = false := by simpa using h0
      by_cases h1 : (p.count : Int) ≤ i
      · have hd1 : decide ((p.count : Int) ≤ i) = true := by simpa using h1
        have h0h := Lib.hid h0; have h1h := Lib.hid h1; clear h0 h1
        go_enter Try.func38, Try.ntmps38
        go_wp2_with (first | go_skip | ((with_reducible show wpList _ _ _ _ _ (World.alloc _ _)); refine wpList_up hm ?_; clear hm; intro n w hn hn2 hk hm hd hd2 ho; (try rw [← hn]); replace hn := Nat.le_of_eq hn.symm) | ((first | ((with_reducible show wpList _ _ _ (Oper.mk _ (Op.box _ _) _ _ _ _ :: _) _ _); (refine bxA hm ?_; clear hm; intro n w hn hz hm ho; (try simp only [List.cons_append, List.nil_append] at hm))) | ((with_reducible show wpList _ _ _ (Oper.mk _ (Op.load _ _) _ _ _ _ :: _) _ _); first | (refine ldA hm ?_) | (refine laA hm ?_)) | ((with_reducible show wpList _ _ _ (Oper.mk _ (Op.store _ _ _) _ _ _ _ :: _) _ _); (refine stA hm ?_; clear hm; intro w hz hm ho)) | ((with_reducible show wpList _ _ _ (Oper.mk _ (Op.alloc _) _ _ _ _ :: _) _ _); (refine alA hm ?_; clear hm; intro n w hn hz hm ho; (try simp only [List.cons_append, List.nil_append] at hm)))); try simp only [Act.put, sxQ]))
        go_at_call 20
        refine HA.out.mono ?_
        rintro e w2 ⟨rfl, hb2⟩
        replace hm := hm.below hb2
        go_wp2_with (first | go_skip | ((with_reducible show wpList _ _ _ _ _ (World.alloc _ _)); refine wpList_up hm ?_; clear hm; intro n w hn hn2 hk hm hd hd2 ho; (try rw [← hn]); replace hn := Nat.le_of_eq hn.symm) | ((first | ((with_reducible show wpList _ _ _ (Oper.mk _ (Op.box _ _) _ _ _ _ :: _) _ _); (refine bxA hm ?_; clear hm; intro n w hn hz hm ho; (try simp only [List.cons_append, List.nil_append] at hm))) | ((with_reducible show wpList _ _ _ (Oper.mk _ (Op.load _ _) _ _ _ _ :: _) _ _); first | (refine ldA hm ?_) | (refine laA hm ?_)) | ((with_reducible show wpList _ _ _ (Oper.mk _ (Op.store _ _ _) _ _ _ _ :: _) _ _); (refine stA hm ?_; clear hm; intro w hz hm ho)) | ((with_reducible show wpList _ _ _ (Oper.mk _ (Op.alloc _) _ _ _ _ :: _) _ _); (refine alA hm ?_; clear hm; intro n w hn hz hm ho; (try simp only [List.cons_append, List.nil_append] at hm)))); try simp only [Act.put, sxQ]))
        go_ret
        exact ⟨by rw [e1.out, if_neg (by decide), if_pos (.inr h1h.out)]; rfl, hm.still 0 rfl HK.out⟩
      · have hd1 : decide ((p.count : Int) ≤ i) = false := by simpa using h1
        have h0h := Lib.hid h0; have h1h := Lib.hid h1; clear h0 h1
        go_enter Try.func38, Try.ntmps38
        go_wp2_with (first | go_skip | ((with_reducible show wpList _ _ _ _ _ (World.alloc _ _)); refine wpList_up hm ?_; clear hm; intro n w hn hn2 hk hm hd hd2 ho; (try rw [← hn]); replace hn := Nat.le_of_eq hn.symm) | ((first | ((with_reducible show wpList _ _ _ (Oper.mk _ (Op.box _ _) _ _ _ _ :: _) _ _); (refine bxA hm ?_; clear hm; intro n w hn hz hm ho; (try simp only [List.cons_append, List.nil_append] at hm))) | ((with_reducible show wpList _ _ _ (Oper.mk _ (Op.load _ _) _ _ _ _ :: _) _ _); first | (refine ldA hm ?_) | (refine laA hm ?_)) | ((with_reducible show wpList _ _ _ (Oper.mk _ (Op.store _ _ _) _ _ _ _ :: _) _ _); (refine stA hm ?_; clear hm; intro w hz hm ho)) | ((with_reducible show wpList _ _ _ (Oper.mk _ (Op.alloc _) _ _ _ _ :: _) _ _); (refine alA hm ?_; clear hm; intro n w hn hz hm ho; (try simp only [List.cons_append, List.nil_append] at hm)))); try simp only [Act.put, sxQ]))
        go_at_call 20
        refine HA.out.mono ?_
        rintro e w2 ⟨rfl, hb2⟩
        replace hm := hm.below hb2
        go_wp2_with (first | go_skip | ((with_reducible show wpList _ _ _ _ _ (World.alloc _ _)); refine wpList_up hm ?_; clear hm; intro n w hn hn2 hk hm hd hd2 ho; (try rw [← hn]); replace hn := Nat.le_of_eq hn.symm) | ((first | ((with_reducible show wpList _ _ _ (Oper.mk _ (Op.box _ _) _ _ _ _ :: _) _ _); (refine bxA hm ?_; clear hm; intro n w hn hz hm ho; (try simp only [List.cons_append, List.nil_append] at hm))) | ((with_reducible show wpList _ _ _ (Oper.mk _ (Op.load _ _) _ _ _ _ :: _) _ _); first | (refine ldA hm ?_) | (refine laA hm ?_)) | ((with_reducible show wpList _ _ _ (Oper.mk _ (Op.store _ _ _) _ _ _ _ :: _) _ _); (refine stA hm ?_; clear hm; intro w hz hm ho)) | ((with_reducible show wpList _ _ _ (Oper.mk _ (Op.alloc _) _ _ _ _ :: _) _ _); (refine alA hm ?_; clear hm; intro n w hn hz hm ho; (try simp only [List.cons_append, List.nil_append] at hm)))); try simp only [Act.put, sxQ]))
        go_ret
        exact ⟨by rw [e1.out, if_neg (by decide), if_neg (by have := h0h.out; have := h1h.out; omega)]; rfl, hm.still 0 rfl HK.out⟩
theorem page_word (H : PAt w g G s p) (f i : Nat) (x : Int) (hx : x = (i : Int)) (hf : f < 100000000 ∧ i < 100000000) (hfx : p.fixed + 1 < 4611686018427387904) :
    Calls Try.prog 57 #[.pointer (some ⟨g, 0, none⟩), .int .i64 (f : Int), .int .i64 x] w fun e w' =>
      e = .returned (.tuple #[.int .i64 ((Pg.word p.m (f * 20 + i)).1 : Int), .bool (Pg.word p.m (f * 20 + i)).2.1]) ∧ PAt w' g G s (p.more (Pg.word p.m (f * 20 + i)).2.2) ∧ Only (fun q => q = g) w w' := by
  subst hx
  have HK := Lib.hid H.blk
  have HH := Lib.hid H
  have hm : Mem (fun q => q = g) w w [⟨g, _, _⟩] [] := Mem.one H.blk rfl
  have ew : ((f : Int) * 20 + (i : Int)) = ((f * 20 + i : Nat) : Int) := by omega
  have e1 := Lib.hid (show Pg.word p.m (f * 20 + i) = if (p.m.read ((f * 20 + i : Nat) : Int)).2 ≠ 0 then (0, false, 0)
    else ((Ecc.decode (p.m.read ((f * 20 + i : Nat) : Int)).1.toNat).1, decide ((Ecc.decode (p.m.read ((f * 20 + i : Nat) : Int)).1.toNat).2 ≠ 2), if (Ecc.decode (p.m.read ((f * 20 + i : Nat) : Int)).1.toNat).2 = 1 then 1 else 0) from rfl)
  have HR : (∀ u, PAt u g G s p → Calls Try.prog 62 #[.pointer (some ⟨s.gm, 0, none⟩), .int .i64 ((f : Int) * 20 + (i : Int))] u fun e w' => e = .returned (.tuple #[W32 (p.m.read ((f * 20 + i : Nat) : Int)).1, .int .i64 (p.m.read ((f * 20 + i : Nat) : Int)).2]) ∧ u = w') :=
    (fun u h => by rw [ew]; exact cell_Read h.mem _)
  replace HR := Lib.hid HR
  clear ew
  have e0 := Lib.hid (show p.more 0 = p from rfl)
  clear H
  generalize hrd : p.m.read ((f * 20 + i : Nat) : Int) = rd at *
  obtain ⟨v, z⟩ := rd
  dsimp only at e1 HR
  simp only [pcs] at hm HK
  by_cases hz : z = 0
  · subst hz
    rw [if_neg (by simp)] at e1
    have hv := v.toNat_lt
    have HD : (∀ u, Calls Try.prog 63 #[W32 v] u fun e w' => e = .returned (.tuple #[.int .i64 ((Ecc.decode v.toNat).1 : Int), .int .i64 ((Ecc.decode v.toNat).2 : Int)]) ∧ Below u.heap.size u w') := fun u => ecc_Decode v.toNat u hv
    replace HD := Lib.hid HD
    rw [e1.out]
    dsimp only
    clear hv hrd e1
    generalize Ecc.decode v.toNat = d at HD ⊢
    obtain ⟨a, b⟩ := d
    dsimp only at HD ⊢
    have hbb := Lib.hid (show decide (b ≠ 2) = ((b : Int) != 2) by by_cases h : b = 2 <;> simp [h] <;> omega)
    by_cases hb : b = 1
    · subst hb
      go_enter Try.func57, Try.ntmps57
      go_wp2_with (first | go_skip | ((with_reducible show wpList _ _ _ _ _ (World.alloc _ _)); refine wpList_up hm ?_; clear hm; intro n w hn hn2 hk hm hd hd2 ho; (try rw [← hn]); replace hn := Nat.le_of_eq hn.symm) | ((first | ((with_reducible show wpList _ _ _ (Oper.mk _ (Op.box _ _) _ _ _ _ :: _) _ _); (refine bxA hm ?_; clear hm; intro n w hn hz hm ho; (try simp only [List.cons_append, List.nil_append] at hm))) | ((with_reducible show wpList _ _ _ (Oper.mk _ (Op.load _ _) _ _ _ _ :: _) _ _); first | (refine ldA hm ?_) | (refine laA hm ?_)) | ((with_reducible show wpList _ _ _ (Oper.mk _ (Op.store _ _ _) _ _ _ _ :: _) _ _); (refine stA hm ?_; clear hm; intro w hz hm ho)) | ((with_reducible show wpList _ _ _ (Oper.mk _ (Op.alloc _) _ _ _ _ :: _) _ _); (refine alA hm ?_; clear hm; intro n w hn hz hm ho; (try simp only [List.cons_append, List.nil_append] at hm)))); try simp only [Act.put, sxQ]))
      go_at_call 62
      refine (HR.out _ (HH.out.below (hm.still 0 rfl HK.out))).mono ?_
      rintro e w2 ⟨rfl, rfl⟩
      go_wp2_with (first | go_skip | ((with_reducible show wpList _ _ _ _ _ (World.alloc _ _)); refine wpList_up hm ?_; clear hm; intro n w hn hn2 hk hm hd hd2 ho; (try rw [← hn]); replace hn := Nat.le_of_eq hn.symm) | ((first | ((with_reducible show wpList _ _ _ (Oper.mk _ (Op.box _ _) _ _ _ _ :: _) _ _); (refine bxA hm ?_; clear hm; intro n w hn hz hm ho; (try simp only [List.cons_append, List.nil_append] at hm))) | ((with_reducible show wpList _ _ _ (Oper.mk _ (Op.load _ _) _ _ _ _ :: _) _ _); first | (refine ldA hm ?_) | (refine laA hm ?_)) | ((with_reducible show wpList _ _ _ (Oper.mk _ (Op.store _ _ _) _ _ _ _ :: _) _ _); (refine stA hm ?_; clear hm; intro w hz hm ho)) | ((with_reducible show wpList _ _ _ (Oper.mk _ (Op.alloc _) _ _ _ _ :: _) _ _); (refine alA hm ?_; clear hm; intro n w hn hz hm ho; (try simp only [List.cons_append, List.nil_append] at hm)))); try simp only [Act.put, sxQ]))
      go_at_call 63
      refine (HD.out _).mono ?_
      rintro e w3 ⟨rfl, hb3⟩
      replace hm := hm.below hb3
      go_wp2_with (first | go_skip | ((with_reducible show wpList _ _ _ _ _ (World.alloc _ _)); refine wpList_up hm ?_; clear hm; intro n w hn hn2 hk hm hd hd2 ho; (try rw [← hn]); replace hn := Nat.le_of_eq hn.symm) | ((first | ((with_reducible show wpList _ _ _ (Oper.mk _ (Op.box _ _) _ _ _ _ :: _) _ _); (refine bxA hm ?_; clear hm; intro n w hn hz hm ho; (try simp only [List.cons_append, List.nil_append] at hm))) | ((with_reducible show wpList _ _ _ (Oper.mk _ (Op.load _ _) _ _ _ _ :: _) _ _); first | (refine ldA hm ?_) | (refine laA hm ?_)) | ((with_reducible show wpList _ _ _ (Oper.mk _ (Op.store _ _ _) _ _ _ _ :: _) _ _); (refine stA hm ?_; clear hm; intro w hz hm ho)) | ((with_reducible show wpList _ _ _ (Oper.mk _ (Op.alloc _) _ _ _ _ :: _) _ _); (refine alA hm ?_; clear hm; intro n w hn hz hm ho; (try simp only [List.cons_append, List.nil_append] at hm)))); try simp only [Act.put, sxQ]))
      go_ret2
      refine ⟨by simp, ?_, hm.only⟩
      exact HH.out.boxed hm.only p.version p.turn (p.fixed + 1) (by exact hm.at_ 0 rfl)
    · have hbd : (b == 1) = false := by simpa using hb
      rw [if_neg hb, e0.out]
      clear hb
      go_enter Try.func57, Try.ntmps57
      go_wp2_with (first | go_skip | ((with_reducible show wpList _ _ _ _ _ (World.alloc _ _)); refine wpList_up hm ?_; clear hm; intro n w hn hn2 hk hm hd hd2 ho; (try rw [← hn]); replace hn := Nat.le_of_eq hn.symm) | ((first | ((with_reducible show wpList _ _ _ (Oper.mk _ (Op.box _ _) _ _ _ _ :: _) _ _); (refine bxA hm ?_; clear hm; intro n w hn hz hm ho; (try simp only [List.cons_append, List.nil_append] at hm))) | ((with_reducible show wpList _ _ _ (Oper.mk _ (Op.load _ _) _ _ _ _ :: _) _ _); first | (refine ldA hm ?_) | (refine laA hm ?_)) | ((with_reducible show wpList _ _ _ (Oper.mk _ (Op.store _ _ _) _ _ _ _ :: _) _ _); (refine stA hm ?_; clear hm; intro w hz hm ho)) | ((with_reducible show wpList _ _ _ (Oper.mk _ (Op.alloc _) _ _ _ _ :: _) _ _); (refine alA hm ?_; clear hm; intro n w hn hz hm ho; (try simp only [List.cons_append, List.nil_append] at hm)))); try simp only [Act.put, sxQ]))
      go_at_call 62
      refine (HR.out _ (HH.out.below (hm.still 0 rfl HK.out))).mono ?_
      rintro e w2 ⟨rfl, rfl⟩
      go_wp2_with (first | go_skip | ((with_reducible show wpList _ _ _ _ _ (World.alloc _ _)); refine wpList_up hm ?_; clear hm; intro n w hn hn2 hk hm hd hd2 ho; (try rw [← hn]); replace hn := Nat.le_of_eq hn.symm) | ((first | ((with_reducible show wpList _ _ _ (Oper.mk _ (Op.box _ _) _ _ _ _ :: _) _ _); (refine bxA hm ?_; clear hm; intro n w hn hz hm ho; (try simp only [List.cons_append, List.nil_append] at hm))) | ((with_reducible show wpList _ _ _ (Oper.mk _ (Op.load _ _) _ _ _ _ :: _) _ _); first | (refine ldA hm ?_) | (refine laA hm ?_)) | ((with_reducible show wpList _ _ _ (Oper.mk _ (Op.store _ _ _) _ _ _ _ :: _) _ _); (refine stA hm ?_; clear hm; intro w hz hm ho)) | ((with_reducible show wpList _ _ _ (Oper.mk _ (Op.alloc _) _ _ _ _ :: _) _ _); (refine alA hm ?_; clear hm; intro n w hn hz hm ho; (try simp only [List.cons_append, List.nil_append] at hm)))); try simp only [Act.put, sxQ]))
      go_at_call 63
      refine (HD.out _).mono ?_
      rintro e w3 ⟨rfl, hb3⟩
      replace hm := hm.below hb3
      go_wp2_with (first | go_skip | ((with_reducible show wpList _ _ _ _ _ (World.alloc _ _)); refine wpList_up hm ?_; clear hm; intro n w hn hn2 hk hm hd hd2 ho; (try rw [← hn]); replace hn := Nat.le_of_eq hn.symm) | ((first | ((with_reducible show wpList _ _ _ (Oper.mk _ (Op.box _ _) _ _ _ _ :: _) _ _); (refine bxA hm ?_; clear hm; intro n w hn hz hm ho; (try simp only [List.cons_append, List.nil_append] at hm))) | ((with_reducible show wpList _ _ _ (Oper.mk _ (Op.load _ _) _ _ _ _ :: _) _ _); first | (refine ldA hm ?_) | (refine laA hm ?_)) | ((with_reducible show wpList _ _ _ (Oper.mk _ (Op.store _ _ _) _ _ _ _ :: _) _ _); (refine stA hm ?_; clear hm; intro w hz hm ho)) | ((with_reducible show wpList _ _ _ (Oper.mk _ (Op.alloc _) _ _ _ _ :: _) _ _); (refine alA hm ?_; clear hm; intro n w hn hz hm ho; (try simp only [List.cons_append, List.nil_append] at hm)))); try simp only [Act.put, sxQ]))
      go_ret2
      exact ⟨by rw [hbb.out]; rfl, HH.out.below (hm.still 0 rfl HK.out), hm.only⟩
  · rw [if_pos hz] at e1
    have hzd : (z != 0) = true := by simpa using hz
    clear hz hrd
    rw [e1.out]
    dsimp only
    rw [e0.out]
    go_enter Try.func57, Try.ntmps57
    go_wp2_with (first | go_skip | ((with_reducible show wpList _ _ _ _ _ (World.alloc _ _)); refine wpList_up hm ?_; clear hm; intro n w hn hn2 hk hm hd hd2 ho; (try rw [← hn]); replace hn := Nat.le_of_eq hn.symm) | ((first | ((with_reducible show wpList _ _ _ (Oper.mk _ (Op.box _ _) _ _ _ _ :: _) _ _); (refine bxA hm ?_; clear hm; intro n w hn hz hm ho; (try simp only [List.cons_append, List.nil_append] at hm))) | ((with_reducible show wpList _ _ _ (Oper.mk _ (Op.load _ _) _ _ _ _ :: _) _ _); first | (refine ldA hm ?_) | (refine laA hm ?_)) | ((with_reducible show wpList _ _ _ (Oper.mk _ (Op.store _ _ _) _ _ _ _ :: _) _ _); (refine stA hm ?_; clear hm; intro w hz hm ho)) | ((with_reducible show wpList _ _ _ (Oper.mk _ (Op.alloc _) _ _ _ _ :: _) _ _); (refine alA hm ?_; clear hm; intro n w hn hz hm ho; (try simp only [List.cons_append, List.nil_append] at hm)))); try simp only [Act.put, sxQ]))
    go_at_call 62
    refine (HR.out _ (HH.out.below (hm.still 0 rfl HK.out))).mono ?_
    rintro e w2 ⟨rfl, rfl⟩
    go_wp2_with (first | go_skip | ((with_reducible show wpList _ _ _ _ _ (World.alloc _ _)); refine wpList_up hm ?_; clear hm; intro n w hn hn2 hk hm hd hd2 ho; (try rw [← hn]); replace hn := Nat.le_of_eq hn.symm) | ((first | ((with_reducible show wpList _ _ _ (Oper.mk _ (Op.box _ _) _ _ _ _ :: _) _ _); (refine bxA hm ?_; clear hm; intro n w hn hz hm ho; (try simp only [List.cons_append, List.nil_append] at hm))) | ((with_reducible show wpList _ _ _ (Oper.mk _ (Op.load _ _) _ _ _ _ :: _) _ _); first | (refine ldA hm ?_) | (refine laA hm ?_)) | ((with_reducible show wpList _ _ _ (Oper.mk _ (Op.store _ _ _) _ _ _ _ :: _) _ _); (refine stA hm ?_; clear hm; intro w hz hm ho)) | ((with_reducible show wpList _ _ _ (Oper.mk _ (Op.alloc _) _ _ _ _ :: _) _ _); (refine alA hm ?_; clear hm; intro n w hn hz hm ho; (try simp only [List.cons_append, List.nil_append] at hm)))); try simp only [Act.put, sxQ]))
    go_ret2
    exact ⟨rfl, HH.out.below (hm.still 0 rfl HK.out), hm.only⟩
end
end Go.Proofs.Ytnlhammgcemchaa
