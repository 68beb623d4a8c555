/-
  The reference: pages as a plain value.
-/
import Derived.Test.YtnlhammgcemchaaZ0
import Derived.Test.YtnlhammgcemchaaPgM
namespace Go.Proofs.Ytnlhammgcemchaa
set_option maxRecDepth 100000
set_option linter.unusedSimpArgs false
set_option linter.unusedVariables false
open Go.RowKit
set_option maxHeartbeats 8000000

/-- A state of the reference: a slice of pages, whose memory is in G. -/
structure RfAt (u : World) (A : Option Addr) (n c : Nat) (vs : List SV) (G : Nat → Prop) : Prop where
  byts : Byts u u.heap.size A vs
  len : vs.length = n
  pos : 0 < n
  cap : n ≤ c
  v48 : ∀ v ∈ vs, v.n = 48
  hA : ∀ a, A = some a → G a.block
  hv : ∀ v ∈ vs, ∀ a, v.a = some a → G a.block
  lt : ∀ q, G q → q < u.heap.size
/-- The pages' bytes. -/
def svs (vs : List SV) : List (List UInt8) := vs.map (·.bs)
theorem Byt.farG {w w' : World} {R : Nat → Prop} {A : Option Addr} {n c : Nat} {bs : List UInt8} (h : Byt w w.heap.size A n c bs) (ho : Only R w w') (hd : ∀ a, A = some a → ¬ R a.block) : Byt w' w'.heap.size A n c bs :=
  ⟨h.1, h.2.1, Row.only (B := 0) h.2.2 ho hd⟩
theorem RfAt.away {u u' : World} {A : Option Addr} {n c : Nat} {vs : List SV} {G R : Nat → Prop} (H : RfAt u A n c vs G) (ho : Only R u u') (hd : ∀ q, G q → ¬ R q) : RfAt u' A n c vs G :=
  { H with
    byts := ⟨Row.only (B := 0) H.byts.1 ho (fun a e => hd _ (H.hA a e)), fun v hv => (H.byts.2 v hv).farG ho (fun a e => hd _ (H.hv v hv a e))⟩
    lt := fun q hq => Nat.lt_of_lt_of_le (H.lt q hq) ho.size }
theorem RfAt.sup {u : World} {A : Option Addr} {n c : Nat} {vs : List SV} {G : Nat → Prop} (H : RfAt u A n c vs G) : Sup u G (fun x => RfAt x A n c vs G) := ⟨H, H.lt, fun _ _ ho hd => H.away ho hd⟩
theorem RfAt.below {u u' : World} {A : Option Addr} {n c : Nat} {vs : List SV} {G : Nat → Prop} (H : RfAt u A n c vs G) (hb : Below u.heap.size u u') : RfAt u' A n c vs G := H.away (R := fun _ => False) (Only.of_below hb) (fun _ _ e => e)
theorem svs_getD (vs : List SV) (k : Nat) (h : k < vs.length) : (svs vs).getD k [] = vs[k].bs := by simp [svs, List.getD, h]
theorem wpList_ap9 {ops : Array Oper} {rest : List Oper} {o : Oper} {a : Act} {w s : World} {Q : Exit → Act → World → Prop} {R : Nat → Prop} {L : List Ent} {O : List Osl} (hw : Region.wanted o (yielded ops a.tmps) = true) (x y : Operand)
    (ho : o.op = .call { callee := .builtin .append, args := #[x, y], argTypes := #[39, 39] })
    (A : Option Addr) (n c : Nat) (X : List UInt8) (hx : a.eval x = .slice A n c) (hm : Mem R s w L O) (k : Nat) (hk : O[k]? = some ⟨5, 1, A, n, c, bcells X⟩)
    (B : Nat) (A' : Option Addr) (m c' : Nat) (M : List UInt8) (hy : a.eval y = .slice A' m c') (hr : Row w B A' (bcells M)) (hl : M.length = m) (hsz : n + m ≤ 1000000000)
    (h : ∀ A2 c2 w1, Mem R s w1 L (O.set k ⟨5, 1, A2, n + m, c2, bcells (X ++ M)⟩) → wpList Try.prog ops Q rest (a.put o.dst (.slice A2 (n + m) c2)) w1) : wpList Try.prog ops Q (o :: rest) a w := by
  obtain ⟨ti, hti, hz0, hz1, hz2⟩ := info_parts u8_inf
  refine wpList_ap hw x y 39 ho 5 ti _ 1 1 Try.underlying39 hti hz0 hz1 hz2 rfl (by omega) A n c (bcells X) hx hm k hk B A' m c' (bcells M) hy hr (by rw [length_bcells, hl]; omega) (bcells_one _) (by unfold maxLen; omega) (by omega) ?_
  intro A2 c2 w1 h1 h2 h3
  rw [← bcells_append] at h1
  exact h A2 c2 w1 h1
/-- A page that is read, and an error. -/
def RRes (w : World) (r : List UInt8 × Int) (e : Ending) (w' : World) : Prop :=
  ∃ A k m, e = .returned (.tuple #[.slice A k m, .int .i64 r.2]) ∧ k = r.1.length ∧ Own w' w.heap.size 5 1 A k m (bcells r.1) ∧ Below w.heap.size w w'
theorem ref11_Read (A : Option Addr) (n c : Nat) (vs : List SV) (G : Nat → Prop) (i : Int) (w0 : World) (H : RfAt w0 A n c vs G) :
    Calls Try.prog 18 #[.agg #[.slice A n c], .int .i64 i] w0 (RRes w0 (Pg.rread (svs vs) i)) := by
  have hl : (svs vs).length = n := by simp [svs, H.len]
  have hm := Mem.nil (fun _ => False) w0
  by_cases h0 : i < 0
  · have d1 : decide (i < 0) = true := decide_eq_true h0
    have e1 : Pg.rread (svs vs) i = ([], 2) := by unfold Pg.rread; rw [if_pos (.inl h0)]
    rw [e1]
    clear H hl e1 h0
    go_enter Try.func18, Try.ntmps18
    go_wp2_with (first | go_skip | ((with_reducible show wpList _ _ _ _ _ (World.alloc _ _)); refine wpList_up hm ?_; clear hm; intro n w hn hn2 hk hm hd hd2 ho; (try rw [← hn]); replace hn := Nat.le_of_eq hn.symm) | ((first | ((with_reducible show wpList _ _ _ (Oper.mk _ (Op.box _ _) _ _ _ _ :: _) _ _); (refine bxA hm ?_; clear hm; intro n w hn hz hm ho; (try simp only [List.cons_append, List.nil_append] at hm))) | ((with_reducible show wpList _ _ _ (Oper.mk _ (Op.load _ _) _ _ _ _ :: _) _ _); first | (refine ldA hm ?_) | (refine laA hm ?_)) | ((with_reducible show wpList _ _ _ (Oper.mk _ (Op.store _ _ _) _ _ _ _ :: _) _ _); (refine stA hm ?_; clear hm; intro w hz hm ho)) | ((with_reducible show wpList _ _ _ (Oper.mk _ (Op.alloc _) _ _ _ _ :: _) _ _); (refine alA hm ?_; clear hm; intro n w hn hz hm ho; (try simp only [List.cons_append, List.nil_append] at hm)))); try simp only [Act.put, sxQ]))
    go_ret2
    exact ⟨none, 0, 0, rfl, rfl, Own.none_ _ _ _ _ _, hm.low⟩
  · have d1 : decide (i < 0) = false := decide_eq_false h0
    obtain ⟨k, rfl⟩ := Int.eq_ofNat_of_zero_le (a := i) (by omega)
    by_cases h1 : n ≤ k
    · have d2 : decide ((n : Int) ≤ (k : Int)) = true := decide_eq_true (by omega)
      have e1 : Pg.rread (svs vs) k = ([], 2) := by unfold Pg.rread; rw [if_pos (.inr (by omega))]
      rw [e1]
      clear H hl e1 h0
      go_enter Try.func18, Try.ntmps18
      go_wp2_with (first | go_skip | ((with_reducible show wpList _ _ _ _ _ (World.alloc _ _)); refine wpList_up hm ?_; clear hm; intro n w hn hn2 hk hm hd hd2 ho; (try rw [← hn]); replace hn := Nat.le_of_eq hn.symm) | ((first | ((with_reducible show wpList _ _ _ (Oper.mk _ (Op.box _ _) _ _ _ _ :: _) _ _); (refine bxA hm ?_; clear hm; intro n w hn hz hm ho; (try simp only [List.cons_append, List.nil_append] at hm))) | ((with_reducible show wpList _ _ _ (Oper.mk _ (Op.load _ _) _ _ _ _ :: _) _ _); first | (refine ldA hm ?_) | (refine laA hm ?_)) | ((with_reducible show wpList _ _ _ (Oper.mk _ (Op.store _ _ _) _ _ _ _ :: _) _ _); (refine stA hm ?_; clear hm; intro w hz hm ho)) | ((with_reducible show wpList _ _ _ (Oper.mk _ (Op.alloc _) _ _ _ _ :: _) _ _); (refine alA hm ?_; clear hm; intro n w hn hz hm ho; (try simp only [List.cons_append, List.nil_append] at hm)))); try simp only [Act.put, sxQ]))
      go_ret2
      exact ⟨none, 0, 0, rfl, rfl, Own.none_ _ _ _ _ _, hm.low⟩
    · have d2 : decide ((n : Int) ≤ (k : Int)) = false := decide_eq_false (by omega)
      have hkn : k < n := by omega
      have hkv : k < vs.length := by rw [H.len]; exact hkn
      obtain ⟨bb, oo, hA, hc, hby⟩ := H.byts.at_ hkv
      have h48 := H.v48 _ (List.getElem_mem hkv)
      have e1 : Pg.rread (svs vs) k = (vs[k].bs, 0) := by
        unfold Pg.rread
        rw [if_neg (by omega), Int.toNat_natCast, svs_getD vs k hkv]
      rw [e1]
      generalize vs[k] = y at *
      obtain ⟨yA, yn, yc, ys⟩ := y
      dsimp only at *
      obtain rfl : yn = 48 := h48
      subst hA
      have hlt : bb < w0.heap.size := World.block_lt_of_cell? w0 _ hc
      have CK := Lib.hid (fun (u : World) (hu : Below w0.heap.size w0 u) => show u.cell? ⟨bb, oo + k, none⟩ = some (.slice yA 48 yc) from (hu.cell (p := ⟨bb, oo + k, none⟩) hlt).trans hc)
      have HB := Lib.hid hby
      have hyl : ys.length = 48 := hby.1
      have HYL := Lib.hid hyl
      clear H hl e1 h0 hc hby hkv hlt hyl
      go_enter Try.func18, Try.ntmps18
      go_wp2_with (first | go_skip | ((with_reducible show wpList _ _ _ _ _ (World.alloc _ _)); refine wpList_up hm ?_; clear hm; intro n w hn hn2 hk hm hd hd2 ho; (try rw [← hn]); replace hn := Nat.le_of_eq hn.symm) | ((first | ((with_reducible show wpList _ _ _ (Oper.mk _ (Op.box _ _) _ _ _ _ :: _) _ _); (refine bxA hm ?_; clear hm; intro n w hn hz hm ho; (try simp only [List.cons_append, List.nil_append] at hm))) | ((with_reducible show wpList _ _ _ (Oper.mk _ (Op.load _ _) _ _ _ _ :: _) _ _); first | (refine ldA hm ?_) | (refine laA hm ?_) | (refine wpList_lc (by rfl) _ _ rfl _ rfl (by decide +kernel) _ (CK.out _ hm.low) ?_)) | ((with_reducible show wpList _ _ _ (Oper.mk _ (Op.store _ _ _) _ _ _ _ :: _) _ _); (refine stA hm ?_; clear hm; intro w hz hm ho)) | ((with_reducible show wpList _ _ _ (Oper.mk _ (Op.alloc _) _ _ _ _ :: _) _ _); (refine alA hm ?_; clear hm; intro n w hn hz hm ho; (try simp only [List.cons_append, List.nil_append] at hm)))); try simp only [Act.put, sxQ]) | ((with_reducible show wpList _ _ _ (Oper.mk _ (Op.call { callee := Callee.builtin Builtin.append, args := #[Operand.tmp 15, Operand.tmp 20], argTypes := _ }) _ _ _ _ :: _) _ _); refine wpList_ap9 (by rfl) (.tmp 15) (.tmp 20) rfl _ 0 0 [] rfl (hm.row hk hn2 hd hd2 1 0 [] rfl rfl (by unfold maxLen; omega)) 0 rfl _ _ 48 _ ys rfl (HB.out.below hm.low).2.2 HYL.out (by omega) ?_; clear hm; intro A2 c2 w hm; try simp only [Act.put, List.setIfInBounds_toArray, List.set_cons_zero, List.set_cons_succ]; simp only [List.nil_append, Nat.zero_add, List.set_cons_zero] at hm))
      go_ret2
      exact ⟨A2, 48, c2, rfl, HYL.out.symm, hm.own_ 0 rfl, hm.low⟩
end Go.Proofs.Ytnlhammgcemchaa
