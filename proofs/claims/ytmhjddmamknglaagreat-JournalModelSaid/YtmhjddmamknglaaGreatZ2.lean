/-
  The texts that the claims of this seat lean on, part 3.
-/
import Derived.Test.YtmhjddmamknglaaGreatZ1
import Derived.Test.YtmhjddmamknglaaGreatZ0
import Derived.RangeFuncLeaves
import Derived.RangeFuncFrom
import Derived.TacticsInMore
import Derived.OrdersIn
import Derived.Laws.CopyOwn
import Derived.Test.YtmhjddmamknglaaGreatSrt
import Derived.WalkKit
import Derived.Laws.Cover3
import Derived.Laws.ByValue

section
namespace Go.Proofs.YtmhjddmamknglaaGreat
set_option maxRecDepth 100000
set_option linter.unusedSimpArgs false
set_option linter.unusedVariables false
open Go.RowKit
set_option maxHeartbeats 8000000

theorem slices_CloneN (A : Option Addr) (n c : Nat) (l : List Nat) (w : World) (h : Nrow w w.heap.size A n c l) (h0 : 0 < n) (hn : n ≤ 65536) :
    Calls Tryz.prog 81 #[.slice A n c] w fun e w' => ∃ A2 c2, e = .returned (.slice A2 n c2) ∧ Own w' w.heap.size 3 1 A2 n c2 (ncells l) ∧ Below w.heap.size w w' := by
  obtain ⟨iu, hiu, hu0, hu1, hu2⟩ := info_parts i_int'
  obtain ⟨g, o, rfl, _, _⟩ := h.at_ h0
  have hu : ∀ u : World, (binOp .eql 64 (.slice (some ⟨g, o, none⟩) n c) (.slice none 0 0)).run Tryz.prog u = .ok (.bool false) u := fun u => by
    have := Lib.run_eql_slice_nil u 64 3 (some ⟨g, o, none⟩) n c 0 0 Tryz.underlying64
    exact this
  go_enter Tryz.func81, Tryz.ntmps81
  have hb1 := (Below.refl w.heap.size w).alloc (Nat.le_refl _) (.cells #[] 3)
  have hown : Own (w.alloc (.cells #[] 3)) w.heap.size 3 1 (some ⟨w.heap.size, 0, none⟩) 0 0 [] := Own.none_ _ _ _ _ _
  go_wp2_with (at_builtin; refine wpList_append _ rfl (.tmp 5) (.tmp 6) 64 rfl w.heap.size 3 iu _ 1 8 Tryz.underlying64 hiu hu0 hu1 hu2 rfl (by omega) (some ⟨w.heap.size, 0, none⟩) 0 0 _ rfl hown w.heap.size (some ⟨g, o, none⟩) n c (ncells l) rfl (h.2.2.below hb1) (by rw [ncells_length, h.1]; omega) (ncells_one _) (by unfold maxLen; omega) (by omega) (by simp) ?_; intro A4 c4 w4 hown4 hg4 hat4)
  go_ret
  exact ⟨_, _, by simp; exact ⟨rfl, rfl⟩, by simpa using hown4, hown.grown hg4 hb1 (by simp)⟩
theorem or3 (a b c : Nat) (ha : a < 256) (hb : b < 256) (hc : c < 256) : bits BinOp.or IntKind.i64 (bits BinOp.or IntKind.i64 ((a : Int) * 65536) ((b : Int) * 256)) (c : Int) = ((a * 65536 + b * 256 + c : Nat) : Int) := by
  have e1 : (a : Int) * 65536 = ((a * 65536 : Nat) : Int) := by omega
  have e2 : (b : Int) * 256 = ((b * 256 : Nat) : Int) := by omega
  rw [e1, e2, i64_or_nat _ _ (by omega) (by omega)]
  have h1 := Nat.two_pow_add_eq_or_of_lt (i := 16) (b := b * 256) (by omega) a
  simp only [Nat.reducePow] at h1
  have h3 : a * 65536 ||| b * 256 = 65536 * a + b * 256 := by rw [h1, Nat.mul_comm]
  rw [h3, i64_or_nat _ _ (by omega) (by omega)]
  have h2 := Nat.two_pow_add_eq_or_of_lt (i := 8) (b := c) (by omega) (a * 256 + b)
  simp only [Nat.reducePow] at h2
  rw [show 65536 * a + b * 256 = 256 * (a * 256 + b) by omega, ← h2]
  congr 1
  omega
def wordAt (b : List UInt8) (k : Nat) : Nat := (b.getD (3 * k) 0).toNat * 65536 + (b.getD (3 * k + 1) 0).toNat * 256 + (b.getD (3 * k + 2) 0).toNat
theorem words_take (b : List UInt8) (k : Nat) (hk : k < 16) : (Pg.words b).take (k + 1) = (Pg.words b).take k ++ [wordAt b k] := by
  have hl : k < (Pg.words b).length := by rw [Pg.words_length]; exact hk
  rw [List.take_succ_eq_append_getElem hl]
  simp [Pg.words, wordAt]
theorem Byt.cellAt {w : World} {B : Nat} {A : Option Addr} {n c : Nat} {bs : List UInt8} (h : Byt w B A n c bs) {b o : Nat} (e : A = some ⟨b, o, none⟩) {k : Nat} (hk : k < n) : w.cell? ⟨b, o + k, none⟩ = some (.int .u8 ((bs.getD k 0).toNat : Int)) := by
  subst e
  have hk2 : k < bs.length := by rw [h.1]; exact hk
  rw [h.2.2.byte k hk2]
section
variable {P : Program} {ops : Array Oper} {o : Oper} {a : Act} {w s : World} {K : Act → World → Prop} {Q : Exit → Act → World → Prop} {E : Prop} {R : Nat → Prop} {L : List Ent} {O : List Osl}
/-- An append as a step of a region that draws its order. -/
theorem step_ap (hw : Region.wanted o (yielded ops a.tmps) = true) (x y : Operand) (t : TypeId)
    (ho : o.op = .call { callee := .builtin .append, args := #[x, y], argTypes := #[t, t] }) (e : TypeId) (i : TypeInfo) (z : Value) (s' bytes : Nat) (ht : P.underlying t = some (.slice e)) (hi : P.info? e = some i) (hz : i.zero = some z)
    (hsize : i.size = s') (hby : i.bytes = bytes) (hzs : z.cells.size = s') (hsz : 0 < s')
    (A : Option Addr) (n c : Nat) (cs : List Value) (hx : a.eval x = .slice A n c) (hm : Mem R s w L O) (k : Nat) (hk : O[k]? = some ⟨e, s', A, n, c, cs⟩)
    (B : Nat) (A' : Option Addr) (m c' : Nat) (news : List Value) (hy : a.eval y = .slice A' m c') (hr : Row w B A' news) (hl : news.length = m * s') (h1 : ∀ u ∈ news, u.oneCell' = true)
    (h63 : n + m ≤ maxLen) (hbytes : (n + m) * bytes ≤ 140737488355328)
    (h : ∀ A2 c2 w1, Mem R s w1 L (O.set k ⟨e, s', A2, n + m, c2, cs ++ news⟩) → Only (fun q => ownAt A c = some q) w w1 → (ownAt A2 c2 = ownAt A c ∨ ∃ q, ownAt A2 c2 = some q ∧ w.heap.size ≤ q) → K (a.put o.dst (.slice A2 (n + m) c2)) w1) :
    if Region.wanted o (yielded ops a.tmps) = true then Oper.wp P o a w K Q else E := by
  rw [if_pos hw]
  refine wp_append w x y t ho 0 e i z s' bytes ht hi hz hsize hby hzs hsz A n c cs hx (hm.sl_ k hk) B A' m c' news hy hr hl h1 h63 hbytes (Nat.zero_le _) ?_
  intro A2 c2 w2 h2 h3 h4
  have ho2 : Only (fun q => ownAt A c = some q) w w2 := (Only.refl _ _).grown h3 (fun k e => e)
  exact h A2 c2 w2 (hm.app k hk h2 ho2 h4) ho2 (h4.imp_right fun e => ⟨_, e, Nat.le_refl _⟩)
end
theorem Nrow.far {w w' : World} {R : Nat → Prop} {A : Option Addr} {n c : Nat} {l : List Nat} (h : Nrow w w.heap.size A n c l) (ho : Only R w w') (hd : ∀ a, A = some a → ¬ R a.block) : Nrow w' w'.heap.size A n c l := ⟨h.1, h.2.1, Row.only (B := 0) h.2.2 ho hd⟩
/-- What place needs. -/
structure PlOk (p : Pg.P) (i : Nat) (K : Int) : Prop where
  hi : i < p.at_.length
  hi24 : i < 16777216
  f2 : 2 ≤ p.freed.length
  fl : p.freed.length ≤ 65000
  ff : p.freed.getD 0 0 < p.holds.length
  hl : p.holds.length < 65536
  ho : ∀ f, p.at_.getD i none = some f → f < p.holds.length
  ver : p.version + 1 < 281474976710656
  fine : Cel.Fine K p.m
  hK : 0 ≤ K ∧ K + 100 ≤ 4611686018427387904
/-- Where the memory of pages lies. -/
def PgS.mm (s : PgS) : Nat × Nat × Nat × Nat × Nat × Nat := (s.gm, s.gw, s.gv, s.n, s.cw, s.cv)
def PlRes (w : World) (g : Nat) (G : Nat → Prop) (s : PgS) (r : Pg.P × Int) (e : Ending) (w' : World) : Prop :=
  e = .returned (.int .i64 r.2) ∧ ∃ G' s', PAt w' g G' s' r.1 ∧ (∀ q, G' q → G q ∨ w.heap.size ≤ q) ∧ Only G w w' ∧ s'.mm = s.mm
theorem wordAt_lt (b : List UInt8) (k : Nat) : wordAt b k < 16777216 := by
  have l0 := (b.getD (3 * k) 0).toNat_lt
  have l1 := (b.getD (3 * k + 1) 0).toNat_lt
  have l2 := (b.getD (3 * k + 2) 0).toNat_lt
  unfold wordAt
  omega
theorem frameWords_lt (i v : Nat) (b : List UInt8) (hi : i < 16777216) (hv : v < 281474976710656) : ∀ x ∈ Pg.frameWords i v b, x < 16777216 := by
  intro x hx
  unfold Pg.frameWords at hx
  rcases List.mem_append.1 hx with h | h
  · unfold Pg.words at h
    obtain ⟨k, _, rfl⟩ := List.mem_map.1 h
    exact wordAt_lt b k
  · simp only [List.mem_cons, List.not_mem_nil, or_false] at h
    rcases h with rfl | rfl | rfl
    · exact hi
    · omega
    · omega
def full (W : List Nat) : List Nat := [0] ++ W ++ [Pg.sealOf W]
def posAt (k : Nat) : Nat := if k = 0 then 19 else k - 1
theorem plan_eq (W : List Nat) (h : W.length = 19) : Pg.plan W = (List.range 21).map fun k => (posAt k, (full W).getD k 0) := by
  unfold Pg.plan full
  rw [h]
  generalize Pg.sealOf W = z
  apply List.ext_getElem
  · simp
  · intro k h1 h2
    have hk : k < 21 := by simpa using h2
    simp only [List.getElem_map, List.getElem_range]
    rcases Nat.eq_zero_or_pos k with rfl | h0
    · simp [posAt, List.getD]
    · obtain ⟨j, rfl⟩ : ∃ j, k = j + 1 := ⟨k - 1, by omega⟩
      simp only [List.cons_append, List.getElem_cons_succ, posAt, List.getD, List.nil_append, List.getElem?_cons_succ]
      rw [if_neg (by omega)]
      by_cases hj : j < 19
      · rw [List.getElem_append_left (by simpa using hj)]
        simp [List.getElem?_append_left, h, hj]
      · obtain rfl : j = 19 := by omega
        simp [h]
theorem put_next (f : Nat) (W : List Nat) (h : W.length = 19) (k : Nat) (hk : k < 21) (m : Cel.Mem) : Pg.put f ((Pg.plan W).drop k) m =
    if (m.write (f * 20 + posAt k : Nat) (UInt32.ofNat (Ecc.code ((full W).getD k 0)))).2 ≠ 0 then m.write (f * 20 + posAt k : Nat) (UInt32.ofNat (Ecc.code ((full W).getD k 0)))
    else Pg.put f ((Pg.plan W).drop (k + 1)) (m.write (f * 20 + posAt k : Nat) (UInt32.ofNat (Ecc.code ((full W).getD k 0)))).1 := by
  have hl : (Pg.plan W).length = 21 := by rw [plan_eq W h]; simp
  rw [List.drop_eq_getElem_cons (by omega)]
  have e : (Pg.plan W)[k] = (posAt k, (full W).getD k 0) := by simp only [plan_eq W h, List.getElem_map, List.getElem_range]
  rw [e]
  rfl
theorem full_length (W : List Nat) (h : W.length = 19) : (full W).length = 21 := by simp [full, h]
theorem sealOf_lt (l : List Nat) : Pg.sealOf l < 16777216 := by
  have h := sealK_lt l 5904323 (by omega)
  unfold Pg.sealOf
  generalize Pg.sealK l 5904323 = z at *
  have := Nat.or_lt_two_pow (x := z) (y := 1) (n := 24) (by omega) (by omega)
  omega
theorem full_lt (W : List Nat) (h : ∀ x ∈ W, x < 16777216) : ∀ k, (full W).getD k 0 < 16777216 := by
  intro k
  rw [List.getD]
  cases e : (full W)[k]? with
  | none => show 0 < _; omega
  | some x =>
    have hx := List.mem_of_getElem? e
    unfold full at hx
    rcases List.mem_append.1 hx with h1 | h1
    · rcases List.mem_append.1 h1 with h2 | h2
      · obtain rfl := List.mem_singleton.1 h2; show 0 < _; omega
      · exact h x h2
    · obtain rfl := List.mem_singleton.1 h1; exact sealOf_lt W
theorem enc_code (x : Nat) (h : x < 16777216) : (encW (x : Int) : Int) = ((UInt32.ofNat (Ecc.code x)).toNat : Int) ∧ encE (x : Int) = 0 := by
  unfold encW encE
  rw [if_pos ⟨by omega, by omega⟩, if_pos ⟨by omega, by omega⟩]
  refine ⟨?_, rfl⟩
  have := Ecc.code_lt x
  simp
  omega
theorem spl_cells (l : List (Option Nat)) (r : List Value) (i : Nat) (hi : i < l.length) (v : Option Nat) : spl (ecells l ++ r).toArray i #[Value.int .i64 (Pg.enc v)] = (ecells (l.set i v) ++ r).toArray := by
  unfold spl
  congr 1
  simp only [List.toList_toArray, List.size_toArray, List.length_cons, List.length_nil, Nat.zero_add]
  have h1 : i < (ecells l ++ r).length := by simp [ecells]; omega
  have h2 : (ecells l ++ r).set i (Value.int .i64 (Pg.enc v)) = (ecells l ++ r).take i ++ [Value.int .i64 (Pg.enc v)] ++ (ecells l ++ r).drop (i + 1) := by
    rw [List.set_eq_take_append_cons_drop, if_pos h1]; simp
  rw [← h2, List.set_append, if_pos (by simpa [ecells] using hi)]
  simp [ecells, List.map_set, I64]
theorem cells_at (l : List (Option Nat)) (r : List Value) (i : Nat) (hi : i < l.length) {u : World} {A : Nat} {t : TypeId} (h : Blk u A t (ecells l ++ r).toArray) : u.cell? ⟨A, i, none⟩ = some (.int .i64 (Pg.enc (l.getD i none))) := by
  rw [h.cell]; simp [ecells, List.getD, List.getElem?_append_left, hi, I64]
theorem PAt.mem3 {w : World} {g : Nat} {G : Nat → Prop} {s : PgS} {p : Pg.P} (H : PAt w g G s p) : Mem (fun q => q = g ∨ q = s.A ∨ q = s.Ho) w w [⟨g, 66, pcs s p⟩, ⟨s.A, 3, (ecells p.at_ ++ s.ra).toArray⟩, ⟨s.Ho, 3, (ecells p.holds ++ s.rh).toArray⟩] [] := by
  have ne := H.ne
  simp only [List.nodup_cons, List.mem_cons, List.not_mem_nil, or_false, not_or] at ne
  obtain ⟨⟨n1, n2, n3, n4, n5⟩, ⟨n6, n7, n8, n9⟩, ⟨n10, n11, n12⟩, ⟨n13, n14⟩, n15, _⟩ := ne
  refine (((Mem.nil _ w).cons H.holds (.inl (.inr (.inr rfl))) (fun e he => by cases he) (fun x hx => by cases hx)).cons H.at_ (.inl (.inr (.inl rfl))) (fun e he => ?_) (fun x hx => by cases hx)).cons H.blk (.inl (.inl rfl)) (fun e he => ?_) (fun x hx => by cases hx)
  · obtain rfl := List.mem_singleton.1 he; exact n15
  · simp only [List.mem_cons, List.not_mem_nil, or_false] at he
    rcases he with rfl | rfl
    · exact n4
    · exact n5
theorem PAt.rebuilt {w w' : World} {g : Nat} {G : Nat → Prop} {s : PgS} {p q : Pg.P} (H : PAt w g G s p) (ho : Only (fun k => k = g ∨ k = s.A ∨ k = s.Ho) w w') (F' : Option Addr) (cf' : Nat) (hb : Blk w' g 66 (pcs { s with F := F', cf := cf' } q))
    (hA : Blk w' s.A 3 (ecells q.at_ ++ s.ra).toArray) (hH : Blk w' s.Ho 3 (ecells q.holds ++ s.rh).toArray) (hm : q.m = p.m) (hF : Row w' w'.heap.size F' (ncells q.freed)) (hcap : q.freed.length ≤ cf')
    (hin : ∀ a, F' = some a → (G a.block ∨ w.heap.size ≤ a.block) ∧ a.block < w'.heap.size ∧ a.block ∉ [g, s.gm, s.gw, s.gv, s.A, s.Ho]) : PAt w' g (fun k => G k ∨ (w.heap.size ≤ k ∧ k < w'.heap.size)) { s with F := F', cf := cf' } q := by
  have ne := H.ne
  simp only [List.nodup_cons, List.mem_cons, List.not_mem_nil, or_false, not_or] at ne
  obtain ⟨⟨n1, n2, n3, n4, n5⟩, ⟨n6, n7, n8, n9⟩, ⟨n10, n11, n12⟩, ⟨n13, n14⟩, n15, _⟩ := ne
  refine { blk := hb, mem := ?_, at_ := hA, holds := hH, freed := hF, cap := hcap, hg := fun k hk => .inl (H.hg k hk), hF := fun a e => ?_, ne := H.ne, nF := fun a e => (hin a e).2.2, lt := fun k hk => ?_ }
  · rw [hm]
    exact H.mem.only ho (by rintro (h | h | h) <;> simp_all) (by rintro (h | h | h) <;> simp_all) (by rintro (h | h | h) <;> simp_all)
  · rcases (hin a e).1 with h | h
    · exact .inl h
    · exact .inr ⟨h, (hin a e).2.1⟩
  · rcases hk with h | h
    · exact Nat.lt_of_lt_of_le (H.lt k h) ho.size
    · exact h.2
theorem moved_none {p : Pg.P} {i : Nat} (h : p.at_.getD i none = none) (f : Nat) (m : Cel.Mem) : p.moved i f m = { p with m := m, version := p.version + 1, freed := p.freed.drop 1, holds := p.holds.set f (some i), at_ := p.at_.set i (some f) } := by
  unfold Pg.P.moved; rw [h]; simp
theorem moved_some {p : Pg.P} {i old : Nat} (h : p.at_.getD i none = some old) (f : Nat) (m : Cel.Mem) : p.moved i f m = { p with m := m, version := p.version + 1, freed := p.freed.drop 1 ++ [old], holds := (p.holds.set old none).set f (some i), at_ := p.at_.set i (some f) } := by
  unfold Pg.P.moved; rw [h]; rfl
theorem page_place {w0 : World} {g : Nat} {G : Nat → Prop} {s : PgS} {p : Pg.P} (H : PAt w0 g G s p) (i : Nat) {K : Int} (hok : PlOk p i K) (B0 : Option Addr) (cb : Nat) (b : List UInt8) (hb : Byt w0 w0.heap.size B0 48 cb b) :
    Calls Tryz.prog 68 #[.pointer (some ⟨g, 0, none⟩), .int .i64 (i : Int), .slice B0 48 cb] w0 (PlRes w0 g G s (p.place i b)) := by
  obtain ⟨ti, hi0, hz0, hz1, hz2⟩ := info_parts i_int'
  have hm : Mem (fun q => q = g) w0 w0 [⟨g, _, _⟩] [] := Mem.one H.blk rfl
  have HK := Lib.hid H.blk
  have HH := Lib.hid H
  have HOK := Lib.hid hok
  have HB := Lib.hid hb
  have hg : g < w0.heap.size := H.lt g (H.hg g (by simp))
  have hf2 := hok.f2
  have hver := hok.ver
  obtain ⟨bF, oF, eF, hbF, cF⟩ := (show Nrow w0 w0.heap.size s.F p.freed.length s.cf p.freed from ⟨rfl, H.cap, H.freed⟩).at_ (k := 0) (by omega)
  rw [Nat.add_zero] at cF
  obtain ⟨bb, ob, rfl, hbb⟩ := hb.at_ (by omega)
  clear H hok hb
  simp only [pcs] at hm HK
  rw [eF] at hm HK
  generalize hf : p.freed.getD 0 0 = f at *
  have HF := Lib.hid hf
  clear hf
  go_enter Tryz.func68, Tryz.ntmps68
  go_wp2_with (first | go_skip | ((with_reducible show wpList _ _ _ _ _ (World.alloc _ _)); refine wpList_up hm ?_; clear hm; intro n w hn hn2 hk hm hd hd2 ho; (try rw [← hn]); replace hn := Nat.le_of_eq hn.symm) | ((first | ((with_reducible show wpList _ _ _ (Oper.mk _ (Op.box _ _) _ _ _ _ :: _) _ _); (refine bxA hm ?_; clear hm; intro n w hn hz hm ho; (try simp only [List.cons_append, List.nil_append] at hm))) | ((with_reducible show wpList _ _ _ (Oper.mk _ (Op.load _ _) _ _ _ _ :: _) _ _); first | (refine ldA hm ?_) | (refine laA hm ?_)) | ((with_reducible show wpList _ _ _ (Oper.mk _ (Op.store _ _ _) _ _ _ _ :: _) _ _); (refine stA hm ?_; clear hm; intro w hz hm ho)) | ((with_reducible show wpList _ _ _ (Oper.mk _ (Op.alloc _) _ _ _ _ :: _) _ _); (refine alA hm ?_; clear hm; intro n w hn hz hm ho; (try simp only [List.cons_append, List.nil_append] at hm)))); try simp only [Act.put, sxQ]))
  go_loopg [9, 10] 16 (fun g2 v j wr => ∃ (k : Nat) (A2 : Option Addr) (c2 : Nat), k + g2 = 16 ∧ j = .int .i64 (3 * (k : Int)) ∧ v = .slice A2 k c2 ∧ Mem (fun _ => False) w0 wr [] [⟨3, 1, A2, k, c2, ncells ((Pg.words b).take k)⟩])
  case atStart => exact ⟨0, none, 0, by omega, rfl, rfl, (Mem.nil _ _).empty _ _ _⟩
  case round =>
    clear hm cF
    obtain ⟨k, A2, c2, hkg, rfl, rfl, hm⟩ := hrel
    cases gk with
    | zero =>
      obtain rfl : k = 16 := by omega
      have e16 : (Pg.words b).take 16 = Pg.words b := List.take_of_length_le (by rw [Pg.words_length]; omega)
      rw [e16] at hm
      have hv0 : ((p.version : Int) + 1) = ((p.version + 1 : Nat) : Int) := by omega
      have hA := and_low24 (p.version + 1) (by omega)
      rw [← hv0] at hA
      have hD : ((p.version : Int) + 1) / 16777216 = (((p.version + 1) / 16777216 : Nat) : Int) := by omega
      have HWF := Lib.hid (show ncells (Pg.words b) ++ ncells [i, (p.version + 1) / 16777216, (p.version + 1) % 16777216] = ncells (Pg.frameWords i (p.version + 1) b) by rw [← ncells_append]; rfl)
      have hlW : (Pg.frameWords i (p.version + 1) b).length = 19 := by simp [Pg.frameWords, Pg.words_length]
      clear e16 hv0
      have HA := Lib.hid hA
      have HD := Lib.hid hD
      clear hA hD
      go_wp2_with (first | go_skip | ((with_reducible show wpList _ _ _ _ _ (World.alloc _ _)); refine wpList_up hm ?_; clear hm; intro n w hn hn2 hk hm hd hd2 ho; (try rw [← hn]); replace hn := Nat.le_of_eq hn.symm) | ((first | ((with_reducible show wpList _ _ _ (Oper.mk _ (Op.box _ _) _ _ _ _ :: _) _ _); (refine bxA hm ?_; clear hm; intro n w hn hz hm ho; (try simp only [List.cons_append, List.nil_append] at hm))) | ((with_reducible show wpList _ _ _ (Oper.mk _ (Op.load _ _) _ _ _ _ :: _) _ _); first | (refine ldA hm ?_) | (refine laA hm ?_)) | ((with_reducible show wpList _ _ _ (Oper.mk _ (Op.store _ _ _) _ _ _ _ :: _) _ _); (refine stA hm ?_; clear hm; intro w hz hm ho)) | ((with_reducible show wpList _ _ _ (Oper.mk _ (Op.alloc _) _ _ _ _ :: _) _ _); (refine alA hm ?_; clear hm; intro n w hn hz hm ho; (try simp only [List.cons_append, List.nil_append] at hm)))); try simp only [Act.put, sxQ]) | ((with_reducible show wpList _ _ _ (Oper.mk _ (Op.call { callee := Callee.builtin Builtin.append, args := #[Operand.tmp 60, Operand.tmp 66], argTypes := _ }) _ _ _ _ :: _) _ _); refine wpList_ap (by rfl) (.tmp 60) (.tmp 66) 64 rfl 3 ti _ 1 8 Tryz.underlying64 hi0 hz0 hz1 hz2 rfl (by omega) A2 16 c2 _ rfl hm 0 rfl _ (some ⟨_, 0, none⟩) 3 3 (ncells [i, (p.version + 1) / 16777216, (p.version + 1) % 16777216]) rfl (by have := hk.row; rw [HA.out, HD.out] at this; exact this) (by simp [ncells]) (ncells_one _) (by unfold maxLen; omega) (by omega) ?_; clear hm; intro A3 c3 w hm ho9 hat; (try simp only [Act.put, sxQ]); simp only [List.set_cons_zero, HWF.out] at hm) | ((with_reducible show wpList _ _ _ (Oper.mk _ (Op.call { callee := Callee.builtin Builtin.append, args := #[Operand.tmp 68, Operand.tmp 69], argTypes := _ }) _ _ _ _ :: _) _ _); refine wpList_ap (by rfl) (.tmp 68) (.tmp 69) 64 rfl 3 ti _ 1 8 Tryz.underlying64 hi0 hz0 hz1 hz2 rfl (by omega) (some ⟨_, 0, none⟩) 1 1 (ncells [0]) rfl (hm.row hk hn2 hd hd2 1 1 (ncells [0]) rfl rfl (by unfold maxLen; omega)) 1 rfl _ _ 19 _ (ncells (Pg.frameWords i (p.version + 1) b)) rfl (hm.sl_ 0 rfl).row (by rw [ncells_length, hlW]) (ncells_one _) (by unfold maxLen; omega) (by omega) ?_; clear hm; intro A4 c4 w hm ho9 hat; (try simp only [Act.put, sxQ]); simp only [List.set_cons_zero, List.set_cons_succ, List.cons_append, List.nil_append] at hm; simp only [← ncells_append] at hm) | (go_at_call 78; refine (page_seal _ 19 _ (Pg.frameWords i (p.version + 1) b) _ ((hm.sl_ 0 rfl).nrow) (frameWords_lt _ _ _ HOK.out.hi24 HOK.out.ver) (by omega)).mono ?_; rintro e w8 ⟨rfl, rfl⟩) | ((with_reducible show wpList _ _ _ (Oper.mk _ (Op.call { callee := Callee.builtin Builtin.append, args := #[Operand.tmp 71, Operand.tmp 74], argTypes := _ }) _ _ _ _ :: _) _ _); refine wpList_ap (by rfl) (.tmp 71) (.tmp 74) 64 rfl 3 ti _ 1 8 Tryz.underlying64 hi0 hz0 hz1 hz2 rfl (by omega) _ 20 _ _ rfl hm 1 rfl _ (some ⟨_, 0, none⟩) 1 1 (ncells [Pg.sealOf (Pg.frameWords i (p.version + 1) b)]) rfl hk.row (by simp [ncells]) (ncells_one _) (by unfold maxLen; omega) (by omega) ?_; clear hm; intro A5 c5 w hm ho9 hat; (try simp only [Act.put, sxQ]); simp only [List.set_cons_zero, List.set_cons_succ, List.cons_append, List.nil_append] at hm; simp only [← ncells_append] at hm))
      have hL : ncells (full (Pg.frameWords i (p.version + 1) b)) = ncells (0 :: Pg.frameWords i (p.version + 1) b ++ [Pg.sealOf (Pg.frameWords i (p.version + 1) b)]) := rfl
      have hP := Lib.hid (show p.place i b = if (Pg.put f (Pg.plan (Pg.frameWords i (p.version + 1) b)) p.m).2 ≠ 0 then ({ p with m := (Pg.put f (Pg.plan (Pg.frameWords i (p.version + 1) b)) p.m).1 }, (Pg.put f (Pg.plan (Pg.frameWords i (p.version + 1) b)) p.m).2)
        else (p.moved i f (Pg.put f (Pg.plan (Pg.frameWords i (p.version + 1) b)) p.m).1, 0) by rw [← HF.out]; rfl)
      have hown := hm.own_ 1 rfl
      have hbw := hm.low
      dsimp only at hown
      rw [← hL] at hown
      have hfl := Lib.hid (full_lt _ (frameWords_lt i (p.version + 1) b HOK.out.hi24 HOK.out.ver))
      clear hL HWF HA HD hm hk hd hd2 hat ho9 ho hn2 hn HK
      generalize Pg.frameWords i (p.version + 1) b = W at *
      go_loopg [77] 21 (fun g2 j wr => ∃ (k : Nat) (mk : Cel.Mem), k + g2 = 21 ∧ j = .int .i64 (k : Int) ∧ Hid (Pg.put f (Pg.plan W) p.m = Pg.put f ((Pg.plan W).drop k) mk) ∧ Hid (Cel.Fine (K + k) mk) ∧ PAt wr g G s { p with m := mk } ∧ Own wr w0.heap.size 3 1 A5 21 c5 (ncells (full W)) ∧ Only (MemR s.gm s.gw s.gv) w0 wr)
      case atStart => exact ⟨0, p.m, by omega, rfl, Lib.hid rfl, Lib.hid (by simpa using HOK.out.fine), HH.out.below hbw, hown, Only.of_below hbw⟩
      case round =>
        clear hown hbw
        obtain ⟨k, mk, hkg, rfl, hput, hfine, hp, hown, ho⟩ := hrel
        cases gk with
        | zero =>
          obtain rfl : k = 21 := by omega
          have hpe : p.place i b = (p.moved i f mk, 0) := by
            have h1 := hput.out
            rw [List.drop_of_length_le (by rw [plan_eq W hlW]; simp)] at h1
            rw [hP.out, h1]
            rfl
          have HP := Lib.hid hp
          have HO := Lib.hid ho
          have hm := hp.mem3
          simp only [pcs] at hm
          rw [eF] at hm
          have hcap := hp.cap
          dsimp only at hcap hm
          have hi := HOK.out.hi
          have hff := HOK.out.ff
          rw [HF.out] at hff
          clear hput hfine hP hown hp ho
          replace hpe := Lib.hid hpe
          have hcap1 : ¬ s.cf = 1 := by omega
          have NF := Lib.hid (fun (u : World) (h : Only (fun q => q = g ∨ q = s.A ∨ q = s.Ho) wr u) => show Nrow u u.heap.size (some ⟨bF, oF + 1, none⟩) (p.freed.length - 1) (s.cf - 1) (p.freed.drop 1) by
            have hr := Row.only (B := 0) HP.out.freed h (fun a e => by
              have := HP.out.nF a e
              simp only [List.mem_cons, List.not_mem_nil, or_false, not_or] at this
              rintro (h | h | h)
              · exact this.1 h
              · exact this.2.2.2.2.1 h
              · exact this.2.2.2.2.2 h)
            dsimp only at hr
            rw [eF] at hr
            have h2 := hr.drop 1
            exact ⟨by simp, by omega, by simpa [ncells, List.map_drop] using h2⟩)
          cases hat : p.at_.getD i none with
          | none =>
            have CA := Lib.hid (fun (u : World) (h : Blk u s.A 3 (ecells p.at_ ++ s.ra).toArray) => show u.cell? ⟨s.A, i, none⟩ = some (.int .i64 (-1)) by have := cells_at _ _ i hi h; rwa [hat] at this)
            go_wp2_with (first | go_skip | ((with_reducible show wpList _ _ _ _ _ (World.alloc _ _)); refine wpList_up hm ?_; clear hm; intro n w hn hn2 hk hm hd hd2 ho; (try rw [← hn]); replace hn := Nat.le_of_eq hn.symm) | ((first | ((with_reducible show wpList _ _ _ (Oper.mk _ (Op.box _ _) _ _ _ _ :: _) _ _); (refine bxA hm ?_; clear hm; intro n w hn hz hm ho; (try simp only [List.cons_append, List.nil_append] at hm))) | ((with_reducible show wpList _ _ _ (Oper.mk _ (Op.load _ _) _ _ _ _ :: _) _ _); first | (refine ldA hm ?_) | (refine laA hm ?_)) | ((with_reducible show wpList _ _ _ (Oper.mk _ (Op.store _ _ _) _ _ _ _ :: _) _ _); (refine stA hm ?_; clear hm; intro w hz hm ho)) | ((with_reducible show wpList _ _ _ (Oper.mk _ (Op.alloc _) _ _ _ _ :: _) _ _); (refine alA hm ?_; clear hm; intro n w hn hz hm ho; (try simp only [List.cons_append, List.nil_append] at hm)))); try simp only [Act.put, sxQ]) | ((with_reducible show wpList _ _ _ (Oper.mk _ (Op.load _ _) _ _ _ _ :: _) _ _); refine wpList_lc (by rfl) _ _ rfl _ rfl (by decide +kernel) _ (CA.out _ (hm.at_ 1 rfl)) ?_; (try simp only [Act.put, sxQ])))
            refine wp_region_noPanic ?_
            refine wp_region_phase (S := MemS _ _ _ _) [13, 15] (by kernel_rfl) (MemS.of hm.drew) (fun hHeld => ?_)
            refine wpAnyP_fresh (by repeat (first | apply Fresh.a | apply Fresh.b)) ?_
            replace hm := hm.drew
            iterate 5 (first | (refine takePN 0 hHeld ?_) | (refine takePY 0 ?_ hHeld ?_ ?_; rotate_left 1; (first | (intro w9 h9; (with_reducible show (execOp _ (Oper.mk _ (Op.load _ _) _ _ _ _)).run _ _ = _); first | exact h9.ldA | exact h9.laA) | focus (intro w9 hSw; go_simp; (try (with_reducible rfl)); done))); try simp only [Act.put, sxQ])
            iterate 1 (refine wpAnyP_takeP (b := 5) (by repeat (first | apply Seek.a | apply Seek.b | apply Seek.c)) (by simp only [sxN]; first | done | exact rfl) ⟨?_, by kernel_rfl, by kernel_rfl, by kernel_rfl, by kernel_rfl, fun _ _ _ h => h, Or.inl ⟨by rfl, ?_⟩, (by first | exact Early.of hHeld | exact Early.off (by kernel_rfl)), ?_⟩; rotate_left 1; focus (intro w9 hSw; go_simp; (try (with_reducible rfl)); done); try simp only [Act.put, sxQ])
            try simp only [Act.put, sxQ]
            iterate 1 (refine wpAnyP_takeP (b := 6) (by repeat (first | apply Seek.a | apply Seek.b | apply Seek.c)) (by simp only [sxN]; first | done | exact rfl) ⟨?_, by kernel_rfl, by kernel_rfl, by kernel_rfl, by kernel_rfl, fun _ _ _ h => h, Or.inl ⟨by rfl, ?_⟩, (by first | exact Early.of hHeld | exact Early.off (by kernel_rfl)), ?_⟩; rotate_left 1; focus (intro w9 hSw; go_simp; (try (with_reducible rfl)); done); try simp only [Act.put, sxQ])
            try simp only [Act.put, sxQ]
            iterate 1 (refine wpAnyP_takeP (b := 7) (by repeat (first | apply Seek.a | apply Seek.b | apply Seek.c)) (by simp only [sxN]; first | done | exact rfl) ⟨?_, by kernel_rfl, by kernel_rfl, by kernel_rfl, by kernel_rfl, fun _ _ _ h => h, Or.inl ⟨by rfl, ?_⟩, (by first | exact Early.of hHeld | exact Early.off (by kernel_rfl)), ?_⟩; rotate_left 1; focus (intro w9 hSw; go_simp; (try (with_reducible rfl)); done); try simp only [Act.put, sxQ])
            try simp only [Act.put, sxQ]
            iterate 1 (first | (refine takePN 8 hHeld ?_) | (refine takePY 8 ?_ hHeld ?_ ?_; rotate_left 1; (first | (intro w9 h9; (with_reducible show (execOp _ (Oper.mk _ (Op.load _ _) _ _ _ _)).run _ _ = _); first | exact h9.ldA | exact h9.laA) | focus (intro w9 hSw; go_simp; (try (with_reducible rfl)); done))); try simp only [Act.put, sxQ])
            iterate 1 (first | (refine takePN 10 hHeld ?_) | (refine takePY 10 ?_ hHeld ?_ ?_; rotate_left 1; (first | (intro w9 h9; (with_reducible show (execOp _ (Oper.mk _ (Op.load _ _) _ _ _ _)).run _ _ = _); first | exact h9.ldA | exact h9.laA) | focus (intro w9 hSw; go_simp; (try (with_reducible rfl)); done))); try simp only [Act.put, sxQ])
            iterate 1 (refine wpAnyP_takeP (b := 9) (by repeat (first | apply Seek.a | apply Seek.b | apply Seek.c)) (by simp only [sxN]; first | done | exact rfl) ⟨?_, by kernel_rfl, by kernel_rfl, by kernel_rfl, by kernel_rfl, fun _ _ _ h => h, Or.inl ⟨by rfl, ?_⟩, (by first | exact Early.of hHeld | exact Early.off (by kernel_rfl)), ?_⟩; rotate_left 1; focus (intro w9 hSw; go_simp; (try (with_reducible rfl)); done); try simp only [Act.put, sxQ])
            try simp only [Act.put, sxQ]
            iterate 1 (refine wpAnyP_takeP (b := 11) (by repeat (first | apply Seek.a | apply Seek.b | apply Seek.c)) (by simp only [sxN]; first | done | exact rfl) ⟨?_, by kernel_rfl, by kernel_rfl, by kernel_rfl, by kernel_rfl, fun _ _ _ h => h, Or.inl ⟨by rfl, ?_⟩, (by first | exact Early.of hHeld | exact Early.off (by kernel_rfl)), ?_⟩; rotate_left 1; focus (intro w9 hSw; go_simp; (try (with_reducible rfl)); done); try simp only [Act.put, sxQ])
            try simp only [Act.put, sxQ]
            iterate 1 (refine wpAnyP_takeP (b := 12) (by repeat (first | apply Seek.a | apply Seek.b | apply Seek.c)) (by simp only [sxN]; first | done | exact rfl) ⟨?_, by kernel_rfl, by kernel_rfl, by kernel_rfl, by kernel_rfl, fun _ _ _ h => h, Or.inl ⟨by rfl, ?_⟩, (by first | exact Early.of hHeld | exact Early.off (by kernel_rfl)), ?_⟩; rotate_left 1; focus (intro w9 hSw; go_simp; (try (with_reducible rfl)); done); try simp only [Act.put, sxQ])
            try simp only [Act.put, sxQ]
            refine wpAnyP_last 13 (by kernel_rfl) (by simp only [sxN]; first | done | exact rfl) (by kernel_rfl) (fun K hK => ?_)
            refine stB hm ?_ (hcs := spl_cells _ _ _ hi (some f)) (hin := by simp [ecells]; omega)
            clear hm; intro w hz hm ho
            refine hK.out _ _ ?_
            clear hK K
            try simp only [Act.put, sxQ]
            iterate 1 (refine wpAnyP_takeP (b := 14) (by repeat (first | apply Seek.a | apply Seek.b | apply Seek.c)) (by simp only [sxN]; first | done | exact rfl) ⟨?_, by kernel_rfl, by kernel_rfl, by kernel_rfl, by kernel_rfl, fun _ _ _ h => h, Or.inl ⟨by rfl, ?_⟩, (by first | exact Early.of hHeld | exact Early.off (by kernel_rfl)), ?_⟩; rotate_left 1; focus (intro w9 hSw; go_simp; (try (with_reducible rfl)); done); try simp only [Act.put, sxQ])
            try simp only [Act.put, sxQ]
            refine wpAnyP_last 15 (by kernel_rfl) (by simp only [sxN]; first | done | exact rfl) (by kernel_rfl) (fun K hK => ?_)
            refine stB hm ?_ (hcs := spl_cells _ _ _ hff (some i)) (hin := by simp [ecells]; omega)
            clear hm; intro w hz hm ho
            refine hK.out _ _ ?_
            clear hK K
            try simp only [Act.put, sxQ]
            refine wpAnyP_done (by kernel_rfl) ?_ _
            refine NoPanic.normal ?_
            go_wp2_with (first | go_skip | ((with_reducible show wpList _ _ _ _ _ (World.alloc _ _)); refine wpList_up hm ?_; clear hm; intro n w hn hn2 hk hm hd hd2 ho; (try rw [← hn]); replace hn := Nat.le_of_eq hn.symm) | ((first | ((with_reducible show wpList _ _ _ (Oper.mk _ (Op.box _ _) _ _ _ _ :: _) _ _); (refine bxA hm ?_; clear hm; intro n w hn hz hm ho; (try simp only [List.cons_append, List.nil_append] at hm))) | ((with_reducible show wpList _ _ _ (Oper.mk _ (Op.load _ _) _ _ _ _ :: _) _ _); first | (refine ldA hm ?_) | (refine laA hm ?_)) | ((with_reducible show wpList _ _ _ (Oper.mk _ (Op.store _ _ _) _ _ _ _ :: _) _ _); (refine stA hm ?_; clear hm; intro w hz hm ho)) | ((with_reducible show wpList _ _ _ (Oper.mk _ (Op.alloc _) _ _ _ _ :: _) _ _); (refine alA hm ?_; clear hm; intro n w hn hz hm ho; (try simp only [List.cons_append, List.nil_append] at hm)))); try simp only [Act.put, sxQ]))
            go_ret
            rw [hpe.out, moved_none hat]
            refine ⟨rfl, _, { s with F := some ⟨bF, oF + 1, none⟩, cf := s.cf - 1 }, HP.out.rebuilt hm.only _ _ ?_ ?_ ?_ rfl ?_ ?_ ?_, ?_, ?_, rfl⟩
            · have := hm.at_ 0 rfl
              simpa [pcs] using this
            · exact hm.at_ 1 rfl
            · exact hm.at_ 2 rfl
            · exact (NF.out _ hm.only).2.2
            · simp only [List.length_drop]; omega
            · intro a e
              cases e
              have h1 := HP.out.nF _ eF
              have h2 := HP.out.hF _ eF
              exact ⟨.inl h2, Nat.lt_of_lt_of_le (HP.out.lt _ h2) hm.only.size, h1⟩
            · rintro q (h | h)
              · exact .inl h
              · exact .inr (Nat.le_trans HO.out.size h.1)
            · exact (HO.out.mono fun q _ hq => HH.out.hg q (by rcases hq with h | h | h <;> simp [h])).trans (hm.only.mono fun q _ hq => HH.out.hg q (by rcases hq with h | h | h <;> simp [h]))
          | some old =>
            have CA := Lib.hid (fun (u : World) (h : Blk u s.A 3 (ecells p.at_ ++ s.ra).toArray) => show u.cell? ⟨s.A, i, none⟩ = some (.int .i64 (old : Int)) by have := cells_at _ _ i hi h; rwa [hat] at this)
            have hoo := HOK.out.ho old hat
            have hoi : (old : Int) < (p.holds.length : Int) := by omega
            have hon : ((old : Int) != -1) = true := by rw [bne_iff_ne]; omega
            have hfl' := HOK.out.fl
            go_wp2_with (first | ((with_reducible show wpList _ _ _ (Oper.mk _ (Op.store _ (Operand.tmp 134) _) _ _ _ _ :: _) _ _); refine stA hm ?_ (hcs := spl_cells _ _ _ hoo none) (hin := by simp [ecells]; omega); clear hm; intro w hz hm ho; (try simp only [Act.put, sxQ])) | go_skip | ((with_reducible show wpList _ _ _ _ _ (World.alloc _ _)); refine wpList_up hm ?_; clear hm; intro n w hn hn2 hk hm hd hd2 ho; (try rw [← hn]); replace hn := Nat.le_of_eq hn.symm) | ((first | ((with_reducible show wpList _ _ _ (Oper.mk _ (Op.box _ _) _ _ _ _ :: _) _ _); (refine bxA hm ?_; clear hm; intro n w hn hz hm ho; (try simp only [List.cons_append, List.nil_append] at hm))) | ((with_reducible show wpList _ _ _ (Oper.mk _ (Op.load _ _) _ _ _ _ :: _) _ _); first | (refine ldA hm ?_) | (refine laA hm ?_)) | ((with_reducible show wpList _ _ _ (Oper.mk _ (Op.store _ _ _) _ _ _ _ :: _) _ _); (refine stA hm ?_; clear hm; intro w hz hm ho)) | ((with_reducible show wpList _ _ _ (Oper.mk _ (Op.alloc _) _ _ _ _ :: _) _ _); (refine alA hm ?_; clear hm; intro n w hn hz hm ho; (try simp only [List.cons_append, List.nil_append] at hm)))); try simp only [Act.put, sxQ]) | ((with_reducible show wpList _ _ _ (Oper.mk _ (Op.load _ _) _ _ _ _ :: _) _ _); refine wpList_lc (by rfl) _ _ rfl _ rfl (by decide +kernel) _ (CA.out _ (hm.at_ 1 rfl)) ?_; (try simp only [Act.put, sxQ])) | (go_at_call 81; refine (slices_CloneN _ _ _ _ _ (NF.out _ hm.only) (by omega) (by omega)).mono ?_; rintro e w8 ⟨A8, c8, rfl, hown8, hb8⟩; replace hm := hm.got hb8 hown8; clear hown8) | ((with_reducible show wpList _ _ _ (Oper.mk _ (Op.call { callee := Callee.builtin Builtin.append, args := #[Operand.tmp 140, Operand.tmp 142], argTypes := _ }) _ _ _ _ :: _) _ _); refine wpList_ap (by rfl) (.tmp 140) (.tmp 142) 64 rfl 3 ti _ 1 8 Tryz.underlying64 hi0 hz0 hz1 hz2 rfl (by omega) _ (p.freed.length - 1) _ (ncells (p.freed.drop 1)) rfl hm 0 rfl _ (some ⟨_, 0, none⟩) 1 1 (ncells [old]) rfl hk.row (by simp [ncells]) (ncells_one _) (by unfold maxLen; omega) (by omega) ?_; clear hm; intro A9 c9 w hm ho9 hat9; (try simp only [Act.put, sxQ]); simp only [List.set_cons_zero, ← ncells_append] at hm))
            refine wp_region_noPanic ?_
            refine wp_region_phase (S := MemS _ _ _ _) [13, 15] (by kernel_rfl) (MemS.of hm.drew) (fun hHeld => ?_)
            refine wpAnyP_fresh (by repeat (first | apply Fresh.a | apply Fresh.b)) ?_
            replace hm := hm.drew
            iterate 5 (first | (refine takePN 0 hHeld ?_) | (refine takePY 0 ?_ hHeld ?_ ?_; rotate_left 1; (first | (intro w9 h9; (with_reducible show (execOp _ (Oper.mk _ (Op.load _ _) _ _ _ _)).run _ _ = _); first | exact h9.ldA | exact h9.laA) | focus (intro w9 hSw; go_simp; (try (with_reducible rfl)); done))); try simp only [Act.put, sxQ])
            iterate 1 (refine wpAnyP_takeP (b := 5) (by repeat (first | apply Seek.a | apply Seek.b | apply Seek.c)) (by simp only [sxN]; first | done | exact rfl) ⟨?_, by kernel_rfl, by kernel_rfl, by kernel_rfl, by kernel_rfl, fun _ _ _ h => h, Or.inl ⟨by rfl, ?_⟩, (by first | exact Early.of hHeld | exact Early.off (by kernel_rfl)), ?_⟩; rotate_left 1; focus (intro w9 hSw; go_simp; (try (with_reducible rfl)); done); try simp only [Act.put, sxQ])
            try simp only [Act.put, sxQ]
            iterate 1 (refine wpAnyP_takeP (b := 6) (by repeat (first | apply Seek.a | apply Seek.b | apply Seek.c)) (by simp only [sxN]; first | done | exact rfl) ⟨?_, by kernel_rfl, by kernel_rfl, by kernel_rfl, by kernel_rfl, fun _ _ _ h => h, Or.inl ⟨by rfl, ?_⟩, (by first | exact Early.of hHeld | exact Early.off (by kernel_rfl)), ?_⟩; rotate_left 1; focus (intro w9 hSw; go_simp; (try (with_reducible rfl)); done); try simp only [Act.put, sxQ])
            try simp only [Act.put, sxQ]
            iterate 1 (refine wpAnyP_takeP (b := 7) (by repeat (first | apply Seek.a | apply Seek.b | apply Seek.c)) (by simp only [sxN]; first | done | exact rfl) ⟨?_, by kernel_rfl, by kernel_rfl, by kernel_rfl, by kernel_rfl, fun _ _ _ h => h, Or.inl ⟨by rfl, ?_⟩, (by first | exact Early.of hHeld | exact Early.off (by kernel_rfl)), ?_⟩; rotate_left 1; focus (intro w9 hSw; go_simp; (try (with_reducible rfl)); done); try simp only [Act.put, sxQ])
            try simp only [Act.put, sxQ]
            iterate 1 (first | (refine takePN 8 hHeld ?_) | (refine takePY 8 ?_ hHeld ?_ ?_; rotate_left 1; (first | (intro w9 h9; (with_reducible show (execOp _ (Oper.mk _ (Op.load _ _) _ _ _ _)).run _ _ = _); first | exact h9.ldA | exact h9.laA) | focus (intro w9 hSw; go_simp; (try (with_reducible rfl)); done))); try simp only [Act.put, sxQ])
            iterate 1 (first | (refine takePN 10 hHeld ?_) | (refine takePY 10 ?_ hHeld ?_ ?_; rotate_left 1; (first | (intro w9 h9; (with_reducible show (execOp _ (Oper.mk _ (Op.load _ _) _ _ _ _)).run _ _ = _); first | exact h9.ldA | exact h9.laA) | focus (intro w9 hSw; go_simp; (try (with_reducible rfl)); done))); try simp only [Act.put, sxQ])
            iterate 1 (refine wpAnyP_takeP (b := 9) (by repeat (first | apply Seek.a | apply Seek.b | apply Seek.c)) (by simp only [sxN]; first | done | exact rfl) ⟨?_, by kernel_rfl, by kernel_rfl, by kernel_rfl, by kernel_rfl, fun _ _ _ h => h, Or.inl ⟨by rfl, ?_⟩, (by first | exact Early.of hHeld | exact Early.off (by kernel_rfl)), ?_⟩; rotate_left 1; focus (intro w9 hSw; go_simp; (try (with_reducible rfl)); done); try simp only [Act.put, sxQ])
            try simp only [Act.put, sxQ]
            iterate 1 (refine wpAnyP_takeP (b := 11) (by repeat (first | apply Seek.a | apply Seek.b | apply Seek.c)) (by simp only [sxN]; first | done | exact rfl) ⟨?_, by kernel_rfl, by kernel_rfl, by kernel_rfl, by kernel_rfl, fun _ _ _ h => h, Or.inl ⟨by rfl, ?_⟩, (by first | exact Early.of hHeld | exact Early.off (by kernel_rfl)), ?_⟩; rotate_left 1; focus (intro w9 hSw; go_simp; (try (with_reducible rfl)); done); try simp only [Act.put, sxQ])
            try simp only [Act.put, sxQ]
            iterate 1 (refine wpAnyP_takeP (b := 12) (by repeat (first | apply Seek.a | apply Seek.b | apply Seek.c)) (by simp only [sxN]; first | done | exact rfl) ⟨?_, by kernel_rfl, by kernel_rfl, by kernel_rfl, by kernel_rfl, fun _ _ _ h => h, Or.inl ⟨by rfl, ?_⟩, (by first | exact Early.of hHeld | exact Early.off (by kernel_rfl)), ?_⟩; rotate_left 1; focus (intro w9 hSw; go_simp; (try (with_reducible rfl)); done); try simp only [Act.put, sxQ])
            try simp only [Act.put, sxQ]
            refine wpAnyP_last 13 (by kernel_rfl) (by simp only [sxN]; first | done | exact rfl) (by kernel_rfl) (fun K hK => ?_)
            refine stB hm ?_ (hcs := spl_cells _ _ _ hi (some f)) (hin := by simp [ecells]; omega)
            clear hm; intro w hz hm ho
            refine hK.out _ _ ?_
            clear hK K
            try simp only [Act.put, sxQ]
            iterate 1 (refine wpAnyP_takeP (b := 14) (by repeat (first | apply Seek.a | apply Seek.b | apply Seek.c)) (by simp only [sxN]; first | done | exact rfl) ⟨?_, by kernel_rfl, by kernel_rfl, by kernel_rfl, by kernel_rfl, fun _ _ _ h => h, Or.inl ⟨by rfl, ?_⟩, (by first | exact Early.of hHeld | exact Early.off (by kernel_rfl)), ?_⟩; rotate_left 1; focus (intro w9 hSw; go_simp; (try (with_reducible rfl)); done); try simp only [Act.put, sxQ])
            try simp only [Act.put, sxQ]
            refine wpAnyP_last 15 (by kernel_rfl) (by simp only [sxN]; first | done | exact rfl) (by kernel_rfl) (fun K hK => ?_)
            refine stB hm ?_ (hcs := spl_cells _ _ f (by rw [List.length_set]; exact hff) (some i)) (hin := by simp [ecells]; omega)
            clear hm; intro w hz hm ho
            refine hK.out _ _ ?_
            clear hK K
            try simp only [Act.put, sxQ]
            refine wpAnyP_done (by kernel_rfl) ?_ _
            refine NoPanic.normal ?_
            go_wp2_with (first | go_skip | ((with_reducible show wpList _ _ _ _ _ (World.alloc _ _)); refine wpList_up hm ?_; clear hm; intro n w hn hn2 hk hm hd hd2 ho; (try rw [← hn]); replace hn := Nat.le_of_eq hn.symm) | ((first | ((with_reducible show wpList _ _ _ (Oper.mk _ (Op.box _ _) _ _ _ _ :: _) _ _); (refine bxA hm ?_; clear hm; intro n w hn hz hm ho; (try simp only [List.cons_append, List.nil_append] at hm))) | ((with_reducible show wpList _ _ _ (Oper.mk _ (Op.load _ _) _ _ _ _ :: _) _ _); first | (refine ldA hm ?_) | (refine laA hm ?_)) | ((with_reducible show wpList _ _ _ (Oper.mk _ (Op.store _ _ _) _ _ _ _ :: _) _ _); (refine stA hm ?_; clear hm; intro w hz hm ho)) | ((with_reducible show wpList _ _ _ (Oper.mk _ (Op.alloc _) _ _ _ _ :: _) _ _); (refine alA hm ?_; clear hm; intro n w hn hz hm ho; (try simp only [List.cons_append, List.nil_append] at hm)))); try simp only [Act.put, sxQ]))
            go_ret
            rw [hpe.out, moved_some hat]
            refine ⟨rfl, _, { s with F := A9, cf := c9 }, HP.out.rebuilt hm.only _ _ ?_ ?_ ?_ rfl ?_ ?_ ?_, ?_, ?_, rfl⟩
            · have := hm.at_ 0 rfl
              simpa [pcs] using this
            · exact hm.at_ 1 rfl
            · exact hm.at_ 2 rfl
            · exact (hm.sl_ 0 rfl).row
            · have := (hm.sl_ 0 rfl).le
              simpa using this
            · intro a e
              have h9 := hm.sl_ 0 rfl
              have hc9 : 0 < c9 := by have := h9.le; dsimp only at this; omega
              have ho9 : ownAt A9 c9 = some a.block := ownAt_some hc9 e
              have h1 := hm.slt (List.mem_singleton.2 rfl) ho9
              have h2 := hm.slR _ (List.mem_singleton.2 rfl) _ ho9
              have h3 : a.block ∉ [g, s.gm, s.gw, s.gv, s.A, s.Ho] := by
                intro hmem
                have hl := HP.out.lt _ (HP.out.hg _ hmem)
                rcases h2 with (h | h | h) | h
                · exact hm.slL _ (List.mem_singleton.2 rfl) _ (List.mem_cons_self) (by rw [ho9, h])
                · exact hm.slL _ (List.mem_singleton.2 rfl) _ (List.mem_cons_of_mem _ List.mem_cons_self) (by rw [ho9, h])
                · exact hm.slL _ (List.mem_singleton.2 rfl) _ (List.mem_cons_of_mem _ (List.mem_cons_of_mem _ List.mem_cons_self)) (by rw [ho9, h])
                · omega
              refine ⟨?_, h1, h3⟩
              rcases h2 with (h | h | h) | h
              · exact absurd h (fun e => h3 (by simp [e]))
              · exact absurd h (fun e => h3 (by simp [e]))
              · exact absurd h (fun e => h3 (by simp [e]))
              · exact .inr h
            · rintro q (h | h)
              · exact .inl h
              · exact .inr (Nat.le_trans HO.out.size h.1)
            · exact (HO.out.mono fun q _ hq => HH.out.hg q (by rcases hq with h | h | h <;> simp [h])).trans (hm.only.mono fun q _ hq => HH.out.hg q (by rcases hq with h | h | h <;> simp [h]))
        | succ g2 =>
          have i0 : (k : Int) < 21 := by omega
          obtain ⟨b5, o5, rfl, hb5, ck⟩ := hown.nrow.at_ (k := k) (by omega)
          have hnx := Lib.hid (put_next f W hlW k (by omega) mk)
          have hx := hfl.out k
          generalize (full W).getD k 0 = x at *
          obtain ⟨ex1, ex2⟩ := enc_code x hx
          have hf1 : f < 65536 := by have := HOK.out.ff; have := HOK.out.hl; have := HF.out; omega
          have HE : (∀ u, Calls Tryz.prog 79 #[.int .i64 (x : Int)] u fun e w' => e = .returned (.tuple #[.int .u32 ((UInt32.ofNat (Ecc.code x)).toNat : Int), .int .i64 0]) ∧ Below u.heap.size u w') := fun u => by
            have := ecc_Encode (x : Int) u
            rwa [ex1, ex2] at this
          have HW : (∀ (u : World), PAt u g G s { p with m := mk } → ∀ a : Int, a = ((f * 20 + posAt k : Nat) : Int) → Calls Tryz.prog 80 #[.pointer (some ⟨s.gm, 0, none⟩), .int .i64 a, .int .u32 ((UInt32.ofNat (Ecc.code x)).toNat : Int)] u fun e w' =>
              e = .returned (.int .i64 (mk.write (f * 20 + posAt k : Nat) (UInt32.ofNat (Ecc.code x))).2) ∧ PAt w' g G s { p with m := (mk.write (f * 20 + posAt k : Nat) (UInt32.ofNat (Ecc.code x))).1 } ∧ Only (MemR s.gm s.gw s.gv) u w') := by
            intro u h a ha
            subst ha
            have hKk := HOK.out.hK
            refine (cell_Write h.mem _ _ _ rfl hfine.out ⟨by omega, by omega⟩).mono ?_
            rintro e w' ⟨rfl, h2, h3⟩
            exact ⟨rfl, h.memd h3 h2, h3⟩
          have hfn := Lib.hid (show Cel.Fine (K + (k + 1 : Nat)) (mk.write (f * 20 + posAt k : Nat) (UInt32.ofNat (Ecc.code x))).1 by
            have := hfine.out.write (by have := HOK.out.hK; omega) (f * 20 + posAt k : Nat) (UInt32.ofNat (Ecc.code x))
            rwa [show (K + (k + 1 : Nat) : Int) = K + k + 1 by omega])
          generalize mk.write (f * 20 + posAt k : Nat) (UInt32.ofNat (Ecc.code x)) = r at *
          replace HW := Lib.hid HW
          obtain ⟨mr, z⟩ := r
          dsimp only at *
          have hm := Mem.one (R := fun q => q = g) hp.blk rfl
          have HPB := Lib.hid hp.blk
          have HP := Lib.hid hp
          simp only [pcs] at hm HPB
          have HN := Lib.hid hown
          have HO := Lib.hid ho
          clear hp hown ho ex1 ex2
          replace HE := Lib.hid HE
          by_cases hk0 : k = 0
          · subst hk0
            rw [Nat.add_zero] at ck
            go_wp2_with (first | go_skip | ((with_reducible show wpList _ _ _ _ _ (World.alloc _ _)); refine wpList_up hm ?_; clear hm; intro n w hn hn2 hk hm hd hd2 ho; (try rw [← hn]); replace hn := Nat.le_of_eq hn.symm) | ((first | ((with_reducible show wpList _ _ _ (Oper.mk _ (Op.box _ _) _ _ _ _ :: _) _ _); (refine bxA hm ?_; clear hm; intro n w hn hz hm ho; (try simp only [List.cons_append, List.nil_append] at hm))) | ((with_reducible show wpList _ _ _ (Oper.mk _ (Op.load _ _) _ _ _ _ :: _) _ _); first | (refine ldA hm ?_) | (refine laA hm ?_)) | ((with_reducible show wpList _ _ _ (Oper.mk _ (Op.store _ _ _) _ _ _ _ :: _) _ _); (refine stA hm ?_; clear hm; intro w hz hm ho)) | ((with_reducible show wpList _ _ _ (Oper.mk _ (Op.alloc _) _ _ _ _ :: _) _ _); (refine alA hm ?_; clear hm; intro n w hn hz hm ho; (try simp only [List.cons_append, List.nil_append] at hm)))); try simp only [Act.put, sxQ]))
            go_at_call 79
            refine (HE.out _).mono ?_
            rintro e w8 ⟨rfl, hb8⟩
            replace hm := hm.below hb8
            go_wp2_with (first | go_skip | ((with_reducible show wpList _ _ _ _ _ (World.alloc _ _)); refine wpList_up hm ?_; clear hm; intro n w hn hn2 hk hm hd hd2 ho; (try rw [← hn]); replace hn := Nat.le_of_eq hn.symm) | ((first | ((with_reducible show wpList _ _ _ (Oper.mk _ (Op.box _ _) _ _ _ _ :: _) _ _); (refine bxA hm ?_; clear hm; intro n w hn hz hm ho; (try simp only [List.cons_append, List.nil_append] at hm))) | ((with_reducible show wpList _ _ _ (Oper.mk _ (Op.load _ _) _ _ _ _ :: _) _ _); first | (refine ldA hm ?_) | (refine laA hm ?_)) | ((with_reducible show wpList _ _ _ (Oper.mk _ (Op.store _ _ _) _ _ _ _ :: _) _ _); (refine stA hm ?_; clear hm; intro w hz hm ho)) | ((with_reducible show wpList _ _ _ (Oper.mk _ (Op.alloc _) _ _ _ _ :: _) _ _); (refine alA hm ?_; clear hm; intro n w hn hz hm ho; (try simp only [List.cons_append, List.nil_append] at hm)))); try simp only [Act.put, sxQ]))
            go_at_call 80
            refine (HW.out _ (HP.out.below hb8) _ (by first | rfl | (simp [posAt]; omega))).mono ?_
            rintro e w9 ⟨rfl, hp9, ho9⟩
            by_cases hz : z = 0
            · subst hz
              go_wp2_with fail
              go_roundg g2
              case measure => omega
              case rel =>
                refine ⟨0 + 1, mr, by omega, by first | rfl | go_num, ?_, hfn.out, hp9, ?_, (HO.out.trans (Only.of_below hb8)).trans ho9⟩
                · refine Lib.hid (hput.out.trans (hnx.out.trans ?_))
                  rw [if_neg (by decide)]
                · have hn8 := HN.out.below hb8
                  exact hn8.only' ho9 (fun q e hq => by have := (hn8.lt q e).1; have h3 := HH.out.hg q (by rcases hq with h | h | h <;> simp [h]); have := HH.out.lt q h3; omega)
            · have hzd : (z != 0) = true := by simpa using hz
              have HZ := Lib.hid hz
              clear hz
              go_wp2_with fail
              go_ret
              have hpe := hput.out.trans hnx.out
              rw [if_pos HZ.out] at hpe
              rw [hP.out, hpe, if_pos HZ.out]
              exact ⟨rfl, G, s, hp9, fun q h => .inl h, ((HO.out.trans (Only.of_below hb8)).trans ho9).mono fun q _ hq => HH.out.hg q (by rcases hq with h | h | h <;> simp [h]), rfl⟩
          · obtain ⟨j, rfl⟩ : ∃ j, k = j + 1 := ⟨k - 1, by omega⟩
            clear hk0
            go_wp2_with (first | go_skip | ((with_reducible show wpList _ _ _ _ _ (World.alloc _ _)); refine wpList_up hm ?_; clear hm; intro n w hn hn2 hk hm hd hd2 ho; (try rw [← hn]); replace hn := Nat.le_of_eq hn.symm) | ((first | ((with_reducible show wpList _ _ _ (Oper.mk _ (Op.box _ _) _ _ _ _ :: _) _ _); (refine bxA hm ?_; clear hm; intro n w hn hz hm ho; (try simp only [List.cons_append, List.nil_append] at hm))) | ((with_reducible show wpList _ _ _ (Oper.mk _ (Op.load _ _) _ _ _ _ :: _) _ _); first | (refine ldA hm ?_) | (refine laA hm ?_)) | ((with_reducible show wpList _ _ _ (Oper.mk _ (Op.store _ _ _) _ _ _ _ :: _) _ _); (refine stA hm ?_; clear hm; intro w hz hm ho)) | ((with_reducible show wpList _ _ _ (Oper.mk _ (Op.alloc _) _ _ _ _ :: _) _ _); (refine alA hm ?_; clear hm; intro n w hn hz hm ho; (try simp only [List.cons_append, List.nil_append] at hm)))); try simp only [Act.put, sxQ]))
            go_at_call 79
            refine (HE.out _).mono ?_
            rintro e w8 ⟨rfl, hb8⟩
            replace hm := hm.below hb8
            go_wp2_with (first | go_skip | ((with_reducible show wpList _ _ _ _ _ (World.alloc _ _)); refine wpList_up hm ?_; clear hm; intro n w hn hn2 hk hm hd hd2 ho; (try rw [← hn]); replace hn := Nat.le_of_eq hn.symm) | ((first | ((with_reducible show wpList _ _ _ (Oper.mk _ (Op.box _ _) _ _ _ _ :: _) _ _); (refine bxA hm ?_; clear hm; intro n w hn hz hm ho; (try simp only [List.cons_append, List.nil_append] at hm))) | ((with_reducible show wpList _ _ _ (Oper.mk _ (Op.load _ _) _ _ _ _ :: _) _ _); first | (refine ldA hm ?_) | (refine laA hm ?_)) | ((with_reducible show wpList _ _ _ (Oper.mk _ (Op.store _ _ _) _ _ _ _ :: _) _ _); (refine stA hm ?_; clear hm; intro w hz hm ho)) | ((with_reducible show wpList _ _ _ (Oper.mk _ (Op.alloc _) _ _ _ _ :: _) _ _); (refine alA hm ?_; clear hm; intro n w hn hz hm ho; (try simp only [List.cons_append, List.nil_append] at hm)))); try simp only [Act.put, sxQ]))
            go_at_call 80
            refine (HW.out _ (HP.out.below hb8) _ (by first | rfl | (simp [posAt]; omega))).mono ?_
            rintro e w9 ⟨rfl, hp9, ho9⟩
            by_cases hz : z = 0
            · subst hz
              go_wp2_with fail
              go_roundg g2
              case measure => omega
              case rel =>
                refine ⟨(j + 1) + 1, mr, by omega, by first | rfl | go_num, ?_, hfn.out, hp9, ?_, (HO.out.trans (Only.of_below hb8)).trans ho9⟩
                · refine Lib.hid (hput.out.trans (hnx.out.trans ?_))
                  rw [if_neg (by decide)]
                · have hn8 := HN.out.below hb8
                  exact hn8.only' ho9 (fun q e hq => by have := (hn8.lt q e).1; have h3 := HH.out.hg q (by rcases hq with h | h | h <;> simp [h]); have := HH.out.lt q h3; omega)
            · have hzd : (z != 0) = true := by simpa using hz
              have HZ := Lib.hid hz
              clear hz
              go_wp2_with fail
              go_ret
              have hpe := hput.out.trans hnx.out
              rw [if_pos HZ.out] at hpe
              rw [hP.out, hpe, if_pos HZ.out]
              exact ⟨rfl, G, s, hp9, fun q h => .inl h, ((HO.out.trans (Only.of_below hb8)).trans ho9).mono fun q _ hq => HH.out.hg q (by rcases hq with h | h | h <;> simp [h]), rfl⟩
    | succ g2 =>
      have C0 := Lib.hid (fun (u : World) (h : Below w0.heap.size w0 u) => (HB.out.below h).cellAt rfl (k := 3 * k) (by omega))
      have C1 := Lib.hid (fun (u : World) (h : Below w0.heap.size w0 u) => (HB.out.below h).cellAt rfl (k := 3 * k + 1) (by omega))
      have C2 := Lib.hid (fun (u : World) (h : Below w0.heap.size w0 u) => (HB.out.below h).cellAt rfl (k := 3 * k + 2) (by omega))
      have HT := Lib.hid (words_take b k (by omega))
      have l0 := (b.getD (3 * k) 0).toNat_lt
      have l1 := (b.getD (3 * k + 1) 0).toNat_lt
      have l2 := (b.getD (3 * k + 2) 0).toNat_lt
      have HO := Lib.hid (or3 _ _ _ l0 l1 l2)
      have HWA := Lib.hid (show wordAt b k = (b.getD (3 * k) 0).toNat * 65536 + (b.getD (3 * k + 1) 0).toNat * 256 + (b.getD (3 * k + 2) 0).toNat from rfl)
      generalize (b.getD (3 * k) 0).toNat = x0 at *
      generalize (b.getD (3 * k + 1) 0).toNat = x1 at *
      generalize (b.getD (3 * k + 2) 0).toNat = x2 at *
      have i0 : 3 * (k : Int) < 48 := by omega
      have i1 : 3 * (k : Int) + 1 < 48 := by omega
      have i2 : 3 * (k : Int) + 2 < 48 := by omega
      have q0 : 0 ≤ 3 * (k : Int) := by omega
      have q1 : 0 ≤ 3 * (k : Int) + 1 := by omega
      have q2 : 0 ≤ 3 * (k : Int) + 2 := by omega
      have t0 : (3 * (k : Int)).toNat = 3 * k := by omega
      have t1 : (3 * (k : Int) + 1).toNat = 3 * k + 1 := by omega
      have t2 : (3 * (k : Int) + 2).toNat = 3 * k + 2 := by omega
      have r1 : IntKind.i64.wrap (3 * (k : Int) + 1) = 3 * (k : Int) + 1 := IntWalk.i64_in _ (by omega)
      have r2 : IntKind.i64.wrap (3 * (k : Int) + 2) = 3 * (k : Int) + 2 := IntWalk.i64_in _ (by omega)
      have s0 : IntKind.i64.wrap (x0 : Int) = (x0 : Int) := IntWalk.i64_in _ (by omega)
      have s1 : IntKind.i64.wrap (x1 : Int) = (x1 : Int) := IntWalk.i64_in _ (by omega)
      have s2 : IntKind.i64.wrap (x2 : Int) = (x2 : Int) := IntWalk.i64_in _ (by omega)
      have r3 : IntKind.i64.wrap ((x0 : Int) * 65536) = (x0 : Int) * 65536 := IntWalk.i64_in _ (by omega)
      have r4 : IntKind.i64.wrap ((x1 : Int) * 256) = (x1 : Int) * 256 := IntWalk.i64_in _ (by omega)
      go_wp2_with (first | go_skip | ((with_reducible show wpList _ _ _ _ _ (World.alloc _ _)); refine wpList_up hm ?_; clear hm; intro n w hn hn2 hk hm hd hd2 ho; (try rw [← hn]); replace hn := Nat.le_of_eq hn.symm) | ((first | ((with_reducible show wpList _ _ _ (Oper.mk _ (Op.box _ _) _ _ _ _ :: _) _ _); (refine bxA hm ?_; clear hm; intro n w hn hz hm ho; (try simp only [List.cons_append, List.nil_append] at hm))) | ((with_reducible show wpList _ _ _ (Oper.mk _ (Op.load _ _) _ _ _ _ :: _) _ _); first | (refine ldA hm ?_) | (refine laA hm ?_)) | ((with_reducible show wpList _ _ _ (Oper.mk _ (Op.store _ _ _) _ _ _ _ :: _) _ _); (refine stA hm ?_; clear hm; intro w hz hm ho)) | ((with_reducible show wpList _ _ _ (Oper.mk _ (Op.alloc _) _ _ _ _ :: _) _ _); (refine alA hm ?_; clear hm; intro n w hn hz hm ho; (try simp only [List.cons_append, List.nil_append] at hm)))); try simp only [Act.put, sxQ]))
      have hmK := hm.drew
      replace hm := hm.noO
      refine wp_region_noPanic ?_
      refine wp_region_held_drew (S := MemS _ _ _ _) (by kernel_rfl) (MemS.of hm.drew) (fun hHeld => ?_)
      refine wpAnyH_fresh (by repeat (first | apply Fresh.a | apply Fresh.b)) ?_
      clear hm
      have hm := hmK
      iterate 22 (first | (refine takeN 0 hHeld ?_) | (refine takeY 0 ?_ hHeld ?_ ?_; rotate_left 1; (first | (intro w9 h9; (with_reducible show (execOp _ (Oper.mk _ (Op.load _ _) _ _ _ _)).run _ _ = _); first | exact h9.ldA | (exact exec_lc _ _ rfl _ rfl (by decide +kernel) _ (C0.out _ (MemS.mem h9).low) _ (by first | done | exact rfl)) | (exact exec_lc _ _ rfl _ rfl (by decide +kernel) _ (C1.out _ (MemS.mem h9).low) _ (by first | done | exact rfl)) | (exact exec_lc _ _ rfl _ rfl (by decide +kernel) _ (C2.out _ (MemS.mem h9).low) _ (by first | done | exact rfl)) | exact h9.laA) | focus (intro w9 hSw; go_simp; (try (with_reducible rfl)); done))); try simp only [Act.put, sxQ])
      refine wpAnyH_ready (rs := [22]) (by kernel_rfl) (by simp) ?_
      refine AllReadyH.cons2 (by simp only [sxN]; first | done | exact rfl) (fun K hK => ?_)
      rw [if_pos (by rfl)]
      go_simp
      refine K_up hm ?_
      intro n5 w5 hn hn5s hn5 hm1 hn5d hn5d2 hb1
      first | rw [← hn] | rw [← (show n5 = wr.heap.size from hn)]
      rw [HO.out, ← HWA.out] at hn5
      clear hn hm
      have hm := hm1
      clear hm1
      refine hK.out _ _ (MemS.of hm.noO) (fun hHeld => ?_)
      clear hK K
      try simp only [Act.put, sxQ]
      refine wpAnyH_ready (rs := [23]) (by kernel_rfl) (by simp) ?_
      refine AllReadyH.cons2 (by simp only [sxN]; first | done | exact rfl) (fun K hK => ?_)
      refine step_ap (by rfl) (.tmp 36) (.tmp 58) 64 rfl 3 ti _ 1 8 Tryz.underlying64 hi0 hz0 hz1 hz2 rfl (by omega) A2 k c2 _ rfl hm 0 rfl _ (some ⟨n5, 0, none⟩) 1 1 (ncells [wordAt b k]) rfl hn5.row (by simp [ncells]) (ncells_one _) (by unfold maxLen; omega) (by omega) ?_
      clear hm; intro A3 c3 w hm ho9 hat
      simp only [List.set_cons_zero] at hm
      refine hK.out _ _ (MemS.of hm.noO) (fun hHeld => ?_)
      clear hK K
      try simp only [Act.put, sxQ]
      iterate 1 (first | (refine takeN 24 hHeld ?_) | (refine takeY 24 ?_ hHeld ?_ ?_; rotate_left 1; (first | (intro w9 h9; (with_reducible show (execOp _ (Oper.mk _ (Op.load _ _) _ _ _ _)).run _ _ = _); first | exact h9.ldA) | focus (intro w9 hSw; go_simp; (try (with_reducible rfl)); done))); try simp only [Act.put, sxQ])
      refine wpAnyH_done (by kernel_rfl) ?_ _
      refine NoPanic.normal ?_
      go_wp2_with (first | go_skip | ((with_reducible show wpList _ _ _ _ _ (World.alloc _ _)); refine wpList_up hm ?_; clear hm; intro n w hn hn2 hk hm hd hd2 ho; (try rw [← hn]); replace hn := Nat.le_of_eq hn.symm) | ((first | ((with_reducible show wpList _ _ _ (Oper.mk _ (Op.box _ _) _ _ _ _ :: _) _ _); (refine bxA hm ?_; clear hm; intro n w hn hz hm ho; (try simp only [List.cons_append, List.nil_append] at hm))) | ((with_reducible show wpList _ _ _ (Oper.mk _ (Op.load _ _) _ _ _ _ :: _) _ _); first | (refine ldA hm ?_) | (refine laA hm ?_)) | ((with_reducible show wpList _ _ _ (Oper.mk _ (Op.store _ _ _) _ _ _ _ :: _) _ _); (refine stA hm ?_; clear hm; intro w hz hm ho)) | ((with_reducible show wpList _ _ _ (Oper.mk _ (Op.alloc _) _ _ _ _ :: _) _ _); (refine alA hm ?_; clear hm; intro n w hn hz hm ho; (try simp only [List.cons_append, List.nil_append] at hm)))); try simp only [Act.put, sxQ]))
      go_roundg g2
      case measure => omega
      case rel =>
        exact ⟨k + 1, A3, c3, by omega, by go_num, rfl, by rw [HT.out, ncells_append]; exact hm⟩
end Go.Proofs.YtmhjddmamknglaaGreat
end

section
namespace Go.Proofs.YtmhjddmamknglaaGreat
set_option maxRecDepth 100000
set_option linter.unusedSimpArgs false
set_option linter.unusedVariables false
open Go.RowKit
set_option maxHeartbeats 8000000

/-- What move needs. -/
structure MvOk (p : Pg.P) (K : Int) : Prop where
  turn : p.turn < p.holds.length
  frames : p.frames = p.holds.length
  hl : p.holds.length < 65536
  fixed : p.fixed + 20 < 4611686018427387904
  pl : ∀ i, p.holds.getD p.turn none = some i → PlOk p i K ∧ ∀ f, p.at_.getD i none = some f → f < 100000000
theorem content_length {p : Pg.P} {i : Nat} (h : (p.content i).2.1 = 0) : (p.content i).1.length = 48 := by
  unfold Pg.P.content at h ⊢
  split
  · rfl
  · rename_i f e
    rw [e] at h
    simp only at h ⊢
    split
    · rename_i h1
      rw [flat_length, List.length_take, read_length h1]; rfl
    · rename_i h1
      rw [if_neg h1] at h
      unfold Pg.P.failure at h
      dsimp only at h
      split at h <;> cases h
theorem page_move {w0 : World} {g : Nat} {G : Nat → Prop} {s : PgS} {p : Pg.P} (H : PAt w0 g G s p) {K : Int} (hok : MvOk p K) :
    Calls Tryz.prog 67 #[.pointer (some ⟨g, 0, none⟩)] w0 (PlRes w0 g G s p.move) := by
  have hm := H.mem3
  have HK := Lib.hid H.blk
  have HH := Lib.hid H
  have HOK := Lib.hid hok
  have ht := hok.turn
  have hfr := hok.frames
  have hl := hok.hl
  have HHo := Lib.hid H.holds
  clear H hok
  simp only [pcs] at hm HK
  have t1 : (p.turn : Int) < (p.holds.length : Int) := by omega
  have t2 : (0 : Int) < (p.frames : Int) := by omega
  have hfr2 := Lib.hid hfr
  have e1 := Lib.hid (show p.move = match p.holds.getD p.turn none with
    | none => (p.turned, 0)
    | some i => if (p.content i).2.1 ≠ 0 then (p.turned.more (p.content i).2.2, (p.content i).2.1) else (p.turned.more (p.content i).2.2).place i (p.content i).1 from rfl)
  clear hfr
  cases hh : p.holds.getD p.turn none with
  | none =>
    rw [hh] at e1
    have CH := Lib.hid (fun (u : World) (h : Blk u s.Ho 3 (ecells p.holds ++ s.rh).toArray) => show u.cell? ⟨s.Ho, p.turn, none⟩ = some (.int .i64 (-1)) by have := cells_at _ _ p.turn ht h; rwa [hh] at this)
    clear hh
    go_enter Tryz.func67, Tryz.ntmps67
    go_wp2_with (first | go_skip | ((with_reducible show wpList _ _ _ _ _ (World.alloc _ _)); refine wpList_up hm ?_; clear hm; intro n w hn hn2 hk hm hd hd2 ho; (try rw [← hn]); replace hn := Nat.le_of_eq hn.symm) | ((first | ((with_reducible show wpList _ _ _ (Oper.mk _ (Op.box _ _) _ _ _ _ :: _) _ _); (refine bxA hm ?_; clear hm; intro n w hn hz hm ho; (try simp only [List.cons_append, List.nil_append] at hm))) | ((with_reducible show wpList _ _ _ (Oper.mk _ (Op.load _ _) _ _ _ _ :: _) _ _); first | (refine ldA hm ?_) | (refine laA hm ?_)) | ((with_reducible show wpList _ _ _ (Oper.mk _ (Op.store _ _ _) _ _ _ _ :: _) _ _); (refine stA hm ?_; clear hm; intro w hz hm ho)) | ((with_reducible show wpList _ _ _ (Oper.mk _ (Op.alloc _) _ _ _ _ :: _) _ _); (refine alA hm ?_; clear hm; intro n w hn hz hm ho; (try simp only [List.cons_append, List.nil_append] at hm)))); try simp only [Act.put, sxQ]))
    refine wp_region_quiet_tail 13 (by kernel_rfl) (by kernel_rfl) ?_
    simp only [List.take_succ_cons, List.take_zero]
    repeat (first | go_big_quiet_skip | ((with_reducible show wpQuiet _ _ _ _ (Oper.mk _ (Op.load _ _) _ _ _ _ :: _) _); first | (refine wpQuiet_ldS (by rfl) _ _ rfl _ _ rfl hm _ _ (by repeat (first | apply In.a | apply In.b)) (by decide +kernel) _ (by simp only [sxN]; first | done | exact rfl) ?_; (try simp only [Act.put, sxQ]))) | go_big_quiet_step (fail))
    refine wpQuiet_nil ?_
    rintro _ ⟨nq, rfl⟩
    simp only [List.drop_succ_cons, List.drop_zero]
    replace hm := hm.drewN nq
    go_wp2_with (first | go_skip | ((with_reducible show wpList _ _ _ _ _ (World.alloc _ _)); refine wpList_up hm ?_; clear hm; intro n w hn hn2 hk hm hd hd2 ho; (try rw [← hn]); replace hn := Nat.le_of_eq hn.symm) | ((first | ((with_reducible show wpList _ _ _ (Oper.mk _ (Op.box _ _) _ _ _ _ :: _) _ _); (refine bxA hm ?_; clear hm; intro n w hn hz hm ho; (try simp only [List.cons_append, List.nil_append] at hm))) | ((with_reducible show wpList _ _ _ (Oper.mk _ (Op.load _ _) _ _ _ _ :: _) _ _); first | (refine ldA hm ?_) | (refine laA hm ?_)) | ((with_reducible show wpList _ _ _ (Oper.mk _ (Op.store _ _ _) _ _ _ _ :: _) _ _); (refine stA hm ?_; clear hm; intro w hz hm ho)) | ((with_reducible show wpList _ _ _ (Oper.mk _ (Op.alloc _) _ _ _ _ :: _) _ _); (refine alA hm ?_; clear hm; intro n w hn hz hm ho; (try simp only [List.cons_append, List.nil_append] at hm)))); try simp only [Act.put, sxQ]) | ((with_reducible show wpList _ _ _ (Oper.mk _ (Op.load _ _) _ _ _ _ :: _) _ _); refine wpList_lc (by rfl) _ _ rfl _ rfl (by decide +kernel) _ (CH.out _ (hm.at_ 2 rfl)) ?_; (try simp only [Act.put, sxQ])))
    go_ret
    rw [e1.out]
    have hbx := hm.at_ 0 rfl
    have em : ((((p.turn + 1) % p.frames : Nat)) : Int) = ((p.turn : Int) + 1) % (p.frames : Int) := by simp
    rw [← em] at hbx
    exact ⟨rfl, G, s, (HH.out.drewN nq).boxed ho p.version _ p.fixed hbx, fun q h => .inl h, ((Only.refl G w0).drewN nq).trans (ho.mono fun q _ e => e ▸ HH.out.hg g (by simp)), rfl⟩
  | some i =>
    rw [hh] at e1
    have CH := Lib.hid (fun (u : World) (h : Blk u s.Ho 3 (ecells p.holds ++ s.rh).toArray) => show u.cell? ⟨s.Ho, p.turn, none⟩ = some (.int .i64 (i : Int)) by have := cells_at _ _ p.turn ht h; rwa [hh] at this)
    have hpl := HOK.out.pl i hh
    have hin : ((i : Int) == -1) = false := by rw [beq_eq_false_iff_ne]; omega
    have HC := Lib.hid (fun (u : World) (h : PAt u g G s p.turned) => show Calls Tryz.prog 64 #[.pointer (some ⟨g, 0, none⟩), .int .i64 (i : Int)] u (CtRes u g G s p.turned (p.content i).1 (p.content i).2.1 (p.content i).2.2) from page_content h i hpl.1.hi hpl.2 HOK.out.fixed)
    have hpk : PlOk (p.turned.more (p.content i).2.2) i K := ⟨hpl.1.hi, hpl.1.hi24, hpl.1.f2, hpl.1.fl, hpl.1.ff, hpl.1.hl, hpl.1.ho, hpl.1.ver, hpl.1.fine, hpl.1.hK⟩
    have hcl := Lib.hid (@content_length p i)
    have HPK := Lib.hid hpk
    clear hh hpl hpk
    go_enter Tryz.func67, Tryz.ntmps67
    go_wp2_with (first | go_skip | ((with_reducible show wpList _ _ _ _ _ (World.alloc _ _)); refine wpList_up hm ?_; clear hm; intro n w hn hn2 hk hm hd hd2 ho; (try rw [← hn]); replace hn := Nat.le_of_eq hn.symm) | ((first | ((with_reducible show wpList _ _ _ (Oper.mk _ (Op.box _ _) _ _ _ _ :: _) _ _); (refine bxA hm ?_; clear hm; intro n w hn hz hm ho; (try simp only [List.cons_append, List.nil_append] at hm))) | ((with_reducible show wpList _ _ _ (Oper.mk _ (Op.load _ _) _ _ _ _ :: _) _ _); first | (refine ldA hm ?_) | (refine laA hm ?_)) | ((with_reducible show wpList _ _ _ (Oper.mk _ (Op.store _ _ _) _ _ _ _ :: _) _ _); (refine stA hm ?_; clear hm; intro w hz hm ho)) | ((with_reducible show wpList _ _ _ (Oper.mk _ (Op.alloc _) _ _ _ _ :: _) _ _); (refine alA hm ?_; clear hm; intro n w hn hz hm ho; (try simp only [List.cons_append, List.nil_append] at hm)))); try simp only [Act.put, sxQ]))
    refine wp_region_quiet_tail 13 (by kernel_rfl) (by kernel_rfl) ?_
    simp only [List.take_succ_cons, List.take_zero]
    repeat (first | go_big_quiet_skip | ((with_reducible show wpQuiet _ _ _ _ (Oper.mk _ (Op.load _ _) _ _ _ _ :: _) _); first | (refine wpQuiet_ldS (by rfl) _ _ rfl _ _ rfl hm _ _ (by repeat (first | apply In.a | apply In.b)) (by decide +kernel) _ (by simp only [sxN]; first | done | exact rfl) ?_; (try simp only [Act.put, sxQ]))) | go_big_quiet_step (fail))
    refine wpQuiet_nil ?_
    rintro _ ⟨nq, rfl⟩
    simp only [List.drop_succ_cons, List.drop_zero]
    replace hm := hm.drewN nq
    go_wp2_with (first | go_skip | ((with_reducible show wpList _ _ _ _ _ (World.alloc _ _)); refine wpList_up hm ?_; clear hm; intro n w hn hn2 hk hm hd hd2 ho; (try rw [← hn]); replace hn := Nat.le_of_eq hn.symm) | ((first | ((with_reducible show wpList _ _ _ (Oper.mk _ (Op.box _ _) _ _ _ _ :: _) _ _); (refine bxA hm ?_; clear hm; intro n w hn hz hm ho; (try simp only [List.cons_append, List.nil_append] at hm))) | ((with_reducible show wpList _ _ _ (Oper.mk _ (Op.load _ _) _ _ _ _ :: _) _ _); first | (refine ldA hm ?_) | (refine laA hm ?_)) | ((with_reducible show wpList _ _ _ (Oper.mk _ (Op.store _ _ _) _ _ _ _ :: _) _ _); (refine stA hm ?_; clear hm; intro w hz hm ho)) | ((with_reducible show wpList _ _ _ (Oper.mk _ (Op.alloc _) _ _ _ _ :: _) _ _); (refine alA hm ?_; clear hm; intro n w hn hz hm ho; (try simp only [List.cons_append, List.nil_append] at hm)))); try simp only [Act.put, sxQ]) | ((with_reducible show wpList _ _ _ (Oper.mk _ (Op.load _ _) _ _ _ _ :: _) _ _); refine wpList_lc (by rfl) _ _ rfl _ rfl (by decide +kernel) _ (CH.out _ (hm.at_ 2 rfl)) ?_; (try simp only [Act.put, sxQ])))
    have hbx := hm.at_ 0 rfl
    have em : ((((p.turn + 1) % p.frames : Nat)) : Int) = ((p.turn : Int) + 1) % (p.frames : Int) := by simp
    rw [← em] at hbx
    have hpt : PAt w g G s p.turned := (HH.out.drewN nq).boxed ho p.version _ p.fixed hbx
    have hot : Only G w0 w := ((Only.refl G w0).drewN nq).trans (ho.mono fun q _ e => e ▸ HH.out.hg g (by simp))
    replace hpt := Lib.hid hpt
    replace hot := Lib.hid hot
    clear hbx em ho hm
    go_at_call 64
    refine (HC.out _ hpt.out).mono ?_
    rintro e w3 ⟨A, c, rfl, hown, hp3, ho3⟩
    by_cases hz : (p.content i).2.1 = 0
    · have h48 := hcl.out hz
      rw [hz, if_neg (by decide)] at e1
      rw [hz, h48]
      rw [h48] at hown
      clear hz
      go_wp2_with fail
      go_at_call 68
      refine (page_place hp3 i HPK.out A c (p.content i).1 (hown.byt (Nat.le_refl _))).mono ?_
      rintro e w4 ⟨rfl, G', s', hp4, hG, ho4, hs4⟩
      go_wp2_with fail
      go_ret
      rw [e1.out]
      exact ⟨rfl, G', s', hp4, fun q h => (hG q h).imp id (fun h => Nat.le_trans (Nat.le_trans hot.out.size ho3.size) h), (hot.out.trans (ho3.mono fun q _ e => e ▸ HH.out.hg g (by simp))).trans ho4, hs4⟩
    · have hzd : ((p.content i).2.1 != 0) = true := by simpa using hz
      rw [if_pos hz] at e1
      clear hz
      go_wp2_with fail
      go_ret
      rw [e1.out]
      exact ⟨rfl, G, s, hp3, fun q h => .inl h, hot.out.trans (ho3.mono fun q _ e => e ▸ HH.out.hg g (by simp)), rfl⟩
theorem page_Write {w0 : World} {g : Nat} {G : Nat → Prop} {s : PgS} {p : Pg.P} (H : PAt w0 g G s p) (i : Int) {K K2 : Int} (B0 : Option Addr) (n cb : Nat) (b : List UInt8) (hb : Byt w0 w0.heap.size B0 n cb b) (hl : p.at_.length = p.count)
    (hb0 : ∀ q, (∃ a, B0 = some a ∧ q = a.block) → 0 < n → ¬ G q)
    (hok : p.access i = 0 → MvOk p K) (hpl : p.access i = 0 → n = 48 → p.move.2 = 0 → PlOk p.move.1 i.toNat K2) :
    Calls Tryz.prog 51 #[.pointer (some ⟨g, 0, none⟩), .int .i64 i, .slice B0 n cb] w0 (PlRes w0 g G s (p.write i b)) := by
  have HM := Lib.hid (fun (u : World) (h : PAt u g G s p) => page_made h)
  have HA := Lib.hid (fun (u : World) (h : PAt u g G s p) => page_access h i)
  have HH := Lib.hid H
  have hbl := hb.1
  have e1 : p.write i b = if b.length ≠ 48 then (p, 1) else if p.access i ≠ 0 then (p, p.access i) else if p.move.2 ≠ 0 then p.move else p.move.1.place i.toNat b := rfl
  have HB := Lib.hid hb
  by_cases hn : n = 48
  · subst hn
    rw [if_neg (by rw [hbl]; decide)] at e1
    by_cases ha : p.access i = 0
    · rw [if_neg (by rw [ha]; decide)] at e1
      have hi : 0 ≤ i := by
        unfold Pg.P.access at ha
        split at ha
        · cases ha
        · split at ha
          · cases ha
          · rename_i h; omega
      obtain ⟨k, rfl⟩ := Int.eq_ofNat_of_zero_le hi
      rw [Int.toNat_natCast] at e1 hpl
      have HV := Lib.hid (fun (u : World) (h : PAt u g G s p) => page_move h (hok ha))
      have HPL := Lib.hid (hpl ha rfl)
      rw [ha] at HA
      clear hok hpl ha H hb hi hl
      have E1 := Lib.hid e1
      clear e1
      go_enter Tryz.func51, Tryz.ntmps51
      go_wp2_with fail
      go_at_call 25
      refine (HM.out _ HH.out).mono ?_
      rintro e w1 ⟨rfl, hb1⟩
      go_wp2_with fail
      go_at_call 63
      refine (HA.out _ (HH.out.below hb1)).mono ?_
      rintro e w2 ⟨rfl, hb2⟩
      go_wp2_with fail
      go_at_call 67
      refine (HV.out _ ((HH.out.below hb1).below hb2)).mono ?_
      rintro e w3 ⟨rfl, G3, s3, hp3, hG3, ho3, hs3⟩
      have hb12 := hb1.trans (hb2.mono hb1.size)
      by_cases hz : p.move.2 = 0
      · have hpk := HPL.out hz
        have e2 := E1.out
        rw [if_neg (by rw [hz]; decide)] at e2
        rw [hz]
        clear hz
        have hby : Byt w3 w3.heap.size B0 48 cb b := ((HB.out.below hb12).more hb12.size).only ho3 (fun a e h => hb0 _ ⟨a, e, rfl⟩ (by omega))
        go_wp2_with fail
        go_at_call 68
        refine (page_place hp3 k hpk B0 cb b hby).mono ?_
        rintro e w4 ⟨rfl, G', s', hp4, hG, ho4, hs4⟩
        go_wp2_with fail
        go_ret
        rw [e2]
        refine ⟨rfl, G', s', hp4, fun q h => ?_, ?_, hs4.trans hs3⟩
        · rcases hG q h with h1 | h1
          · exact (hG3 q h1).imp id (fun h => Nat.le_trans hb12.size h)
          · exact .inr (Nat.le_trans (Nat.le_trans hb12.size ho3.size) h1)
        · exact ((Only.of_below hb12).trans ho3).more ho4 (fun q hq h => (hG3 q h).imp id (fun h => Nat.le_trans hb12.size h))
      · have hzd : (p.move.2 != 0) = true := by simpa using hz
        have e2 := E1.out
        rw [if_pos hz] at e2
        clear hz
        go_wp2_with fail
        go_ret
        rw [e2]
        exact ⟨rfl, G3, s3, hp3, fun q h => (hG3 q h).imp id (fun h => Nat.le_trans hb12.size h), (Only.of_below hb12).trans ho3, hs3⟩
    · rw [if_pos ha] at e1
      rw [e1]
      have hz : (p.access i != 0) = true := by simpa using ha
      generalize p.access i = z at *
      clear e1 ha hok hpl H hb hl
      go_enter Tryz.func51, Tryz.ntmps51
      go_wp2_with fail
      go_at_call 25
      refine (HM.out _ HH.out).mono ?_
      rintro e w1 ⟨rfl, hb1⟩
      go_wp2_with fail
      go_at_call 63
      refine (HA.out _ (HH.out.below hb1)).mono ?_
      rintro e w2 ⟨rfl, hb2⟩
      go_wp2_with fail
      go_ret
      have hb12 := hb1.trans (hb2.mono hb1.size)
      exact ⟨rfl, G, s, HH.out.below hb12, fun q h => .inl h, Only.of_below hb12, rfl⟩
  · rw [if_pos (by rw [hbl]; exact hn)] at e1
    rw [e1]
    have hnd : ((n : Int) != 48) = true := by rw [bne_iff_ne]; omega
    clear e1 hok hpl H hb hl hn
    go_enter Tryz.func51, Tryz.ntmps51
    go_wp2_with fail
    go_at_call 25
    refine (HM.out _ HH.out).mono ?_
    rintro e w1 ⟨rfl, hb1⟩
    go_wp2_with fail
    go_ret
    exact ⟨rfl, G, s, HH.out.below hb1, fun q h => .inl h, Only.of_below hb1, rfl⟩
end Go.Proofs.YtmhjddmamknglaaGreat
end

section
namespace Go.Proofs.YtmhjddmamknglaaGreat
set_option maxRecDepth 100000
set_option linter.unusedSimpArgs false
set_option linter.unusedVariables false
open Go.RowKit

/-- The fence that lets all in; in the rounds of a loop, or in none. -/
abbrev Wd (ro : Option Nat) : Fence := { Fence.wide with round := ro }
def notDefer (o : Oper) : Bool := match o.op with
  | .defer _ => false
  | _ => true
section
variable {P : Program} {ops : Array Oper} {ro : Option Nat} {n : Nat} {Q Q' : Exit → Act → World → Prop} {a : Act} {w : World} {o : Oper}
theorem callsIn_wd {f : FuncId} {args : Array Value} {R : Ending → World → Prop} (h : Calls P f args w R) : CallsIn (Wd ro) n P f args w R := (callsIn_wide (n := n)).2 h
theorem rowsIn_wd {row : String} {args : Array Value} {R : Value → World → Prop} (h : Rows P row args w R) : RowsIn (Wd ro) n P row args w R :=
  fun c cs _ => let ⟨v, w', r, s⟩ := h c cs; ⟨v, w', r, (show StepsIn (Machine.fenced P Fence.wide) P _ _ from stepsIn_wide.2 s)⟩
theorem oper_in {next next' : Act → World → Prop} (hd : notDefer o = true) (hn : ∀ a w, next a w → next' a w) (hq : ∀ e a w, e ≠ .normal → Q e a w → Q' e a w) (h : o.wp P a w next Q) : o.wpIn (Wd ro) n P a w next' Q' := by
  refine ⟨fun _ _ => trivial, ?_⟩
  rw [Oper.semAt_eq _ _ _ (fun c hc => by unfold notDefer at hd; rw [hc] at hd; cases hd)]
  unfold Oper.wp at h
  revert h
  generalize (execOp a.eval o).run P w = r
  intro h
  cases r with
  | ok v w' =>
    cases v with
    | value v => exact hn _ _ h
    | skip => exact hn _ _ h
    | defer d => exact hn _ _ h
    | enter f args =>
      refine ⟨(fun h => by cases h), callsIn_wd (Calls.mono h fun e w2 h2 => ?_)⟩
      cases e with
      | returned v => exact hn _ _ h2
      | panicked c => exact hq _ _ _ (by intro e; cases e) h2
      | outgrown =>
        obtain ⟨a2, w3, h3⟩ := h2
        exact ⟨a2, w3, hq _ _ _ (by intro e; cases e) h3⟩
    | row row args => exact ⟨(fun h => by cases h), rowsIn_wd (Rows.mono h fun v w2 h2 => hn _ _ h2)⟩
    | round l f t x y => exact h.elim
    | _ => exact h.elim
  | halt hh w' =>
    cases hh with
    | panic v => exact hq _ _ _ (by intro e; cases e) h
    | _ => exact h.elim
/-- Where a list of operations is walked, and then the rest. -/
def Upto (R : Act → World → Prop) : Exit → Act → World → Prop
  | .normal, a, w => R a w
  | _, _, _ => False
theorem list_in_app (l₂ : List Oper) : ∀ (l₁ : List Oper) (a : Act) (w : World), l₁.all notDefer = true → wpList P ops (Upto (wpListIn (Wd ro) n P ops Q l₂)) l₁ a w → wpListIn (Wd ro) n P ops Q (l₁ ++ l₂) a w := by
  intro l₁
  induction l₁ with
  | nil => intro a w _ h; exact h
  | cons o l ih =>
    intro a w hd h
    rw [List.all_cons, Bool.and_eq_true] at hd
    unfold wpList at h
    show wpListIn _ _ _ _ _ (o :: (l ++ l₂)) a w
    unfold wpListIn
    split
    · rename_i hw
      rw [if_pos hw] at h
      rcases h with h | ⟨_, h⟩
      · exact oper_in hd.1 (fun a w h => ih a w hd.2 h) (fun e a w he h => by cases e <;> first | exact absurd rfl he | exact h.elim) h
      · obtain ⟨_, _, h⟩ := h; exact h.elim
    · rename_i hw
      rw [if_neg hw] at h
      exact ⟨fun _ _ => trivial, ih _ _ hd.2 h⟩
theorem list_in (hQ : ∀ a w, ¬ Q .outgrown a w) : ∀ (l : List Oper) (a : Act) (w : World), l.all notDefer = true → wpList P ops Q l a w → wpListIn (Wd ro) n P ops Q l a w := by
  intro l
  induction l with
  | nil => intro a w _ h; exact h
  | cons o l ih =>
    intro a w hd h
    rw [List.all_cons, Bool.and_eq_true] at hd
    unfold wpList at h
    unfold wpListIn
    split
    · rename_i hw
      rw [if_pos hw] at h
      rcases h with h | ⟨_, h⟩
      · exact oper_in hd.1 (fun a w h => ih a w hd.2 h) (fun e a w _ h => h) h
      · obtain ⟨_, _, h⟩ := h; exact absurd h (hQ _ _)
    · rename_i hw
      rw [if_neg hw] at h
      exact ⟨fun _ _ => trivial, ih _ _ hd.2 h⟩
/-- A region, in a round. -/
theorem region_in {id : Nat} {l : List Oper} (hd : l.all notDefer = true) (hQ : ∀ a w, ¬ Q .outgrown a w) (h : wpList P l.toArray Q l a w) : (Code.region id l.toArray false).wpIn (Wd ro) n P Q a w :=
  wpIn_region_lit (list_in hQ l a w hd h)
theorem any_in {md : Region.Mode} (hQ : ∀ a w, ¬ Q .outgrown a w) (hd : ∀ (i : Nat) (o : Oper), ops[i]? = some o → notDefer o = true) : ∀ (fuel : Nat) (listed : Array Bool) (a : Act) (w : World), wpAny P md ops Q fuel listed a w → wpAnyIn (Wd ro) n P md ops Q fuel listed a w := by
  intro fuel
  induction fuel with
  | zero => intro listed a w h; exact h
  | succ k ih =>
    intro listed a w h
    refine ⟨h.1, fun i hi => ?_⟩
    have h2 := h.2 i hi
    unfold wpOp at h2
    unfold wpOpIn
    cases ho : ops[i]? with
    | none => rw [ho] at h2; exact ih _ _ _ h2
    | some o =>
      rw [ho] at h2
      simp only at h2 ⊢
      split
      · rename_i hw
        rw [if_pos hw] at h2
        rcases h2 with h2 | ⟨_, h2⟩
        · exact oper_in (hd i o ho) (fun a w h => ih _ a w h) (fun e a w _ h => h) h2
        · obtain ⟨_, _, h2⟩ := h2; exact absurd h2 (hQ _ _)
      · rename_i hw
        rw [if_neg hw] at h2
        exact ⟨fun _ _ => trivial, ih _ _ _ h2⟩
theorem notDefer_of {l : List Oper} (h : l.all notDefer = true) (i : Nat) (o : Oper) (ho : l.toArray[i]? = some o) : notDefer o = true := by
  rw [List.getElem?_toArray] at ho
  exact List.all_eq_true.1 h o (List.mem_of_getElem? ho)
/-- A region that draws its order, in a round. -/
theorem drawn_in {id : Nat} {l : List Oper} (hm : P.follows .mixedOrders = true) (hd : l.all notDefer = true) (hQ : ∀ a w, ¬ Q .outgrown a w)
    (h : wpAny P .any l.toArray (NoPanic Q) l.toArray.size (Array.replicate l.toArray.size false) a w.drew) : (Code.region id l.toArray true).wpIn (Wd ro) n P Q a w :=
  wpIn_mono (wpIn_region_any hm (any_in (Q := NoPanic Q) (fun a w h => hQ a w (NoPanic.imp _ _ _ h)) (notDefer_of hd) _ _ _ _ h)) (fun e a w h => NoPanic.imp e a w h)
end

theorem anyP_start {P : Program} {md : Region.Mode} {ops : Array Oper} {Q : Exit → Act → World → Prop} {S : World → Prop} {n : Nat} {l : Array Bool} {a : Act} {w : World} (late : List Nat) (hS : S w) (h : S w → wpAnyP P md ops Q late S n l a w) : wpAny P md ops Q n l a w := wpAny_of_P _ _ _ _ (h hS)
theorem anyH_start {P : Program} {md : Region.Mode} {ops : Array Oper} {Q : Exit → Act → World → Prop} {S : World → Prop} {n : Nat} {l : Array Bool} {a : Act} {w : World} (hS : S w) (h : S w → wpAnyH P md ops Q S n l a w) : wpAny P md ops Q n l a w := wpAny_of_held _ _ _ _ (h hS)
/-! The loop. -/
section
variable {P : Program} {σ : Type} {ps : Array Tmp} {assign body : Code} {Q : Exit → Act → World → Prop} {a : Act} {w : World} {g : Operand}
/-- How a round's body is left. -/
def rngPost (In : σ → World → Prop) (Ix : Code → World → Prop) (s : σ) (W : World) : Exit → Act → World → Prop
  | .normal, _, W' => KeepsOthers W W' ∧ In s W'
  | .ret, _, W' => KeepsOthers W W' ∧ Ix .ret W'
  | .exit id, _, W' => KeepsOthers W W' ∧ Ix (.exit id) W'
  | .goto t, _, W' => KeepsOthers W W' ∧ Ix (.goto t) W'
  | .panic _, _, _ => False
  | .outgrown, _, _ => False
/-- One block beyond B that holds no cells has turned. -/
def Behind (B : Nat) (W W' : World) : Prop := ∃ r o o', W' = W.putObj r o' ∧ B ≤ r ∧ W.heap[r]? = some o ∧ o.isCells = false
/-- What an iterator owes: whatever the record's state (Y: between two rounds; Z: behind the last). -/
def Iter (P : Program) (gf : Nat) (lb : Array Value) (encs : σ → Array Value) (B : Nat) (I0 E : World → Prop) (Ih In : σ → World → Prop) (Ix : Code → World → Prop) : Prop :=
  ∀ (l : Nat) (Y : World → Prop) (Z : Code → World → Prop) (W1 : World), B ≤ l → (∀ W W', Y W → KeepsOthers W W' → Y W') → (∀ c W W', Z c W → KeepsOthers W W' → Z c W') →
    (∀ s W, Ih s W → Y W → YieldAt (Wd none) 0 P l (encs s) W fun e W' => (e = .returned (.bool true) ∧ In s W' ∧ Y W') ∨ (e = .returned (.bool false) ∧ ∃ c, Ix c W' ∧ Z c W')) →
    I0 W1 → Y W1 → CallsIn (Wd none) 0 P gf (#[.func (.yield l) #[] #[]] ++ lb) W1 fun e W' => (∃ v, e = .returned v) ∧ ((E W' ∧ Y W') ∨ ∃ c, Ix c W' ∧ Z c W')
theorem wp_rangeF {gf : Nat} {lb : Array Value} (hg : a.eval g = .func (.func gf) #[] lb) (eg : ∀ args w, (callFunc gf args).run P w = .ok (.enter gf args) w) {encs : σ → Array Value} (hps : ∀ s, (encs s).size = ps.size)
    {I0 E : World → Prop} {Ih In : σ → World → Prop} {Ix : Code → World → Prop} (hiter : Iter P gf lb encs w.heap.size I0 E Ih In Ix)
    (sI0 : OwnFrom w.heap.size fun _ : Unit => I0) (sE : OwnFrom w.heap.size fun _ : Unit => E) (sIn : OwnFrom w.heap.size In) (sIx : OwnFrom w.heap.size Ix) (h0 : I0 w)
    (hround : ∀ (l : Nat) (s : σ) (W : World), Ih s W → assign.wpIn (Wd (some l)) 0 P (Exit.then (fun a₁ W₁ => KeepsOthers W W₁ ∧ ∀ W₂, Behind w.heap.size W₁ W₂ → body.wpIn (Wd (some l)) 0 P (rngPost In Ix s W₂) a₁ W₂) (fun _ _ _ => False)) { tmps := (ps.zip (encs s)).foldl (fun t (p, v) => t.setIfInBounds p v) a.tmps, defers := [] } W)
    (hdone : ∀ (D : Nat) (W : World), w.heap.size ≤ D → E W → W.heap[D]? = some (.deferred (some [])) → Q .normal { a with defers := { target := .collected D, args := #[] } :: a.defers } W)
    (hstop : ∀ (D : Nat) (c : Code) (W : World), w.heap.size ≤ D → Ix c W → W.heap[D]? = some (.deferred (some [])) → c.wp P Q { a with defers := { target := .collected D, args := #[] } :: a.defers } W) :
    (Code.rangeFunc g ps assign body).wp P Q a w := by
  refine (wpIn_wide (n := 0)).1 (wpIn_rangeFunc ?_)
  intro fn hfn
  obtain ⟨rec, hrec⟩ : ∃ rec : LoopState → Option Code → Loop, rec = fun st pe => { state := st, pending := pe, fn, tmps := a.tmps, params := ps, assign, body, defers := w.heap.size } := ⟨_, rfl⟩
  obtain ⟨W1, hW1⟩ : ∃ W1, (w.alloc (.deferred (some []))).alloc (.loop (rec .ready none)) = W1 := ⟨_, rfl⟩
  have hL1 : W1.heap[w.heap.size + 1]? = some (.loop (rec .ready none)) := by
    rw [← hW1]; have := World.alloc_heap_new (w.alloc (.deferred (some []))) (.loop (rec .ready none)); rwa [World.size_alloc] at this
  have hK1 : W1.heap[w.heap.size]? = some (.deferred (some [])) := by
    rw [← hW1]; exact (Below.heap_alloc _ _ _ (by simp)).trans (World.alloc_heap_new w _)
  have hI1 : I0 W1 := by rw [← hW1]; exact sI0.alloc (s := ()) _ (sI0.alloc (s := ()) _ h0)
  refine ⟨w.heap.size + 1, [{ target := .collected w.heap.size, args := #[] }], W1, { target := .fn (.func gf) lb, args := #[.func (.yield (w.heap.size + 1)) #[] #[]] }, W1, gf,
    #[.func (.yield (w.heap.size + 1)) #[] #[]] ++ lb, W1, ?_, ?_, fun _ _ => trivial, ?_, (fun h => by cases h), ?_⟩
  · rw [← hW1, hrec]; exact run_enterLoop_outer _ _ _ _ _
  · simp only [resolve, hg]
    simp [go_sem]
  · simp [invoke, go_sem, eg]
  · refine (hiter (w.heap.size + 1) (fun W => W.heap[w.heap.size + 1]? = some (.loop (rec .ready none)) ∧ W.heap[w.heap.size]? = some (.deferred (some [])))
      (fun c W => W.heap[w.heap.size + 1]? = some (.loop (rec .done (some c))) ∧ W.heap[w.heap.size]? = some (.deferred (some []))) W1 (by omega)
      (fun W W' h k => ⟨k.same _ _ h.1 rfl, k.same _ _ h.2 rfl⟩) (fun c W W' h k => ⟨k.same _ _ h.1 rfl, k.same _ _ h.2 rfl⟩) ?_ hI1 ⟨hL1, hK1⟩).mono ?_
    · -- one round
      rintro s W hi ⟨hl, hk⟩
      have hy := run_yield (P := P) (args := encs s) hl (by rw [hrec]; exact hps s)
      rw [hrec] at hy
      refine ⟨fn, _, assign, body, hy, roundIn_of_wpIn trivial (wpIn_mono (hround _ s W hi) ?_)⟩
      intro e a₁ W₁ he
      cases e with
      | normal =>
        obtain ⟨hka, hbody⟩ := he
        have hl2 := hka.same _ _ hl rfl
        have hk2 := hka.same _ _ hk rfl
        have hlt : w.heap.size + 1 < W₁.heap.size := (Array.getElem?_eq_some_iff.1 hl2).1
        refine ⟨_, run_beginRound hl2 (by rw [hrec]), ?_⟩
        have hl3 : (W₁.putObj (w.heap.size + 1) (.loop { rec .ready none with state := .busy })).heap[w.heap.size + 1]? = some (.loop { rec .ready none with state := .busy }) := World.putObj_heap_same hlt
        have hk3 : (W₁.putObj (w.heap.size + 1) (.loop { rec .ready none with state := .busy })).heap[w.heap.size]? = some (.deferred (some [])) := (World.putObj_heap_other (by omega)).trans hk2
        refine wpIn_mono (hbody _ ⟨_, _, _, rfl, by omega, hl2, rfl⟩) ?_
        have fin : ∀ (jump : Option Code) (W3 : World), KeepsOthers (W₁.putObj (w.heap.size + 1) (.loop { rec .ready none with state := .busy })) W3 →
            (Instr.endRound (w.heap.size + 1) jump).run P W3 = .ok (.bool jump.isNone) (W3.putObj (w.heap.size + 1) (.loop (rec (if jump.isNone then .ready else .done) jump))) ∧
            W3.heap[w.heap.size + 1]? = some (.loop { rec .ready none with state := .busy }) ∧
            (W3.putObj (w.heap.size + 1) (.loop (rec (if jump.isNone then .ready else .done) jump))).heap[w.heap.size + 1]? = some (.loop (rec (if jump.isNone then .ready else .done) jump)) ∧
            (W3.putObj (w.heap.size + 1) (.loop (rec (if jump.isNone then .ready else .done) jump))).heap[w.heap.size]? = some (.deferred (some [])) := fun jump W3 k3 => by
          have h4 := k3.same _ _ hl3 rfl
          have := run_endRound (P := P) jump h4
          rw [hrec] at this ⊢
          exact ⟨this, by rw [hrec] at h4; exact h4, World.putObj_heap_same (Array.getElem?_eq_some_iff.1 h4).1, (World.putObj_heap_other (by omega)).trans (k3.same _ _ hk3 rfl)⟩
        rintro e a3 W3 hp
        cases e with
        | normal =>
          obtain ⟨k3, hi3⟩ := hp
          obtain ⟨hr, h4, h5, h6⟩ := fin none W3 k3
          exact ⟨_, _, hr, .inl ⟨rfl, sIn.putObj _ hi3 (by omega) h4 rfl, h5, h6⟩⟩
        | ret =>
          obtain ⟨k3, hi3⟩ := hp
          obtain ⟨hr, h4, h5, h6⟩ := fin (some .ret) W3 k3
          exact ⟨_, _, hr, .inr ⟨rfl, .ret, sIx.putObj _ hi3 (by omega) h4 rfl, h5, h6⟩⟩
        | exit id =>
          obtain ⟨k3, hi3⟩ := hp
          obtain ⟨hr, h4, h5, h6⟩ := fin (some (.exit id)) W3 k3
          exact ⟨_, _, hr, .inr ⟨rfl, .exit id, sIx.putObj _ hi3 (by omega) h4 rfl, h5, h6⟩⟩
        | goto t =>
          obtain ⟨k3, hi3⟩ := hp
          obtain ⟨hr, h4, h5, h6⟩ := fin (some (.goto t)) W3 k3
          exact ⟨_, _, hr, .inr ⟨rfl, .goto t, sIx.putObj _ hi3 (by omega) h4 rfl, h5, h6⟩⟩
        | panic c => exact hp.elim
        | outgrown => exact hp.elim
      | _ => exact he.elim
    · -- behind the iterator
      rintro e W2 ⟨⟨v, rfl⟩, (⟨hE, hl, hk⟩ | ⟨c, hi, hl, hk⟩)⟩
      · exact ⟨none, _, by have := run_endLoop (P := P) hl (by rw [hrec]; simp); rw [hrec] at this; exact this, hdone _ _ (Nat.le_refl _) (sE.putObj (s := ()) _ hE (by omega) hl rfl) ((World.putObj_heap_other (by omega)).trans hk)⟩
      · exact ⟨some c, _, by have := run_endLoop (P := P) hl (by rw [hrec]; simp); rw [hrec] at this; exact this, wpIn_wide.2 (hstop _ c _ (Nat.le_refl _) (sIx.putObj _ hi (by omega) hl rfl) ((World.putObj_heap_other (by omega)).trans hk))⟩
end
/-- A walk of a list in two parts. -/
theorem list_in_split {P : Program} {ops : Array Oper} {ro : Option Nat} {n : Nat} {Q : Exit → Act → World → Prop} {a : Act} {w : World} {l : List Oper} (k : Nat) (hd : (l.take k).all notDefer = true) (h : wpList P ops (Upto (wpListIn (Wd ro) n P ops Q (l.drop k))) (l.take k) a w) : wpListIn (Wd ro) n P ops Q l a w := by
  have := list_in_app (l.drop k) (l.take k) a w hd h
  rwa [List.take_append_drop] at this
section
variable {R : Nat → Prop} {s w w' : World} {L L2 : List Ent} {O O2 : List Osl} {B : Nat}
theorem Blk.cells {g : Nat} {t : TypeId} {cs : Array Value} (h : Blk w g t cs) {o : Obj} (ho : w.heap[g]? = some o) : o.isCells = true := by
  unfold Blk at h
  rw [h] at ho; cases ho; rfl
/-- Known memory abides what the loop's own blocks do. -/
theorem Mem.grown {row : Option Nat} (hm : Mem R s w L O) (hg : w.grownBy w' row) (hr : ∀ r, row = some r → B ≤ r ∧ ∃ o : Obj, w.heap[r]? = some o ∧ o.isCells = false) (hB : s.heap.size ≤ B) : Mem R s w' L O := by
  have ho : Only (fun q => row = some q) w w' := ⟨hg.os, hg.tape, hg.output, hg.size, fun k hk hn => hg.block k hk (fun e => hn e.symm)⟩
  refine hm.step ho (fun q _ e => .inr (Nat.le_trans hB (hr q e).1)) (fun e he e2 => ?_) (fun x hx q e e2 => ?_)
  · obtain ⟨_, o, h1, h2⟩ := hr _ e2
    rw [(hm.blk e he).cells h1] at h2; cases h2
  · obtain ⟨_, o, h1, h2⟩ := hr _ e2
    have hown := hm.sl x hx
    unfold ownAt at e
    split at e
    · cases e
    · rename_i hc
      obtain ⟨g, cur, e3, _, h3, _⟩ := hown.2.2.2 (by omega)
      rw [e3] at e
      cases e
      rw [Blk.cells (w := w) (g := g) h3 h1] at h2; cases h2
theorem Mem.behind (hm : Mem R s w L O) (h : Behind B w w') (hB : s.heap.size ≤ B) : Mem R s w' L O := by
  obtain ⟨r, o, o', rfl, h1, h2, h3⟩ := h
  exact hm.grown (grownBy_putObj' _ _ _) (fun q e => by cases e; exact ⟨h1, o, h2, h3⟩) hB
theorem KeepsOthers.of_only (ho : Only R w w') (hR : ∀ q, R q → ∃ t cs, Blk w q t cs) : KeepsOthers w w' :=
  ⟨ho.size, fun k o hk hc => by
    by_cases h : R k
    · obtain ⟨t, cs, hb⟩ := hR k h
      rw [hb.cells hk] at hc; cases hc
    · exact (ho.block k (Array.getElem?_eq_some_iff.1 hk).1 h).trans hk⟩
/-- From one state of known memory on, steps of the walk keep what holds no cells. -/
theorem KeepsOthers.of_mem (h0 : Mem R s w L O) (hm : Mem (fun q => ∃ e ∈ L, q = e.g) w w' L2 O2) : KeepsOthers w w' :=
  KeepsOthers.of_only hm.only (fun q ⟨e, he, e2⟩ => ⟨_, _, e2 ▸ h0.blk e he⟩)
end
/-- A function that holds such a loop. -/
theorem calls_marks {P : Program} {f : FuncId} {fn : Func} {c : Code} {args : Array Value} {w : World} {R : Ending → World → Prop} (hf : P.funcs[f]? = some fn) (hb : fn.body = some c)
    (h : c.wp P (bodyPostM Fence.wide 0 P fn R) { tmps := args ++ Array.replicate (fn.ntmps - args.size) undef, defers := [] } w) : Calls P f args w R :=
  (callsIn_wide (n := 0)).1 (callsIn_of_wp_marks hf hb trivial ((wpIn_wide (n := 0)).2 h) rfl)
end Go.Proofs.YtmhjddmamknglaaGreat
end

section
namespace Go.Proofs.YtmhjddmamknglaaGreat
set_option maxRecDepth 100000
set_option linter.unusedSimpArgs false
set_option linter.unusedVariables false
open Go.RowKit
set_option maxHeartbeats 8000000

theorem u64_and32 (y : Nat) (hy : y < 4294967296) : bits BinOp.and IntKind.u64 (y : Int) 4294967295 = (y : Int) := by
  show IntKind.u64.wrap ((BitVec.ofInt 64 (y : Int) &&& BitVec.ofInt 64 ((4294967295 : Nat) : Int)).toNat : Int) = _
  have h2 := Nat.and_two_pow_sub_one_eq_mod y 32
  simp only [Nat.reducePow, Nat.reduceSub] at h2
  have e1 : (BitVec.ofInt 64 (y : Int)).toNat = y := by simp; omega
  have e2 : (BitVec.ofInt 64 ((4294967295 : Nat) : Int)).toNat = 4294967295 := by decide
  rw [BitVec.toNat_and, e1, e2, h2]
  exact (IntWalk.u64_in _ (by omega)).trans (by omega)
theorem bits_Mul1 (n : Nat) (w : World) (hn : n ≤ 1000000) : Calls Tryz.prog 57 #[.int .u64 1, .int .u64 (n : Int)] w fun e w' => e = .returned (.tuple #[.int .u64 0, .int .u64 (n : Int)]) ∧ Below w.heap.size w w' := by
  have hm := Mem.nil (fun _ => False) w
  have h64 : ∀ u : World, Calls Tryz.prog 72 #[.int .u64 1, .int .u64 (n : Int)] u fun e w' => e = .returned (.tuple #[.int .u64 0, .int .u64 (n : Int)]) ∧ Below u.heap.size u w' := fun u => by
    have hm := Mem.nil (fun _ => False) u
    have a1 : bits BinOp.and IntKind.u64 1 4294967295 = 1 := u64_and32 1 (by omega)
    have a0 : bits BinOp.and IntKind.u64 0 4294967295 = 0 := u64_and32 0 (by omega)
    have a2 := u64_and32 n (by omega)
    have a3 : (n : Int) / 4294967296 = 0 := by omega
    have a4 : IntKind.u64.wrap (n : Int) = (n : Int) := IntWalk.u64_in _ (by omega)
    go_enter Tryz.func72, Tryz.ntmps72
    go_wp2_with (first | go_skip | ((with_reducible show wpList _ _ _ _ _ (World.alloc _ _)); refine wpList_up hm ?_; clear hm; intro n w hn hn2 hk hm hd hd2 ho; (try rw [← hn]); replace hn := Nat.le_of_eq hn.symm) | ((first | ((with_reducible show wpList _ _ _ (Oper.mk _ (Op.box _ _) _ _ _ _ :: _) _ _); (refine bxA hm ?_; clear hm; intro n w hn hz hm ho; (try simp only [List.cons_append, List.nil_append] at hm))) | ((with_reducible show wpList _ _ _ (Oper.mk _ (Op.load _ _) _ _ _ _ :: _) _ _); first | (refine ldA hm ?_) | (refine laA hm ?_)) | ((with_reducible show wpList _ _ _ (Oper.mk _ (Op.store _ _ _) _ _ _ _ :: _) _ _); (refine stA hm ?_; clear hm; intro w hz hm ho)) | ((with_reducible show wpList _ _ _ (Oper.mk _ (Op.alloc _) _ _ _ _ :: _) _ _); (refine alA hm ?_; clear hm; intro n w hn hz hm ho; (try simp only [List.cons_append, List.nil_append] at hm)))); try simp only [Act.put, sxQ]))
    go_ret2
    exact ⟨rfl, hm.low⟩
  go_enter Tryz.func57, Tryz.ntmps57
  go_wp2_with (first | go_skip | ((with_reducible show wpList _ _ _ _ _ (World.alloc _ _)); refine wpList_up hm ?_; clear hm; intro n w hn hn2 hk hm hd hd2 ho; (try rw [← hn]); replace hn := Nat.le_of_eq hn.symm) | ((first | ((with_reducible show wpList _ _ _ (Oper.mk _ (Op.box _ _) _ _ _ _ :: _) _ _); (refine bxA hm ?_; clear hm; intro n w hn hz hm ho; (try simp only [List.cons_append, List.nil_append] at hm))) | ((with_reducible show wpList _ _ _ (Oper.mk _ (Op.load _ _) _ _ _ _ :: _) _ _); first | (refine ldA hm ?_) | (refine laA hm ?_)) | ((with_reducible show wpList _ _ _ (Oper.mk _ (Op.store _ _ _) _ _ _ _ :: _) _ _); (refine stA hm ?_; clear hm; intro w hz hm ho)) | ((with_reducible show wpList _ _ _ (Oper.mk _ (Op.alloc _) _ _ _ _ :: _) _ _); (refine alA hm ?_; clear hm; intro n w hn hz hm ho; (try simp only [List.cons_append, List.nil_append] at hm)))); try simp only [Act.put, sxQ]) | (go_at_call 72; refine (h64 _).mono ?_; rintro e w2 ⟨rfl, hb⟩; replace hm := hm.below hb))
  go_ret2
  exact ⟨rfl, hm.low⟩
theorem ecells_none (n : Nat) : ecells (List.replicate n none) = List.replicate n (I64 (-1)) := by simp [ecells, Pg.enc]
theorem zz_cells (m : Nat) : (madeCells #[.int .i64 0] m) = (List.replicate m (I64 0)).toArray := by
  apply Array.toList_inj.1
  simp only [madeCells, I64]
  apply List.ext_getElem
  · simp
  · intro j h1 h2
    simp [Nat.mod_one]
theorem splice_rep (k m : Nat) (h : k ≤ m) (x y : Value) (j : Nat) (hj : k + j ≤ m) : splice (List.replicate k x ++ List.replicate (m - k) y) k (List.replicate j x) = List.replicate (k + j) x ++ List.replicate (m - (k + j)) y := by
  unfold splice
  rw [List.take_left' List.length_replicate, List.length_replicate, ← List.drop_drop, List.drop_left' List.length_replicate, List.drop_replicate, ← List.append_assoc, List.replicate_append_replicate]
  congr 2
  omega
theorem addr_add0 (q j : Nat) : Addr.add ⟨q, 0, none⟩ j = ⟨q, j, none⟩ := by
  unfold Addr.add
  split
  · rename_i h; rw [h]
  · simp
theorem slices_RepeatN (A : Addr) (c m0 : Nat) (w0 : World) (hA : w0.cell? A = some (.int .i64 (-1))) (hlt : A.block < w0.heap.size) (h1 : 1 ≤ m0) (hm0 : m0 ≤ 100000) :
    Calls Tryz.prog 40 #[.slice (some A) 1 c, .int .i64 (m0 : Int)] w0 fun e w' => ∃ q, e = .returned (.slice (some ⟨q, 0, none⟩) m0 m0) ∧ w0.heap.size ≤ q ∧ Blk w' q 3 (ecells (List.replicate m0 none)).toArray ∧ Below w0.heap.size w0 w' := by
  have hm := Mem.nil (fun _ => False) w0
  have HC := Lib.hid (fun (u : World) (h : Below w0.heap.size w0 u) => show u.cell? A = some (.int .i64 (-1)) from (h.cell (p := A) hlt).trans hA)
  have p0 : (0 : Int) < (m0 : Int) := by omega
  have pn : (0 : Int) ≤ (m0 : Int) := by omega
  have a4 : IntKind.u64.wrap (m0 : Int) = (m0 : Int) := IntWalk.u64_in _ (by omega)
  have a5 : decide ((9223372036854775807 : Int) < (m0 : Int)) = false := by rw [decide_eq_false_iff_not]; omega
  have a6 : IntKind.i64.wrap (m0 : Int) = (m0 : Int) := IntWalk.i64_in _ (by omega)
  have mk : ∀ u : World, (Instr.makeSlice 64 (.int .i64 (m0 : Int)) (.int .i64 (m0 : Int))).run Tryz.prog u = .ok (.slice (some ⟨u.heap.size, 0, none⟩) m0 m0) (u.alloc (.cells (List.replicate m0 (I64 0)).toArray 3)) := fun u => by
    rw [← zz_cells]
    obtain ⟨ii, hii, hi0, hi1, hi2⟩ := info_parts i_int'
    have h := run_make (P := Tryz.prog) u 64 3 ii (.int .i64 0) Tryz.underlying64 hii hi0 .i64 .i64 (m0 : Int) (m0 : Int) (by omega) (Int.le_refl _) (by rw [hi2]; omega) (by omega)
    simpa [hi1, Value.cells] using h
  clear hA
  go_enter Tryz.func40, Tryz.ntmps40
  go_wp2_with (first | go_skip | ((with_reducible show wpList _ _ _ _ _ (World.alloc _ _)); refine wpList_up hm ?_; clear hm; intro n w hn hn2 hk hm hd hd2 ho; (try rw [← hn]); replace hn := Nat.le_of_eq hn.symm) | ((first | ((with_reducible show wpList _ _ _ (Oper.mk _ (Op.box _ _) _ _ _ _ :: _) _ _); (refine bxA hm ?_; clear hm; intro n w hn hz hm ho; (try simp only [List.cons_append, List.nil_append] at hm))) | ((with_reducible show wpList _ _ _ (Oper.mk _ (Op.load _ _) _ _ _ _ :: _) _ _); first | (refine ldA hm ?_) | (refine laA hm ?_)) | ((with_reducible show wpList _ _ _ (Oper.mk _ (Op.store _ _ _) _ _ _ _ :: _) _ _); (refine stA hm ?_; clear hm; intro w hz hm ho)) | ((with_reducible show wpList _ _ _ (Oper.mk _ (Op.alloc _) _ _ _ _ :: _) _ _); (refine alA hm ?_; clear hm; intro n w hn hz hm ho; (try simp only [List.cons_append, List.nil_append] at hm)))); try simp only [Act.put, sxQ]) | (go_at_call 57; refine (bits_Mul1 m0 _ (by omega)).mono ?_; rintro e w2 ⟨rfl, hb⟩; replace hm := hm.below hb) | ((with_reducible show wpList _ _ _ (Oper.mk _ (Op.call { callee := Callee.builtin Builtin.copy, args := _, argTypes := _ }) _ _ _ _ :: _) _ _); refine wpList_copy_splice rfl (.tmp 31) (.tmp 32) 64 64 rfl 3 Tryz.underlying64 (by kernel_rfl) _ _ m0 m0 1 c rfl rfl n 0 (List.replicate m0 (I64 0)) 3 (by rw [List.toArray_replicate]; exact hk) [I64 (-1)] (Nat.min_eq_left h1).symm (fun _ => ⟨rfl, A, rfl, fun j v hj => by cases j with | zero => (cases hj; exact HC.out _ hm.low) | succ j => simp at hj⟩) (by rw [List.length_replicate]; exact h1) (fun v hv => by rw [List.mem_singleton.1 hv]; rfl) w0.heap.size w0 hm.low hn2 ?_; intro w3 hw3 hb3))
  have hk3 : Blk w3 n 3 (List.replicate 1 (I64 (-1)) ++ List.replicate (m0 - 1) (I64 0)).toArray := by
    have h9 := hw3.out
    have e9 := splice_rep 0 m0 (Nat.zero_le _) (I64 (-1)) (I64 0) 1 (by omega)
    simp only [List.replicate_zero, List.nil_append, Nat.sub_zero, Nat.zero_add] at e9
    rw [show [I64 (-1)] = List.replicate 1 (I64 (-1)) from rfl, e9] at h9
    exact h9
  clear hw3 hk hm hd hd2 ho hn hb mk
  generalize n = q at *
  go_wp2_with fail
  go_loopg [8] (m0 - 1) (fun g2 v wr => ∃ k, k + g2 = m0 ∧ 1 ≤ k ∧ v = .int .i64 (k : Int) ∧ Blk wr q 3 (List.replicate k (I64 (-1)) ++ List.replicate (m0 - k) (I64 0)).toArray ∧ Below w0.heap.size w0 wr)
  case atStart => exact ⟨1, by omega, Nat.le_refl _, rfl, hk3, hb3⟩
  case round =>
    clear hk3 hb3
    obtain ⟨k, hkg, hk1, rfl, hk, hb⟩ := hrel
    cases gk with
    | zero =>
      obtain rfl : k = m0 := by omega
      go_wp2_with fail
      go_ret
      refine ⟨q, rfl, hn2, ?_, hb⟩
      rw [ecells_none]
      simpa using hk
    | succ g2 =>
      have i1 : (k : Int) < (m0 : Int) := by omega
      have i2 : ¬ m0 = k := by omega
      have i3 : (k : Int) ≤ (m0 : Int) := by omega
      have i4 : (0 : Int) ≤ (k : Int) := by omega
      go_wp2_with fail
      refine wp_region_noPanic ?_
      refine wp_region_held_drew (S := fun _ => True) (by kernel_rfl) (trivial) (fun hHeld => ?_)
      refine wpAnyH_fresh (by repeat (first | apply Fresh.a | apply Fresh.b)) ?_
      iterate 7 (refine wpAnyH_take3 (b := 0) (by repeat (first | apply Seek.a | apply Seek.b | apply Seek.c)) (by simp only [sxN]; first | done | exact rfl) ⟨?_, by kernel_rfl, by kernel_rfl, by kernel_rfl, fun _ _ _ h => h, Or.inl ⟨by rfl, ?_⟩, by assumption, ?_⟩; rotate_left 1; focus (intro w9 hSw; (try dsimp only at hSw); go_simp; try (with_reducible rfl)); try simp only [Act.put, sxQ])
      simp only [Act.put, sxQ]
      refine wpAnyH_ready (rs := [7]) (by kernel_rfl) (by simp) ?_
      refine AllReadyH.cons2 (by simp only [sxN]; first | done | exact rfl) (fun K hK => ?_)
      obtain ⟨j, hj1, hj2, hj3, hj4⟩ : ∃ j, j = Nat.min k (m0 - k) ∧ k + j ≤ m0 ∧ 1 ≤ j ∧ j ≤ k := ⟨_, rfl, by have := Nat.min_le_right k (m0 - k); show k + min k (m0 - k) ≤ m0; omega, by show 1 ≤ min k (m0 - k); omega, Nat.min_le_left _ _⟩
      have HJ := Lib.hid hj1
      clear hj1
      have rj : IntKind.i64.wrap ((k : Int) + (j : Int)) = (k : Int) + (j : Int) := IntWalk.i64_in _ (by omega)
      refine step_copy_splice rfl (.tmp 41) (.tmp 44) 64 64 rfl 3 Tryz.underlying64 (by kernel_rfl) (some ⟨q, k, none⟩) (some ⟨q, 0, none⟩) (m0 - k) (m0 - k) k m0 rfl rfl q k (List.replicate k (I64 (-1)) ++ List.replicate (m0 - k) (I64 0)) 3 hk.drew (List.replicate j (I64 (-1))) (by rw [List.length_replicate]; exact HJ.out) (fun _ => ⟨rfl, ⟨q, 0, none⟩, rfl, fun j2 v hj => ?_⟩) (by rw [List.length_replicate, List.length_append, List.length_replicate, List.length_replicate]; omega) (fun v hv => by rw [List.eq_of_mem_replicate hv]; rfl) w0.heap.size w0 hb.drew hn2 ?_
      · rw [List.getElem?_replicate] at hj
        split at hj
        · cases hj
          have h9 : wr.cell? ⟨q, j2, none⟩ = some (I64 (-1)) := by
            rw [hk.cell]
            rw [List.getElem?_toArray, List.getElem?_append_left (by rw [List.length_replicate]; omega), List.getElem?_replicate, if_pos (by omega)]
          rw [addr_add0]; exact h9
        · cases hj
      intro w3 hw3 hb3
      rw [splice_rep k m0 (by omega) _ _ j hj2] at hw3
      simp only [List.length_replicate]
      refine hK.out _ _ (trivial) (fun hHeld => ?_)
      clear hK K
      try simp only [Act.put, sxQ]
      iterate 2 (refine wpAnyH_take3 (b := 8) (by repeat (first | apply Seek.a | apply Seek.b | apply Seek.c)) (by simp only [sxN]; first | done | exact rfl) ⟨?_, by kernel_rfl, by kernel_rfl, by kernel_rfl, fun _ _ _ h => h, Or.inl ⟨by rfl, ?_⟩, by assumption, ?_⟩; rotate_left 1; focus (intro w9 hSw; (try dsimp only at hSw); go_simp; try (with_reducible rfl)); try simp only [Act.put, sxQ])
      refine wpAnyH_done (by kernel_rfl) ?_ _
      refine NoPanic.normal ?_
      go_wp2_with fail
      go_roundg (m0 - (k + j))
      case measure => omega
      case rel => exact ⟨k + j, by omega, by omega, by first | rfl | go_num, hw3.out, hb3⟩
end Go.Proofs.YtmhjddmamknglaaGreat
end

section
namespace Go.Proofs.YtmhjddmamknglaaGreat
set_option maxRecDepth 100000
set_option linter.unusedSimpArgs false
set_option linter.unusedVariables false
open Go.RowKit
set_option maxHeartbeats 8000000

/-- What a frame's wear needs. -/
structure PWk (w : World) (g : Nat) (s : PgS) (p : Pg.P) : Prop where
  blk : Blk w g 66 (pcs s p)
  mem : MemAt w s.gm s.gw s.gv s.n s.cw s.cv p.m
theorem PWk.drewN {w : World} {g : Nat} {s : PgS} {p : Pg.P} (h : PWk w g s p) (k : Nat) : PWk (w.drewN k) g s p := ⟨h.blk, h.mem.drewN k⟩
theorem page_wear {w0 : World} {g : Nat} {s : PgS} {p : Pg.P} (H : PWk w0 g s p) (f : Nat) (hf : f < 100000000) :
    Calls Tryz.prog 62 #[.pointer (some ⟨g, 0, none⟩), .int .i64 (f : Int)] w0 fun e w' => e = .returned (.int .i64 (p.m.wearOf ((f * 20 + 19 : Nat) : Int))) ∧ w0 = w' := by
  have hm : Mem (fun q => q = g) w0 w0 [⟨g, _, _⟩] [] := Mem.one H.blk rfl
  have HW := Lib.hid (show Calls Tryz.prog 77 #[.pointer (some ⟨s.gm, 0, none⟩), .int .i64 ((f : Int) * 20 + 19)] w0 fun e w' => e = .returned (.int .i64 (p.m.wearOf ((f * 20 + 19 : Nat) : Int))) ∧ w0 = w' by
    have := cell_Wear H.mem ((f * 20 + 19 : Nat) : Int)
    rwa [show ((f * 20 + 19 : Nat) : Int) = (f : Int) * 20 + 19 by omega] at this ⊢)
  clear H
  simp only [pcs] at hm
  go_enter Tryz.func62, Tryz.ntmps62
  go_wp2_with (first | go_skip | ((with_reducible show wpList _ _ _ _ _ (World.alloc _ _)); refine wpList_up hm ?_; clear hm; intro n w hn hn2 hk hm hd hd2 ho; (try rw [← hn]); replace hn := Nat.le_of_eq hn.symm) | ((first | ((with_reducible show wpList _ _ _ (Oper.mk _ (Op.box _ _) _ _ _ _ :: _) _ _); (refine bxA hm ?_; clear hm; intro n w hn hz hm ho; (try simp only [List.cons_append, List.nil_append] at hm))) | ((with_reducible show wpList _ _ _ (Oper.mk _ (Op.load _ _) _ _ _ _ :: _) _ _); first | (refine ldA hm ?_) | (refine laA hm ?_)) | ((with_reducible show wpList _ _ _ (Oper.mk _ (Op.store _ _ _) _ _ _ _ :: _) _ _); (refine stA hm ?_; clear hm; intro w hz hm ho)) | ((with_reducible show wpList _ _ _ (Oper.mk _ (Op.alloc _) _ _ _ _ :: _) _ _); (refine alA hm ?_; clear hm; intro n w hn hz hm ho; (try simp only [List.cons_append, List.nil_append] at hm)))); try simp only [Act.put, sxQ]))
  go_at_call 77
  refine HW.out.mono ?_
  rintro e w2 ⟨rfl, rfl⟩
  go_wp2_with fail
  go_ret
  exact ⟨rfl, rfl⟩
abbrev Frm := { f : Nat // f < 100000000 }
instance : Inhabited Frm := ⟨⟨0, by omega⟩⟩
def encF (f : Frm) : Value := .int .i64 (f.1 : Int)
def wdiff (m : Cel.Mem) (x y : Frm) : Int := m.wearOf ((x.1 * 20 + 19 : Nat) : Int) - m.wearOf ((y.1 * 20 + 19 : Nat) : Int)
theorem wdiff_swo (m : Cel.Mem) : Go.Sort.SWO (ltOf (wdiff m)) where
  irrefl x := by simp [ltOf, wdiff]
  trans x y z h1 h2 := by
    unfold ltOf wdiff at *
    rw [decide_eq_true_eq] at *
    omega
  ntrans x y z h1 h2 := by
    unfold ltOf wdiff at *
    rw [decide_eq_false_iff_not] at *
    omega
theorem wearOf_fine {K : Int} {m : Cel.Mem} (h : Cel.Fine K m) (hK : 0 ≤ K) (a : Int) : 0 ≤ m.wearOf a ∧ m.wearOf a ≤ K := by
  unfold Cel.Mem.wearOf
  split
  · exact h.getD hK _
  · exact ⟨Int.le_refl _, hK⟩
/-- The comparison. -/
theorem page_order1 {w0 : World} {g pb : Nat} {s : PgS} {p : Pg.P} (H : PWk w0 g s p) (hb : Blk w0 pb 27 #[.pointer (some ⟨g, 0, none⟩)]) {K : Int} (hK : Cel.Fine K p.m) (h0 : 0 ≤ K ∧ K ≤ 4611686018427387904) (x y : Frm) :
    Calls Tryz.prog 61 #[encF x, encF y, .pointer (some ⟨pb, 0, none⟩)] w0 fun e w' => e = .returned (.int .i64 (wdiff p.m x y)) ∧ ∃ q, w' = w0.drewN q := by
  obtain ⟨x, hx⟩ := x
  obtain ⟨y, hy⟩ := y
  unfold encF wdiff
  dsimp only
  have HX := Lib.hid (fun (k : Nat) => page_wear (H.drewN k) x hx)
  have HY := Lib.hid (fun (k : Nat) => page_wear (H.drewN k) y hy)
  have fx := wearOf_fine hK h0.1 ((x * 20 + 19 : Nat) : Int)
  have fy := wearOf_fine hK h0.1 ((y * 20 + 19 : Nat) : Int)
  generalize p.m.wearOf ((x * 20 + 19 : Nat) : Int) = a at *
  generalize p.m.wearOf ((y * 20 + 19 : Nat) : Int) = b at *
  have hr : IntKind.i64.wrap (a - b) = a - b := IntWalk.i64_in _ (by omega)
  have hm : Mem (fun q => q = pb) w0 w0 [⟨pb, _, _⟩] [] := Mem.one hb rfl
  clear H hb hK
  go_enter Tryz.func61, Tryz.ntmps61
  go_wp2_with fail
  have HXX := Lib.hid (fun (u : World) (h : ∃ k, u = w0.drewN k) => show Calls Tryz.prog 62 #[.pointer (some ⟨g, 0, none⟩), .int .i64 (x : Int)] u fun e w' => e = .returned (.int .i64 a) ∧ u = w' by obtain ⟨k, rfl⟩ := h; exact HX.out k)
  have HYY := Lib.hid (fun (u : World) (h : ∃ k, u = w0.drewN k) => show Calls Tryz.prog 62 #[.pointer (some ⟨g, 0, none⟩), .int .i64 (y : Int)] u fun e w' => e = .returned (.int .i64 b) ∧ u = w' by obtain ⟨k, rfl⟩ := h; exact HY.out k)
  clear HX HY
  refine wp_region_noPanic ?_
  refine wp_region_held_drew (S := MemS _ _ _ _) (by kernel_rfl) (MemS.of hm.drew) (fun hHeld => ?_)
  refine wpAnyH_fresh (by repeat (first | apply Fresh.a | apply Fresh.b)) ?_
  have hd : ∃ k, w0.drew = w0.drewN k := ⟨1, rfl⟩
  replace hm := hm.drew
  iterate 2 (first | (refine takeN 0 hHeld ?_) | (refine takeY 0 ?_ hHeld ?_ ?_; rotate_left 1; (first | (intro w9 h9; (with_reducible show (execOp _ (Oper.mk _ (Op.load _ _) _ _ _ _)).run _ _ = _); first | exact h9.ldA) | focus (intro w9 hSw; go_simp; (try (with_reducible rfl)); done))); try simp only [Act.put, sxQ])
  iterate 2 (first | (refine takeN 3 hHeld ?_) | (refine takeY 3 ?_ hHeld ?_ ?_; rotate_left 1; (first | (intro w9 h9; (with_reducible show (execOp _ (Oper.mk _ (Op.load _ _) _ _ _ _)).run _ _ = _); first | exact h9.ldA) | focus (intro w9 hSw; go_simp; (try (with_reducible rfl)); done))); try simp only [Act.put, sxQ])
  refine wpAnyH_ready (rs := [2]) (by kernel_rfl) (by simp) ?_
  refine AllReadyH.cons2 (by simp only [sxN]; first | done | exact rfl) (fun K hK => ?_)
  rw [if_pos (by rfl)]
  go_simp
  refine (HXX.out _ hd).mono ?_
  rintro e w2 ⟨rfl, rfl⟩
  go_simp
  refine hK.out _ _ (MemS.of hm) (fun hHeld => ?_)
  clear hK K
  try simp only [Act.put, sxQ]
  refine wpAnyH_ready (rs := [5]) (by kernel_rfl) (by simp) ?_
  refine AllReadyH.cons2 (by simp only [sxN]; first | done | exact rfl) (fun K hK => ?_)
  rw [if_pos (by rfl)]
  go_simp
  refine (HYY.out _ hd).mono ?_
  rintro e w2 ⟨rfl, rfl⟩
  go_simp
  refine hK.out _ _ (MemS.of hm) (fun hHeld => ?_)
  clear hK K
  try simp only [Act.put, sxQ]
  iterate 2 (first | (refine takeN 6 hHeld ?_) | (refine takeY 6 ?_ hHeld ?_ ?_; rotate_left 1; (first | (intro w9 h9; (with_reducible show (execOp _ (Oper.mk _ (Op.load _ _) _ _ _ _)).run _ _ = _); first | exact h9.ldA) | focus (intro w9 hSw; go_simp; (try (with_reducible rfl)); done))); try simp only [Act.put, sxQ])
  refine wpAnyH_done (by kernel_rfl) ?_ _
  refine NoPanic.normal ?_
  go_wp2_with fail
  go_ret
  exact ⟨rfl, hd⟩
end Go.Proofs.YtmhjddmamknglaaGreat
end

section
namespace Go.Proofs.YtmhjddmamknglaaGreat
set_option maxRecDepth 100000
set_option linter.unusedSimpArgs false
set_option linter.unusedVariables false
open Go.RowKit
set_option maxHeartbeats 8000000

theorem sortWorld_heap (w : World) (b m : Nat) (d : Array Frm) (os : Array Obj) (k : Nat) (hk : k < w.heap.size) : (sortWorld encF w b 0 m d os).heap[k]? = if k = b then (w.heap[k]?).map (Go.Sort.onCells (Go.Sort.putCells encF 0 d)) else w.heap[k]? := by
  have hsz : k < (w.heap.modify b (Go.Sort.onCells (Go.Sort.putCells encF 0 d))).size := by simpa using hk
  show ((w.heap.modify b (Go.Sort.onCells (Go.Sort.putCells encF 0 d))) ++ os)[k]? = _
  rw [Array.getElem?_append_left hsz, Array.getElem?_modify]
  by_cases e : b = k
  · rw [if_pos e, if_pos e.symm]
  · rw [if_neg e, if_neg (fun h => e h.symm)]
theorem sortWorld_size (w : World) (b m : Nat) (d : Array Frm) (os : Array Obj) : w.heap.size ≤ (sortWorld encF w b 0 m d os).heap.size := by
  show w.heap.size ≤ ((w.heap.modify b (Go.Sort.onCells (Go.Sort.putCells encF 0 d))) ++ os).size
  simp
theorem sortWorld_only (w : World) (b m : Nat) (d : Array Frm) (os : Array Obj) : Only (fun q => q = b) w (sortWorld encF w b 0 m d os) :=
  ⟨rfl, rfl, rfl, sortWorld_size w b m d os, fun k hk hn => by rw [sortWorld_heap w b m d os k hk, if_neg hn]⟩
theorem putCells_take (d : Array Frm) (c : Array Value) (h : d.size ≤ c.size) : (Go.Sort.putCells encF 0 d c).toList.take d.size = d.toList.map encF := by
  apply List.ext_getElem
  · simp [Go.Sort.putCells]; omega
  · intro j h1 h2
    have hj : j < d.size := by simpa using h2
    simp [Go.Sort.putCells, hj]
def frm (f : Nat) : Frm := if h : f < 100000000 then ⟨f, h⟩ else default
theorem frm_val {f : Nat} (h : f < 100000000) : (frm f).1 = f := by unfold frm; rw [dif_pos h]
theorem encF_list (l : List Nat) (h : ∀ f ∈ l, f < 100000000) : (l.map frm).map encF = ncells l := by
  unfold ncells
  rw [List.map_map]
  refine List.map_congr_left fun f hf => ?_
  simp only [Function.comp, encF, frm_val (h f hf), I64]
theorem encF_back (d : List Frm) : d.map encF = ncells (d.map (·.1)) := by simp [ncells, encF, I64]
theorem page_sort {w0 : World} {g pb : Nat} {s : PgS} {p : Pg.P} {A : Option Addr} {n0 c0 base : Nat} {l : List Nat} (hown : Own w0 base 3 1 A n0 c0 (ncells l)) (h1 : 0 < n0) (hn1 : n0 ≤ 1000000) (hl : ∀ f ∈ l, f < 100000000)
    (H : ∀ u, Only (fun q => ownAt A c0 = some q) w0 u → PWk u g s p) (hb : ∀ u, Only (fun q => ownAt A c0 = some q) w0 u → Blk u pb 27 #[.pointer (some ⟨g, 0, none⟩)]) {K : Int} (hK : Cel.Fine K p.m) (h0 : 0 ≤ K ∧ K ≤ 4611686018427387904) :
    Calls Tryz.prog 60 #[.slice A n0 c0, .func (.func 61) #[] #[.pointer (some ⟨pb, 0, none⟩)]] w0 fun e w' => e = .returned (.tuple #[]) ∧ ∃ l', l'.Perm l ∧ Own w' base 3 1 A n0 c0 (ncells l') ∧ Only (fun q => ownAt A c0 = some q) w0 w' := by
  have hlen : l.length = n0 := by have := hown.len; simpa [ncells] using this
  have hle := hown.le
  obtain ⟨gF, cur, rfl, hbase, hh, hc, ht⟩ := hown.2.2.2 (by omega)
  have hoA : ownAt (some ⟨gF, 0, none⟩) c0 = some gF := by unfold ownAt; rw [if_neg (by omega)]; rfl
  obtain ⟨d, hd⟩ : ∃ d, d = (l.map frm).toArray := ⟨_, rfl⟩
  have hds : d.size = n0 := by rw [hd]; simpa using hlen
  have hlt : gF < w0.heap.size := (Array.getElem?_eq_some_iff.1 hh).1
  have hds2 : (d.toList.map encF) = ncells l := by rw [hd]; exact encF_list l hl
  have hcell : ∀ j, j < n0 → w0.cell? ⟨gF, 0 + j, none⟩ = some (encF d[j]!) := fun j hj => by
    have h2 : (cur.toList.take (n0 * 1))[j]? = (ncells l)[j]? := by rw [ht]
    rw [← hds2] at h2
    rw [List.getElem?_take, if_pos (by omega), List.getElem?_map, Array.getElem?_toList, Array.getElem?_toList, Array.getElem?_eq_getElem (show j < d.size by omega)] at h2
    have h3 : Blk w0 gF 3 cur := hh
    rw [Nat.zero_add, h3.cell, h2, getElem!_pos d j (by omega)]
    rfl
  have hH : Go.Sort.Holds encF w0 gF 0 d := fun j hj => ⟨hcell j (by omega), (show Blk w0 gF 3 cur from hh).frozen _⟩
  have eg : ∀ args w, (callFunc 61 args).run Tryz.prog w = .ok (.enter 61 args) w := enters_of Tryz.func61 (by kernel_rfl) rfl
  have hcmp : CmpReads Tryz.prog 61 #[.pointer (some ⟨pb, 0, none⟩)] encF (wdiff p.m) gF 0 d.size w0 := fun m os dk _ x y => by
    have ho : Only (fun q => ownAt (some ⟨gF, 0, none⟩) c0 = some q) w0 (sortWorld encF w0 gF 0 m dk os) := (sortWorld_only w0 gF m dk os).mono fun q _ e => by rw [hoA, e]
    exact page_order1 (H _ ho) (hb _ ho) hK h0 x y
  have hcon := Any.slices_SortFunc Tryz.sortL encF (fun _ => rfl) (wdiff p.m) (wdiff_swo p.m) 61 #[.pointer (some ⟨pb, 0, none⟩)] gF 0 c0 d w0 eg hcmp.lays hH hlt (by omega)
  change Calls Tryz.prog 60 _ _ _ at hcon
  rw [hds] at hcon
  refine hcon.mono ?_
  rintro e w' ⟨rfl, d', m, os, ⟨p1, _, p3⟩, _, rfl⟩
  have hext : ∀ x : Array Frm, x.size = n0 → x.extract 0 n0 = x := fun x hx => by rw [← hx]; exact Array.extract_size
  rw [hext _ hds, hext _ (by omega)] at p3
  refine ⟨rfl, d'.toList.map (·.1), ?_, ?_, (sortWorld_only w0 gF m d' os).mono fun q _ e => by rw [hoA, e]⟩
  · have h2 := p3.map (fun x : Frm => x.1)
    have h3 : d.toList.map (fun x : Frm => x.1) = l := by
      rw [hd, List.toList_toArray, List.map_map]
      conv => rhs; rw [← List.map_id l]
      exact List.map_congr_left fun f hf => frm_val (hl f hf)
    rw [h3] at h2
    exact h2
  · have hb2 : (sortWorld encF w0 gF 0 m d' os).heap[gF]? = some (.cells (Go.Sort.putCells encF 0 d' cur) 3 (0, 0)) := by
      rw [sortWorld_heap w0 gF m d' os gF hlt, if_pos rfl, hh]; rfl
    refine ⟨by rw [← encF_back]; simp; omega, hle, hown.2.2.1, fun _ => ⟨gF, _, rfl, hbase, hb2, by simpa [Go.Sort.putCells] using hc, ?_⟩⟩
    have h4 := putCells_take d' cur (by omega)
    rw [show n0 * 1 = d'.size by omega, h4, encF_back]
end Go.Proofs.YtmhjddmamknglaaGreat
end

section
namespace Go.Proofs.YtmhjddmamknglaaGreat
set_option maxRecDepth 100000
set_option linter.unusedSimpArgs false
set_option linter.unusedVariables false
open Go.RowKit

section
variable {P : Program}
theorem equalIn_func_nil (d : Nat) {t : TypeId} {ps rs : Array TypeId} {vr : Bool} (h : P.underlying t = some (.func ps rs vr)) (fn : Fn) (a b : Array Value) (w : World) : (Op.equalIn (d + 1) t (.func fn a b) .nilFunc).run P w = .ok false w := by
  simp [Op.equalIn, run_underlying h]
theorem equalIn_nil_nil (d : Nat) {t : TypeId} {ps rs : Array TypeId} {vr : Bool} (h : P.underlying t = some (.func ps rs vr)) (w : World) : (Op.equalIn (d + 1) t .nilFunc .nilFunc).run P w = .ok true w := by
  simp [Op.equalIn, run_underlying h]
theorem equal_func_nil {t : TypeId} {ps rs : Array TypeId} {vr : Bool} (h : P.underlying t = some (.func ps rs vr)) (fn : Fn) (a b : Array Value) (w : World) : (Op.equal t (.func fn a b) .nilFunc).run P w = .ok false w := equalIn_func_nil 9999 h fn a b w
theorem equal_nil_nil {t : TypeId} {ps rs : Array TypeId} {vr : Bool} (h : P.underlying t = some (.func ps rs vr)) (w : World) : (Op.equal t .nilFunc .nilFunc).run P w = .ok true w := equalIn_nil_nil 9999 h w
theorem eql_func_nil {t : TypeId} {ps rs : Array TypeId} {vr : Bool} (h : P.underlying t = some (.func ps rs vr)) (fn : Fn) (a b : Array Value) (w : World) : (binOp .eql t (.func fn a b) .nilFunc).run P w = .ok (.bool false) w := by
  simp only [binOp]
  simp [equal_func_nil h]
theorem neq_func_nil {t : TypeId} {ps rs : Array TypeId} {vr : Bool} (h : P.underlying t = some (.func ps rs vr)) (fn : Fn) (a b : Array Value) (w : World) : (binOp .neq t (.func fn a b) .nilFunc).run P w = .ok (.bool true) w := by
  simp only [binOp]
  simp [equal_func_nil h]
theorem eql_nil_nil {t : TypeId} {ps rs : Array TypeId} {vr : Bool} (h : P.underlying t = some (.func ps rs vr)) (w : World) : (binOp .eql t .nilFunc .nilFunc).run P w = .ok (.bool true) w := by
  simp only [binOp]
  simp [equal_nil_nil h]
theorem neq_nil_nil {t : TypeId} {ps rs : Array TypeId} {vr : Bool} (h : P.underlying t = some (.func ps rs vr)) (w : World) : (binOp .neq t .nilFunc .nilFunc).run P w = .ok (.bool false) w := by
  simp only [binOp]
  simp [equal_nil_nil h]
theorem neq_map_nil {t k e : TypeId} (h : P.underlying t = some (.map k e)) (m : Option Nat) (w : World) : (binOp .neq t (.map m) (.map none)).run P w = .ok (.bool (!m.isNone)) w := Go.run_neq_map_nil w t k e m h
theorem make_func (fn : Fn) (a b : Array Value) (w : World) : (Instr.makeFunc fn a b).run P w = .ok (.func fn a b) w := rfl
end
end Go.Proofs.YtmhjddmamknglaaGreat
end

section
namespace Go.Proofs.YtmhjddmamknglaaGreat.Pg
set_option maxRecDepth 100000
set_option linter.unusedSimpArgs false
set_option linter.unusedVariables false
open Go.Proofs.YtmhjddmamknglaaGreat

def upd (fr : Fs) (f : Nat) (x : Option Fr) : Fs := fun g => if g = f then x else fr g
theorem upd_same (fr : Fs) (f : Nat) (x : Option Fr) : upd fr f x f = x := if_pos rfl
theorem upd_other (fr : Fs) {f g : Nat} (x : Option Fr) (h : g ≠ f) : upd fr f x g = fr g := if_neg h
section
variable {fr : Fs} {count frames v f i : Nat} {at_ holds : List (Option Nat)} {x : Fr}
/-- No page lies in a free frame. -/
theorem Cur.free (h : Cur fr count frames frames at_ holds v) (hf : f < frames) (hfree : holds.getD f none = none) {j : Nat} (hj : j < count) : at_.getD j none ≠ some f := fun e => by
  have := (h.held f hf j).2 ⟨hj, e⟩
  rw [hfree] at this; cases this
theorem Cur.clear (h : Cur fr count frames frames at_ holds v) (hf : f < frames) (hfree : holds.getD f none = none) : Cur (upd fr f none) count frames frames at_ holds v :=
  { la := h.la, lh := h.lh, held := h.held
    none_ := fun j hj hn g hg y hy => by
      by_cases e : g = f
      · subst e; rw [upd_same] at hy; cases hy
      · rw [upd_other _ _ e] at hy; exact h.none_ j hj hn g hg y hy
    some_ := fun j hj g hs => by
      obtain ⟨h1, y, h2, h3, h4⟩ := h.some_ j hj g hs
      have hgf : g ≠ f := fun e => h.free hf hfree hj (e ▸ hs)
      refine ⟨h1, y, by rw [upd_other _ _ hgf]; exact h2, h3, fun k hk z hz hp => ?_⟩
      by_cases e : k = f
      · subst e; rw [upd_same] at hz; cases hz
      · rw [upd_other _ _ e] at hz; exact h4 k hk z hz hp
    ver := fun g hg y hy => by
      by_cases e : g = f
      · subst e; rw [upd_same] at hy; cases hy
      · rw [upd_other _ _ e] at hy; exact h.ver g hg y hy }
theorem Cur.put (h : Cur fr count frames frames at_ holds v) (hf : f < frames) (hfree : holds.getD f none = none) (hx : x.page < count) (hv : v < x.ver) {holds' : List (Option Nat)} (hl : holds'.length = holds.length)
    (hh : ∀ g, g < frames → holds'.getD g none = if at_.getD x.page none = some g then none else holds.getD g none) :
    Cur (upd fr f (some x)) count frames frames (at_.set x.page (some f)) (holds'.set f (some x.page)) x.ver := by
  have hset : ∀ j, (at_.set x.page (some f)).getD j none = if j = x.page then some f else at_.getD j none := fun j => getD_set at_ _ j _ _ (by rw [h.la]; exact hx)
  have hseth : ∀ g, (holds'.set f (some x.page)).getD g none = if g = f then some x.page else holds'.getD g none := fun g => getD_set holds' _ g _ _ (by rw [hl, h.lh]; exact hf)
  have hver : ∀ g, g < frames → ∀ y, (upd fr f (some x)) g = some y → y.ver ≤ x.ver := fun g hg y hy => by
    by_cases e : g = f
    · subst e; rw [upd_same] at hy; cases hy; exact Nat.le_refl _
    · rw [upd_other _ _ e] at hy; have := h.ver g hg y hy; omega
  refine { la := by rw [List.length_set]; exact h.la, lh := by rw [List.length_set, hl]; exact h.lh, none_ := fun j hj hn g hg y hy => ?_, some_ := fun j hj g hs => ?_, held := fun g hg j => ?_, ver := hver }
  · rw [hset] at hn
    by_cases e : j = x.page
    · rw [if_pos e] at hn; cases hn
    rw [if_neg e] at hn
    by_cases e2 : g = f
    · subst e2; rw [upd_same] at hy; cases hy; exact fun e3 => e e3.symm
    · rw [upd_other _ _ e2] at hy; exact h.none_ j hj hn g hg y hy
  · rw [hset] at hs
    by_cases e : j = x.page
    · rw [if_pos e] at hs
      obtain rfl : f = g := by cases hs; rfl
      exact ⟨hf, x, upd_same _ _ _, e.symm, fun k hk y hy _ => hver k hk y hy⟩
    · rw [if_neg e] at hs
      obtain ⟨h1, y, h2, h3, h4⟩ := h.some_ j hj g hs
      have hgf : g ≠ f := fun e => h.free hf hfree hj (e ▸ hs)
      refine ⟨h1, y, by rw [upd_other _ _ hgf]; exact h2, h3, fun k hk z hz hp => ?_⟩
      by_cases e2 : k = f
      · subst e2; rw [upd_same] at hz; cases hz; exact absurd hp.symm e
      · rw [upd_other _ _ e2] at hz; exact h4 k hk z hz hp
  · rw [hseth, hset]
    by_cases e : g = f
    · rw [if_pos e]
      subst e
      constructor
      · intro h1
        obtain rfl : x.page = j := by cases h1; rfl
        exact ⟨hx, by rw [if_pos rfl]⟩
      · rintro ⟨h1, h2⟩
        by_cases e2 : j = x.page
        · rw [e2]
        · rw [if_neg e2] at h2
          exact absurd h2 (h.free hf hfree h1)
    · rw [if_neg e, hh g hg]
      constructor
      · intro h1
        by_cases ha : at_.getD x.page none = some g
        · rw [if_pos ha] at h1; cases h1
        rw [if_neg ha] at h1
        obtain ⟨h2, h3⟩ := (h.held g hg j).1 h1
        refine ⟨h2, ?_⟩
        rw [if_neg (fun e2 => ha (by rw [← e2]; exact h3))]
        exact h3
      · rintro ⟨h1, h2⟩
        by_cases e2 : j = x.page
        · rw [if_pos e2] at h2
          exact absurd (by cases h2; rfl) e
        rw [if_neg e2] at h2
        have h3 := (h.held g hg j).2 ⟨h1, h2⟩
        rw [if_neg]
        · exact h3
        · intro ha
          have h4 := (h.held g hg x.page).2 ⟨hx, ha⟩
          rw [h3] at h4
          exact e2 (by cases h4; rfl)
theorem FsOk.put (h : FsOk fr count frames v) (hx : x.page < count) (hd : x.data.length = 48) (hv : v < x.ver) : FsOk (upd fr f (some x)) count frames x.ver :=
  { ok := fun g hg y hy => by
      by_cases e : g = f
      · subst e; rw [upd_same] at hy; cases hy; exact ⟨hx, hd, Nat.le_refl _⟩
      · rw [upd_other _ _ e] at hy; obtain ⟨a, b, c⟩ := h.ok g hg y hy; exact ⟨a, b, by omega⟩
    diff := fun g hg k hk y z hy hz hvz => by
      by_cases e : g = f
      · subst e; rw [upd_same] at hy; cases hy
        by_cases e2 : k = g
        · exact e2.symm
        · rw [upd_other _ _ e2] at hz; have := (h.ok k hk z hz).2.2; omega
      · rw [upd_other _ _ e] at hy
        by_cases e2 : k = f
        · subst e2; rw [upd_same] at hz; cases hz; have := (h.ok g hg y hy).2.2; omega
        · rw [upd_other _ _ e2] at hz; exact h.diff g hg k hk y z hy hz hvz }
theorem FsOk.clear (h : FsOk fr count frames v) : FsOk (upd fr f none) count frames v :=
  { ok := fun g hg y hy => by
      by_cases e : g = f
      · subst e; rw [upd_same] at hy; cases hy
      · rw [upd_other _ _ e] at hy; exact h.ok g hg y hy
    diff := fun g hg k hk y z hy hz hvz => by
      by_cases e : g = f
      · subst e; rw [upd_same] at hy; cases hy
      rw [upd_other _ _ e] at hy
      by_cases e2 : k = f
      · subst e2; rw [upd_same] at hz; cases hz
      · rw [upd_other _ _ e2] at hz; exact h.diff g hg k hk y z hy hz hvz }
theorem FsOk.mono {v' : Nat} (h : FsOk fr count frames v) (hv : v ≤ v') : FsOk fr count frames v' :=
  { ok := fun g hg y hy => by obtain ⟨a, b, c⟩ := h.ok g hg y hy; exact ⟨a, b, by omega⟩, diff := h.diff }
end
/-! Words. -/
abbrev Ws := List UInt32
structure Rw (ws : Ws) (a n : Nat) : Prop where
  lt : a < ws.length
  val : (Ecc.decode (ws.getD a 0).toNat).1 = n
  good : (Ecc.decode (ws.getD a 0).toNat).2 ≠ 2
def Exact (ws : Ws) : Prop := ∀ a, a < ws.length → (Ecc.decode (ws.getD a 0).toNat).2 = 0
theorem read_on {m : Cel.Mem} {a : Nat} (ho : m.off = false) (ha : a < m.words.length) : m.read a = (m.words.getD a 0, 0) := by
  unfold Cel.Mem.read
  have : m.access (a : Int) = 0 := (Cel.Mem.access_zero m _).2 ⟨ho, (Cel.Mem.has_iff m _).2 ⟨by omega, by omega⟩⟩
  rw [if_neg (by rw [this]; decide), Int.toNat_natCast]
theorem word_on {m : Cel.Mem} {a : Nat} (ho : m.off = false) (ha : a < m.words.length) : word m a = ((Ecc.decode (m.words.getD a 0).toNat).1, decide ((Ecc.decode (m.words.getD a 0).toNat).2 ≠ 2), if (Ecc.decode (m.words.getD a 0).toNat).2 = 1 then 1 else 0) := by
  unfold word
  rw [read_on ho ha, if_neg (by simp)]
theorem Rw.rd {m : Cel.Mem} {a n : Nat} (h : Rw m.words a n) (ho : m.off = false) : Rd m a n := by
  unfold Rd
  rw [word_on ho h.lt]
  exact ⟨h.val, decide_eq_true h.good⟩
def WShows (ws : Ws) (fr : Fs) (frames : Nat) : Prop := ∀ f, f < frames → match fr f with
  | none => Rw ws (f * 20 + 19) 0
  | some x => ∀ i, i < 20 → Rw ws (f * 20 + i) (x.all.getD i 0)
theorem WShows.no {ws : Ws} {fr : Fs} {frames f : Nat} (h : WShows ws fr frames) (hf : f < frames) (e : fr f = none) : Rw ws (f * 20 + 19) 0 := by
  have := h f hf; rw [e] at this; exact this
theorem WShows.yes {ws : Ws} {fr : Fs} {frames f : Nat} {x : Fr} (h : WShows ws fr frames) (hf : f < frames) (e : fr f = some x) {i : Nat} (hi : i < 20) : Rw ws (f * 20 + i) (x.all.getD i 0) := by
  have := h f hf; rw [e] at this; exact this i hi
theorem WShows.shows {m : Cel.Mem} {fr : Fs} {frames : Nat} (h : WShows m.words fr frames) (ho : m.off = false) : Shows m fr frames := by
  intro f hf
  cases e : fr f with
  | none => exact (h.no hf e).rd ho
  | some x => exact fun i hi => (h.yes hf e hi).rd ho
/-- The words behind writes into frame f. -/
def putw (f : Nat) : List (Nat × Nat) → Ws → Ws
  | [], ws => ws
  | x :: l, ws => putw f l (ws.set (f * 20 + x.1) (UInt32.ofNat (Ecc.code x.2)))
theorem putw_cons (f : Nat) (x : Nat × Nat) (l : List (Nat × Nat)) (ws : Ws) : putw f (x :: l) ws = putw f l (ws.set (f * 20 + x.1) (UInt32.ofNat (Ecc.code x.2))) := rfl
theorem putw_one (f : Nat) (x : Nat × Nat) (ws : Ws) : putw f [x] ws = ws.set (f * 20 + x.1) (UInt32.ofNat (Ecc.code x.2)) := rfl
theorem code_u32 (n : Nat) : (UInt32.ofNat (Ecc.code n)).toNat = Ecc.code n := by
  have := Ecc.code_lt n
  simp only [UInt32.toNat_ofNat']
  omega
theorem putw_length (f : Nat) (l : List (Nat × Nat)) (ws : Ws) : (putw f l ws).length = ws.length := by
  induction l generalizing ws with
  | nil => rfl
  | cons x l ih => unfold putw; rw [ih, List.length_set]
theorem putw_append (f : Nat) (l r : List (Nat × Nat)) (ws : Ws) : putw f (l ++ r) ws = putw f r (putw f l ws) := by
  induction l generalizing ws with
  | nil => rfl
  | cons x l ih => simp only [List.cons_append, putw]; rw [ih]
theorem putw_other (f : Nat) (l : List (Nat × Nat)) (ws : Ws) (a : Nat) (h : ∀ x ∈ l, a ≠ f * 20 + x.1) : (putw f l ws).getD a 0 = ws.getD a 0 := by
  induction l generalizing ws with
  | nil => rfl
  | cons x l ih =>
    rw [putw_cons, ih _ (fun y hy => h y (List.mem_cons_of_mem _ hy))]
    simp only [List.getD, List.getElem?_set]
    rw [if_neg (fun e => h x List.mem_cons_self e.symm)]
theorem set_at (ws : Ws) (a n : Nat) (ha : a < ws.length) (hn : n < 16777216) : Rw (ws.set a (UInt32.ofNat (Ecc.code n))) a n := by
  have e : (ws.set a (UInt32.ofNat (Ecc.code n))).getD a 0 = UInt32.ofNat (Ecc.code n) := by rw [getD_set ws a a _ _ ha, if_pos rfl]
  have hd := Ecc.decode_code n hn
  refine ⟨by rw [List.length_set]; exact ha, ?_, ?_⟩ <;> rw [e, code_u32, hd]
  simp
theorem Rw.of_getD {ws ws' : Ws} {a n : Nat} (h : Rw ws a n) (hl : ws'.length = ws.length) (e : ws'.getD a 0 = ws.getD a 0) : Rw ws' a n := ⟨by rw [hl]; exact h.lt, by rw [e]; exact h.val, by rw [e]; exact h.good⟩
theorem Exact.set {ws : Ws} (h : Exact ws) (a n : Nat) (hn : n < 16777216) : Exact (ws.set a (UInt32.ofNat (Ecc.code n))) := by
  intro b hb
  rw [List.length_set] at hb
  by_cases ha : a < ws.length
  · rw [getD_set ws a b _ _ ha]
    split
    · rw [code_u32, Ecc.decode_code n hn]
    · exact h b hb
  · rw [List.set_eq_of_length_le (by omega)]; exact h b hb
theorem Exact.putw {ws : Ws} (h : Exact ws) (f : Nat) (l : List (Nat × Nat)) (hl : ∀ x ∈ l, x.2 < 16777216) : Exact (putw f l ws) := by
  induction l generalizing ws with
  | nil => exact h
  | cons x l ih => exact ih (h.set _ _ (hl x List.mem_cons_self)) (fun y hy => hl y (List.mem_cons_of_mem _ hy))
def mid (W : List Nat) (n : Nat) : List (Nat × Nat) := (List.range n).map fun k => (k, W.getD k 0)
theorem mid_succ (W : List Nat) (n : Nat) : mid W (n + 1) = mid W n ++ [(n, W.getD n 0)] := by simp [mid, List.range_succ]
theorem plan_mid (W : List Nat) (h : W.length = 19) : plan W = (19, 0) :: (mid W 19 ++ [(19, sealOf W)]) := by
  unfold plan mid; rw [h]; rfl
theorem mid_at (f : Nat) (W : List Nat) (hW : ∀ k, W.getD k 0 < 16777216) (ws : Ws) (hf : f * 20 + 20 ≤ ws.length) : ∀ n, n ≤ 19 → ∀ i, i < n → Rw (putw f (mid W n) ws) (f * 20 + i) (W.getD i 0) := by
  intro n
  induction n with
  | zero => intro _ i hi; omega
  | succ n ih =>
    intro hn i hi
    rw [mid_succ, putw_append, putw_one]
    by_cases e : i = n
    · subst e
      exact set_at _ _ _ (by rw [putw_length]; omega) (hW _)
    · refine (ih (by omega) i (by omega)).of_getD (by rw [List.length_set]) ?_
      rw [getD_set _ _ _ _ _ (by rw [putw_length]; omega), if_neg (by omega)]
theorem mid_pos {W : List Nat} {n : Nat} {x : Nat × Nat} (h : x ∈ mid W n) : x.1 < n := by
  unfold mid at h
  obtain ⟨k, hk, rfl⟩ := List.mem_map.1 h
  exact List.mem_range.1 hk
/-- All is written. -/
theorem plan_done (f : Nat) (W : List Nat) (hl : W.length = 19) (hW : ∀ k, W.getD k 0 < 16777216) (ws : Ws) (hf : f * 20 + 20 ≤ ws.length) : ∀ i, i < 20 → Rw (putw f (plan W) ws) (f * 20 + i) ((W ++ [sealOf W]).getD i 0) := by
  intro i hi
  rw [plan_mid W hl, putw_cons, putw_append, putw_one]
  dsimp only
  by_cases e : i = 19
  · subst e
    have : (W ++ [sealOf W]).getD 19 0 = sealOf W := by have := getD_last W (sealOf W); rwa [hl] at this
    rw [this]
    exact set_at _ _ _ (by rw [putw_length, List.length_set]; omega) (sealOf_lt W)
  · have : (W ++ [sealOf W]).getD i 0 = W.getD i 0 := getD_app (by omega)
    rw [this]
    refine (mid_at f W hW (ws.set (f * 20 + 19) (UInt32.ofNat (Ecc.code 0))) (by rw [List.length_set]; omega) 19 (Nat.le_refl _) i (by omega)).of_getD (by rw [List.length_set]) ?_
    rw [getD_set _ _ _ _ _ (by rw [putw_length, List.length_set]; omega), if_neg (by omega)]
/-- A part is written. -/
theorem plan_part (f : Nat) (W : List Nat) (hl : W.length = 19) (ws : Ws) (hf : f * 20 + 20 ≤ ws.length) (k : Nat) (hk : k < 20) : Rw (putw f ((plan W).take (k + 1)) ws) (f * 20 + 19) 0 := by
  have e : (plan W).take (k + 1) = (19, 0) :: (mid W 19).take k := by
    rw [plan_mid W hl, List.take_succ_cons, List.take_append_of_le_length (by simp [mid]; omega)]
  rw [e, putw_cons]
  refine (set_at ws (f * 20 + 19) 0 (by omega) (by decide)).of_getD (putw_length _ _ _) (putw_other _ _ _ _ fun x hx => ?_)
  have := mid_pos (List.mem_of_mem_take hx); omega
theorem plan_pos {W : List Nat} (hl : W.length = 19) {x : Nat × Nat} (h : x ∈ plan W) : x.1 < 20 := by
  rw [plan_mid W hl] at h
  rcases List.mem_cons.1 h with rfl | h
  · show 19 < 20; omega
  rcases List.mem_append.1 h with h | h
  · have := mid_pos h; omega
  · obtain rfl := List.mem_singleton.1 h
    show 19 < 20; omega
theorem plan_lt {W : List Nat} (hl : W.length = 19) (hW : ∀ k, W.getD k 0 < 16777216) {x : Nat × Nat} (h : x ∈ plan W) : x.2 < 16777216 := by
  rw [plan_mid W hl] at h
  rcases List.mem_cons.1 h with rfl | h
  · show 0 < 16777216; omega
  rcases List.mem_append.1 h with h | h
  · unfold mid at h
    obtain ⟨k, hk, rfl⟩ := List.mem_map.1 h
    exact hW k
  · obtain rfl := List.mem_singleton.1 h
    exact sealOf_lt W
theorem plan_length {W : List Nat} (hl : W.length = 19) : (plan W).length = 21 := by rw [plan_mid W hl]; simp [mid]
section
variable {ws : Ws} {fr : Fs} {frames f : Nat}
def ShowsF (ws : Ws) (f : Nat) : Option Fr → Prop
  | none => Rw ws (f * 20 + 19) 0
  | some x => ∀ i, i < 20 → Rw ws (f * 20 + i) (x.all.getD i 0)
theorem WShows.upd {ws' : Ws} {y : Option Fr} (h : WShows ws fr frames) (hl : ws'.length = ws.length) (ho : ∀ g i, g ≠ f → i < 20 → ws'.getD (g * 20 + i) 0 = ws.getD (g * 20 + i) 0)
    (hy : ShowsF ws' f y) : WShows ws' (upd fr f y) frames := by
  intro g hg
  by_cases e : g = f
  · subst e
    rw [upd_same]
    cases y <;> exact hy
  · rw [upd_other _ _ e]
    cases e2 : fr g with
    | none => exact (h.no hg e2).of_getD hl (ho g 19 e (by omega))
    | some x => exact fun i hi => (h.yes hg e2 hi).of_getD hl (ho g i e hi)
theorem putw_frame {l : List (Nat × Nat)} (h : ∀ x ∈ l, x.1 < 20) (ws : Ws) (g i : Nat) (hg : g ≠ f) (hi : i < 20) : (putw f l ws).getD (g * 20 + i) 0 = ws.getD (g * 20 + i) 0 := by
  refine putw_other _ _ _ _ fun x hx e => ?_
  have := h x hx
  rcases Nat.lt_or_gt_of_ne hg with h1 | h1 <;> omega
theorem Fr.words_lt (x : Fr) (hp : x.page < 16777216) (hv : x.ver < 281474976710656) (k : Nat) : x.words.getD k 0 < 16777216 := by
  have h := frameWords_lt x.page x.ver x.data hp hv
  rw [List.getD]
  cases hk : x.words[k]? with
  | none => simp
  | some y => exact h y (List.mem_of_getElem? hk)
theorem WShows.put (h : WShows ws fr frames) (hf : f < frames) (hfr : frames * 20 ≤ ws.length) (x : Fr) (hp : x.page < 16777216) (hv : x.ver < 281474976710656) : WShows (putw f (plan x.words) ws) (Pg.upd fr f (some x)) frames :=
  h.upd (putw_length _ _ _) (fun g i hg hi => putw_frame (fun y hy => plan_pos x.words_length hy) ws g i hg hi) (plan_done f x.words x.words_length (x.words_lt hp hv) ws (by omega))
theorem WShows.part (h : WShows ws fr frames) (hf : f < frames) (hfr : frames * 20 ≤ ws.length) (W : List Nat) (hl : W.length = 19) (k : Nat) (hk : k < 20) : WShows (putw f ((plan W).take (k + 1)) ws) (Pg.upd fr f none) frames :=
  h.upd (putw_length _ _ _) (fun g i hg hi => putw_frame (fun y hy => plan_pos hl (List.mem_of_mem_take hy)) ws g i hg hi) (plan_part f W hl ws (by omega) k hk)
end
end Go.Proofs.YtmhjddmamknglaaGreat.Pg
end

section
namespace Go.Proofs.YtmhjddmamknglaaGreat.Pg
set_option maxRecDepth 100000
set_option linter.unusedSimpArgs false
set_option linter.unusedVariables false
open Go.Proofs.YtmhjddmamknglaaGreat

/-- One write: the power lasts, or is cut. -/
theorem write_run {m : Cel.Mem} {a : Nat} {K : Int} (ho : m.off = false) (ha : a < m.words.length) (hf : Cel.Fine K m) (h0 : 0 ≤ K) (hK : K + 1 ≤ m.endurance) (v : UInt32) :
    (∃ m', m.write (a : Nat) v = (m', 0) ∧ m'.words = m.words.set a v ∧ m'.off = false ∧ m'.endurance = m.endurance ∧ m'.cuts = m.cuts ∧ m'.writes = m.writes + 1 ∧ m'.wear = m.wear.set a (m.wear.getD a 0 + 1) ∧ (m.pending = false → m'.pending = false)) ∨
      (m.pending = true ∧ m.write (a : Nat) v = (m.down, 7)) := by
  have hacc : m.access (a : Int) = 0 := (Cel.Mem.access_zero m _).2 ⟨ho, (Cel.Mem.has_iff m _).2 ⟨by omega, by omega⟩⟩
  by_cases hp : m.pending = true ∧ m.left = 0
  · exact .inr ⟨hp.1, Cel.Mem.write_cut m _ v hacc hp.1 hp.2⟩
  · have hg := hf.getD h0 a
    have ht : m.tick.words = m.words ∧ m.tick.off = m.off ∧ m.tick.endurance = m.endurance ∧ m.tick.cuts = m.cuts ∧ m.tick.writes = m.writes ∧ m.tick.wear = m.wear ∧ m.tick.pending = m.pending := by
      unfold Cel.Mem.tick; split <;> exact ⟨rfl, rfl, rfl, rfl, rfl, rfl, rfl⟩
    obtain ⟨t1, t2, t3, t4, t5, t6, t7⟩ := ht
    refine .inl ⟨m.tick.put a v, ?_, ?_, ?_, ?_, ?_, ?_, ?_, ?_⟩
    · rw [Cel.Mem.write_yes m _ v hacc hp, Int.toNat_natCast]
    · unfold Cel.Mem.put
      simp only
      rw [t6, t3, if_neg (by omega), t1]
    · show m.tick.off = false
      rw [t2]; exact ho
    · exact t3
    · exact t4
    · show m.tick.writes + 1 = _
      rw [t5]
    · show m.tick.wear.set a _ = _
      rw [t6]
    · intro h
      show m.tick.pending = false
      rw [t7]; exact h
def wearK (f : Nat) : List (Nat × Nat) → List Int → List Int
  | [], ws => ws
  | x :: l, ws => wearK f l (ws.set (f * 20 + x.1) (ws.getD (f * 20 + x.1) 0 + 1))
structure Wrote (f : Nat) (l : List (Nat × Nat)) (m m' : Cel.Mem) (K : Int) : Prop where
  words : m'.words = putw f l m.words
  off : m'.off = false
  endu : m'.endurance = m.endurance
  cuts : m'.cuts = m.cuts
  writes : m'.writes = m.writes + l.length
  wear : m'.wear = wearK f l m.wear
  pend : m.pending = false → m'.pending = false
  fine : Cel.Fine (K + l.length) m'
structure Broke (f : Nat) (l : List (Nat × Nat)) (m m' : Cel.Mem) (K : Int) : Prop where
  words : ∃ k, k < l.length ∧ m'.words = putw f (l.take k) m.words
  off : m'.off = true
  endu : m'.endurance = m.endurance
  cuts : m'.cuts = m.cuts + 1
  fine : Cel.Fine (K + l.length) m'
  wl : m'.wear.length = m.wear.length
  pend : m.pending = true
theorem put_run (f : Nat) (l : List (Nat × Nat)) : ∀ (m : Cel.Mem) (K : Int), m.off = false → (∀ x ∈ l, x.1 < 20) → f * 20 + 20 ≤ m.words.length → Cel.Fine K m → 0 ≤ K → K + l.length ≤ m.endurance →
    (∃ m', put f l m = (m', 0) ∧ Wrote f l m m' K) ∨ (∃ m', put f l m = (m', 7) ∧ Broke f l m m' K) := by
  induction l with
  | nil => exact fun m K ho _ _ hf _ _ => .inl ⟨m, rfl, ⟨rfl, ho, rfl, rfl, by simp, rfl, id, by simpa using hf⟩⟩
  | cons x l ih =>
    intro m K ho hx hl hf h0 hK
    have hx1 := hx x List.mem_cons_self
    simp only [List.length_cons] at hK
    have hfw := hf.write h0 ((f * 20 + x.1 : Nat) : Int) (UInt32.ofNat (Ecc.code x.2))
    have e1 : put f (x :: l) m = if (m.write (f * 20 + x.1 : Nat) (UInt32.ofNat (Ecc.code x.2))).2 ≠ 0 then m.write (f * 20 + x.1 : Nat) (UInt32.ofNat (Ecc.code x.2)) else put f l (m.write (f * 20 + x.1 : Nat) (UInt32.ofNat (Ecc.code x.2))).1 := rfl
    rcases write_run (a := f * 20 + x.1) ho (by omega) hf h0 (by omega) (UInt32.ofNat (Ecc.code x.2)) with ⟨m1, hw, a1, a2, a3, a4, a5, a6, a7⟩ | ⟨hp, hw⟩
    · rw [hw] at hfw e1
      rw [if_neg (by simp)] at e1
      rw [e1]
      rcases ih m1 (K + 1) a2 (fun y hy => hx y (List.mem_cons_of_mem _ hy)) (by rw [a1, List.length_set]; exact hl) hfw (by omega) (by rw [a3]; omega) with ⟨m2, h1, h2⟩ | ⟨m2, h1, h2⟩
      · refine .inl ⟨m2, h1, ⟨?_, h2.off, h2.endu.trans a3, h2.cuts.trans a4, ?_, ?_, fun hp => h2.pend (a7 hp), h2.fine.mono (by simp only [List.length_cons]; omega)⟩⟩
        · rw [h2.words, a1]; rfl
        · rw [h2.writes, a5]; simp only [List.length_cons]; omega
        · rw [h2.wear, a6]; rfl
      · obtain ⟨k, hk, hk2⟩ := h2.words
        refine .inr ⟨m2, h1, ⟨⟨k + 1, by simp only [List.length_cons]; omega, ?_⟩, h2.off, h2.endu.trans a3, by rw [h2.cuts, a4], h2.fine.mono (by simp only [List.length_cons]; omega), by rw [h2.wl, a6, List.length_set], ?_⟩⟩
        · rw [hk2, a1]; rfl
        · cases hpd : m.pending with
          | true => rfl
          | false => have := h2.pend; rw [a7 hpd] at this; cases this
    · rw [hw] at hfw e1
      rw [if_pos (by simp)] at e1
      refine .inr ⟨m.down, e1, ⟨⟨0, by simp, rfl⟩, rfl, rfl, rfl, hfw.mono (by simp only [List.length_cons]; omega), rfl, hp⟩⟩
/-- Of each page the newest frame says the bytes. -/
structure Disk (ws : Ws) (fr : Fs) (st : List (List UInt8)) (K : Nat) : Prop where
  shows : WShows ws fr (ws.length / 20)
  ok : FsOk fr (ws.length / 24) (ws.length / 20) K
  len : st.length = ws.length / 24
  none_ : ∀ i, i < ws.length / 24 → (∀ f, f < ws.length / 20 → ∀ x, fr f = some x → x.page ≠ i) → st.getD i [] = zero48
  some_ : ∀ i, i < ws.length / 24 → ∀ f, f < ws.length / 20 → ∀ x, fr f = some x → x.page = i → (∀ g, g < ws.length / 20 → ∀ y, fr g = some y → y.page = i → y.ver ≤ x.ver) → st.getD i [] = x.data
theorem Disk.mono {ws : Ws} {fr : Fs} {st : List (List UInt8)} {K K' : Nat} (h : Disk ws fr st K) (hK : K ≤ K') : Disk ws fr st K' := { h with ok := h.ok.mono hK }
theorem Disk.of_cur {ws : Ws} {fr : Fs} {st : List (List UInt8)} {K v count frames : Nat} {at_ holds : List (Option Nat)} (hs : WShows ws fr frames) (ho : FsOk fr count frames K) (hc : Cur fr count frames frames at_ holds v) (hl : st.length = count)
    (e1 : count = ws.length / 24) (e2 : frames = ws.length / 20) (h0 : ∀ i, i < count → at_.getD i none = none → st.getD i [] = zero48) (h1 : ∀ i, i < count → ∀ f x, at_.getD i none = some f → fr f = some x → st.getD i [] = x.data) : Disk ws fr st K := by
  subst e1; subst e2
  refine { shows := hs, ok := ho, len := hl, none_ := fun i hi hn => ?_, some_ := fun i hi f hf x hx hp hm => ?_ }
  · cases e : at_.getD i none with
    | none => exact h0 i hi e
    | some f =>
      obtain ⟨a, x, b, c, _⟩ := hc.some_ i hi f e
      exact absurd c (hn f a x b)
  · cases e : at_.getD i none with
    | none => exact absurd hp (hc.none_ i hi e f hf x hx)
    | some g =>
      obtain ⟨a, y, b, c, d⟩ := hc.some_ i hi g e
      have h3 := hm g a y b c
      have h4 := d f hf x hx hp
      obtain rfl := ho.diff f hf g a x y hx b (by omega)
      rw [b] at hx; cases hx
      exact h1 i hi _ _ e b
structure Inv (fr : Fs) (p : P) (st : List (List UInt8)) : Prop where
  disk : Disk p.m.words fr st p.version
  cnt : p.count = p.m.words.length / 24
  fms : p.frames = p.m.words.length / 20
  cur : Cur fr p.count p.frames p.frames p.at_ p.holds p.version
  fnd : p.freed.Nodup
  fmem : ∀ f, f ∈ p.freed ↔ f < p.frames ∧ p.holds.getD f none = none
  turn : p.turn < p.frames
section
variable {fr : Fs} {p : P} {st : List (List UInt8)} {i f : Nat}
theorem Inv.data_none (h : Inv fr p st) (hi : i < p.count) (e : p.at_.getD i none = none) : st.getD i [] = zero48 :=
  h.disk.none_ i (h.cnt ▸ hi) (fun f hf x hx => h.cur.none_ i hi e f (h.fms ▸ hf) x hx)
theorem Inv.data_some (h : Inv fr p st) (hi : i < p.count) (e : p.at_.getD i none = some f) : f < p.frames ∧ ∃ x, fr f = some x ∧ x.page = i ∧ x.data.length = 48 ∧ st.getD i [] = x.data := by
  obtain ⟨a, x, b, c, d⟩ := h.cur.some_ i hi f e
  exact ⟨a, x, b, c, (h.disk.ok.ok f (h.fms ▸ a) x b).2.1, h.disk.some_ i (h.cnt ▸ hi) f (h.fms ▸ a) x b c (fun g hg y hy hp => d g (h.fms ▸ hg) y hy hp)⟩
end
theorem sub_length : ∀ (l l' : List Nat), l.Nodup → (∀ x ∈ l, x ∈ l') → l.length ≤ l'.length := by
  intro l
  induction l with
  | nil => intro l' _ _; simp
  | cons a l ih =>
    intro l' hn hs
    rw [List.nodup_cons] at hn
    have ha := hs a List.mem_cons_self
    have := ih (l'.erase a) hn.2 (fun x hx => (List.mem_erase_of_ne (fun e => hn.1 (by rw [← e]; exact hx))).2 (hs x (List.mem_cons_of_mem _ hx)))
    rw [List.length_erase_of_mem ha] at this
    have := List.length_pos_of_mem ha
    simp only [List.length_cons]
    omega
theorem sub_map {α : Type} (g : Nat → α) (l : List Nat) (hn : l.Nodup) (hi : ∀ x ∈ l, ∀ y ∈ l, g x = g y → x = y) : (l.map g).Nodup := by
  induction l with
  | nil => exact List.nodup_nil
  | cons a l ih =>
    rw [List.nodup_cons] at hn
    rw [List.map_cons, List.nodup_cons]
    refine ⟨fun hm => ?_, ih hn.2 (fun x hx y hy => hi x (List.mem_cons_of_mem _ hx) y (List.mem_cons_of_mem _ hy))⟩
    obtain ⟨b, hb, e⟩ := List.mem_map.1 hm
    exact hn.1 (hi a List.mem_cons_self b (List.mem_cons_of_mem _ hb) e.symm ▸ hb)
theorem Inv.count_freed {fr : Fs} {p : P} {st : List (List UInt8)} (h : Inv fr p st) : p.frames ≤ p.freed.length + p.count ∧ p.freed.length ≤ p.frames := by
  have hr : ∀ n, (List.range n).Nodup := fun n => List.nodup_range
  refine ⟨?_, ?_⟩
  · let held := (List.range p.frames).filter fun f => (p.holds.getD f none).isSome
    have h1 : p.frames ≤ (p.freed ++ held).length := by
      have := sub_length (List.range p.frames) (p.freed ++ held) (hr _) (fun x hx => by
        rw [List.mem_append, h.fmem, List.mem_filter]
        have := List.mem_range.1 hx
        cases e : p.holds.getD x none with
        | none => exact .inl ⟨this, rfl⟩
        | some i => exact .inr ⟨hx, rfl⟩)
      rwa [List.length_range] at this
    have h2 : held.length ≤ p.count := by
      have hin : ∀ x ∈ held, ∃ i, p.holds.getD x none = some i ∧ i < p.count ∧ p.at_.getD i none = some x := fun x hx => by
        obtain ⟨a, b⟩ := List.mem_filter.1 hx
        obtain ⟨i, hi⟩ := Option.isSome_iff_exists.1 b
        exact ⟨i, hi, (h.cur.held x (List.mem_range.1 a) i).1 hi⟩
      have hm := sub_map (fun f => (p.holds.getD f none).getD 0) held ((hr _).filter _) (fun x hx y hy e => by
        obtain ⟨i, a1, _, a3⟩ := hin x hx
        obtain ⟨j, b1, _, b3⟩ := hin y hy
        simp only [a1, b1, Option.getD_some] at e
        subst e
        rw [a3] at b3; cases b3; rfl)
      have := sub_length _ (List.range p.count) hm (fun z hz => by
        obtain ⟨x, hx, rfl⟩ := List.mem_map.1 hz
        obtain ⟨i, a1, a2, _⟩ := hin x hx
        simp only [a1, Option.getD_some]
        exact List.mem_range.2 a2)
      rwa [List.length_map, List.length_range] at this
    rw [List.length_append] at h1
    omega
  · have := sub_length p.freed (List.range p.frames) h.fnd (fun x hx => List.mem_range.2 ((h.fmem x).1 hx).1)
    rwa [List.length_range] at this
/-! What lives, and what was cut. -/
structure Live (B : Nat) (fr : Fs) (p : P) (st : List (List UInt8)) : Prop where
  inv : Inv fr p st
  off : p.m.off = false
  cuts : p.m.cuts = p.cuts
  fine : Cel.Fine B p.m
  endu : p.m.endurance = 1073741824
  fixed : p.fixed ≤ B
  version : p.version ≤ B
  big : 240 ≤ p.m.words.length
  small : p.m.words.length ≤ 65536
  wl : p.m.wear.length = p.m.words.length
  low : 70000 ≤ B
structure Dead (B : Nat) (fr : Fs) (p : P) (st : List (List UInt8)) : Prop where
  disk : Disk p.m.words fr st B
  off : p.m.off = true
  cuts : p.m.cuts = p.cuts + 1
  cnt : p.count = p.m.words.length / 24
  fine : Cel.Fine B p.m
  endu : p.m.endurance = 1073741824
  big : 240 ≤ p.m.words.length
  small : p.m.words.length ≤ 65536
  wl : p.m.wear.length = p.m.words.length
  low : 70000 ≤ B
section
variable {B : Nat} {fr : Fs} {p : P} {st : List (List UInt8)} {i : Nat}
theorem Live.mono {B' : Nat} (h : Live B fr p st) (hB : B ≤ B') : Live B' fr p st := { h with fine := h.fine.mono (by omega), fixed := by have := h.fixed; omega, version := by have := h.version; omega, low := by have := h.low; omega }
theorem Live.alive (h : Live B fr p st) : p.alive = true := by unfold P.alive; rw [h.off, h.cuts]; simp
theorem Live.access (h : Live B fr p st) (i : Int) : p.access i = if i < 0 ∨ p.count ≤ i then 2 else 0 := by unfold P.access; rw [h.alive]; rfl
theorem Live.shows (h : Live B fr p st) : Shows p.m fr p.frames := by have := h.inv.disk.shows.shows h.off; rwa [← h.inv.fms] at this
theorem Live.more (h : Live B fr p st) {c : Nat} (hc : c ≤ 1000) : Live (B + 1000) fr (p.more c) st :=
  { inv := ⟨h.inv.disk, h.inv.cnt, h.inv.fms, h.inv.cur, h.inv.fnd, h.inv.fmem, h.inv.turn⟩, off := h.off, cuts := h.cuts, fine := h.fine.mono (by omega), endu := h.endu, fixed := by have := h.fixed; simp only [P.more]; omega, version := by have := h.version; simp only [P.more]; omega, big := h.big, small := h.small, wl := h.wl, low := by have := h.low; omega }
theorem Live.turned (h : Live B fr p st) : Live B fr p.turned st :=
  { h with inv := { h.inv with turn := by have := h.inv.turn; exact Nat.mod_lt _ (by omega) } }
theorem exact_word {m : Cel.Mem} (h : Exact m.words) (a : Nat) : (word m a).2.2 = 0 := by
  unfold word
  split
  · rfl
  · rename_i hr
    have ha : a < m.words.length := by
      unfold Cel.Mem.read at hr
      split at hr
      · rename_i h1; exact absurd h1 (by simpa using hr)
      · rename_i h1
        have h2 := (Cel.Mem.access_zero m (a : Int)).1 (by simpa using h1)
        have := (Cel.Mem.has_iff m _).1 h2.2; omega
    have hv : (m.read (a : Int)).1 = m.words.getD a 0 := by
      unfold Cel.Mem.read at hr ⊢
      split
      · rename_i h1; rw [if_pos h1] at hr; exact absurd h1 (by simpa using hr)
      · rw [Int.toNat_natCast]
    rw [hv, if_neg (by rw [h a ha]; decide)]
theorem exact_rdK {m : Cel.Mem} (h : Exact m.words) (f : Nat) : ∀ k, (rdK m f k).2.2 = 0
  | 0 => rfl
  | k + 1 => by
    have ih := exact_rdK h f k
    have hw := exact_word h (f * 20 + k)
    unfold rdK
    split
    · split <;> simp only [ih, hw]
    · exact ih
theorem exact_read {m : Cel.Mem} (h : Exact m.words) (f : Nat) : (read m f).2.2 = 0 := by
  unfold read
  split <;> simp only [exact_rdK h, exact_word h]
theorem exact_header {m : Cel.Mem} (h : Exact m.words) (count f : Nat) : (header m count f).2 = 0 := by
  unfold header
  split
  · exact exact_word h _
  · split <;> simp only [exact_read h, exact_word h]
theorem Live.content (h : Live B fr p st) (hi : i < p.count) : ∃ c, c ≤ 20 ∧ (Exact p.m.words → c = 0) ∧ p.content i = (st.getD i [], 0, c) := by
  unfold P.content
  cases e : p.at_.getD i none with
  | none => exact ⟨0, by omega, fun _ => rfl, by rw [h.inv.data_none hi e]⟩
  | some f =>
    obtain ⟨hf, x, h1, h2, h3, h4⟩ := h.inv.data_some hi e
    obtain ⟨r1, r2⟩ := read_ok (fun k hk => h.shows.yes hf h1 hk)
    refine ⟨(Pg.read p.m f).2.2, read_count _ _, fun he => exact_read he _, ?_⟩
    simp only
    rw [if_pos r2, r1, content_words x h3, h4]
theorem Live.len (h : Live B fr p st) : st.length = p.count := h.inv.disk.len.trans h.inv.cnt.symm
theorem Live.count_pos (h : Live B fr p st) : 10 ≤ p.count ∧ p.count ≤ 2730 ∧ p.frames ≤ 3276 ∧ p.count + 2 ≤ p.frames := by
  have h1 := h.inv.cnt; have h2 := h.inv.fms; have h3 := h.big; have h4 := h.small
  omega
theorem getD_mem {l : List (List UInt8)} {i : Nat} (hi : i < l.length) : l.getD i [] = l[i] := by simp [List.getD, hi]
theorem Live.st_len (h : Live B fr p st) (hi : i < p.count) : (st.getD i []).length = 48 := by
  cases e : p.at_.getD i none with
  | none => rw [h.inv.data_none hi e]; rfl
  | some f => obtain ⟨_, x, _, _, h3, h4⟩ := h.inv.data_some hi e; rw [h4]; exact h3
theorem frame_plan (i v : Nat) (b : List UInt8) : (plan (frameWords i v b)).length = 21 := plan_length (Fr.mk i v b).words_length
/-- A page is placed, or the power was cut. -/
theorem Live.place (h : Live B fr p st) (hB : B ≤ 1000000000) (hi : i < p.count) {b : List UInt8} (hb : b.length = 48) :
    (∃ m' fr', p.place i b = (p.moved i (p.freed.getD 0 0) m', 0) ∧ Wrote (p.freed.getD 0 0) (plan (frameWords i (p.version + 1) b)) p.m m' B ∧ Live (B + 100) fr' (p.moved i (p.freed.getD 0 0) m') (st.set i b) ∧ (Exact p.m.words → Exact m'.words)) ∨
      (∃ m' fr', p.place i b = ({ p with m := m' }, 7) ∧ p.m.pending = true ∧ Dead (B + 100) fr' { p with m := m' } st ∧ m'.words.length = p.m.words.length) := by
  obtain ⟨c1, c2, c3, c4⟩ := h.count_pos
  have hfl := h.inv.count_freed
  have hver := h.version
  have hlow := h.low
  have hfree : p.freed.getD 0 0 ∈ p.freed := by
    cases hq : p.freed with
    | nil => rw [hq] at hfl; simp at hfl; omega
    | cons a l => simp
  obtain ⟨hf1, hf2⟩ := (h.inv.fmem _).1 hfree
  generalize hff : p.freed.getD 0 0 = f at *
  have hfr : p.frames * 20 ≤ p.m.words.length := by have := h.inv.fms; omega
  have hxw : (frameWords i (p.version + 1) b).length = 19 := (Fr.mk i (p.version + 1) b).words_length
  have hpl := plan_length hxw
  have hrun := put_run f (plan (frameWords i (p.version + 1) b)) p.m B h.off (fun x hx => plan_pos hxw hx) (by omega) h.fine (by omega) (by rw [hpl, h.endu]; omega)
  have e0 : p.place i b = if (put f (plan (frameWords i (p.version + 1) b)) p.m).2 ≠ 0 then ({ p with m := (put f (plan (frameWords i (p.version + 1) b)) p.m).1 }, (put f (plan (frameWords i (p.version + 1) b)) p.m).2) else (p.moved i f (put f (plan (frameWords i (p.version + 1) b)) p.m).1, 0) := by unfold P.place; rw [hff]
  have hst : ∀ j, (st.set i b).getD j [] = if j = i then b else st.getD j [] := fun j => getD_set st i j b [] (by rw [h.len]; exact hi)
  rcases hrun with ⟨m', h1, hw⟩ | ⟨m', h1, hw⟩
  · rw [h1, if_neg (by simp)] at e0
    refine .inl ⟨m', upd fr f (some ⟨i, p.version + 1, b⟩), e0, hw, ?_, fun hx => by rw [hw.words]; exact hx.putw f _ (fun y hy => plan_lt hxw (fun k => (Fr.mk i (p.version + 1) b).words_lt (by simp only; omega) (by simp only; omega) k) hy)⟩
    have hlen : m'.words.length = p.m.words.length := by rw [hw.words, putw_length]
    -- what the frames hold behind it
    have hh : ∀ g, g < p.frames → (match p.at_.getD i none with | none => p.holds | some old => p.holds.set old none).getD g none = if p.at_.getD i none = some g then none else p.holds.getD g none := fun g hg => by
      cases ha : p.at_.getD i none with
      | none => simp
      | some old =>
        obtain ⟨ho, _⟩ := h.inv.data_some hi ha
        simp only
        rw [getD_set _ _ _ _ _ (by rw [h.inv.cur.lh]; exact ho)]
        by_cases e : g = old
        · rw [if_pos e, if_pos (by rw [e])]
        · rw [if_neg e, if_neg (fun e2 => e (by cases e2; rfl))]
    have hhl : (match p.at_.getD i none with | none => p.holds | some old => p.holds.set old none).length = p.holds.length := by
      split
      · rfl
      · rw [List.length_set]
    have hcur : Cur (upd fr f (some ⟨i, p.version + 1, b⟩)) p.count p.frames p.frames (p.at_.set i (some f)) ((match p.at_.getD i none with | none => p.holds | some old => p.holds.set old none).set f (some i)) (p.version + 1) :=
      h.inv.cur.put (x := ⟨i, p.version + 1, b⟩) hf1 hf2 hi (Nat.lt_succ_self _) hhl hh
    have hok : FsOk (upd fr f (some ⟨i, p.version + 1, b⟩)) p.count p.frames (p.version + 1) := by
      have := h.inv.disk.ok
      rw [← h.inv.cnt, ← h.inv.fms] at this
      exact this.put (x := ⟨i, p.version + 1, b⟩) hi hb (Nat.lt_succ_self _)
    have hsh : WShows m'.words (upd fr f (some ⟨i, p.version + 1, b⟩)) p.frames := by
      have := h.inv.disk.shows
      rw [← h.inv.fms] at this
      rw [hw.words]
      exact this.put hf1 hfr ⟨i, p.version + 1, b⟩ (by simp only; omega) (by simp only; omega)
    have hset : ∀ j, (p.at_.set i (some f)).getD j none = if j = i then some f else p.at_.getD j none := fun j => getD_set p.at_ i j _ _ (by rw [h.inv.cur.la]; exact hi)
    have hdisk : Disk m'.words (upd fr f (some ⟨i, p.version + 1, b⟩)) (st.set i b) (p.version + 1) := by
      refine Disk.of_cur hsh hok hcur (by rw [List.length_set]; exact h.len) (by rw [hlen]; exact h.inv.cnt) (by rw [hlen]; exact h.inv.fms) (fun j hj hn => ?_) (fun j hj g x hs hx => ?_)
      · rw [hset] at hn
        by_cases e : j = i
        · rw [if_pos e] at hn; cases hn
        · rw [if_neg e] at hn
          rw [hst, if_neg e]; exact h.inv.data_none hj hn
      · rw [hset] at hs
        by_cases e : j = i
        · rw [if_pos e] at hs
          obtain rfl : f = g := by cases hs; rfl
          rw [upd_same] at hx; cases hx
          rw [hst, if_pos e]
        · rw [if_neg e] at hs
          have hgf : g ≠ f := fun e2 => h.inv.cur.free hf1 hf2 hj (e2 ▸ hs)
          rw [upd_other _ _ hgf] at hx
          obtain ⟨_, y, h5, _, _, h6⟩ := h.inv.data_some hj hs
          rw [hx] at h5; cases h5
          rw [hst, if_neg e]; exact h6
    obtain ⟨a, l, hq⟩ : ∃ a l, p.freed = a :: l := by
      cases hq : p.freed with
      | nil => rw [hq] at hfree; cases hfree
      | cons a l => exact ⟨a, l, rfl⟩
    obtain rfl : a = f := by rw [hq] at hff; simpa using hff
    have hnd := h.inv.fnd
    rw [hq, List.nodup_cons] at hnd
    have hmem : ∀ g, g ∈ l ↔ g < p.frames ∧ p.holds.getD g none = none ∧ g ≠ a := fun g => by
      have := h.inv.fmem g
      rw [hq, List.mem_cons] at this
      constructor
      · intro hg
        have h1 := this.1 (.inr hg)
        exact ⟨h1.1, h1.2, fun e => hnd.1 (e ▸ hg)⟩
      · rintro ⟨h1, h2, h3⟩
        exact (this.2 ⟨h1, h2⟩).resolve_left h3
    have hfq : (p.freed.drop 1 ++ (p.at_.getD i none).toList).Nodup ∧ ∀ g, g ∈ p.freed.drop 1 ++ (p.at_.getD i none).toList ↔ g < p.frames ∧ ((match p.at_.getD i none with | none => p.holds | some old => p.holds.set old none).set a (some i)).getD g none = none := by
      have hs2 : ∀ g, ((match p.at_.getD i none with | none => p.holds | some old => p.holds.set old none).set a (some i)).getD g none = if g = a then some i else (match p.at_.getD i none with | none => p.holds | some old => p.holds.set old none).getD g none := fun g => getD_set _ a g _ _ (by rw [hhl, h.inv.cur.lh]; exact hf1)
      have hd1 : p.freed.drop 1 = l := by rw [hq]; rfl
      rw [hd1]
      refine ⟨?_, fun g => ?_⟩
      · cases ha : p.at_.getD i none with
        | none => simpa using hnd.2
        | some old =>
          obtain ⟨ho, _⟩ := h.inv.data_some hi ha
          have hold := (h.inv.cur.held old ho i).2 ⟨hi, ha⟩
          rw [List.nodup_append]
          refine ⟨hnd.2, by simp [Option.toList], fun x hx y hy => ?_⟩
          simp only [Option.toList, List.mem_singleton] at hy
          subst hy
          intro e
          have := ((hmem x).1 hx).2.1
          rw [e, hold] at this; cases this
      · rw [List.mem_append, hmem, hs2]
        by_cases hg : g < p.frames
        · rw [hh g hg]
          cases ha : p.at_.getD i none with
          | none =>
            simp only [Option.toList, List.not_mem_nil, or_false]
            by_cases e : g = a
            · simp [e]
            · simp [e, hg]
          | some old =>
            obtain ⟨ho, _⟩ := h.inv.data_some hi ha
            have hold := (h.inv.cur.held old ho i).2 ⟨hi, ha⟩
            have hoa : old ≠ a := fun e => by rw [e, hf2] at hold; cases hold
            simp only [Option.toList, List.mem_singleton]
            by_cases e : g = a
            · subst e
              simp [Ne.symm hoa]
            · rw [if_neg e]
              by_cases e2 : g = old
              · subst e2; simp [hg]
              · rw [if_neg (fun e3 => e2 (by cases e3; rfl))]
                simp [hg, e, e2]
        · constructor
          · rintro (h1 | h1)
            · exact absurd h1.1 hg
            · cases ha : p.at_.getD i none with
              | none => rw [ha] at h1; simp [Option.toList] at h1
              | some old =>
                obtain ⟨ho, _⟩ := h.inv.data_some hi ha
                rw [ha] at h1
                simp only [Option.toList, List.mem_singleton] at h1
                exact absurd (h1 ▸ ho) hg
          · rintro ⟨h1, _⟩; exact absurd h1 hg
    refine { inv := ⟨hdisk, ?_, ?_, hcur, hfq.1, hfq.2, h.inv.turn⟩, off := hw.off, cuts := hw.cuts.trans h.cuts, fine := hw.fine.mono (by rw [hpl]; omega), endu := hw.endu.trans h.endu, fixed := ?_, version := ?_, big := ?_, small := ?_, wl := ?_, low := by omega }
    · show p.count = m'.words.length / 24
      rw [hlen]; exact h.inv.cnt
    · show p.frames = m'.words.length / 20
      rw [hlen]; exact h.inv.fms
    · have := h.fixed
      show p.fixed ≤ _
      omega
    · show p.version + 1 ≤ _
      omega
    · show 240 ≤ m'.words.length
      rw [hlen]; exact h.big
    · show m'.words.length ≤ 65536
      rw [hlen]; exact h.small
    · show m'.wear.length = m'.words.length
      rw [hlen, hw.wear, ← h.wl]
      have : ∀ (l : List (Nat × Nat)) (ws : List Int), (wearK a l ws).length = ws.length := by
        intro l
        induction l with
        | nil => intro ws; rfl
        | cons x l ih => intro ws; unfold wearK; rw [ih, List.length_set]
      exact this _ _
  · rw [h1, if_pos (by show (7 : Int) ≠ 0; decide)] at e0
    have hlen : m'.words.length = p.m.words.length := by obtain ⟨k, _, hk⟩ := hw.words; rw [hk, putw_length]
    have hdead : ∃ fr', Disk m'.words fr' st (B + 100) := by
      obtain ⟨k, hk, hk2⟩ := hw.words
      have hok := h.inv.disk.ok
      have hsh := h.inv.disk.shows
      rw [← h.inv.cnt, ← h.inv.fms] at hok
      rw [← h.inv.fms] at hsh
      cases k with
      | zero =>
        rw [List.take_zero] at hk2
        refine ⟨fr, ?_⟩
        have : m'.words = p.m.words := hk2
        rw [this]
        exact h.inv.disk.mono (by omega)
      | succ k =>
        refine ⟨upd fr f none, Disk.of_cur (K := B + 100) (v := p.version) (count := p.count) (frames := p.frames) (at_ := p.at_) (holds := p.holds) ?_ (hok.clear.mono (by omega)) (h.inv.cur.clear hf1 hf2) h.len (by rw [hlen]; exact h.inv.cnt) (by rw [hlen]; exact h.inv.fms) (fun j hj hn => h.inv.data_none hj hn) (fun j hj g x hs hx => ?_)⟩
        · rw [hk2]
          exact hsh.part hf1 hfr _ hxw k (by omega)
        · have hgf : g ≠ f := fun e2 => h.inv.cur.free hf1 hf2 hj (e2 ▸ hs)
          rw [upd_other _ _ hgf] at hx
          obtain ⟨_, y, h5, _, _, h6⟩ := h.inv.data_some hj hs
          rw [hx] at h5; cases h5
          exact h6
    obtain ⟨fr', hd⟩ := hdead
    exact .inr ⟨m', fr', e0, hw.pend, { disk := hd, off := hw.off, cuts := by show m'.cuts = _; rw [hw.cuts, h.cuts], cnt := by show p.count = m'.words.length / 24; rw [hlen]; exact h.inv.cnt, fine := hw.fine.mono (by rw [hpl]; omega), endu := hw.endu.trans h.endu, big := by show 240 ≤ m'.words.length; rw [hlen]; exact h.big, small := by show m'.words.length ≤ 65536; rw [hlen]; exact h.small, wl := by show m'.wear.length = m'.words.length; rw [hlen, hw.wl]; exact h.wl, low := by omega }, hlen⟩
end
end Go.Proofs.YtmhjddmamknglaaGreat.Pg
end

section
namespace Go.Proofs.YtmhjddmamknglaaGreat.Pg
set_option maxRecDepth 100000
set_option linter.unusedSimpArgs false
set_option linter.unusedVariables false
open Go.Proofs.YtmhjddmamknglaaGreat

section
variable {B : Nat} {fr : Fs} {p : P} {st : List (List UInt8)} {i : Nat}
theorem set_same (l : List (List UInt8)) (i : Nat) : l.set i (l.getD i []) = l := by
  apply List.ext_getElem?
  intro j
  rw [List.getElem?_set]
  split
  · rename_i h; subst h
    split
    · rename_i h; simp [List.getD, h]
    · rename_i h; rw [List.getElem?_eq_none (by omega)]
  · rfl
theorem move_none (h : p.holds.getD p.turn none = none) : p.move = (p.turned, 0) := by unfold P.move; rw [h]
theorem Live.held (h : Live B fr p st) {j : Nat} (e : p.holds.getD p.turn none = some j) : j < p.count := ((h.inv.cur.held p.turn h.inv.turn j).1 e).1
theorem Live.move_some (h : Live B fr p st) {j : Nat} (e : p.holds.getD p.turn none = some j) : ∃ c, c ≤ 20 ∧ (Exact p.m.words → c = 0) ∧ p.move = (p.turned.more c).place j (st.getD j []) := by
  obtain ⟨c, h1, h2, h3⟩ := h.content (h.held e)
  refine ⟨c, h1, h2, ?_⟩
  unfold P.move
  rw [e]
  simp only
  rw [h3, if_neg (by simp)]
/-- The page whose turn it is has moved, or the power was cut. -/
theorem Live.move (h : Live B fr p st) (hB : B ≤ 900000000) :
    (∃ p' fr', p.move = (p', 0) ∧ Live (B + 1100) fr' p' st ∧ p'.count = p.count ∧ p'.cuts = p.cuts ∧ p'.m.words.length = p.m.words.length ∧ (p.m.pending = false → p'.m.pending = false) ∧ p'.m.writes ≤ p.m.writes + 21 ∧ (Exact p.m.words → Exact p'.m.words ∧ p'.fixed = p.fixed)) ∨
      (∃ p' fr', p.move = (p', 7) ∧ p.m.pending = true ∧ Dead (B + 1100) fr' p' st ∧ p'.count = p.count ∧ p'.m.words.length = p.m.words.length) := by
  cases e : p.holds.getD p.turn none with
  | none => exact .inl ⟨_, fr, move_none e, h.turned.mono (by omega), rfl, rfl, rfl, id, by show p.m.writes ≤ _; omega, fun hx => ⟨hx, rfl⟩⟩
  | some j =>
    obtain ⟨c, h1, h2, h3⟩ := h.move_some e
    have hj := h.held e
    rcases (h.turned.more (c := c) (by omega)).place (i := j) (by omega) hj (h.st_len hj) with ⟨m', fr', e1, hw, hl, hx⟩ | ⟨m', fr', e1, hp, hd, hml⟩
    · rw [set_same] at hl
      refine .inl ⟨_, fr', h3.trans e1, hl, rfl, rfl, ?_, hw.pend, ?_, fun he => ⟨hx he, by show p.fixed + c = _; rw [h2 he]; rfl⟩⟩
      · show m'.words.length = _
        rw [hw.words, putw_length]; rfl
      · show m'.writes ≤ _
        rw [hw.writes, frame_plan]
        show p.m.writes + _ ≤ _
        omega
    · refine .inr ⟨_, fr', h3.trans e1, hp, hd, rfl, ?_⟩
      show m'.words.length = _
      exact hml
theorem Live.write (h : Live B fr p st) (hB : B ≤ 900000000) {i : Nat} (hi : i < p.count) {b : List UInt8} (hb : b.length = 48) :
    (∃ p' fr', p.write i b = (p', 0) ∧ Live (B + 1200) fr' p' (st.set i b) ∧ p'.count = p.count ∧ p'.cuts = p.cuts ∧ p'.m.words.length = p.m.words.length ∧ (p.m.pending = false → p'.m.pending = false) ∧ p'.m.writes ≤ p.m.writes + 42 ∧ (Exact p.m.words → Exact p'.m.words ∧ p'.fixed = p.fixed)) ∨
      (∃ p' fr', p.write i b = (p', 7) ∧ p.m.pending = true ∧ Dead (B + 1200) fr' p' st ∧ p'.count = p.count) := by
  have ha : p.access (i : Int) = 0 := by rw [h.access, if_neg (by omega)]
  have e0 : p.write i b = if p.move.2 ≠ 0 then p.move else p.move.1.place i b := by
    unfold P.write
    rw [if_neg (by omega), ha, if_neg (by simp), Int.toNat_natCast]
  rcases h.move hB with ⟨p1, fr1, e1, hl, hc, hcu, hwl, hpd, hwr, hex⟩ | ⟨p1, fr1, e1, hp, hd, hc, _⟩
  · rw [e1, if_neg (by simp)] at e0
    rcases hl.place (i := i) (by omega) (by omega) hb with ⟨m', fr', e2, hw, hl2, hx⟩ | ⟨m', fr', e2, hp2, hd2, _⟩
    · refine .inl ⟨_, fr', e0.trans e2, hl2.mono (by omega), hc, hcu, ?_, fun hp => hw.pend (hpd hp), ?_, fun he => ⟨hx (hex he).1, (hex he).2⟩⟩
      · show m'.words.length = _
        rw [hw.words, putw_length, hwl]
      · show m'.writes ≤ _
        rw [hw.writes, frame_plan]
        show p1.m.writes + 21 ≤ _
        omega
    · refine .inr ⟨_, fr', e0.trans e2, ?_, { hd2 with fine := hd2.fine.mono (by omega), disk := hd2.disk.mono (by omega), low := by have := hd2.low; omega }, hc⟩
      cases hq : p.m.pending with
      | true => rfl
      | false => rw [hpd hq] at hp2; cases hp2
  · rw [e1, if_pos (by simp)] at e0
    exact .inr ⟨p1, fr1, e0, hp, { hd with fine := hd.fine.mono (by omega), disk := hd.disk.mono (by omega), low := by have := hd.low; omega }, hc⟩
end
/-! Open. -/
theorem scan_facts {m : Cel.Mem} {o : O} : ∀ k q, scan m o k = some q → q.p.m = o.p.m ∧ q.p.cuts = o.p.cuts ∧ q.p.fixed ≤ o.p.fixed + 21 * k ∧ (Exact m.words → q.p.fixed = o.p.fixed) := by
  intro k
  induction k with
  | zero => intro q h; unfold scan at h; cases h; exact ⟨rfl, rfl, by omega, fun _ => rfl⟩
  | succ k ih =>
    intro q h
    unfold scan at h
    cases hs : scan m o k with
    | none => rw [hs] at h; cases h
    | some q0 =>
      rw [hs] at h
      simp only at h
      split at h
      · cases h
      · cases h
        obtain ⟨h1, h2, h3, h4⟩ := ih q0 hs
        have hc : (header m o.p.count k).2 ≤ 21 := by
          have h5 := word_count m (k * 20 + 19); have h6 := read_count m k
          unfold header
          split
          · dsimp only; omega
          · split <;> dsimp only <;> omega
        have hn : ∀ (o : O) (f : Nat) (h : Hd), (o.next f h).p.m = o.p.m ∧ (o.next f h).p.cuts = o.p.cuts ∧ (o.next f h).p.fixed = o.p.fixed := by
          intro o f h
          unfold O.next
          split
          · exact ⟨rfl, rfl, rfl⟩
          · split
            · exact ⟨rfl, rfl, rfl⟩
            · split <;> exact ⟨rfl, rfl, rfl⟩
        obtain ⟨n1, n2, n3⟩ := hn (q0.more (header m o.p.count k).2) k (header m o.p.count k).1
        refine ⟨n1.trans h1, n2.trans h2, ?_, fun he => ?_⟩
        · rw [n3]; show q0.p.fixed + _ ≤ _; omega
        · rw [n3]; show q0.p.fixed + _ = _; rw [exact_header he, h4 he]; rfl
theorem mem_frees {holds : List (Option Nat)} {f : Nat} : f ∈ frees holds ↔ f < holds.length ∧ holds.getD f none = none := by
  unfold frees
  rw [List.mem_filter, List.mem_range]
  exact and_congr_right fun _ => Option.isNone_iff_eq_none
/-- A memory that can be opened. -/
structure Can (B : Nat) (fr : Fs) (m : Cel.Mem) (st : List (List UInt8)) : Prop where
  disk : Disk m.words fr st B
  fine : Cel.Fine B m
  endu : m.endurance = 1073741824
  big : 240 ≤ m.words.length
  small : m.words.length ≤ 65536
  wl : m.wear.length = m.words.length
  low : 70000 ≤ B
theorem Dead.can {B : Nat} {fr : Fs} {p : P} {st : List (List UInt8)} (h : Dead B fr p st) : Can B fr p.m st := ⟨h.disk, h.fine, h.endu, h.big, h.small, h.wl, h.low⟩
theorem Live.can {B : Nat} {fr : Fs} {p : P} {st : List (List UInt8)} (h : Live B fr p st) : Can B fr p.m st := ⟨h.inv.disk.mono h.version, h.fine, h.endu, h.big, h.small, h.wl, h.low⟩
theorem Can.mono {B B' : Nat} {fr : Fs} {m : Cel.Mem} {st : List (List UInt8)} (h : Can B fr m st) (hB : B ≤ B') : Can B' fr m st := { h with disk := h.disk.mono hB, fine := h.fine.mono (by omega), low := by have := h.low; omega }
section
variable {B : Nat} {fr : Fs} {m : Cel.Mem} {st : List (List UInt8)}
theorem newest_lt (vs : List Nat) : ∀ k, 0 < k → newest vs k < k := by
  intro k
  induction k with
  | zero => intro h; omega
  | succ k ih =>
    intro _
    unfold newest
    split
    · omega
    · cases k with
      | zero => unfold newest; omega
      | succ k => have := ih (by omega); omega
theorem Can.scan (h : Can B fr m st) (ho : m.off = false) : ∃ q, Pg.scan m (start m) (m.words.length / 20) = some q ∧ Scn' fr (m.words.length / 24) (m.words.length / 20) B (m.words.length / 20) q :=
  scan_ok h.disk.ok (h.disk.shows.shows ho) (start_ok m fr B) _ (Nat.le_refl _)
theorem Can.opened (h : Can B fr m st) (ho : m.off = false) {p : P} (hp : Opened m p) : Live B fr p st ∧ p.m = m ∧ p.cuts = m.cuts ∧ p.count = m.words.length / 24 ∧ (Exact m.words → p.fixed = 0) := by
  obtain ⟨o, h1, fq, h2, rfl⟩ := hp
  obtain ⟨q, h3, h4⟩ := h.scan ho
  obtain rfl : q = o := by rw [h3] at h1; cases h1; rfl
  obtain ⟨f1, f2, f3, f4⟩ := scan_facts _ _ h3
  have e1 : q.p.m = m := f1
  have hb := h.big; have hs := h.small; have hl := h.low
  have hcur := h4.cur
  have hcnt := h4.cnt; have hfms := h4.fms
  have hok := h.disk.ok
  have hok2 : FsOk fr (m.words.length / 24) (m.words.length / 20) q.p.version := ⟨fun f hf x hx => ⟨(hok.ok f hf x hx).1, (hok.ok f hf x hx).2.1, hcur.ver f hf x hx⟩, hok.diff⟩
  refine ⟨{ inv := ⟨?_, ?_, ?_, ?_, ?_, ?_, ?_⟩, off := ?_, cuts := ?_, fine := ?_, endu := ?_, fixed := ?_, version := h4.verK, big := ?_, small := ?_, wl := ?_, low := hl }, e1, f2, hcnt, f4⟩
  · show Disk q.p.m.words fr st q.p.version
    rw [e1]
    exact { h.disk with ok := hok2 }
  · show q.p.count = q.p.m.words.length / 24
    rw [e1]; exact hcnt
  · show q.p.frames = q.p.m.words.length / 20
    rw [e1]; exact hfms
  · show Cur fr q.p.count q.p.frames q.p.frames q.p.at_ q.p.holds q.p.version
    rw [hcnt, hfms]; exact hcur
  · show fq.Nodup
    rw [h2.nodup_iff]
    exact List.nodup_range.filter _
  · intro f
    show f ∈ fq ↔ f < q.p.frames ∧ q.p.holds.getD f none = none
    rw [h2.mem_iff, mem_frees, hcur.lh, hfms]
  · show (newest q.vs q.p.frames + 1) % q.p.frames < q.p.frames
    exact Nat.mod_lt _ (by omega)
  · show q.p.m.off = false
    rw [e1]; exact ho
  · show q.p.m.cuts = q.p.cuts
    rw [e1, f2]; rfl
  · show Cel.Fine B q.p.m
    rw [e1]; exact h.fine
  · show q.p.m.endurance = _
    rw [e1]; exact h.endu
  · show q.p.fixed ≤ B
    have : (start m).p.fixed = 0 := rfl
    omega
  · show 240 ≤ q.p.m.words.length
    rw [e1]; exact hb
  · show q.p.m.words.length ≤ 65536
    rw [e1]; exact hs
  · show q.p.m.wear.length = q.p.m.words.length
    rw [e1]; exact h.wl
end
/-- A new memory. -/
def noFr : Fs := fun _ => none
def zeros (n : Nat) : List (List UInt8) := List.replicate (n / 24) zero48
theorem code_zero : Ecc.decode 0 = (0, 0) := by decide +kernel
theorem new_can (n : Nat) (h1 : 240 ≤ n) (h2 : n ≤ 65536) : Can 70000 noFr (Cel.Mem.new n 1073741824) (zeros n) ∧ Exact (Cel.Mem.new n 1073741824).words := by
  have hg : ∀ a, (List.replicate n (0 : UInt32)).getD a 0 = 0 := fun a => by simp only [List.getD, List.getElem?_replicate]; split <;> rfl
  have hl : (List.replicate n (0 : UInt32)).length = n := List.length_replicate
  refine ⟨{ disk := { shows := fun f hf => ?_, ok := ⟨fun f hf x hx => (by cases hx), fun f hf g hg x y hx => (by cases hx)⟩, len := by show _ = (List.replicate n (0 : UInt32)).length / 24; rw [hl]; simp [zeros], none_ := fun i hi _ => ?_, some_ := fun i hi f hf x hx => (by cases hx) }, fine := (Cel.fine_new n _).mono (by omega), endu := rfl, big := by show 240 ≤ (List.replicate n (0 : UInt32)).length; rw [hl]; exact h1, small := by show (List.replicate n (0 : UInt32)).length ≤ _; rw [hl]; exact h2, wl := by simp [Cel.Mem.new], low := by omega }, fun a ha => ?_⟩
  · show Rw (List.replicate n (0 : UInt32)) (f * 20 + 19) 0
    have : f < (List.replicate n (0 : UInt32)).length / 20 := hf
    rw [hl] at this
    refine ⟨by rw [hl]; omega, ?_, ?_⟩
    · rw [hg]; show (Ecc.decode 0).1 = 0; rw [code_zero]
    · rw [hg]; show (Ecc.decode 0).2 ≠ 2; rw [code_zero]; simp
  · have : i < (List.replicate n (0 : UInt32)).length / 24 := hi
    rw [hl] at this
    simp [zeros, List.getD, this]
  · show (Ecc.decode ((List.replicate n (0 : UInt32)).getD a 0).toNat).2 = 0
    rw [hg]
    show (Ecc.decode 0).2 = 0
    rw [code_zero]
end Go.Proofs.YtmhjddmamknglaaGreat.Pg
end
