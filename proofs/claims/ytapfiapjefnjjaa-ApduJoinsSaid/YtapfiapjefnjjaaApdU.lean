/-
  The walks of status words and responses.
-/
import Derived.Test.YtapfiapjefnjjaaApdQ
import Derived.Test.YtapfiapjefnjjaaOctL
namespace Go.Proofs.Ytapfiapjefnjjaa
set_option linter.unusedSimpArgs false
open Go.RowKit

/-- Is it a status word? -/
def Apd.wrd (x : Int) : Bool := decide ((24832 ≤ x ∧ x < 28672) ∨ (36864 ≤ x ∧ x < 40960))
/-- Does it report success? -/
def Apd.suc (x : Int) : Bool := decide (x = 36864 ∨ (24832 ≤ x ∧ x ≤ 25599))

theorem apdu_status (x : Int) (w : World) : Calls Try.prog 49 #[.int .i64 x] w fun e w' => e = .returned (.bool (Apd.wrd x)) ∧ w = w' := by
  have hsh : x >>> 8 = x / 256 := by rw [Int.shiftRight_eq_div_pow]; rfl
  rcases (show x / 256 < 97 ∨ (97 ≤ x / 256 ∧ x / 256 ≤ 111) ∨ (97 ≤ x / 256 ∧ 111 < x / 256 ∧ x / 256 < 144) ∨ (97 ≤ x / 256 ∧ 111 < x / 256 ∧ 144 ≤ x / 256 ∧ x / 256 ≤ 159) ∨ (97 ≤ x / 256 ∧ 111 < x / 256 ∧ 144 ≤ x / 256 ∧ 159 < x / 256) by omega) with h | ⟨h1, h2⟩ | ⟨h1, h2, h3⟩ | ⟨h1, h2, h3, h4⟩ | ⟨h1, h2, h3, h4⟩
  · have e : Apd.wrd x = false := decide_eq_false (by omega)
    rw [e]
    clear e
    try replace h0 := beq_eq_false_iff_ne.2 h0
    try subst h0
    go_enter Try.func49, Try.ntmps49
    go_wp2_with fail
    go_ret
    refine ⟨?_, rfl⟩
    first
      | rfl
      | (simp; omega)
  · have e : Apd.wrd x = true := decide_eq_true (by omega)
    rw [e]
    clear e
    try replace h0 := beq_eq_false_iff_ne.2 h0
    try subst h0
    go_enter Try.func49, Try.ntmps49
    go_wp2_with fail
    go_ret
    refine ⟨?_, rfl⟩
    first
      | rfl
      | (simp; omega)
  · have e : Apd.wrd x = false := decide_eq_false (by omega)
    rw [e]
    clear e
    try replace h0 := beq_eq_false_iff_ne.2 h0
    try subst h0
    go_enter Try.func49, Try.ntmps49
    go_wp2_with fail
    go_ret
    refine ⟨?_, rfl⟩
    first
      | rfl
      | (simp; omega)
  · have e : Apd.wrd x = true := decide_eq_true (by omega)
    rw [e]
    clear e
    try replace h0 := beq_eq_false_iff_ne.2 h0
    try subst h0
    go_enter Try.func49, Try.ntmps49
    go_wp2_with fail
    go_ret
    refine ⟨?_, rfl⟩
    first
      | rfl
      | (simp; omega)
  · have e : Apd.wrd x = false := decide_eq_false (by omega)
    rw [e]
    clear e
    try replace h0 := beq_eq_false_iff_ne.2 h0
    try subst h0
    go_enter Try.func49, Try.ntmps49
    go_wp2_with fail
    go_ret
    refine ⟨?_, rfl⟩
    first
      | rfl
      | (simp; omega)

theorem ref04_Word (x : Int) (w : World) : Calls Try.prog 51 #[.int .i64 x] w fun e w' => e = .returned (.bool (Apd.wrd x)) ∧ w = w' := by
  rcases (show x ≤ 24831 ∨ (24831 < x ∧ x < 28672) ∨ (24831 < x ∧ 28672 ≤ x ∧ x < 36864) ∨ (24831 < x ∧ 28672 ≤ x ∧ 36864 ≤ x ∧ x < 40960) ∨ (24831 < x ∧ 28672 ≤ x ∧ 36864 ≤ x ∧ 40960 ≤ x) by omega) with h | ⟨h1, h2⟩ | ⟨h1, h2, h3⟩ | ⟨h1, h2, h3, h4⟩ | ⟨h1, h2, h3, h4⟩
  · have e : Apd.wrd x = false := decide_eq_false (by omega)
    rw [e]
    clear e
    try replace h0 := beq_eq_false_iff_ne.2 h0
    try subst h0
    go_enter Try.func51, Try.ntmps51
    go_wp2_with fail
    go_ret
    refine ⟨?_, rfl⟩
    first
      | rfl
      | (simp; omega)
  · have e : Apd.wrd x = true := decide_eq_true (by omega)
    rw [e]
    clear e
    try replace h0 := beq_eq_false_iff_ne.2 h0
    try subst h0
    go_enter Try.func51, Try.ntmps51
    go_wp2_with fail
    go_ret
    refine ⟨?_, rfl⟩
    first
      | rfl
      | (simp; omega)
  · have e : Apd.wrd x = false := decide_eq_false (by omega)
    rw [e]
    clear e
    try replace h0 := beq_eq_false_iff_ne.2 h0
    try subst h0
    go_enter Try.func51, Try.ntmps51
    go_wp2_with fail
    go_ret
    refine ⟨?_, rfl⟩
    first
      | rfl
      | (simp; omega)
  · have e : Apd.wrd x = true := decide_eq_true (by omega)
    rw [e]
    clear e
    try replace h0 := beq_eq_false_iff_ne.2 h0
    try subst h0
    go_enter Try.func51, Try.ntmps51
    go_wp2_with fail
    go_ret
    refine ⟨?_, rfl⟩
    first
      | rfl
      | (simp; omega)
  · have e : Apd.wrd x = false := decide_eq_false (by omega)
    rw [e]
    clear e
    try replace h0 := beq_eq_false_iff_ne.2 h0
    try subst h0
    go_enter Try.func51, Try.ntmps51
    go_wp2_with fail
    go_ret
    refine ⟨?_, rfl⟩
    first
      | rfl
      | (simp; omega)

theorem apdu_Success (x : Int) (w : World) : Calls Try.prog 32 #[.int .i64 x] w fun e w' => e = .returned (.bool (Apd.suc x)) ∧ w = w' := by
  have hsh : x >>> 8 = x / 256 := by rw [Int.shiftRight_eq_div_pow]; rfl
  rcases (show x = 36864 ∨ (x ≠ 36864 ∧ x / 256 < 97) ∨ (x ≠ 36864 ∧ 97 ≤ x / 256 ∧ x / 256 ≤ 99) ∨ (x ≠ 36864 ∧ 97 ≤ x / 256 ∧ 99 < x / 256) by omega) with h0 | ⟨h0, h1⟩ | ⟨h0, h1, h2⟩ | ⟨h0, h1, h2⟩
  · have e : Apd.suc x = true := decide_eq_true (by omega)
    rw [e]
    clear e
    try replace h0 := beq_eq_false_iff_ne.2 h0
    try subst h0
    go_enter Try.func32, Try.ntmps32
    go_wp2_with fail
    go_ret
    refine ⟨?_, rfl⟩
    first
      | rfl
      | (simp; omega)
  · have e : Apd.suc x = false := decide_eq_false (by omega)
    rw [e]
    clear e
    try replace h0 := beq_eq_false_iff_ne.2 h0
    try subst h0
    go_enter Try.func32, Try.ntmps32
    go_wp2_with fail
    go_ret
    refine ⟨?_, rfl⟩
    first
      | rfl
      | (simp; omega)
  · have e : Apd.suc x = true := decide_eq_true (by omega)
    rw [e]
    clear e
    try replace h0 := beq_eq_false_iff_ne.2 h0
    try subst h0
    go_enter Try.func32, Try.ntmps32
    go_wp2_with fail
    go_ret
    refine ⟨?_, rfl⟩
    first
      | rfl
      | (simp; omega)
  · have e : Apd.suc x = false := decide_eq_false (by omega)
    rw [e]
    clear e
    try replace h0 := beq_eq_false_iff_ne.2 h0
    try subst h0
    go_enter Try.func32, Try.ntmps32
    go_wp2_with fail
    go_ret
    refine ⟨?_, rfl⟩
    first
      | rfl
      | (simp; omega)

theorem ref04_Success (x : Int) (w : World) : Calls Try.prog 33 #[.int .i64 x] w fun e w' => e = .returned (.bool (Apd.suc x)) ∧ w = w' := by
  rcases (show x = 36864 ∨ (x ≠ 36864 ∧ x < 24832) ∨ (x ≠ 36864 ∧ 24832 ≤ x ∧ x ≤ 25599) ∨ (x ≠ 36864 ∧ 24832 ≤ x ∧ 25599 < x) by omega) with h0 | ⟨h0, h1⟩ | ⟨h0, h1, h2⟩ | ⟨h0, h1, h2⟩
  · have e : Apd.suc x = true := decide_eq_true (by omega)
    rw [e]
    clear e
    try replace h0 := beq_eq_false_iff_ne.2 h0
    try subst h0
    go_enter Try.func33, Try.ntmps33
    go_wp2_with fail
    go_ret
    refine ⟨?_, rfl⟩
    first
      | rfl
      | (simp; omega)
  · have e : Apd.suc x = false := decide_eq_false (by omega)
    rw [e]
    clear e
    try replace h0 := beq_eq_false_iff_ne.2 h0
    try subst h0
    go_enter Try.func33, Try.ntmps33
    go_wp2_with fail
    go_ret
    refine ⟨?_, rfl⟩
    first
      | rfl
      | (simp; omega)
  · have e : Apd.suc x = true := decide_eq_true (by omega)
    rw [e]
    clear e
    try replace h0 := beq_eq_false_iff_ne.2 h0
    try subst h0
    go_enter Try.func33, Try.ntmps33
    go_wp2_with fail
    go_ret
    refine ⟨?_, rfl⟩
    first
      | rfl
      | (simp; omega)
  · have e : Apd.suc x = false := decide_eq_false (by omega)
    rw [e]
    clear e
    try replace h0 := beq_eq_false_iff_ne.2 h0
    try subst h0
    go_enter Try.func33, Try.ntmps33
    go_wp2_with fail
    go_ret
    refine ⟨?_, rfl⟩
    first
      | rfl
      | (simp; omega)

/-- The status word that ends bytes. -/
def Apd.swd (b : List UInt8) : Int := 256 * ((b.getD (b.length - 2) 0).toNat : Int) + ((b.getD (b.length - 1) 0).toNat : Int)
/-- The error of DecodeResponse. -/
def Apd.rdE (b : List UInt8) : Int := if b.length < 2 then 5 else if 65538 < b.length then 3 else if Apd.wrd (Apd.swd b) = true then 0 else 2
/-- What DecodeResponse leaves. -/
def RRes (w : World) (b : List UInt8) (e : Ending) (w' : World) : Prop :=
  Below w.heap.size w w' ∧
  ((Apd.rdE b ≠ 0 ∧ e = .returned (.tuple #[rspV none 0 0 0, .int .i64 (Apd.rdE b)])) ∨
   (Apd.rdE b = 0 ∧ ∃ A c, e = .returned (.tuple #[rspV A (b.length - 2) c (Apd.swd b), .int .i64 0]) ∧ Own w' w.heap.size 5 1 A (b.length - 2) c (bcells (b.take (b.length - 2)))))
theorem rsp_one (A : Option Addr) (n c : Nat) (sw : Int) : (#[.slice A n c, I64 sw] : Array Value).all (·.oneCell') = true := by simp [Value.oneCell']
theorem or_sw (x y : Nat) (hx : x < 256) (hy : y < 256) : bits .or .i64 (256 * (x : Int)) (y : Int) = 256 * (x : Int) + (y : Int) := by
  rw [show 256 * (x : Int) = ((x * 256 : Nat) : Int) by omega, i64_or_nat _ _ (by omega) (by omega), nat_join 8 _ _ (by omega) (by omega)]; omega

set_option maxRecDepth 100000 in
set_option maxHeartbeats 8000000 in
theorem apdu_DecodeResponse (A : Option Addr) (n c : Nat) (b : List UInt8) (w : World) (h : Byt w w.heap.size A n c b) (hn : n ≤ 1000000) :
    Calls Try.prog 27 #[.slice A n c] w (RRes w b) := by
  obtain ⟨ti, hti, hz0, hz1, hz2⟩ := info_parts o_u8
  have hl := h.1
  have HB := Lib.hid (fun o => bal (Below.refl w.heap.size w) o)
  unfold RRes rspV
  by_cases h2 : n < 2
  · have e : Apd.rdE b = 5 := by unfold Apd.rdE; rw [if_pos (by omega)]
    have HE := Lib.hid e
    have i2 : (n : Int) - 2 < 0 := by omega
    clear e h hl
    go_enter Try.func27, Try.ntmps27
    go_wp2_with fail
    refine bodyPost_ret (results_row_tmp rfl _ _ w.heap.size 45 _ (0, 0) _ rfl (by exact Blk.new' _ (by simp) rfl) Try.underlying45 rfl (by kernel_rfl)) rfl ⟨by exact HB.out _, .inl ?_⟩
    rw [HE.out]
    exact ⟨by decide, rfl⟩
  obtain ⟨k, rfl⟩ : ∃ k, n = k + 2 := ⟨n - 2, by omega⟩
  by_cases hbig : 65536 < k
  · have e : Apd.rdE b = 3 := by unfold Apd.rdE; rw [if_neg (by omega), if_pos (by omega)]
    have HE := Lib.hid e
    have i2 : (65536 : Int) < (k : Int) := by omega
    have i3 : (65538 : Int) < (k : Int) + 2 := by omega
    clear e h hl
    go_enter Try.func27, Try.ntmps27
    go_wp2_with fail
    refine bodyPost_ret (results_row_tmp rfl _ _ w.heap.size 45 _ (0, 0) _ rfl (by exact Blk.new' _ (by simp) rfl) Try.underlying45 rfl (by kernel_rfl)) rfl ⟨by exact HB.out _, .inl ?_⟩
    rw [HE.out]
    exact ⟨by decide, rfl⟩
  obtain ⟨bb, o, rfl, hbb⟩ := h.at_ (by omega)
  have hnc := h.2.1
  have HQ := Lib.hid (fun (u : World) (hu : Below w.heap.size w u) => (⟨(h.below hu).2.2.byte k (by omega), (h.below hu).2.2.byte (k + 1) (by omega)⟩ : u.cell? ⟨bb, o + k, none⟩ = some (.int .u8 ((b.getD k 0).toNat : Int)) ∧ u.cell? ⟨bb, o + (k + 1), none⟩ = some (.int .u8 ((b.getD (k + 1) 0).toNat : Int))))
  have hsw : Apd.swd b = 256 * ((b.getD k 0).toNat : Int) + ((b.getD (k + 1) 0).toNat : Int) := by unfold Apd.swd; rw [hl]; rfl
  have hE : Apd.rdE b = if Apd.wrd (Apd.swd b) = true then 0 else 2 := by unfold Apd.rdE; rw [if_neg (by omega), if_neg (by omega)]
  have hd : b.length - 2 = k := by omega
  have HT := Lib.hid (Byt.take h k c (by omega) (by omega))
  have HD := Lib.hid hd
  rw [hsw] at hE
  have hx1 := (b.getD k 0).toNat_lt
  have hx2 := (b.getD (k + 1) 0).toNat_lt
  have HSW := Lib.hid hsw
  have HE := Lib.hid hE
  clear hsw hE hd h hl
  generalize (b.getD k 0).toNat = x1 at *
  generalize (b.getD (k + 1) 0).toNat = x2 at *
  have hor := or_sw x1 x2 (by omega) (by omega)
  obtain ⟨sw, hs⟩ : ∃ sw : Int, 256 * (x1 : Int) + (x2 : Int) = sw := ⟨_, rfl⟩
  have hsb : 0 ≤ sw ∧ sw < 65536 := by omega
  rw [hs] at HSW HE hor
  have v1 : IntKind.i64.wrap (x1 : Int) = x1 := IntWalk.i64_in _ (by omega)
  have v2 : IntKind.i64.wrap (x2 : Int) = x2 := IntWalk.i64_in _ (by omega)
  have v3 : IntKind.i64.wrap (256 * (x1 : Int)) = 256 * (x1 : Int) := IntWalk.i64_in _ (by omega)
  have v4 : IntKind.i64.wrap sw = sw := IntWalk.i64_in _ (by omega)
  have v5 : IntKind.i64.wrap ((k : Int) + 1) = (k : Int) + 1 := IntWalk.i64_in _ (by omega)
  have v6 : (x1 : Int) * 256 = 256 * (x1 : Int) := Int.mul_comm _ _
  have i0 : (0 : Int) ≤ (k : Int) := by omega
  have i1 : (k : Int) < (k : Int) + 2 := by omega
  have i2 : (k : Int) + 1 < (k : Int) + 2 := by omega
  have i3 : (0 : Int) ≤ (k : Int) + 1 := by omega
  have i4 : ¬ (k : Int) < 0 := by omega
  have i5 : ¬ (65536 : Int) < (k : Int) := by omega
  have i6 : ¬ (65538 : Int) < (k : Int) + 2 := by omega
  have i7 : (k : Int) ≤ (k : Int) + 2 := by omega
  have cne : ¬ c = 0 := by omega
  go_enter Try.func27, Try.ntmps27
  go_upto_region 6 with fail
  refine wp_region_noPanic ?_
  refine wp_region_held_drew (S := fun u => u.cell? ⟨bb, o + k, none⟩ = some (.int .u8 (x1 : Int)) ∧ u.cell? ⟨bb, o + (k + 1), none⟩ = some (.int .u8 (x2 : Int))) (by kernel_rfl) (by exact HQ.out _ (HB.out _).drew) (fun hHeld => ?_)
  refine wpAnyH_take2 (i := 0) (by simp only [List.getElem?_toArray, List.getElem?_cons_succ, List.getElem?_cons_zero]; first | done | exact rfl) ⟨?_, by kernel_rfl, by kernel_rfl, by kernel_rfl, fun _ _ _ h => h, Or.inl ⟨by rfl, ?_⟩, by assumption, ?_⟩
  rotate_left 1
  · (intro w9 hSw; (try dsimp only at hSw); go_simp; try (with_reducible rfl))
  try simp only [Act.put, List.setIfInBounds_toArray, List.set_cons_zero, List.set_cons_succ]
  refine wpAnyH_take2 (i := 1) (by simp only [List.getElem?_toArray, List.getElem?_cons_succ, List.getElem?_cons_zero]; first | done | exact rfl) ⟨?_, by kernel_rfl, by kernel_rfl, by kernel_rfl, fun _ _ _ h => h, Or.inl ⟨by rfl, ?_⟩, by assumption, ?_⟩
  rotate_left 1
  · (intro w9 hSw; (try dsimp only at hSw); go_simp; try (with_reducible rfl))
  try simp only [Act.put, List.setIfInBounds_toArray, List.set_cons_zero, List.set_cons_succ]
  refine wpAnyH_take2 (i := 2) (by simp only [List.getElem?_toArray, List.getElem?_cons_succ, List.getElem?_cons_zero]; first | done | exact rfl) ⟨?_, by kernel_rfl, by kernel_rfl, by kernel_rfl, fun _ _ _ h => h, Or.inl ⟨by rfl, ?_⟩, by assumption, ?_⟩
  rotate_left 1
  · (intro w9 hSw; (try dsimp only at hSw); go_simp; try (with_reducible rfl))
  try simp only [Act.put, List.setIfInBounds_toArray, List.set_cons_zero, List.set_cons_succ]
  refine wpAnyH_take2 (i := 3) (by simp only [List.getElem?_toArray, List.getElem?_cons_succ, List.getElem?_cons_zero]; first | done | exact rfl) ⟨?_, by kernel_rfl, by kernel_rfl, by kernel_rfl, fun _ _ _ h => h, Or.inl ⟨by rfl, ?_⟩, by assumption, ?_⟩
  rotate_left 1
  · (intro w9 hSw; (try dsimp only at hSw); go_simp; try (with_reducible rfl))
  try simp only [Act.put, List.setIfInBounds_toArray, List.set_cons_zero, List.set_cons_succ]
  refine wpAnyH_take2 (i := 4) (by simp only [List.getElem?_toArray, List.getElem?_cons_succ, List.getElem?_cons_zero]; first | done | exact rfl) ⟨?_, by kernel_rfl, by kernel_rfl, by kernel_rfl, fun _ _ _ h => h, Or.inl ⟨by rfl, ?_⟩, by assumption, ?_⟩
  rotate_left 1
  · (intro w9 hSw; (try dsimp only at hSw); go_simp; try (with_reducible rfl))
  try simp only [Act.put, List.setIfInBounds_toArray, List.set_cons_zero, List.set_cons_succ]
  refine wpAnyH_take2 (i := 5) (by simp only [List.getElem?_toArray, List.getElem?_cons_succ, List.getElem?_cons_zero]; first | done | exact rfl) ⟨?_, by kernel_rfl, by kernel_rfl, by kernel_rfl, fun _ _ _ h => h, Or.inl ⟨by rfl, ?_⟩, by assumption, ?_⟩
  rotate_left 1
  · (intro w9 hSw; (try dsimp only at hSw); go_simp; try (with_reducible rfl))
  try simp only [Act.put, List.setIfInBounds_toArray, List.set_cons_zero, List.set_cons_succ]
  refine wpAnyH_take2 (i := 6) (by simp only [List.getElem?_toArray, List.getElem?_cons_succ, List.getElem?_cons_zero]; first | done | exact rfl) ⟨?_, by kernel_rfl, by kernel_rfl, by kernel_rfl, fun _ _ _ h => h, Or.inl ⟨by rfl, ?_⟩, by assumption, ?_⟩
  rotate_left 1
  · (intro w9 hSw; (try dsimp only at hSw); go_simp; try (with_reducible rfl))
  try simp only [Act.put, List.setIfInBounds_toArray, List.set_cons_zero, List.set_cons_succ]
  refine wpAnyH_take2 (i := 7) (by simp only [List.getElem?_toArray, List.getElem?_cons_succ, List.getElem?_cons_zero]; first | done | exact rfl) ⟨?_, by kernel_rfl, by kernel_rfl, by kernel_rfl, fun _ _ _ h => h, Or.inl ⟨by rfl, ?_⟩, by assumption, ?_⟩
  rotate_left 1
  · (intro w9 hSw; (try dsimp only at hSw); go_simp; try (with_reducible rfl))
  try simp only [Act.put, List.setIfInBounds_toArray, List.set_cons_zero, List.set_cons_succ]
  refine wpAnyH_take2 (i := 8) (by simp only [List.getElem?_toArray, List.getElem?_cons_succ, List.getElem?_cons_zero]; first | done | exact rfl) ⟨?_, by kernel_rfl, by kernel_rfl, by kernel_rfl, fun _ _ _ h => h, Or.inl ⟨by rfl, ?_⟩, by assumption, ?_⟩
  rotate_left 1
  · (intro w9 hSw; (try dsimp only at hSw); go_simp; try (with_reducible rfl))
  try simp only [Act.put, List.setIfInBounds_toArray, List.set_cons_zero, List.set_cons_succ]
  refine wpAnyH_take2 (i := 9) (by simp only [List.getElem?_toArray, List.getElem?_cons_succ, List.getElem?_cons_zero]; first | done | exact rfl) ⟨?_, by kernel_rfl, by kernel_rfl, by kernel_rfl, fun _ _ _ h => h, Or.inl ⟨by rfl, ?_⟩, by assumption, ?_⟩
  rotate_left 1
  · (intro w9 hSw; (try dsimp only at hSw); go_simp; try (with_reducible rfl))
  try simp only [Act.put, List.setIfInBounds_toArray, List.set_cons_zero, List.set_cons_succ]
  refine wpAnyH_take2 (i := 10) (by simp only [List.getElem?_toArray, List.getElem?_cons_succ, List.getElem?_cons_zero]; first | done | exact rfl) ⟨?_, by kernel_rfl, by kernel_rfl, by kernel_rfl, fun _ _ _ h => h, Or.inl ⟨by rfl, ?_⟩, by assumption, ?_⟩
  rotate_left 1
  · (intro w9 hSw; (try dsimp only at hSw); go_simp; try (with_reducible rfl))
  try simp only [Act.put, List.setIfInBounds_toArray, List.set_cons_zero, List.set_cons_succ]
  refine wpAnyH_take2 (i := 11) (by simp only [List.getElem?_toArray, List.getElem?_cons_succ, List.getElem?_cons_zero]; first | done | exact rfl) ⟨?_, by kernel_rfl, by kernel_rfl, by kernel_rfl, fun _ _ _ h => h, Or.inl ⟨by rfl, ?_⟩, by assumption, ?_⟩
  rotate_left 1
  · (intro w9 hSw; (try dsimp only at hSw); go_simp; try (with_reducible rfl))
  try simp only [Act.put, List.setIfInBounds_toArray, List.set_cons_zero, List.set_cons_succ]
  refine wpAnyH_take2 (i := 12) (by simp only [List.getElem?_toArray, List.getElem?_cons_succ, List.getElem?_cons_zero]; first | done | exact rfl) ⟨?_, by kernel_rfl, by kernel_rfl, by kernel_rfl, fun _ _ _ h => h, Or.inl ⟨by rfl, ?_⟩, by assumption, ?_⟩
  rotate_left 1
  · (intro w9 hSw; (try dsimp only at hSw); go_simp; try (with_reducible rfl))
  try simp only [Act.put, List.setIfInBounds_toArray, List.set_cons_zero, List.set_cons_succ]
  refine wpAnyH_take2 (i := 13) (by simp only [List.getElem?_toArray, List.getElem?_cons_succ, List.getElem?_cons_zero]; first | done | exact rfl) ⟨?_, by kernel_rfl, by kernel_rfl, by kernel_rfl, fun _ _ _ h => h, Or.inl ⟨by rfl, ?_⟩, by assumption, ?_⟩
  rotate_left 1
  · (intro w9 hSw; (try dsimp only at hSw); go_simp; try (with_reducible rfl))
  try simp only [Act.put, List.setIfInBounds_toArray, List.set_cons_zero, List.set_cons_succ]
  refine wpAnyH_done (by kernel_rfl) ?_ _
  refine NoPanic.normal ?_
  go_wp2_with fail
  go_at_call 49
  refine (apdu_status sw _).mono ?_
  rintro e w5 ⟨rfl, rfl⟩
  have HBk := Lib.hid ((Blk.new w 45 #[.slice none 0 0, .int .i64 0]).drew)
  have HW := Lib.hid ((HB.out (.cells #[.slice none 0 0, .int .i64 0] 45)).drew)
  clear HQ HB v1 v2 v3 v4 v5 v6 hor hs hHeld
  cases hwd : Apd.wrd sw with
  | false =>
    have e : Apd.rdE b = 2 := by rw [HE.out, hwd]; rfl
    have HE := Lib.hid e
    clear e hwd
    go_wp2_with ((with_reducible show wpList _ _ _ (Oper.mk _ (Op.store 45 (Operand.tmp 2) (Operand.tmp 31)) _ _ _ _ :: _) _ _); refine wpList_store_row rfl 45 (.tmp 2) (.tmp 31) rfl w.heap.size #[.slice none 0 0, I64 0] rfl rfl 45 _ HBk.out (by kernel_rfl) rfl (rsp_one _ _ _ _) ?_)
    refine bodyPost_ret (results_row_tmp rfl _ _ w.heap.size 45 _ (0, 0) _ rfl (by exact HBk.out.setRow _) Try.underlying45 rfl (by kernel_rfl)) rfl ⟨by exact Below.setRow HW.out (Nat.le_refl _) _, .inl ?_⟩
    rw [HE.out]
    exact ⟨by decide, rfl⟩
  | true =>
    have e : Apd.rdE b = 0 := by rw [HE.out, hwd]; rfl
    have HE := Lib.hid e
    clear e hwd
    go_wp2_with fail
    go_at_call 50
    refine (slices_Clone _ k c (b.take k) _ (by exact (HT.out.below HW.out).more HW.out.size) (by omega)).mono ?_
    rintro e w6 ⟨A6, c6, rfl, ho6, hb6⟩
    have HB6 := Lib.hid (HBk.out.after hb6)
    have HW6 := Lib.hid (bgo HW.out hb6)
    have HO6 := Lib.hid (ho6.mono (base' := w.heap.size) HW.out.size)
    clear ho6 hb6 HBk HW
    go_wp2_with ((with_reducible show wpList _ _ _ (Oper.mk _ (Op.store 45 (Operand.tmp 2) (Operand.tmp 37)) _ _ _ _ :: _) _ _); refine wpList_store_row rfl 45 (.tmp 2) (.tmp 37) rfl w.heap.size #[.slice A6 k c6, I64 sw] rfl rfl 45 _ HB6.out (by kernel_rfl) rfl (rsp_one _ _ _ _) ?_)
    refine bodyPost_ret (results_row_tmp rfl _ _ w.heap.size 45 _ (0, 0) _ rfl (by exact HB6.out.setRow _) Try.underlying45 rfl (by kernel_rfl)) rfl ⟨by exact Below.setRow HW6.out (Nat.le_refl _) _, .inr ?_⟩
    rw [HE.out, HD.out, HSW.out]
    exact ⟨rfl, A6, c6, rfl, (HO6.out.setRow_ne HB6.out (by decide) _)⟩

set_option maxRecDepth 100000 in
set_option maxHeartbeats 8000000 in
theorem ref04_DecodeResponse (A : Option Addr) (n c : Nat) (b : List UInt8) (w : World) (h : Byt w w.heap.size A n c b) (hn : n ≤ 1000000) :
    Calls Try.prog 28 #[.slice A n c] w (RRes w b) := by
  obtain ⟨ti, hti, hz0, hz1, hz2⟩ := info_parts o_u8
  have hl := h.1
  have HB := Lib.hid (fun o => bal (Below.refl w.heap.size w) o)
  unfold RRes rspV
  by_cases h2 : n < 2
  · have e : Apd.rdE b = 5 := by unfold Apd.rdE; rw [if_pos (by omega)]
    have HE := Lib.hid e
    have i2 : (n : Int) - 2 < 0 := by omega
    clear e h hl
    go_enter Try.func28, Try.ntmps28
    go_wp2_with fail
    refine bodyPost_ret (results_row_tmp rfl _ _ w.heap.size 45 _ (0, 0) _ rfl (by exact Blk.new' _ (by simp) rfl) Try.underlying45 rfl (by kernel_rfl)) rfl ⟨by exact HB.out _, .inl ?_⟩
    rw [HE.out]
    exact ⟨by decide, rfl⟩
  obtain ⟨k, rfl⟩ : ∃ k, n = k + 2 := ⟨n - 2, by omega⟩
  by_cases hbig : 65536 < k
  · have e : Apd.rdE b = 3 := by unfold Apd.rdE; rw [if_neg (by omega), if_pos (by omega)]
    have HE := Lib.hid e
    have i2 : (65536 : Int) < (k : Int) := by omega
    have i3 : (65538 : Int) < (k : Int) + 2 := by omega
    clear e h hl
    go_enter Try.func28, Try.ntmps28
    go_wp2_with fail
    refine bodyPost_ret (results_row_tmp rfl _ _ w.heap.size 45 _ (0, 0) _ rfl (by exact Blk.new' _ (by simp) rfl) Try.underlying45 rfl (by kernel_rfl)) rfl ⟨by exact HB.out _, .inl ?_⟩
    rw [HE.out]
    exact ⟨by decide, rfl⟩
  obtain ⟨bb, o, rfl, hbb⟩ := h.at_ (by omega)
  have hnc := h.2.1
  have HQ := Lib.hid (fun (u : World) (hu : Below w.heap.size w u) => (⟨(h.below hu).2.2.byte k (by omega), (h.below hu).2.2.byte (k + 1) (by omega)⟩ : u.cell? ⟨bb, o + k, none⟩ = some (.int .u8 ((b.getD k 0).toNat : Int)) ∧ u.cell? ⟨bb, o + (k + 1), none⟩ = some (.int .u8 ((b.getD (k + 1) 0).toNat : Int))))
  have hsw : Apd.swd b = 256 * ((b.getD k 0).toNat : Int) + ((b.getD (k + 1) 0).toNat : Int) := by unfold Apd.swd; rw [hl]; rfl
  have hE : Apd.rdE b = if Apd.wrd (Apd.swd b) = true then 0 else 2 := by unfold Apd.rdE; rw [if_neg (by omega), if_neg (by omega)]
  have hd : b.length - 2 = k := by omega
  have HT := Lib.hid (Byt.take h k c (by omega) (by omega))
  have HD := Lib.hid hd
  rw [hsw] at hE
  have hx1 := (b.getD k 0).toNat_lt
  have hx2 := (b.getD (k + 1) 0).toNat_lt
  have HSW := Lib.hid hsw
  have HE := Lib.hid hE
  clear hsw hE hd h hl
  generalize (b.getD k 0).toNat = x1 at *
  generalize (b.getD (k + 1) 0).toNat = x2 at *
  have hor := or_sw x1 x2 (by omega) (by omega)
  obtain ⟨sw, hs⟩ : ∃ sw : Int, 256 * (x1 : Int) + (x2 : Int) = sw := ⟨_, rfl⟩
  have hsb : 0 ≤ sw ∧ sw < 65536 := by omega
  rw [hs] at HSW HE hor
  have v1 : IntKind.i64.wrap (x1 : Int) = x1 := IntWalk.i64_in _ (by omega)
  have v2 : IntKind.i64.wrap (x2 : Int) = x2 := IntWalk.i64_in _ (by omega)
  have v3 : IntKind.i64.wrap (256 * (x1 : Int)) = 256 * (x1 : Int) := IntWalk.i64_in _ (by omega)
  have v4 : IntKind.i64.wrap sw = sw := IntWalk.i64_in _ (by omega)
  have v5 : IntKind.i64.wrap ((k : Int) + 1) = (k : Int) + 1 := IntWalk.i64_in _ (by omega)
  have v6 : (x1 : Int) * 256 = 256 * (x1 : Int) := Int.mul_comm _ _
  have i0 : (0 : Int) ≤ (k : Int) := by omega
  have i1 : (k : Int) < (k : Int) + 2 := by omega
  have i2 : (k : Int) + 1 < (k : Int) + 2 := by omega
  have i3 : (0 : Int) ≤ (k : Int) + 1 := by omega
  have i4 : ¬ (k : Int) < 0 := by omega
  have i5 : ¬ (65536 : Int) < (k : Int) := by omega
  have i6 : ¬ (65538 : Int) < (k : Int) + 2 := by omega
  have i7 : (k : Int) ≤ (k : Int) + 2 := by omega
  have cne : ¬ c = 0 := by omega
  go_enter Try.func28, Try.ntmps28
  go_upto_region 6 with fail
  refine wp_region_noPanic ?_
  refine wp_region_held_drew (S := fun u => u.cell? ⟨bb, o + k, none⟩ = some (.int .u8 (x1 : Int)) ∧ u.cell? ⟨bb, o + (k + 1), none⟩ = some (.int .u8 (x2 : Int))) (by kernel_rfl) (by exact HQ.out _ (HB.out _).drew) (fun hHeld => ?_)
  refine wpAnyH_take2 (i := 0) (by simp only [List.getElem?_toArray, List.getElem?_cons_succ, List.getElem?_cons_zero]; first | done | exact rfl) ⟨?_, by kernel_rfl, by kernel_rfl, by kernel_rfl, fun _ _ _ h => h, Or.inl ⟨by rfl, ?_⟩, by assumption, ?_⟩
  rotate_left 1
  · (intro w9 hSw; (try dsimp only at hSw); go_simp; try (with_reducible rfl))
  try simp only [Act.put, List.setIfInBounds_toArray, List.set_cons_zero, List.set_cons_succ]
  refine wpAnyH_take2 (i := 1) (by simp only [List.getElem?_toArray, List.getElem?_cons_succ, List.getElem?_cons_zero]; first | done | exact rfl) ⟨?_, by kernel_rfl, by kernel_rfl, by kernel_rfl, fun _ _ _ h => h, Or.inl ⟨by rfl, ?_⟩, by assumption, ?_⟩
  rotate_left 1
  · (intro w9 hSw; (try dsimp only at hSw); go_simp; try (with_reducible rfl))
  try simp only [Act.put, List.setIfInBounds_toArray, List.set_cons_zero, List.set_cons_succ]
  refine wpAnyH_take2 (i := 2) (by simp only [List.getElem?_toArray, List.getElem?_cons_succ, List.getElem?_cons_zero]; first | done | exact rfl) ⟨?_, by kernel_rfl, by kernel_rfl, by kernel_rfl, fun _ _ _ h => h, Or.inl ⟨by rfl, ?_⟩, by assumption, ?_⟩
  rotate_left 1
  · (intro w9 hSw; (try dsimp only at hSw); go_simp; try (with_reducible rfl))
  try simp only [Act.put, List.setIfInBounds_toArray, List.set_cons_zero, List.set_cons_succ]
  refine wpAnyH_take2 (i := 3) (by simp only [List.getElem?_toArray, List.getElem?_cons_succ, List.getElem?_cons_zero]; first | done | exact rfl) ⟨?_, by kernel_rfl, by kernel_rfl, by kernel_rfl, fun _ _ _ h => h, Or.inl ⟨by rfl, ?_⟩, by assumption, ?_⟩
  rotate_left 1
  · (intro w9 hSw; (try dsimp only at hSw); go_simp; try (with_reducible rfl))
  try simp only [Act.put, List.setIfInBounds_toArray, List.set_cons_zero, List.set_cons_succ]
  refine wpAnyH_take2 (i := 4) (by simp only [List.getElem?_toArray, List.getElem?_cons_succ, List.getElem?_cons_zero]; first | done | exact rfl) ⟨?_, by kernel_rfl, by kernel_rfl, by kernel_rfl, fun _ _ _ h => h, Or.inl ⟨by rfl, ?_⟩, by assumption, ?_⟩
  rotate_left 1
  · (intro w9 hSw; (try dsimp only at hSw); go_simp; try (with_reducible rfl))
  try simp only [Act.put, List.setIfInBounds_toArray, List.set_cons_zero, List.set_cons_succ]
  refine wpAnyH_take2 (i := 5) (by simp only [List.getElem?_toArray, List.getElem?_cons_succ, List.getElem?_cons_zero]; first | done | exact rfl) ⟨?_, by kernel_rfl, by kernel_rfl, by kernel_rfl, fun _ _ _ h => h, Or.inl ⟨by rfl, ?_⟩, by assumption, ?_⟩
  rotate_left 1
  · (intro w9 hSw; (try dsimp only at hSw); go_simp; try (with_reducible rfl))
  try simp only [Act.put, List.setIfInBounds_toArray, List.set_cons_zero, List.set_cons_succ]
  refine wpAnyH_take2 (i := 6) (by simp only [List.getElem?_toArray, List.getElem?_cons_succ, List.getElem?_cons_zero]; first | done | exact rfl) ⟨?_, by kernel_rfl, by kernel_rfl, by kernel_rfl, fun _ _ _ h => h, Or.inl ⟨by rfl, ?_⟩, by assumption, ?_⟩
  rotate_left 1
  · (intro w9 hSw; (try dsimp only at hSw); go_simp; try (with_reducible rfl))
  try simp only [Act.put, List.setIfInBounds_toArray, List.set_cons_zero, List.set_cons_succ]
  refine wpAnyH_take2 (i := 7) (by simp only [List.getElem?_toArray, List.getElem?_cons_succ, List.getElem?_cons_zero]; first | done | exact rfl) ⟨?_, by kernel_rfl, by kernel_rfl, by kernel_rfl, fun _ _ _ h => h, Or.inl ⟨by rfl, ?_⟩, by assumption, ?_⟩
  rotate_left 1
  · (intro w9 hSw; (try dsimp only at hSw); go_simp; try (with_reducible rfl))
  try simp only [Act.put, List.setIfInBounds_toArray, List.set_cons_zero, List.set_cons_succ]
  refine wpAnyH_take2 (i := 8) (by simp only [List.getElem?_toArray, List.getElem?_cons_succ, List.getElem?_cons_zero]; first | done | exact rfl) ⟨?_, by kernel_rfl, by kernel_rfl, by kernel_rfl, fun _ _ _ h => h, Or.inl ⟨by rfl, ?_⟩, by assumption, ?_⟩
  rotate_left 1
  · (intro w9 hSw; (try dsimp only at hSw); go_simp; try (with_reducible rfl))
  try simp only [Act.put, List.setIfInBounds_toArray, List.set_cons_zero, List.set_cons_succ]
  refine wpAnyH_take2 (i := 9) (by simp only [List.getElem?_toArray, List.getElem?_cons_succ, List.getElem?_cons_zero]; first | done | exact rfl) ⟨?_, by kernel_rfl, by kernel_rfl, by kernel_rfl, fun _ _ _ h => h, Or.inl ⟨by rfl, ?_⟩, by assumption, ?_⟩
  rotate_left 1
  · (intro w9 hSw; (try dsimp only at hSw); go_simp; try (with_reducible rfl))
  try simp only [Act.put, List.setIfInBounds_toArray, List.set_cons_zero, List.set_cons_succ]
  refine wpAnyH_take2 (i := 10) (by simp only [List.getElem?_toArray, List.getElem?_cons_succ, List.getElem?_cons_zero]; first | done | exact rfl) ⟨?_, by kernel_rfl, by kernel_rfl, by kernel_rfl, fun _ _ _ h => h, Or.inl ⟨by rfl, ?_⟩, by assumption, ?_⟩
  rotate_left 1
  · (intro w9 hSw; (try dsimp only at hSw); go_simp; try (with_reducible rfl))
  try simp only [Act.put, List.setIfInBounds_toArray, List.set_cons_zero, List.set_cons_succ]
  refine wpAnyH_take2 (i := 11) (by simp only [List.getElem?_toArray, List.getElem?_cons_succ, List.getElem?_cons_zero]; first | done | exact rfl) ⟨?_, by kernel_rfl, by kernel_rfl, by kernel_rfl, fun _ _ _ h => h, Or.inl ⟨by rfl, ?_⟩, by assumption, ?_⟩
  rotate_left 1
  · (intro w9 hSw; (try dsimp only at hSw); go_simp; try (with_reducible rfl))
  try simp only [Act.put, List.setIfInBounds_toArray, List.set_cons_zero, List.set_cons_succ]
  refine wpAnyH_take2 (i := 12) (by simp only [List.getElem?_toArray, List.getElem?_cons_succ, List.getElem?_cons_zero]; first | done | exact rfl) ⟨?_, by kernel_rfl, by kernel_rfl, by kernel_rfl, fun _ _ _ h => h, Or.inl ⟨by rfl, ?_⟩, by assumption, ?_⟩
  rotate_left 1
  · (intro w9 hSw; (try dsimp only at hSw); go_simp; try (with_reducible rfl))
  try simp only [Act.put, List.setIfInBounds_toArray, List.set_cons_zero, List.set_cons_succ]
  refine wpAnyH_take2 (i := 13) (by simp only [List.getElem?_toArray, List.getElem?_cons_succ, List.getElem?_cons_zero]; first | done | exact rfl) ⟨?_, by kernel_rfl, by kernel_rfl, by kernel_rfl, fun _ _ _ h => h, Or.inl ⟨by rfl, ?_⟩, by assumption, ?_⟩
  rotate_left 1
  · (intro w9 hSw; (try dsimp only at hSw); go_simp; try (with_reducible rfl))
  try simp only [Act.put, List.setIfInBounds_toArray, List.set_cons_zero, List.set_cons_succ]
  refine wpAnyH_done (by kernel_rfl) ?_ _
  refine NoPanic.normal ?_
  go_wp2_with fail
  go_at_call 51
  refine (ref04_Word sw _).mono ?_
  rintro e w5 ⟨rfl, rfl⟩
  have HBk := Lib.hid ((Blk.new w 45 #[.slice none 0 0, .int .i64 0]).drew)
  have HW := Lib.hid ((HB.out (.cells #[.slice none 0 0, .int .i64 0] 45)).drew)
  clear HQ HB v1 v2 v3 v4 v5 v6 hor hs hHeld
  cases hwd : Apd.wrd sw with
  | false =>
    have e : Apd.rdE b = 2 := by rw [HE.out, hwd]; rfl
    have HE := Lib.hid e
    clear e hwd
    go_wp2_with ((with_reducible show wpList _ _ _ (Oper.mk _ (Op.store 45 (Operand.tmp 2) (Operand.tmp 33)) _ _ _ _ :: _) _ _); refine wpList_store_row rfl 45 (.tmp 2) (.tmp 33) rfl w.heap.size #[.slice none 0 0, I64 0] rfl rfl 45 _ HBk.out (by kernel_rfl) rfl (rsp_one _ _ _ _) ?_)
    refine bodyPost_ret (results_row_tmp rfl _ _ w.heap.size 45 _ (0, 0) _ rfl (by exact HBk.out.setRow _) Try.underlying45 rfl (by kernel_rfl)) rfl ⟨by exact Below.setRow HW.out (Nat.le_refl _) _, .inl ?_⟩
    rw [HE.out]
    exact ⟨by decide, rfl⟩
  | true =>
    have e : Apd.rdE b = 0 := by rw [HE.out, hwd]; rfl
    have HE := Lib.hid e
    clear e hwd
    go_wp2_with (first
      | (at_builtin; refine wpList_append _ rfl (.tmp 34) (.tmp 37) 22 rfl w.heap.size 5 ti _ 1 1 Try.underlying22 hti hz0 hz1 hz2 rfl (by omega) _ 0 0 [] rfl (Own.none_ _ _ _ _ _) w.heap.size _ k c (bcells (b.take k)) rfl (by exact (HT.out.below (bal HW.out _)).2.2) (by rw [length_bcells, HT.out.1]; omega) (bcells_one _) (by unfold maxLen; omega) (by omega) (by exact (bal HW.out _).size) ?_; intro A6 c6 w6 hown6 hg6 hat6; rw [Nat.zero_add, List.nil_append] at hown6; rw [Nat.zero_add]; have hb6 := (Own.none_ _ _ 5 1 _).grown hg6 (Below.refl _ _) (Nat.le_refl _); have HB6 := Lib.hid ((HBk.out.alloc _).after hb6); have HW6 := Lib.hid (bgo (bal HW.out _) hb6); have HO6 := Lib.hid hown6; clear hown6 hg6 hat6 hb6)
      | ((with_reducible show wpList _ _ _ (Oper.mk _ (Op.store 45 (Operand.tmp 2) (Operand.tmp 40)) _ _ _ _ :: _) _ _); refine wpList_store_row rfl 45 (.tmp 2) (.tmp 40) rfl w.heap.size #[.slice A6 k c6, I64 sw] rfl rfl 45 _ HB6.out (by kernel_rfl) rfl (rsp_one _ _ _ _) ?_))
    refine bodyPost_ret (results_row_tmp rfl _ _ w.heap.size 45 _ (0, 0) _ rfl (by exact HB6.out.setRow _) Try.underlying45 rfl (by kernel_rfl)) rfl ⟨by exact Below.setRow HW6.out (Nat.le_refl _) _, .inr ?_⟩
    rw [HE.out, HD.out, HSW.out]
    exact ⟨rfl, A6, c6, rfl, (HO6.out.setRow_ne HB6.out (by decide) _)⟩
end Go.Proofs.Ytapfiapjefnjjaa
