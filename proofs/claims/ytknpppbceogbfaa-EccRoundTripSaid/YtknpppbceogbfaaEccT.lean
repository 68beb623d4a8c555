/-
  The statement EccRoundTrip: its plain law, and its walk.
-/
import Derived.Test.YtknpppbceogbfaaEccM
import Derived.Test.YtknpppbceogbfaaInts
namespace Go.Proofs.Ytknpppbceogbfaa
open Go.RowKit

/-- Is bit i of the list of flips one of a word? -/
def flB (F : List Int) (i : Nat) : Bool := decide (0 ≤ F.getD i (-1)) && decide (F.getD i (-1) < 32)
def fl (F : List Int) (i : Nat) (x : UInt32) : UInt32 := if flB F i then UInt32.ofNat (x.toNat ^^^ 2 ^ (F.getD i (-1)).toNat) else x
/-- The words behind k rounds. -/
def FK (ws : List UInt32) (F : List Int) (k : Nat) : List UInt32 := (List.range ws.length).map fun i => if i < k then fl F i (ws.getD i 0) else ws.getD i 0
def CK (F : List Int) (k : Nat) : Nat := ((List.range k).filter fun i => flB F i).length
theorem CK_succ (F : List Int) (k : Nat) : CK F (k + 1) = CK F k + if flB F k then 1 else 0 := by
  unfold CK
  rw [List.range_succ, List.filter_append, List.length_append]
  congr 1
  simp only [List.filter_cons, List.filter_nil]
  split <;> rfl
theorem CK_le (F : List Int) (k : Nat) : CK F k ≤ k := by
  have := List.length_filter_le (fun i => flB F i) (List.range k)
  rw [List.length_range] at this; exact this
theorem flB_out (F : List Int) (i : Nat) (h : F.length ≤ i) : flB F i = false := by
  unfold flB; rw [List.getD, List.getElem?_eq_none h]; rfl
theorem CK_more (F : List Int) (k d : Nat) (h : F.length ≤ k) : CK F (k + d) = CK F k := by
  induction d with
  | zero => rfl
  | succ d ih => rw [← Nat.add_assoc, CK_succ, ih, flB_out F (k + d) (by omega)]; rfl
theorem FK_length (ws : List UInt32) (F : List Int) (k : Nat) : (FK ws F k).length = ws.length := by simp [FK]
theorem FK_zero (ws : List UInt32) (F : List Int) : FK ws F 0 = ws := by
  apply List.ext_getElem
  · simp [FK]
  · intro i h1 h2; simp [FK, List.getD, List.getElem?_eq_getElem h2]
theorem FK_get (ws : List UInt32) (F : List Int) (k i : Nat) (h : i < ws.length) : (FK ws F k).getD i 0 = if i < k then fl F i (ws.getD i 0) else ws.getD i 0 := by
  rw [List.getD, List.getElem?_eq_getElem (by rw [FK_length]; exact h)]; simp [FK]
theorem FK_set (ws : List UInt32) (F : List Int) (k : Nat) : (FK ws F k).set k (fl F k (ws.getD k 0)) = FK ws F (k + 1) := by
  apply List.ext_getElem
  · simp [FK]
  · intro i h1 h2
    rw [List.getElem_set]
    simp only [FK, List.getElem_map, List.getElem_range]
    by_cases e : k = i
    · subst e; simp
    · rw [if_neg e]
      by_cases h : i < k
      · rw [if_pos h, if_pos (by omega)]
      · rw [if_neg h, if_neg (by omega)]
theorem FK_skip (ws : List UInt32) (F : List Int) (k : Nat) (h : flB F k = false) : FK ws F (k + 1) = FK ws F k := by
  unfold FK
  refine List.map_congr_left fun i _ => ?_
  by_cases e : i < k
  · rw [if_pos e, if_pos (by omega)]
  · rw [if_neg e]
    split
    · obtain rfl : i = k := by omega
      unfold fl; rw [h]; rfl
    · rfl
theorem FK_end (ws : List UInt32) (F : List Int) (k : Nat) (h : ws.length ≤ k ∨ F.length ≤ k) : FK ws F k = FK ws F ws.length := by
  unfold FK
  refine List.map_congr_left fun i hi => ?_
  have hi' := List.mem_range.1 hi
  rw [if_pos hi']
  split
  · rfl
  · rename_i hn
    unfold fl; rw [flB_out F i (by omega)]; rfl
theorem CK_end (F : List Int) (n k : Nat) (hk : k ≤ n) (h : n ≤ k ∨ F.length ≤ k) : CK F n = CK F k := by
  rcases h with h | h
  · obtain rfl : n = k := by omega
    rfl
  · obtain ⟨d, rfl⟩ : ∃ d, n = k + d := ⟨n - k, by omega⟩
    exact CK_more F k d h
theorem fl_decode (F : List Int) (i n : Nat) (h : n < 16777216) : Ecc.decode (fl F i (UInt32.ofNat (Ecc.code n))).toNat = (n, if flB F i then 1 else 0) := by
  unfold fl
  cases hb : flB F i with
  | false => rw [if_neg (by simp), if_neg (by simp), ofNat_code, Ecc.decode_code n h]
  | true =>
    unfold flB at hb
    simp only [Bool.and_eq_true, decide_eq_true_eq] at hb
    rw [if_pos rfl, if_pos rfl, ofNat_code, UInt32.toNat_ofNat_of_lt' (by have := flip_lt (Ecc.code n) (F.getD i (-1)).toNat (by have := Ecc.code_lt n; omega) (by omega); simpa [UInt32.size] using this)]
    exact Ecc.decode_one n _ h (by omega)
theorem chunk_lt (b : List UInt8) (i : Nat) : chunk b i < 16777216 := chunkK_small b i 3 (by omega)
/-- The words of packed bytes, some bits of them turned. -/
theorem FK_pack (b : List UInt8) (F : List Int) : FK (pack b) F (pack b).length = (List.range ((b.length + 2) / 3)).map fun i => fl F i (UInt32.ofNat (Ecc.code (chunk b (3 * i)))) := by
  have hl : (pack b).length = (b.length + 2) / 3 := packK_length _ _
  unfold FK
  rw [hl]
  refine List.map_congr_left fun i hi => ?_
  have hi' := List.mem_range.1 hi
  rw [if_pos hi']
  congr 1
  rw [List.getD, List.getElem?_eq_getElem (by rw [hl]; exact hi')]
  simp [pack, packK]
theorem bytes3_chunk (b : List UInt8) (i : Nat) : bytes3 (chunk b i) = [b.getD i 0, b.getD (i + 1) 0, b.getD (i + 2) 0] := by
  have e : chunk b i = (b.getD i 0).toNat * 65536 + (b.getD (i + 1) 0).toNat * 256 + (b.getD (i + 2) 0).toNat := by
    unfold chunk
    rw [chunkK_succ, chunkK_succ, chunkK_succ]
    simp only [chunkK, List.range_zero, List.foldl_nil, Nat.add_zero]
    omega
  have h0 := (b.getD i 0).toNat_lt
  have h1 := (b.getD (i + 1) 0).toNat_lt
  have h2 := (b.getD (i + 2) 0).toNat_lt
  have f : ∀ (x : UInt8) (n : Nat), n % 256 = x.toNat → UInt8.ofNat n = x := fun x n h => by
    apply UInt8.toNat_inj.1; simpa using h
  unfold bytes3
  rw [e]
  congr 1
  · apply f; omega
  congr 1
  · apply f; omega
  congr 1
  · apply f; omega
theorem flat_chunks (b : List UInt8) (m : Nat) : ((List.range m).flatMap fun i => bytes3 (chunk b (3 * i))) = (List.range (3 * m)).map fun i => b.getD i 0 := by
  induction m with
  | zero => rfl
  | succ m ih =>
    rw [List.range_succ, List.flatMap_append, ih, show 3 * (m + 1) = 3 * m + 1 + 1 + 1 by omega, List.range_succ, List.range_succ, List.range_succ]
    simp only [List.flatMap_cons, List.flatMap_nil, List.append_nil, List.map_append, List.map_cons, List.map_nil, bytes3_chunk, List.append_assoc, List.cons_append, List.nil_append]
theorem take_all (b : List UInt8) (m : Nat) (h : b.length ≤ m) : ((List.range m).map fun i => b.getD i 0).take b.length = b := by
  apply List.ext_getElem
  · simp; omega
  · intro i h1 h2
    simp [List.getElem_take, List.getD, List.getElem?_eq_getElem h2]
theorem up_trip (b : List UInt8) (F : List Int) :
    upE (FK (pack b) F (pack b).length) (b.length : Int) = 0 ∧ upB (FK (pack b) F (pack b).length) (b.length : Int) = b ∧ upF (FK (pack b) F (pack b).length) (b.length : Int) = CK F (pack b).length := by
  have hl : (pack b).length = (b.length + 2) / 3 := packK_length _ _
  have hd : ∀ i, Ecc.decode (fl F i (UInt32.ofNat (Ecc.code (chunk b (3 * i))))).toNat = (chunk b (3 * i), if flB F i then 1 else 0) := fun i => fl_decode F i _ (chunk_lt b _)
  have hok : upOk (FK (pack b) F (pack b).length) (b.length : Int) := by
    refine ⟨by omega, ?_⟩
    rw [FK_length, hl]
    unfold wordsN
    split <;> omega
  have hbad : bad (FK (pack b) F (pack b).length) = false := by
    rw [FK_pack]
    unfold bad
    rw [List.any_eq_false]
    intro x hx
    obtain ⟨i, _, rfl⟩ := List.mem_map.1 hx
    rw [hd]
    cases flB F i <;> simp
  refine ⟨?_, ?_, ?_⟩
  · unfold upE; rw [if_pos hok, if_neg (by rw [hbad]; simp)]
  · unfold upB
    rw [if_pos ⟨hok, hbad⟩, FK_pack, Int.toNat_natCast]
    unfold unB
    rw [List.flatMap_map]
    simp only [hd]
    rw [flat_chunks, take_all b _ (by omega)]
  · unfold upF
    rw [if_pos ⟨hok, hbad⟩, FK_pack, hl]
    unfold unF CK
    rw [List.filter_map, List.length_map]
    congr 1
    refine List.filter_congr fun i _ => ?_
    simp only [Function.comp_apply, hd]
    cases flB F i <;> simp
end Go.Proofs.Ytknpppbceogbfaa
