/-
  The free frames, sorted: a permutation of them.
-/
import Derived.Test.YtnlhammgcemchaaPgP
namespace Go.Proofs.Ytnlhammgcemchaa
set_option maxRecDepth 100000
set_option linter.unusedSimpArgs false
set_option linter.unusedVariables false
open Go.RowKit
set_option maxHeartbeats 8000000

theorem sortWorld_heap (w : World) (b m : Nat) (d : Array Frm) (os : Array Obj) (k : Nat) (hk : k < w.heap.size) : (sortWorld encF w b 0 m d os).heap[k]? = if k = b then (w.heap[k]?).map (Go.Sort.onCells (Go.Sort.putCells encF 0 d)) else w.heap[k]? := by
  have hsz : k < (w.heap.modify b (Go.Sort.onCells (Go.Sort.putCells encF 0 d))).size := by simpa using hk
  show ((w.heap.modify b (Go.Sort.onCells (Go.Sort.putCells encF 0 d))) ++ os)[k]? = _
  rw [Array.getElem?_append_left hsz, Array.getElem?_modify]
  by_cases e : b = k
  · rw [if_pos e, if_pos e.symm]
  · rw [if_neg e, if_neg (fun h => e h.symm)]
theorem sortWorld_size (w : World) (b m : Nat) (d : Array Frm) (os : Array Obj) : w.heap.size ≤ (sortWorld encF w b 0 m d os).heap.size := by
  show w.heap.size ≤ ((w.heap.modify b (Go.Sort.onCells (Go.Sort.putCells encF 0 d))) ++ os).size
  simp
theorem sortWorld_only (w : World) (b m : Nat) (d : Array Frm) (os : Array Obj) : Only (fun q => q = b) w (sortWorld encF w b 0 m d os) :=
  ⟨rfl, rfl, rfl, sortWorld_size w b m d os, fun k hk hn => by rw [sortWorld_heap w b m d os k hk, if_neg hn]⟩
theorem putCells_take (d : Array Frm) (c : Array Value) (h : d.size ≤ c.size) : (Go.Sort.putCells encF 0 d c).toList.take d.size = d.toList.map encF := by
  apply List.ext_getElem
  · simp [Go.Sort.putCells]; omega
  · intro j h1 h2
    have hj : j < d.size := by simpa using h2
    simp [Go.Sort.putCells, hj]
def frm (f : Nat) : Frm := if h : f < 100000000 then ⟨f, h⟩ else default
theorem frm_val {f : Nat} (h : f < 100000000) : (frm f).1 = f := by unfold frm; rw [dif_pos h]
theorem encF_list (l : List Nat) (h : ∀ f ∈ l, f < 100000000) : (l.map frm).map encF = ncells l := by
  unfold ncells
  rw [List.map_map]
  refine List.map_congr_left fun f hf => ?_
  simp only [Function.comp, encF, frm_val (h f hf), I64]
theorem encF_back (d : List Frm) : d.map encF = ncells (d.map (·.1)) := by simp [ncells, encF, I64]
theorem page_sort {w0 : World} {g pb : Nat} {s : PgS} {p : Pg.P} {A : Option Addr} {n0 c0 base : Nat} {l : List Nat} (hown : Own w0 base 3 1 A n0 c0 (ncells l)) (h1 : 0 < n0) (hn1 : n0 ≤ 1000000) (hl : ∀ f ∈ l, f < 100000000)
    (H : ∀ u, Only (fun q => ownAt A c0 = some q) w0 u → PWk u g s p) (hb : ∀ u, Only (fun q => ownAt A c0 = some q) w0 u → Blk u pb 31 #[.pointer (some ⟨g, 0, none⟩)]) {K : Int} (hK : Cel.Fine K p.m) (h0 : 0 ≤ K ∧ K ≤ 4611686018427387904) :
    Calls Try.prog 47 #[.slice A n0 c0, .func (.func 48) #[] #[.pointer (some ⟨pb, 0, none⟩)]] w0 fun e w' => e = .returned (.tuple #[]) ∧ ∃ l', l'.Perm l ∧ Own w' base 3 1 A n0 c0 (ncells l') ∧ Only (fun q => ownAt A c0 = some q) w0 w' := by
  have hlen : l.length = n0 := by have := hown.len; simpa [ncells] using this
  have hle := hown.le
  obtain ⟨gF, cur, rfl, hbase, hh, hc, ht⟩ := hown.2.2.2 (by omega)
  have hoA : ownAt (some ⟨gF, 0, none⟩) c0 = some gF := by unfold ownAt; rw [if_neg (by omega)]; rfl
  obtain ⟨d, hd⟩ : ∃ d, d = (l.map frm).toArray := ⟨_, rfl⟩
  have hds : d.size = n0 := by rw [hd]; simpa using hlen
  have hlt : gF < w0.heap.size := (Array.getElem?_eq_some_iff.1 hh).1
  have hds2 : (d.toList.map encF) = ncells l := by rw [hd]; exact encF_list l hl
  have hcell : ∀ j, j < n0 → w0.cell? ⟨gF, 0 + j, none⟩ = some (encF d[j]!) := fun j hj => by
    have h2 : (cur.toList.take (n0 * 1))[j]? = (ncells l)[j]? := by rw [ht]
    rw [← hds2] at h2
    rw [List.getElem?_take, if_pos (by omega), List.getElem?_map, Array.getElem?_toList, Array.getElem?_toList, Array.getElem?_eq_getElem (show j < d.size by omega)] at h2
    have h3 : Blk w0 gF 3 cur := hh
    rw [Nat.zero_add, h3.cell, h2, getElem!_pos d j (by omega)]
    rfl
  have hH : Go.Sort.Holds encF w0 gF 0 d := fun j hj => ⟨hcell j (by omega), (show Blk w0 gF 3 cur from hh).frozen _⟩
  have eg : ∀ args w, (callFunc 48 args).run Try.prog w = .ok (.enter 48 args) w := enters_of Try.func48 (by kernel_rfl) rfl
  have hcmp : CmpReads Try.prog 48 #[.pointer (some ⟨pb, 0, none⟩)] encF (wdiff p.m) gF 0 d.size w0 := fun m os dk _ x y => by
    have ho : Only (fun q => ownAt (some ⟨gF, 0, none⟩) c0 = some q) w0 (sortWorld encF w0 gF 0 m dk os) := (sortWorld_only w0 gF m dk os).mono fun q _ e => by rw [hoA, e]
    exact page_order1 (H _ ho) (hb _ ho) hK h0 x y
  have hcon := Any.slices_SortFunc Try.sortL encF (fun _ => rfl) (wdiff p.m) (wdiff_swo p.m) 48 #[.pointer (some ⟨pb, 0, none⟩)] gF 0 c0 d w0 eg hcmp.lays hH hlt (by omega)
  change Calls Try.prog 47 _ _ _ at hcon
  rw [hds] at hcon
  refine hcon.mono ?_
  rintro e w' ⟨rfl, d', m, os, ⟨p1, _, p3⟩, _, rfl⟩
  have hext : ∀ x : Array Frm, x.size = n0 → x.extract 0 n0 = x := fun x hx => by rw [← hx]; exact Array.extract_size
  rw [hext _ hds, hext _ (by omega)] at p3
  refine ⟨rfl, d'.toList.map (·.1), ?_, ?_, (sortWorld_only w0 gF m d' os).mono fun q _ e => by rw [hoA, e]⟩
  · have h2 := p3.map (fun x : Frm => x.1)
    have h3 : d.toList.map (fun x : Frm => x.1) = l := by
      rw [hd, List.toList_toArray, List.map_map]
      conv => rhs; rw [← List.map_id l]
      exact List.map_congr_left fun f hf => frm_val (hl f hf)
    rw [h3] at h2
    exact h2
  · have hb2 : (sortWorld encF w0 gF 0 m d' os).heap[gF]? = some (.cells (Go.Sort.putCells encF 0 d' cur) 3 (0, 0)) := by
      rw [sortWorld_heap w0 gF m d' os gF hlt, if_pos rfl, hh]; rfl
    refine ⟨by rw [← encF_back]; simp; omega, hle, hown.2.2.1, fun _ => ⟨gF, _, rfl, hbase, hb2, by simpa [Go.Sort.putCells] using hc, ?_⟩⟩
    have h4 := putCells_take d' cur (by omega)
    rw [show n0 * 1 = d'.size by omega, h4, encF_back]
end Go.Proofs.Ytnlhammgcemchaa
