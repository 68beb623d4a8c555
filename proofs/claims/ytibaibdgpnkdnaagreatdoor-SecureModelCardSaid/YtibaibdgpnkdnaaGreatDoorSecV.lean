/-
  Wrap and accept, at whatever command.
-/
import Derived.Test.YtibaibdgpnkdnaaGreatDoorSecU
namespace Go.Proofs.YtibaibdgpnkdnaaGreatDoor
set_option maxRecDepth 100000
set_option linter.unusedSimpArgs false
set_option linter.unusedVariables false
open Go.RowKit
set_option maxHeartbeats 8000000

theorem lv_two {l : Int} (h : Sec.lvOk l = true) (h1 : Sec.hb l 1 = false) : Sec.hb l 2 = false := by
  rcases Sec.lv_cases h with rfl | rfl | rfl | rfl | rfl | rfl <;> first | rfl | cases h1
theorem chk_len {cla ins p1 p2 le : Int} {n : Nat} {lg : Bool} (h : Apd.chk cla ins p1 p2 n le lg = 0) : n ≤ 65535 := by
  unfold Apd.chk at h
  split at h
  · cases h
  split at h
  · cases h
  split at h
  · cases h
  rename_i h5
  unfold Apd.maxD at h5
  cases lg <;> simp at h5 <;> omega
theorem ch_wrap (w0 : World) (g : Nat) (F : Nat → Prop) (s : Sec.S) (H : ChAt' w0 g F s) (hcnt : s.cnt < 1000000) (cla ins p1 p2 : Int) (A : Option Addr) (dn c : Nat) (b : List UInt8) (h : Byt w0 w0.heap.size A dn c b) (hfar : ∀ a, A = some a → 0 < dn → ¬ F a.block) (hdn : dn ≤ 70000) (le : Int) (long : Bool) :
    Calls Tryz.prog 14 #[.pointer (some ⟨g, 0, none⟩), cmdV cla ins p1 p2 A dn c le long] w0 (WrRes w0 g F s ⟨cla, ins, p1, p2, b, le, long⟩) := by
  cases hs : s.shut with
  | true => exact wrap_shut w0 g F s H cla ins p1 p2 A dn c b le long hs
  | false =>
    by_cases hc : Apd.chk cla ins p1 p2 dn le long = 0
    rotate_left 1
    · exact wrap_chk w0 g F s H cla ins p1 p2 A dn c b h.1 le long hs hc
    by_cases hf : Apd.cok cla = false ∨ cla / 4 % 2 = 1 ∨ cla / 16 % 2 = 1
    · exact wrap_form w0 g F s H cla ins p1 p2 A dn c b h.1 le long hs hc hf
    have hk : Apd.cok cla = true := by
      cases hk : Apd.cok cla with
      | true => rfl
      | false => exact absurd (.inl hk) hf
    have h4 : ¬ cla / 4 % 2 = 1 := fun e => hf (.inr (.inl e))
    have h16 : ¬ cla / 16 % 2 = 1 := fun e => hf (.inr (.inr e))
    have hcl := chk_len hc
    have hbl := h.1
    have hzero : ∀ z : Nat, z = Sec.sz b.length (Sec.hb s.lvl 2) + (if Sec.hb s.lvl 1 = true then 8 else 0) → z ≤ 65535 → Sec.wrapE s ⟨cla, ins, p1, p2, b, le, long⟩ = 0 := by
      intro z hz hz2
      unfold Sec.wrapE
      rw [if_neg (by rw [hs]; decide), if_neg (fun e => e (show Apd.chk cla ins p1 p2 b.length le long = 0 by rw [hbl]; exact hc)), if_neg hf]
      exact if_neg (by show ¬ 65535 < Sec.sz b.length (Sec.hb s.lvl 2) + (if Sec.hb s.lvl 1 = true then 8 else 0); omega)
    cases h1 : Sec.hb s.lvl 1 with
    | false =>
      have h2 := lv_two H.ok.lvl h1
      refine wrap_plain w0 g F s H hcnt cla ins p1 p2 A dn c b h hfar hdn le long (hzero _ rfl ?_) h1
      rw [h1, h2]
      unfold Sec.sz
      simp
      omega
    | true =>
      by_cases hz : 65535 < Sec.sz dn (Sec.hb s.lvl 2) + 8
      · exact wrap_long w0 g F s H hcnt cla ins p1 p2 A dn c b h hdn le long hs hc hk h4 h16 h1 hz
      · have hw := hzero _ rfl (by rw [h1, hbl, if_pos rfl]; omega)
        cases h2 : Sec.hb s.lvl 2 with
        | false => exact wrap_mac w0 g F s H hcnt cla ins p1 p2 A dn c b h hfar hdn le long hw h1 h2
        | true => exact wrap_enc w0 g F s H hcnt cla ins p1 p2 A dn c b h hfar hdn le long hw h1 h2
theorem ch_accept (w0 : World) (g : Nat) (F : Nat → Prop) (s : Sec.S) (a : ChS) (H : ChAt w0 g F s a) (hcnt : s.cnt < 1000000) (cla ins p1 p2 : Int) (A : Option Addr) (dn c : Nat) (b : List UInt8) (h : Byt w0 w0.heap.size A dn c b) (hfar : ∀ a, A = some a → 0 < dn → ¬ F a.block) (hdn : dn ≤ 70000) (le : Int) (long : Bool) (hs : s.shut = false) :
    Calls Tryz.prog 40 #[.pointer (some ⟨g, 0, none⟩), cmdV cla ins p1 p2 A dn c le long] w0 (AcRes w0 g F s a ⟨cla, ins, p1, p2, b, le, long⟩) := by
  by_cases hc : Apd.chk cla ins p1 p2 dn le long = 0
  rotate_left 1
  · exact acc_chk w0 g F s a H hcnt cla ins p1 p2 A dn c b h hfar hdn le long hs hc
  by_cases hf : Apd.cok cla = false ∨ cla / 16 % 2 = 1 ∨ (cla / 4 % 2 = 1 ∧ Sec.hb s.lvl 1 = false)
  · exact acc_form w0 g F s a H hcnt cla ins p1 p2 A dn c b h hfar hdn le long hs hc hf
  have hk : Apd.cok cla = true := by
    cases hk : Apd.cok cla with
    | true => rfl
    | false => exact absurd (.inl hk) hf
  have h16 : ¬ cla / 16 % 2 = 1 := fun e => hf (.inr (.inl e))
  cases h1 : Sec.hb s.lvl 1 with
  | false => exact acc_no w0 g F s a H hcnt cla ins p1 p2 A dn c b h hfar hdn le long hs hc hk h16 (fun e => hf (.inr (.inr ⟨e, h1⟩))) h1
  | true =>
    by_cases hsh : ¬ cla / 4 % 2 = 1 ∨ dn < 8
    · exact acc_short w0 g F s a H hcnt cla ins p1 p2 A dn c b h hfar hdn le long hs hc hk h16 h1 hsh
    have h4 : cla / 4 % 2 = 1 := Decidable.not_not.1 fun e => hsh (.inl e)
    have h8 : 8 ≤ dn := Nat.not_lt.1 fun e => hsh (.inr e)
    by_cases hq : b.drop (dn - 8) = Sec.cmac s cla ins p1 p2 le (b.take (dn - 8))
    rotate_left 1
    · exact acc_wrong w0 g F s a H hcnt cla ins p1 p2 A dn c b h hfar hdn le long hs hc hk h16 h4 h1 h8 hq
    cases h2 : Sec.hb s.lvl 2 with
    | false => exact acc_mac w0 g F s a H hcnt cla ins p1 p2 A dn c b h hfar hdn le long hs hc hk h16 h4 h1 h8 hq h2
    | true =>
      cases hsw : Sec.show? { s with cnt := s.cnt + 1 } false (b.take (dn - 8)) with
      | none => exact acc_bad w0 g F s a H hcnt cla ins p1 p2 A dn c b h hfar hdn le long hs hc hk h16 h4 h1 h8 hq h2 hsw
      | some d => exact acc_enc w0 g F s a H hcnt cla ins p1 p2 A dn c b h hfar hdn le long hs hc hk h16 h4 h1 h8 hq h2 d hsw
end Go.Proofs.YtibaibdgpnkdnaaGreatDoor
