/-
  Seal, at whatever response; what examine leaves.
-/
import Derived.Test.YtibaibdgpnkdnaaGreatDoorSecA
namespace Go.Proofs.YtibaibdgpnkdnaaGreatDoor
set_option maxRecDepth 100000
set_option linter.unusedSimpArgs false
set_option linter.unusedVariables false
open Go.RowKit
set_option maxHeartbeats 8000000

theorem ch_seal (w0 : World) (g : Nat) (F : Nat → Prop) (s : Sec.S) (H : ChAt' w0 g F s) (hcnt : s.cnt ≤ 1000000) (A : Option Addr) (dn c : Nat) (b : List UInt8) (h : Byt w0 w0.heap.size A dn c b) (hfar : ∀ a, A = some a → 0 < dn → ¬ F a.block) (hdn : dn ≤ 70000) (sw : Int) :
    Calls Tryz.prog 21 #[.pointer (some ⟨g, 0, none⟩), rspV A dn c sw] w0 (SaRes w0 g F s b sw) := by
  cases hs : s.shut with
  | true => exact seal_shut w0 g F s H hcnt A dn c b h hfar hdn sw hs
  | false =>
  cases he : s.exp with
  | false => exact seal_noexp w0 g F s H hcnt A dn c b h hfar hdn sw hs he
  | true =>
  by_cases hsw : sw < 0 ∨ 65535 < sw
  · exact seal_arg w0 g F s H hcnt A dn c b h hfar hdn sw hs he hsw
  have hsw : 0 ≤ sw ∧ sw ≤ 65535 := by omega
  by_cases hl : 65536 < dn
  · exact seal_long1 w0 g F s H hcnt A dn c b h hfar hdn sw hs he hsw hl
  cases h16 : Sec.hb s.lvl 16 with
  | false => exact seal_no w0 g F s H hcnt A dn c b h hfar hdn sw hs he hsw (by omega) h16
  | true =>
  by_cases hz : 65536 < Sec.sz dn (Sec.hb s.lvl 32) + 8
  · exact seal_long2 w0 g F s H hcnt A dn c b h hfar hdn sw hs he hsw (by omega) h16 hz
  cases h32 : Sec.hb s.lvl 32 with
  | false => exact seal_mac w0 g F s H hcnt A dn c b h hfar hdn sw hs he hsw (by omega) h16 false rfl h32 (by rw [h32] at hz; omega)
  | true => exact seal_enc w0 g F s H hcnt A dn c b h hfar hdn sw hs he hsw (by omega) h16 true rfl h32 (by rw [h32] at hz; omega)
/-- What examine leaves. -/
def ExRes (w : World) (s : Sec.S) (d : List UInt8) (sw : Int) (e : Ending) (w' : World) : Prop :=
  Below w.heap.size w w' ∧ ((Sec.openE s d sw ≠ 0 ∧ ∃ z, e = .returned (.tuple #[rspV none 0 0 z, .iface 106 (.agg #[.int .i64 (Sec.openE s d sw)])])) ∨
    (Sec.openE s d sw = 0 ∧ ∃ A c, e = .returned (.tuple #[rspV A (Sec.openD s d).length c sw, .nilIface]) ∧ Own w' w.heap.size 5 1 A (Sec.openD s d).length c (bcells (Sec.openD s d))))
theorem ExRes.bad {w w' : World} {s : Sec.S} {d : List UInt8} {sw k z : Int} (hb : Below w.heap.size w w') (hk : Sec.openE s d sw = k) (h0 : k ≠ 0) : ExRes w s d sw (.returned (.tuple #[rspV none 0 0 z, .iface 106 (.agg #[.int .i64 k])])) w' := by
  unfold ExRes
  rw [hk]
  exact ⟨hb, .inl ⟨h0, z, rfl⟩⟩
theorem ExRes.good {w w' : World} {s : Sec.S} {d D : List UInt8} {sw : Int} {A : Option Addr} {m c : Nat} (hb : Below w.heap.size w w') (hk : Sec.openE s d sw = 0) (hD : Sec.openD s d = D) (hm : D.length = m) (ho : Own w' w.heap.size 5 1 A m c (bcells D)) : ExRes w s d sw (.returned (.tuple #[rspV A m c sw, .nilIface])) w' := by
  subst hD; subst hm
  exact ⟨hb, .inr ⟨hk, A, c, rfl, ho⟩⟩
theorem op_mac {s : Sec.S} {d : List UInt8} {sw : Int} (hs : s.shut = false) (he : s.exp = true) (hsw : 0 ≤ sw ∧ sw ≤ 65535) (h16 : Sec.hb s.lvl 16 = true) : Sec.openE s d sw = if d.length < 8 then 5
  else if d.drop (d.length - 8) ≠ Sec.rmc s (d.take (d.length - 8)) sw then 17
  else if Sec.hb s.lvl 32 = true ∧ Sec.show? s true (d.take (d.length - 8)) = none then 4 else 0 := by
  unfold Sec.openE
  rw [if_neg (by rw [hs, he]; rintro (e | e) <;> cases e), if_neg (by omega), if_neg (by rw [h16]; decide)]
end Go.Proofs.YtibaibdgpnkdnaaGreatDoor
