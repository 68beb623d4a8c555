/-
  The reference of the channel: a side by value; the walks of its small functions.
-/
import Derived.Test.YtibaibdgpnkdnaaGreatDoorZ1
import Derived.Test.YtibaibdgpnkdnaaGreatDoorSecM
import Derived.Test.YtibaibdgpnkdnaaGreatDoorZ2
namespace Go.Proofs.YtibaibdgpnkdnaaGreatDoor
set_option maxRecDepth 100000
set_option linter.unusedSimpArgs false
set_option linter.unusedVariables false
open Go.RowKit
set_option maxHeartbeats 8000000

/-- A side by value. -/
structure RSt (w : World) (a : ChS) (s : Sec.S) : Prop where
  ok : Sec.Ok s
  enc : Byt w w.heap.size a.E 16 a.ce s.enc
  mac : Byt w w.heap.size a.M 16 a.cm s.mac
  rmac : Byt w w.heap.size a.R 16 a.cr s.rmac
  dat : Byt w w.heap.size a.D 16 a.cd s.dat
  chain : Byt w w.heap.size a.C 8 a.cc s.chain
def rst (a : ChS) (s : Sec.S) : Array Value := cch a s.lvl s.cnt s.exp s.shut
theorem RSt.below {w w' : World} {a : ChS} {s : Sec.S} (h : RSt w a s) (hb : Below w.heap.size w w') : RSt w' a s :=
  ⟨h.ok, (h.enc.below hb).more hb.size, (h.mac.below hb).more hb.size, (h.rmac.below hb).more hb.size, (h.dat.below hb).more hb.size, (h.chain.below hb).more hb.size⟩
theorem RSt.flags {w : World} {a : ChS} {s : Sec.S} (h : RSt w a s) (cnt : Nat) (exp shut : Bool) : RSt w a { s with cnt := cnt, exp := exp, shut := shut } :=
  ⟨{ h.ok with }, h.enc, h.mac, h.rmac, h.dat, h.chain⟩
theorem putB_small (n : Nat) (h : n < 256) : Oct.putB n 7 = [0, 0, 0, 0, 0, 0, UInt8.ofNat n] := by
  have h1 : n / 256 = 0 := Nat.div_eq_of_lt h
  have h2 : ∀ k, n / 256 ^ (k + 1) = 0 := fun k => Nat.div_eq_of_lt (Nat.lt_of_lt_of_le h (by rw [Nat.pow_succ]; exact Nat.le_mul_of_pos_left _ (Nat.pow_pos (by decide))))
  simp [Oct.putB, List.range_succ]
  refine ⟨?_, ?_, ?_, ?_, ?_, ?_⟩ <;> rw [Nat.div_eq_of_lt (by omega)] <;> rfl
theorem renc_call (A A' A'' : Option Addr) (n c c' c'' : Nat) (key iv d : List UInt8) (u : World) (hk : Byt u u.heap.size A 16 c key) (hv : Byt u u.heap.size A' 8 c' iv) (hd : Byt u u.heap.size A'' n c'' d) (h8 : n % 8 = 0) (hn : n ≤ 1000000) :
    Calls Tryz.prog 68 #[.slice A 16 c, .slice A' 8 c', .slice A'' n c''] u fun e u' => ∃ A1 c1, e = .returned (.tuple #[.slice A1 n c1, .int .i64 0]) ∧ Own u' u.heap.size 5 1 A1 n c1 (bcells (Mod.cbB key iv d false)) ∧ Below u.heap.size u u' := by
  have hok : Mod.ok key iv d = true := (Mod.ok_iff _ _ _).2 ⟨hk.1, hv.1, by rw [hd.1]; exact h8⟩
  have hl : (Mod.cbB key iv d false).length = n := by rw [Mod.cbB_length _ _ _ _ hok]; exact hd.1
  refine (ref20_EncryptCBC A A' A'' 16 8 n c c' c'' key iv d u hk hv hd hn).mono ?_
  rintro e u' ⟨A1, c1, rfl, ho, hb⟩
  rw [hl] at *
  refine ⟨A1, c1, ?_, ho, hb⟩
  unfold Mod.cbE
  rw [if_pos hok]
set_option maxRecDepth 100000 in
theorem ref24_start (w0 : World) (a : ChS) (s : Sec.S) (H : RSt w0 a s) (hc : s.cnt < 256) (r : Bool) :
    Calls Tryz.prog 69 #[.agg (rst a s), .int .i64 (if r then 128 else 0)] w0 (ORes w0 (Sec.iv s r)) := by
  have HE := Lib.hid H.enc
  have HV := Lib.hid (Sec.iv_length s r H.ok.enc)
  have HIV : Hid (Sec.iv s r = Mod.cbB s.enc Mod.z8 ((if r then 128 else 0) :: [0, 0, 0, 0, 0, 0, UInt8.ofNat s.cnt]) false) := Lib.hid (by rw [← putB_small _ hc]; rfl)
  have m8 : ∀ u : World, (Instr.makeSlice 22 (.int .i64 8) (.int .i64 8)).run Tryz.prog u = .ok (.slice (some ⟨u.heap.size, 0, none⟩) 8 8) (u.alloc (.cells #[.int .u8 0, .int .u8 0, .int .u8 0, .int .u8 0, .int .u8 0, .int .u8 0, .int .u8 0, .int .u8 0] 5)) := fun _ => by kernel_rfl
  have HCN : Hid (((UInt8.ofNat s.cnt).toNat : Int) = (s.cnt : Int)) := Lib.hid (by simp; omega)
  have hm := Mem.nil (fun _ => False) w0
  have c0 : 0 ≤ (s.cnt : Int) := by omega
  have c1 : (s.cnt : Int) < 256 := by omega
  clear H hc
  obtain ⟨E, ce, M, cm, R, cr, D, cd, C, cc⟩ := a
  unfold rst cch
  generalize (s.cnt : Int) = cn at *
  have e1 : cn % 256 = cn := Int.emod_eq_of_lt c0 c1
  have e2 : cn / 256 = 0 := Int.ediv_eq_zero_of_lt c0 c1
  obtain ⟨x, hx⟩ : ∃ x : UInt8, x = if r then 128 else 0 := ⟨_, rfl⟩
  obtain ⟨y, hy⟩ : ∃ y : Int, y = if r then 128 else 0 := ⟨_, rfl⟩
  have e3 : IntKind.u8.wrap y = (x.toNat : Int) := by subst hx; subst hy; cases r <;> rfl
  rw [← hy]
  rw [← hx] at HIV
  clear hx hy
  go_enter Tryz.func69, Tryz.ntmps69
  go_wp2_with (first | go_skip | ((with_reducible show wpList _ _ _ _ _ (World.alloc _ _)); refine wpList_up hm ?_; clear hm; intro n w hn hn2 hk hm hd hd2 ho; (try rw [← hn]); replace hn := Nat.le_of_eq hn.symm) | ((first | ((with_reducible show wpList _ _ _ (Oper.mk _ (Op.box _ _) _ _ _ _ :: _) _ _); (refine bxA hm ?_; clear hm; intro n w hn hz hm ho; (try simp only [List.cons_append, List.nil_append] at hm))) | ((with_reducible show wpList _ _ _ (Oper.mk _ (Op.load _ _) _ _ _ _ :: _) _ _); first | (refine ldA hm ?_) | (refine laA hm ?_)) | ((with_reducible show wpList _ _ _ (Oper.mk _ (Op.store _ _ _) _ _ _ _ :: _) _ _); (refine stA hm ?_; clear hm; intro w hz hm ho)) | ((with_reducible show wpList _ _ _ (Oper.mk _ (Op.alloc _) _ _ _ _ :: _) _ _); (refine alA hm ?_; clear hm; intro n w hn hz hm ho; (try simp only [List.cons_append, List.nil_append] at hm)))); try simp only [Act.put, sxQ]))
  replace hm := hm.cons hk (.inr hn2) (fun e he e2 => hd e he e2.symm) hd2
  clear hk hd hd2
  refine wp_loop_rounds 8 ?_
  iterate 8
    try
      rw [rounds_succ]
      go_wp2_with (first | go_skip | ((with_reducible show wpList _ _ _ _ _ (World.alloc _ _)); refine wpList_up hm ?_; clear hm; intro n w hn hn2 hk hm hd hd2 ho; (try rw [← hn]); replace hn := Nat.le_of_eq hn.symm) | ((first | ((with_reducible show wpList _ _ _ (Oper.mk _ (Op.box _ _) _ _ _ _ :: _) _ _); (refine bxA hm ?_; clear hm; intro n w hn hz hm ho; (try simp only [List.cons_append, List.nil_append] at hm))) | ((with_reducible show wpList _ _ _ (Oper.mk _ (Op.load _ _) _ _ _ _ :: _) _ _); first | (refine ldA hm ?_) | (refine laA hm ?_)) | ((with_reducible show wpList _ _ _ (Oper.mk _ (Op.store _ _ _) _ _ _ _ :: _) _ _); (refine stA hm ?_; clear hm; intro w hz hm ho)) | ((with_reducible show wpList _ _ _ (Oper.mk _ (Op.alloc _) _ _ _ _ :: _) _ _); (refine alA hm ?_; clear hm; intro n w hn hz hm ho; (try simp only [List.cons_append, List.nil_append] at hm)))); try simp only [Act.put, sxQ]))
  refine wp_region_noPanic ?_
  refine wp_region_held_drew (S := MemS _ _ _ _) (by kernel_rfl) (MemS.of hm.drew) (fun hHeld => ?_)
  refine wpAnyH_fresh (by repeat (first | apply Fresh.a | apply Fresh.b)) ?_
  replace hm := hm.drew
  iterate 3 (first | (refine takeN 0 hHeld ?_) | (refine takeY 0 ?_ hHeld ?_ ?_; rotate_left 1; (first | (intro w9 h9; (with_reducible show (execOp _ (Oper.mk _ (Op.load _ _) _ _ _ _)).run _ _ = _); first | exact h9.ldA) | focus (intro w9 hSw; go_simp; (try (with_reducible rfl)); done))); try simp only [Act.put, sxQ])
  iterate 1 (first | (refine takeN 4 hHeld ?_) | (refine takeY 4 ?_ hHeld ?_ ?_; rotate_left 1; (first | (intro w9 h9; (with_reducible show (execOp _ (Oper.mk _ (Op.load _ _) _ _ _ _)).run _ _ = _); first | exact h9.ldA) | focus (intro w9 hSw; go_simp; (try (with_reducible rfl)); done))); try simp only [Act.put, sxQ])
  refine wpAnyH_ready (rs := [3]) (by kernel_rfl) (by simp) ?_
  refine AllReadyH.cons2 (by simp only [sxN]; first | done | exact rfl) (fun K hK => ?_)
  rw [if_pos (by rfl)]
  go_simp
  refine K_up hm ?_
  intro n5 w5 hn hn5s hn5 hm1 hn5d hn5d2 hb1
  first | rw [← hn] | rw [← (show n5 = w.heap.size from hn)]
  clear hn hm
  have hm := hm1.row hn5 hn5s hn5d hn5d2 1 8 (bcells (zs 8)) rfl rfl (by unfold maxLen; omega)
  clear hm1
  refine hK.out _ _ (MemS.of hm.less) (fun hHeld => ?_)
  clear hK K
  try simp only [Act.put, sxQ]
  refine wpAnyH_ready (rs := [5]) (by kernel_rfl) (by simp) ?_
  refine AllReadyH.cons2 (by simp only [sxN]; first | done | exact rfl) (fun K hK => ?_)
  rw [if_pos (by rfl)]
  go_simp
  refine (renc_call E _ _ 8 ce 8 8 s.enc Mod.z8 (x :: [0, 0, 0, 0, 0, 0, UInt8.ofNat s.cnt]) _ (by exact HE.out.low hm) (by exact (hm.sl_ 0 rfl).byt (bs := zs 8) (Nat.le_refl _)) (by
    have hb : Blk w5 n 5 (bcells (x :: [0, 0, 0, 0, 0, 0, UInt8.ofNat s.cnt])).toArray := by have h1 := hm.at_ 0 rfl; rw [← HCN.out] at h1; exact h1
    exact byt_blk hb hb.lt rfl) rfl (by omega)).mono ?_
  rintro e w6 ⟨A6, c6, rfl, hown, hbl6⟩
  replace hm := hm.got hbl6 hown
  clear hown
  go_simp
  refine hK.out _ _ (MemS.of hm.less.less) (fun hHeld => ?_)
  clear hK K
  try simp only [Act.put, sxQ]
  iterate 5 (first | (refine takeN 6 hHeld ?_) | (refine takeY 6 ?_ hHeld ?_ ?_; rotate_left 1; (first | (intro w9 h9; (with_reducible show (execOp _ (Oper.mk _ (Op.load _ _) _ _ _ _)).run _ _ = _); first | exact h9.ldA) | focus (intro w9 hSw; go_simp; (try (with_reducible rfl)); done))); try simp only [Act.put, sxQ])
  refine wpAnyH_done (by kernel_rfl) ?_ _
  refine NoPanic.normal ?_
  go_wp2_with (first | go_skip | ((with_reducible show wpList _ _ _ _ _ (World.alloc _ _)); refine wpList_up hm ?_; clear hm; intro n w hn hn2 hk hm hd hd2 ho; (try rw [← hn]); replace hn := Nat.le_of_eq hn.symm) | ((first | ((with_reducible show wpList _ _ _ (Oper.mk _ (Op.box _ _) _ _ _ _ :: _) _ _); (refine bxA hm ?_; clear hm; intro n w hn hz hm ho; (try simp only [List.cons_append, List.nil_append] at hm))) | ((with_reducible show wpList _ _ _ (Oper.mk _ (Op.load _ _) _ _ _ _ :: _) _ _); first | (refine ldA hm ?_) | (refine laA hm ?_)) | ((with_reducible show wpList _ _ _ (Oper.mk _ (Op.store _ _ _) _ _ _ _ :: _) _ _); (refine stA hm ?_; clear hm; intro w hz hm ho)) | ((with_reducible show wpList _ _ _ (Oper.mk _ (Op.alloc _) _ _ _ _ :: _) _ _); (refine alA hm ?_; clear hm; intro n w hn hz hm ho; (try simp only [List.cons_append, List.nil_append] at hm)))); try simp only [Act.put, sxQ]))
  go_ret
  rw [HIV.out]
  exact ORes.of (by rw [← HIV.out]; exact HV.out) (hm.own_ 1 rfl) hm.low
end Go.Proofs.YtibaibdgpnkdnaaGreatDoor
