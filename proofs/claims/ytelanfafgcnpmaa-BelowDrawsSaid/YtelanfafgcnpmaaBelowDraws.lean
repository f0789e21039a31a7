/- The statement BelowDraws: what is drawn below any numbers, one behind the other, of any string of bits, and how many bits are read, are the document's. No condition. -/
import Derived.Test.YtelanfafgcnpmaaRows
import Derived.WalkKit
import Derived.ProofKit
import Derived.OpenShut
import Derived.Test.YtelanfafgcnpmaaBelG
import Derived.ShutString
import Derived.ChangeOld
import Derived.Below
namespace Go.Proofs.Ytelanfafgcnpmaa.belowDraws
open Go.ChangeShapes Go.WideShapes Go.ChangeAt Go.RowKit
open Go.Proofs
open Go.ChangeMaps (open_string shut_string)
set_option linter.unusedVariables false

theorem own : ownKnob Try.prog.godebug = none := by kernel_rfl
theorem laidOut : laidOutB Try.prog = true := by kernel_rfl

/-- WHAT THE WALK IS TOLD OF A SLICE OF INTEGERS THAT CAME IN: it is nil; or it leads to a row of 'cap' cells, the numbers 'zs' (the first 'len' are its elements, the rest its spare room), each fitting its kind. -/
def IsRow (k : IntKind) (w : World) (a : Option Addr) (len cap : Nat) (zs : List Int) : Prop :=
  (a = none ∧ len = 0 ∧ cap = 0 ∧ zs = []) ∨
  ∃ x, a = some x ∧ len ≤ cap ∧ cap ≤ maxLen ∧ zs.length = cap ∧ (∀ i, i < zs.length → w.cell? (x.add i) = some (.int k (zs.getD i 0))) ∧ ∀ n ∈ zs, (Lit.int k n).wf = true

open Go.Proofs.BL Go.Proofs.SL Go.Proofs.RA Go.Proofs.BT
set_option linter.unusedSimpArgs false

/-! ### STEP 1: THE WALK: the Go text returns true, AND WRITES NOTHING THAT WAS THERE: 'Below w.heap.size w w'' (Derived/Below.lean: '.refl', '.alloc', '.drew', '.setCell' at a new block, '.trans'). Open each 'IsRow' by 'rcases' AHEAD of 'go_enter'; part every test ahead of the walk. -/
set_option maxHeartbeats 4000000 in
set_option maxRecDepth 100000 in
theorem walk (a0 : ByteArray) (a1 : Option Addr) (len1 cap1 : Nat) (z1 : List Int) (w : World) (w0 : a0.size ≤ maxLen) (w1 : IsRow .u64 w a1 len1 cap1 z1) :
    Calls Try.prog 5 #[.string a0, .slice a1 len1 cap1] w fun e w' => e = .returned (.bool true) ∧ Below w.heap.size w w' := by
  unfold maxLen at w0
  obtain ⟨xs, rfl, Sx⟩ := LN.rows w1
  have K : Kp w w := Kp.refl w
  clear w1
  by_cases hl : 100 < xs.length
  · have hl2 : (100 : Int) < (xs.length : Int) := by omega
    go_enter Try.func5, Try.ntmps5
    go_wp2_with fail
    refine (awake _).mono ?_; rintro e w5 ⟨rfl, hb⟩
    have K := Lib.hid hb
    go_wp2_with fail
    go_ret
    exact ⟨rfl, K.out⟩
  have hl2 : ¬ ((100 : Int) < (xs.length : Int)) := by omega
  cases hz : isB a0 with
  | false =>
    have HN1 := Lib.hid (fun w1 => new1_no a0 w1 (by omega) hz)
    have HN2 := Lib.hid (fun w1 => new2_no a0 w1 (by omega) hz)
    clear hz
    go_enter Try.func5, Try.ntmps5
    go_wp2_with fail
    refine (HN1.out _).mono ?_; rintro e w1 ⟨rfl, rfl⟩
    go_wp2_with fail
    refine (HN2.out _).mono ?_; rintro e w1 ⟨rfl, rfl⟩
    go_wp2_with fail
    refine (awake _).mono ?_; rintro e w5 ⟨rfl, hb⟩
    have K := Lib.hid hb
    go_wp2_with fail
    go_ret
    exact ⟨rfl, K.out⟩
  | true =>
    have hs := isB_le hz
    have HN1 := Lib.hid (fun w1 => new1_ok a0 w1 (by omega) hz)
    have HN2 := Lib.hid (fun w1 => new2_ok a0 w1 (by omega) hz)
    have HD1 := Lib.hid (fun (g a m : Nat) (o : Bool) (w1 : World) (h : Cp w1 g a0 a o) (ha : a ≤ a0.size) (hm : m < 18446744073709551616) (R : Dr) (hR : R = draw a0 m a o) => draw1 g a m a0 o w1 h ha (by omega) (isB_bits hz) hm R hR)
    have HD2 := Lib.hid (fun (g a m : Nat) (o : Bool) (w1 : World) (h : Cr w1 g a0 a o) (ha : a ≤ a0.size) (hm : m < 18446744073709551616) (R : Dr) (hR : R = draw a0 m a o) => draw2 g a m a0 o w1 h ha (by omega) (isB_bits hz) hm R hR)
    have HSx := Lib.hid Sx
    clear hz Sx K
    go_enter Try.func5, Try.ntmps5
    go_wp2_with fail
    refine (HN1.out _).mono ?_; rintro e w1 ⟨rfl, hc1, hb⟩
    have K := Lib.hid hb
    have C1 := Lib.hid hc1
    have hg1 := hc1.lt
    clear HN1 hc1 hb
    go_wp2_with fail
    refine (HN2.out _).mono ?_; rintro e w2 ⟨rfl, hc2, hb⟩
    replace C1 := Lib.hid (C1.out.nx hb)
    replace K := Lib.hid (Kp.nx K.out hb)
    have C2 := Lib.hid hc2
    clear HN2 hc2 hb
    obtain ⟨g1, hgg1⟩ : ∃ g, w.heap.size = g := ⟨_, rfl⟩
    obtain ⟨g2, hgg2⟩ : ∃ g, w1.heap.size = g := ⟨_, rfl⟩
    have hne : g1 < g2 := by omega
    have G1 := Lib.hid hgg1
    have hw1 : w.heap.size ≤ g2 := by omega
    rw [hgg1] at C1
    rw [hgg2] at C2
    simp only [hgg1, hgg2]
    clear hgg1 hgg2 hg1
    go_wp2_with fail
    go_loopw [9] (fun s9 wr => ∃ (i a : Nat) (o : Bool), s9 = .int .i64 (i : Int) ∧ i ≤ xs.length ∧ a ≤ a0.size ∧ Hid (Cp wr g1 a0 a o) ∧ Hid (Cr wr g2 a0 a o) ∧ Hid (Kp w wr)) (fun v _ => xs.length - (intOf v).toNat)
    case atStart => exact ⟨0, 0, false, rfl, by omega, by omega, C1, C2, K⟩
    case round =>
      clear C1 C2 K
      obtain ⟨i, a, o, rfl, hi, ha, C1, C2, K⟩ := hrel
      by_cases hlt : i < xs.length
      · have hlt2 : (i : Int) < (xs.length : Int) := by omega
        obtain ⟨m, hm⟩ : ∃ m, m = xs[i] := ⟨_, rfl⟩
        have hm64 : m < 18446744073709551616 := by rw [hm]; exact HSx.out.ws _ (List.getElem_mem _)
        obtain ⟨b, off, rfl, hbl, hc⟩ : ∃ b off, a1 = some ⟨b, off, none⟩ ∧ b < w.heap.size ∧ ∀ i (h : i < xs.length), w.cell? ⟨b, off + i, none⟩ = some (.int .u64 (xs[i] : Int)) := by
          rcases HSx.out.at' with h0 | ⟨b, off, h1, h2, h3⟩
          · rw [h0] at hlt; simp at hlt
          · exact ⟨b, off, h1, h2, h3⟩
        have hci := hc i hlt
        rw [← hm] at hci
        have HCI := Lib.hid (fun (W : World) (hk : Kp w W) => show W.cell? ⟨b, off + i, none⟩ = some (.int .u64 (m : Int)) from (hk.below.cell (p := ⟨b, off + i, none⟩) hbl).trans hci)
        obtain ⟨R, hR⟩ : ∃ R, R = draw a0 m a o := ⟨_, rfl⟩
        have hRa : R.at' ≤ a0.size := by
          rw [hR, draw]; split
          · exact ha
          · exact (drw_le ha).2
        have D1 := Lib.hid (fun (W : World) (h : Cp W g1 a0 a o) => HD1.out g1 a m o W h ha hm64 R hR)
        have D2 := Lib.hid (fun (W : World) (h : Cr W g2 a0 a o) => HD2.out g2 a m o W h ha hm64 R hR)
        obtain ⟨x, is, n, ov⟩ := R
        simp only at hRa
        have c1 := HCI.out _ K.out
        clear hm hc hci hR
        go_wp2_with fail
        refine (D1.out _ C1.out).mono ?_; rintro e w3 ⟨rfl, hc1, hgr⟩
        replace K := Lib.hid (show Kp w w3 from Kp.grown K.out hgr (fun k e => by cases e; have := G1.out; omega))
        replace C2 := Lib.hid (C2.out.kept hgr (by simp; omega))
        replace C1 := Lib.hid hc1
        have c2 := HCI.out _ K.out
        clear D1 c1 hc1 hgr
        go_wp2_with fail
        refine (D2.out _ C2.out).mono ?_; rintro e w4 ⟨rfl, hc2, hgr⟩
        replace K := Lib.hid (show Kp w w4 from Kp.grown K.out hgr (fun k e => by cases e; exact hw1))
        replace C1 := Lib.hid (C1.out.kept hgr (by simp; omega))
        replace C2 := Lib.hid hc2
        have x1 := C2.out.c1
        have x2 := C2.out.c2
        have HA := Lib.hid (fun q => at1 g1 n a0 ov (w4.drewN q) (C1.out.dr q))
        have HO := Lib.hid (fun q => over1 g1 n a0 ov (w4.drewN q) (C1.out.dr q))
        simp only at x1 x2
        clear D2 c2 hc2 hgr HD1 HD2 HCI HSx
        cases is <;> cases ov
        all_goals
          go_wp2_with fail
          go_quiet (first | (go_at_call 23; exact (HA.out _).mono (fun _ _ h => ⟨h.1, _, h.2.symm⟩)) | (go_at_call 24; exact (HO.out _).mono (fun _ _ h => ⟨h.1, _, h.2.symm⟩)))
          go_wp2_with fail
          go_roundw
          case rel => exact ⟨i + 1, n, _, by go_num, by omega, hRa, Lib.hid (C1.out.dr nq), Lib.hid (C2.out.dr nq), Lib.hid (K.out.dr nq)⟩
          case measure => simp [intOf]; omega
      · have hlt2 : ¬ ((i : Int) < (xs.length : Int)) := by omega
        clear C1 C2 HD1 HD2 HSx
        go_wp2_with fail
        refine (awake _).mono ?_; rintro e w5 ⟨rfl, hb⟩
        have K := Lib.hid (Kp.nx K.out hb)
        go_wp2_with fail
        go_ret
        exact ⟨rfl, K.out⟩

/-! ### THE ROW's STEP: WRITTEN OUT: LEAVE IT -/
set_option maxRecDepth 100000 in
theorem lifted (os : Os) (started : os.Started) (H : Type) (enc : TypeId × Value → H) :
    ReturnsInHanded {} Try.checked os 5 .any (Rows.belowDrawsSpec.pre6 enc Try.prog Try.f5 Rows.belowDrawsRow.domain false) (Rows.belowDrawsSpec.post enc Try.prog Try.f5 false true false false) := by
  refine returnsInHanded_of_change (C := Try.checked) own started (by kernel_rfl) Try.func5
    (ChangeSpec.witness6 (enc := enc) (C := Try.checked) false ⟨#[], #[.string ByteArray.empty, .slice none 0 0], []⟩ 8 (by kernel_rfl) (by kernel_rfl) (by kernel_rfl) (by kernel_rfl)) ?_
  intro W base args ds gs before hval0 hW hcnd _
  have hval : ∀ (j : Nat) t v, Try.f5.params[j]? = some t → args[j]? = some v → Value.okWide Try.prog W .any base t v := hval0
  have hW' := hW
  obtain ⟨p, q, hA0, hV, rfl, hfz, hnd⟩ := hW
  have hA : DataW.TrodAll enc Try.prog W 0 (fun _ => true) true Try.f5.params.toList args.toList ds p := hA0
  rw [Try.params5] at hA hval
  obtain ⟨v0, vs0, d0, ds0, p0, q0, hargs, rfl, rfl, h0, r0⟩ := trodAll_cons hA
  obtain ⟨v1, vs1, d1, ds1, p1, q1, rfl, rfl, rfl, h1, r1⟩ := trodAll_cons r0
  obtain ⟨rfl, rfl, rfl⟩ := trodAll_nil r1
  obtain rfl : args = #[v0, v1] := by cases args; simp_all
  obtain ⟨rfl, rfl⟩ := trodVars_none hV
  obtain ⟨a0, rfl, rfl, rfl, w0⟩ := open_string Try.underlying9 (hval 0 9 v0 rfl rfl) h0
  obtain ⟨a1, len1, cap1, rfl⟩ := okWide_slice Try.underlying23 (hval 1 23 v1 rfl rfl)
  have k1 := h1
  have lt1 : ∀ x ∈ p1, x.block < W.heap.size := by obtain ⟨m, hm⟩ := k1; exact DataW.trod_lt m _ _ _ hm
  obtain ⟨z1, w1⟩ : ∃ zs, IsRow .u64 W a1 len1 cap1 zs := by
    obtain ⟨fuel, hf⟩ := h1
    rcases open_ints Try.underlying23 Try.underlying22 (by kernel_rfl) hf with ⟨hcs, _⟩ | ⟨x, l, c, zs, hcs, _, hl, hm, hz, _, hcell, hwz⟩
    · simp [Value.cells] at hcs
      obtain ⟨rfl, rfl, rfl⟩ := hcs
      exact ⟨[], .inl ⟨rfl, rfl, rfl, rfl⟩⟩
    · simp [Value.cells] at hcs
      obtain ⟨rfl, rfl, rfl⟩ := hcs
      exact ⟨zs, .inr ⟨_, rfl, hl, hm, by simpa using hz, hcell, hwz⟩⟩
  clear hA0 hval0
  refine (walk a0 a1 len1 cap1 z1 W w0 w1).mono fun e W' ⟨he, bel⟩ => ?_
  subst he
  exact ⟨_, rfl, _, _, _, [], _, [], hW', trodAll_mk1 (shut_bool Try.underlying4 _), (trodAll_cons_mk (shut_string Try.underlying9 w0) (trodAll_cons_mk (Below.trod laidOut (by kernel_rfl) (of_decide_eq_true (by kernel_rfl)) k1 bel lt1) trodAll_mk0)), rfl, bel.frame _, fun h => by cases h⟩

theorem over : Rows.belowDrawsRow.holds Try.pinned (OpenSpec.ofChange Rows.belowDrawsSpec) :=
  OpenClaim.holds_of_wide 5 Try.f5 rfl rfl rfl rfl rfl rfl rfl ⟨rfl, rfl, rfl, rfl, rfl⟩ rfl rfl rfl rfl rfl (by kernel_rfl) Try.func5 (by kernel_rfl)
    (of_decide_eq_true (by kernel_rfl)) (by unfold Func.isWrapper; first | (rw [if_pos (by decide +kernel)]; kernel_rfl) | (rw [if_neg (by decide +kernel)]; exact ⟨rfl, rfl⟩))
    (fun os started H enc _ => lifted os started H enc)

/-- ████ THE STATEMENT ████ -/
theorem proved : Rows.BelowDrawsSaid := over
#print axioms proved
end Go.Proofs.Ytelanfafgcnpmaa.belowDraws
