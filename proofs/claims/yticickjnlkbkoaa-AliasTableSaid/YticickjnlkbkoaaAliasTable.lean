/- The statement AliasTable: cuts are from 0 to W; a place whose cut is W is its own other place, and no other one is; each place is picked from its own column by its cut, else its other place is; at most Len less 1 places have a cut below W. No condition. -/
import Derived.Test.YticickjnlkbkoaaRows
import Derived.WalkKit
import Derived.ProofKit
import Derived.OpenShut
import Derived.Test.YticickjnlkbkoaaAliI
import Derived.ShutString
import Derived.ChangeOld
import Derived.Below
namespace Go.Proofs.Yticickjnlkbkoaa.aliasTable
open Go.ChangeShapes Go.WideShapes Go.ChangeAt Go.RowKit
open Go.Proofs
open Go.ChangeMaps (open_string shut_string)
set_option linter.unusedVariables false

theorem own : ownKnob Try.prog.godebug = none := by kernel_rfl
theorem laidOut : laidOutB Try.prog = true := by kernel_rfl

/-- WHAT THE WALK IS TOLD OF A SLICE OF INTEGERS THAT CAME IN: it is nil; or it leads to a row of 'cap' cells, the numbers 'zs' (the first 'len' are its elements, the rest its spare room), each fitting its kind. -/
def IsRow (k : IntKind) (w : World) (a : Option Addr) (len cap : Nat) (zs : List Int) : Prop :=
  (a = none ∧ len = 0 ∧ cap = 0 ∧ zs = []) ∨
  ∃ x, a = some x ∧ len ≤ cap ∧ cap ≤ maxLen ∧ zs.length = cap ∧ (∀ i, i < zs.length → w.cell? (x.add i) = some (.int k (zs.getD i 0))) ∧ ∀ n ∈ zs, (Lit.int k n).wf = true

open Go.Proofs.AL Go.Proofs.SL Go.Proofs.RA Go.Proofs.NP
set_option linter.unusedSimpArgs false

/-! ### STEP 1: THE WALK: the Go text returns true, AND WRITES NOTHING THAT WAS THERE: 'Below w.heap.size w w'' (Derived/Below.lean: '.refl', '.alloc', '.drew', '.setCell' at a new block, '.trans'). Open each 'IsRow' by 'rcases' AHEAD of 'go_enter'; part every test ahead of the walk. -/
set_option maxHeartbeats 8000000 in
set_option maxRecDepth 100000 in
theorem walk (a0 : Option Addr) (len0 cap0 : Nat) (z0 : List Int) (a1 : Int) (w : World) (w0 : IsRow .i64 w a0 len0 cap0 z0) (w1 : (Lit.int .i64 a1).wf = true) :
    Calls Try.prog 4 #[.slice a0 len0 cap0, .int .i64 a1] w fun e w' => e = .returned (.bool true) ∧ Below w.heap.size w w' := by
  obtain ⟨ws, rfl, hlen, Sx⟩ := Ri.of_row w0
  have hr1 := bounds_i64 w1
  clear w0 w1
  by_cases hl : 100 < ws.length
  · have hl2 : (100 : Int) < (ws.length : Int) := by omega
    go_enter Try.func4, Try.ntmps4
    go_wp2_with fail
    refine (awake _).mono ?_; rintro e w5 ⟨rfl, hb⟩
    have K := Lib.hid hb
    go_wp2_with fail
    go_ret
    exact ⟨rfl, K.out⟩
  have hl2 : ¬ ((100 : Int) < (ws.length : Int)) := by omega
  obtain ⟨z, hz⟩ : ∃ z, z = whyW ws := ⟨_, rfl⟩
  by_cases hz0 : z = 0
  · subst hz0
    have hn := why_len hz
    have hsp := sum_pos hz
    obtain ⟨hall, -⟩ := why0 hz
    obtain ⟨hP, hO⟩ := table_pl (n := ws.length) (w := wf ws) hn.1 (fun j => Int.mul_nonneg (by omega) (wf_ok hall j).1) (fun j => by
      have h2 : (ws.length : Int) * wf ws j ≤ 64 * 1048576 := Int.mul_le_mul (by omega) (wf_ok hall j).2 (wf_ok hall j).1 (by omega)
      omega)
    have hsb := up_bd hall ws.length hn.2
    have HN := Lib.hid (fun (W : World) (h : Ri W a0 ws) => new1 ws a0 cap0 W h hn hz)
    obtain ⟨n, hnn⟩ : ∃ n, ws.length = n := ⟨_, rfl⟩
    have HLow := Lib.hid (table_low hP hO)
    have HP := Lib.hid hP.at'
    rw [hnn] at hn hsp hsb hl2 HN HLow HP ⊢
    generalize htb : table n (wf ws) = tb at *
    generalize up (wf ws) n = s at *
    have HS := Lib.hid Sx
    clear hz hall hP hO hl hnn hlen htb Sx
    go_enter Try.func4, Try.ntmps4
    go_wp2_with fail
    refine (awake _).mono ?_; rintro e w5 ⟨rfl, hb⟩
    have K := Lib.hid hb
    have HS2 := Lib.hid (HS.out.nx hb)
    clear hb HS
    go_wp2_with fail
    refine (HN.out _ HS2.out).mono ?_; rintro e w6 ⟨g, gc, go, rfl, hT, -, hb⟩
    have HT := Lib.hid hT
    replace K := Lib.hid (Kp.nx K.out hb)
    clear HN HS2 hT hb
    go_wp2_with fail
    go_loopw [7, 8] (fun s7 s8 wr => ∃ (i m : Nat), s8 = .int .i64 (i : Int) ∧ i ≤ n ∧ s7 = .int .i64 (m : Int) ∧ m ≤ i ∧ Hid (m = lowc s tb.cu i) ∧ w6 = wr) (fun _ v _ => n - (intOf v).toNat)
    case atStart => exact ⟨0, 0, rfl, by omega, rfl, by omega, Lib.hid rfl, rfl⟩
    case round =>
      obtain ⟨i, m, rfl, hi, rfl, hmi, HL, rfl⟩ := hrel
      by_cases hlt : i < n
      · have hlt2 : (i : Int) < (n : Int) := by omega
        have HC := Lib.hid (cut1 i HT.out (by omega) hlt (by omega))
        have HO := Lib.hid (other1 i HT.out (by omega) hlt (by omega))
        have HSm := Lib.hid (sum1 HT.out)
        have HPk := Lib.hid (fun (h0 : 0 ≤ a1) (h1 : a1 < s) (p : Int) (hp : p = if a1 < tb.cu i then (i : Int) else tb.ot i) => pick1 i a1 HT.out (by omega) hlt (by omega) h0 h1 p hp)
        have HU := Lib.hid (show lowc s tb.cu (i + 1) = lowc s tb.cu i + (if tb.cu i < s then 1 else 0) from rfl)
        have hP := HP.out i hlt
        generalize tb.cu i = c at *
        generalize tb.ot i = o at *
        have hs0 : ¬ (s < 0) := by omega
        rcases hP with ⟨rfl, rfl⟩ | ⟨-, -, hc0, hcs, j, rfl, hjn, hji⟩
        · have hi0 : ¬ ((i : Int) < 0) := by omega
          rcases Int.lt_or_le a1 0 with hr0 | hr0
          · go_wp2_with fail
            refine (HC.out).mono ?_; rintro e w' ⟨rfl, rfl⟩
            go_wp2_with fail
            refine (HO.out).mono ?_; rintro e w' ⟨rfl, rfl⟩
            go_wp2_with fail
            refine (HSm.out).mono ?_; rintro e w' ⟨rfl, rfl⟩
            go_wp2_with fail
            refine (HSm.out).mono ?_; rintro e w' ⟨rfl, rfl⟩
            go_wp2_with fail
            refine (HSm.out).mono ?_; rintro e w' ⟨rfl, rfl⟩
            go_wp2_with fail
            go_roundw
            case rel => exact ⟨i + 1, m, by go_num, by omega, rfl, by omega, Lib.hid (by rw [HU.out, ← HL.out, if_neg (Int.lt_irrefl _), Nat.add_zero]), by trivial⟩
            case measure => simp [intOf]; omega
          · have hr0' : ¬ (a1 < 0) := by omega
            rcases Int.lt_or_le a1 c with hr2 | hr2
            · have hPk := HPk.out hr0 hr2 (i : Int) (by rw [if_pos hr2])
              have HPK := Lib.hid hPk
              clear hPk
              have hr3 : ¬ (c ≤ a1) := by omega
              go_wp2_with fail
              refine (HC.out).mono ?_; rintro e w' ⟨rfl, rfl⟩
              go_wp2_with fail
              refine (HO.out).mono ?_; rintro e w' ⟨rfl, rfl⟩
              go_wp2_with fail
              refine (HSm.out).mono ?_; rintro e w' ⟨rfl, rfl⟩
              go_wp2_with fail
              refine (HSm.out).mono ?_; rintro e w' ⟨rfl, rfl⟩
              go_wp2_with fail
              refine (HSm.out).mono ?_; rintro e w' ⟨rfl, rfl⟩
              go_wp2_with fail
              refine (HSm.out).mono ?_; rintro e w' ⟨rfl, rfl⟩
              go_wp2_with fail
              refine (HPK.out).mono ?_; rintro e w' ⟨rfl, rfl⟩
              go_wp2_with fail
              go_roundw
              case rel => exact ⟨i + 1, m, by go_num, by omega, rfl, by omega, Lib.hid (by rw [HU.out, ← HL.out, if_neg (Int.lt_irrefl _), Nat.add_zero]), by trivial⟩
              case measure => simp [intOf]; omega
            · go_wp2_with fail
              refine (HC.out).mono ?_; rintro e w' ⟨rfl, rfl⟩
              go_wp2_with fail
              refine (HO.out).mono ?_; rintro e w' ⟨rfl, rfl⟩
              go_wp2_with fail
              refine (HSm.out).mono ?_; rintro e w' ⟨rfl, rfl⟩
              go_wp2_with fail
              refine (HSm.out).mono ?_; rintro e w' ⟨rfl, rfl⟩
              go_wp2_with fail
              refine (HSm.out).mono ?_; rintro e w' ⟨rfl, rfl⟩
              go_wp2_with fail
              refine (HSm.out).mono ?_; rintro e w' ⟨rfl, rfl⟩
              go_wp2_with fail
              go_roundw
              case rel => exact ⟨i + 1, m, by go_num, by omega, rfl, by omega, Lib.hid (by rw [HU.out, ← HL.out, if_neg (Int.lt_irrefl _), Nat.add_zero]), by trivial⟩
              case measure => simp [intOf]; omega
        · have hc1 : (c == s) = false := by rw [beq_eq_false_iff_ne]; omega
          have hc2 : ((j : Int) == (i : Int)) = false := by rw [beq_eq_false_iff_ne]; omega
          have hc3 : ¬ (s < c) := by omega
          have hc4 : ¬ (c < 0) := by omega
          have hj0 : ¬ ((j : Int) < 0) := by omega
          have hj1 : ¬ ((n : Int) ≤ (j : Int)) := by omega
          have HCS := Lib.hid hcs
          rcases Int.lt_or_le a1 0 with hr0 | hr0
          · go_wp2_with fail
            refine (HC.out).mono ?_; rintro e w' ⟨rfl, rfl⟩
            go_wp2_with fail
            refine (HO.out).mono ?_; rintro e w' ⟨rfl, rfl⟩
            go_wp2_with fail
            refine (HSm.out).mono ?_; rintro e w' ⟨rfl, rfl⟩
            go_wp2_with fail
            refine (HSm.out).mono ?_; rintro e w' ⟨rfl, rfl⟩
            go_wp2_with fail
            refine (HSm.out).mono ?_; rintro e w' ⟨rfl, rfl⟩
            go_wp2_with fail
            go_roundw
            case rel => exact ⟨i + 1, m + 1, by go_num, by omega, by go_num, by omega, Lib.hid (by rw [HU.out, ← HL.out, if_pos HCS.out]), by trivial⟩
            case measure => simp [intOf]; omega
          · have hr0' : ¬ (a1 < 0) := by omega
            rcases Int.lt_or_le a1 s with hr2 | hr2
            · have hr3 : ¬ (s ≤ a1) := by omega
              rcases Int.lt_or_le a1 c with hr4 | hr4
              · have HPK := Lib.hid (HPk.out hr0 hr2 (i : Int) (by rw [if_pos hr4]))
                have hr5 : ¬ (c ≤ a1) := by omega
                go_wp2_with fail
                refine (HC.out).mono ?_; rintro e w' ⟨rfl, rfl⟩
                go_wp2_with fail
                refine (HO.out).mono ?_; rintro e w' ⟨rfl, rfl⟩
                go_wp2_with fail
                refine (HSm.out).mono ?_; rintro e w' ⟨rfl, rfl⟩
                go_wp2_with fail
                refine (HSm.out).mono ?_; rintro e w' ⟨rfl, rfl⟩
                go_wp2_with fail
                refine (HSm.out).mono ?_; rintro e w' ⟨rfl, rfl⟩
                go_wp2_with fail
                refine (HSm.out).mono ?_; rintro e w' ⟨rfl, rfl⟩
                go_wp2_with fail
                refine (HPK.out).mono ?_; rintro e w' ⟨rfl, rfl⟩
                go_wp2_with fail
                go_roundw
                case rel => exact ⟨i + 1, m + 1, by go_num, by omega, by go_num, by omega, Lib.hid (by rw [HU.out, ← HL.out, if_pos HCS.out]), by trivial⟩
                case measure => simp [intOf]; omega
              · have HPK := Lib.hid (HPk.out hr0 hr2 (j : Int) (by rw [if_neg (by omega)]))
                have hr5 : ¬ (a1 < c) := by omega
                go_wp2_with fail
                refine (HC.out).mono ?_; rintro e w' ⟨rfl, rfl⟩
                go_wp2_with fail
                refine (HO.out).mono ?_; rintro e w' ⟨rfl, rfl⟩
                go_wp2_with fail
                refine (HSm.out).mono ?_; rintro e w' ⟨rfl, rfl⟩
                go_wp2_with fail
                refine (HSm.out).mono ?_; rintro e w' ⟨rfl, rfl⟩
                go_wp2_with fail
                refine (HSm.out).mono ?_; rintro e w' ⟨rfl, rfl⟩
                go_wp2_with fail
                refine (HSm.out).mono ?_; rintro e w' ⟨rfl, rfl⟩
                go_wp2_with fail
                refine (HPK.out).mono ?_; rintro e w' ⟨rfl, rfl⟩
                go_wp2_with fail
                go_roundw
                case rel => exact ⟨i + 1, m + 1, by go_num, by omega, by go_num, by omega, Lib.hid (by rw [HU.out, ← HL.out, if_pos HCS.out]), by trivial⟩
                case measure => simp [intOf]; omega
            · go_wp2_with fail
              refine (HC.out).mono ?_; rintro e w' ⟨rfl, rfl⟩
              go_wp2_with fail
              refine (HO.out).mono ?_; rintro e w' ⟨rfl, rfl⟩
              go_wp2_with fail
              refine (HSm.out).mono ?_; rintro e w' ⟨rfl, rfl⟩
              go_wp2_with fail
              refine (HSm.out).mono ?_; rintro e w' ⟨rfl, rfl⟩
              go_wp2_with fail
              refine (HSm.out).mono ?_; rintro e w' ⟨rfl, rfl⟩
              go_wp2_with fail
              refine (HSm.out).mono ?_; rintro e w' ⟨rfl, rfl⟩
              go_wp2_with fail
              go_roundw
              case rel => exact ⟨i + 1, m + 1, by go_num, by omega, by go_num, by omega, Lib.hid (by rw [HU.out, ← HL.out, if_pos HCS.out]), by trivial⟩
              case measure => simp [intOf]; omega
      · have hlt2 : ¬ ((i : Int) < (n : Int)) := by omega
        have hmn : (m : Int) < (n : Int) := by
          have h1 := HLow.out
          have h2 := HL.out
          rw [show i = n by omega] at h2
          omega
        go_wp2_with fail
        go_ret
        exact ⟨rfl, K.out⟩
  · have HN := Lib.hid (fun (W : World) (h : Ri W a0 ws) => new_no ws a0 cap0 W h hlen z hz hz0)
    have hzb : (z == 0) = false := by rw [beq_eq_false_iff_ne]; exact hz0
    have HS := Lib.hid Sx
    clear hz hz0 hl Sx
    go_enter Try.func4, Try.ntmps4
    go_wp2_with fail
    refine (awake _).mono ?_; rintro e w5 ⟨rfl, hb⟩
    have K := Lib.hid hb
    have HS2 := Lib.hid (HS.out.nx hb)
    clear hb HS
    go_wp2_with fail
    refine (HN.out _ HS2.out).mono ?_; rintro e w' ⟨rfl, rfl⟩
    clear HN HS2
    go_wp2_with fail
    go_ret
    exact ⟨rfl, K.out⟩

/-! ### THE ROW's STEP: WRITTEN OUT: LEAVE IT -/
set_option maxRecDepth 100000 in
theorem lifted (os : Os) (started : os.Started) (H : Type) (enc : TypeId × Value → H) :
    ReturnsInHanded {} Try.checked os 4 .any (Rows.aliasTableSpec.pre6 enc Try.prog Try.f4 Rows.aliasTableRow.domain false) (Rows.aliasTableSpec.post enc Try.prog Try.f4 false true false false) := by
  refine returnsInHanded_of_change (C := Try.checked) own started (by kernel_rfl) Try.func4
    (ChangeSpec.witness6 (enc := enc) (C := Try.checked) false ⟨#[], #[.slice none 0 0, .int .i64 0], []⟩ 8 (by kernel_rfl) (by kernel_rfl) (by kernel_rfl) (by kernel_rfl)) ?_
  intro W base args ds gs before hval0 hW hcnd _
  have hval : ∀ (j : Nat) t v, Try.f4.params[j]? = some t → args[j]? = some v → Value.okWide Try.prog W .any base t v := hval0
  have hW' := hW
  obtain ⟨p, q, hA0, hV, rfl, hfz, hnd⟩ := hW
  have hA : DataW.TrodAll enc Try.prog W 0 (fun _ => true) true Try.f4.params.toList args.toList ds p := hA0
  rw [Try.params4] at hA hval
  obtain ⟨v0, vs0, d0, ds0, p0, q0, hargs, rfl, rfl, h0, r0⟩ := trodAll_cons hA
  obtain ⟨v1, vs1, d1, ds1, p1, q1, rfl, rfl, rfl, h1, r1⟩ := trodAll_cons r0
  obtain ⟨rfl, rfl, rfl⟩ := trodAll_nil r1
  obtain rfl : args = #[v0, v1] := by cases args; simp_all
  obtain ⟨rfl, rfl⟩ := trodVars_none hV
  obtain ⟨a0, len0, cap0, rfl⟩ := okWide_slice Try.underlying22 (hval 0 22 v0 rfl rfl)
  have k0 := h0
  have lt0 : ∀ x ∈ p0, x.block < W.heap.size := by obtain ⟨m, hm⟩ := k0; exact DataW.trod_lt m _ _ _ hm
  obtain ⟨z0, w0⟩ : ∃ zs, IsRow .i64 W a0 len0 cap0 zs := by
    obtain ⟨fuel, hf⟩ := h0
    rcases open_ints Try.underlying22 Try.underlying2 (by kernel_rfl) hf with ⟨hcs, _⟩ | ⟨x, l, c, zs, hcs, _, hl, hm, hz, _, hcell, hwz⟩
    · simp [Value.cells] at hcs
      obtain ⟨rfl, rfl, rfl⟩ := hcs
      exact ⟨[], .inl ⟨rfl, rfl, rfl, rfl⟩⟩
    · simp [Value.cells] at hcs
      obtain ⟨rfl, rfl, rfl⟩ := hcs
      exact ⟨zs, .inr ⟨_, rfl, hl, hm, by simpa using hz, hcell, hwz⟩⟩
  obtain ⟨a1, rfl, rfl, rfl, w1⟩ := open_int Try.underlying2 (hval 1 2 v1 rfl rfl) h1
  clear hA0 hval0
  refine (walk a0 len0 cap0 z0 a1 W w0 w1).mono fun e W' ⟨he, bel⟩ => ?_
  subst he
  exact ⟨_, rfl, _, _, _, [], _, [], hW', trodAll_mk1 (shut_bool Try.underlying4 _), (trodAll_cons_mk (Below.trod laidOut (by kernel_rfl) (of_decide_eq_true (by kernel_rfl)) k0 bel lt0) (trodAll_cons_mk (shut_int Try.underlying2 w1) trodAll_mk0)), rfl, bel.frame _, fun h => by cases h⟩

theorem over : Rows.aliasTableRow.holds Try.pinned (OpenSpec.ofChange Rows.aliasTableSpec) :=
  OpenClaim.holds_of_wide 4 Try.f4 rfl rfl rfl rfl rfl rfl rfl ⟨rfl, rfl, rfl, rfl, rfl⟩ rfl rfl rfl rfl rfl (by kernel_rfl) Try.func4 (by kernel_rfl)
    (of_decide_eq_true (by kernel_rfl)) (by unfold Func.isWrapper; first | (rw [if_pos (by decide +kernel)]; kernel_rfl) | (rw [if_neg (by decide +kernel)]; exact ⟨rfl, rfl⟩))
    (fun os started H enc _ => lifted os started H enc)

/-- ████ THE STATEMENT ████ -/
theorem proved : Rows.AliasTableSaid := over
#print axioms proved
end Go.Proofs.Yticickjnlkbkoaa.aliasTable
