/- The statement AliasTimes: with all weights so many times as great the other places are the same, the cuts so many times as great. No condition. -/
import Derived.Test.YticickjnlkbkoaaRows
import Derived.WalkKit
import Derived.ProofKit
import Derived.OpenShut
import Derived.Test.YticickjnlkbkoaaAliR
import Derived.Test.YticickjnlkbkoaaAliG
import Derived.ShutString
import Derived.ChangeOld
import Derived.Below
namespace Go.Proofs.Yticickjnlkbkoaa.aliasTimes
open Go.ChangeShapes Go.WideShapes Go.ChangeAt Go.RowKit
open Go.Proofs
open Go.ChangeMaps (open_string shut_string)
set_option linter.unusedVariables false

theorem own : ownKnob Try.prog.godebug = none := by kernel_rfl
theorem laidOut : laidOutB Try.prog = true := by kernel_rfl

/-- WHAT THE WALK IS TOLD OF A SLICE OF INTEGERS THAT CAME IN: it is nil; or it leads to a row of 'cap' cells, the numbers 'zs' (the first 'len' are its elements, the rest its spare room), each fitting its kind. -/
def IsRow (k : IntKind) (w : World) (a : Option Addr) (len cap : Nat) (zs : List Int) : Prop :=
  (a = none ∧ len = 0 ∧ cap = 0 ∧ zs = []) ∨
  ∃ x, a = some x ∧ len ≤ cap ∧ cap ≤ maxLen ∧ zs.length = cap ∧ (∀ i, i < zs.length → w.cell? (x.add i) = some (.int k (zs.getD i 0))) ∧ ∀ n ∈ zs, (Lit.int k n).wf = true

open Go.Proofs.AL Go.Proofs.SL Go.Proofs.RA Go.Proofs.NP
set_option linter.unusedSimpArgs false

/-! ### STEP 1: THE WALK: the Go text returns true, AND WRITES NOTHING THAT WAS THERE: 'Below w.heap.size w w'' (Derived/Below.lean: '.refl', '.alloc', '.drew', '.setCell' at a new block, '.trans'). Open each 'IsRow' by 'rcases' AHEAD of 'go_enter'; part every test ahead of the walk. -/
set_option maxHeartbeats 8000000 in
set_option maxRecDepth 100000 in
theorem walk (a0 : Option Addr) (len0 cap0 : Nat) (z0 : List Int) (a1 : Int) (w : World) (w0 : IsRow .i64 w a0 len0 cap0 z0) (w1 : (Lit.int .u8 a1).wf = true) :
    Calls Try.prog 5 #[.slice a0 len0 cap0, .int .u8 a1] w fun e w' => e = .returned (.bool true) ∧ Below w.heap.size w w' := by
  obtain ⟨ws, rfl, hlen, Sx⟩ := Ri.of_row w0
  obtain ⟨by', hby, hbyl⟩ : ∃ b : Nat, a1 = b ∧ b ≤ 255 := by
    simp only [Lit.wf, IntKind.signed, IntKind.bits, decide_eq_true_eq, Bool.and_eq_true] at w1
    have h : (0 : Int) ≤ a1 ∧ a1 ≤ 255 := w1
    exact ⟨a1.toNat, by omega, by omega⟩
  subst hby
  clear w0 w1
  by_cases hl : 100 < ws.length
  · have hl2 : (100 : Int) < (ws.length : Int) := by omega
    go_enter Try.func5, Try.ntmps5
    go_wp2_with fail
    refine (AL.awake _).mono ?_; rintro e w5 ⟨rfl, hb⟩
    have K := Lib.hid hb
    go_wp2_with fail
    go_ret
    exact ⟨rfl, K.out⟩
  have hl2 : ¬ ((100 : Int) < (ws.length : Int)) := by omega
  obtain ⟨c, hc⟩ : ∃ c : Int, c = 1 + (by' : Int) % 100 := ⟨_, rfl⟩
  have hcb : 1 ≤ c ∧ c ≤ 100 := by omega
  have HCc := Lib.hid hc
  have HS := Lib.hid Sx
  obtain ⟨n, hnn⟩ : ∃ n, ws.length = n := ⟨_, rfl⟩
  rw [hnn] at hl hl2 ⊢
  have HN := Lib.hid hnn
  obtain ⟨i0, hi0, hz0, hz1, hz2⟩ := info_parts Try.info2
  clear Sx hc hnn hlen
  go_enter Try.func5, Try.ntmps5
  go_wp2_with fail
  refine (AL.awake _).mono ?_; rintro e w5 ⟨rfl, hb⟩
  have K := Lib.hid hb
  have HS2 := Lib.hid (HS.out.nx hb)
  have hw5 := hb.size
  clear hb HS
  have hcc : 1 + (by' : Int) % 100 = c := HCc.out.symm
  go_wp2_with fail
  try rw [hcc]
  go_loopw [6, 7] (fun s6 s7 wr => ∃ (i m cap : Nat) (pa : Option Addr) (xs : List Int), s6 = .slice pa m cap ∧ s7 = .int .i64 (i : Int) ∧ i ≤ n ∧ m = i ∧ Hid (m = xs.length ∧ xs = mulW c (ws.take i) ∧ (ws.take i).all okW = true) ∧ Hid (Oi 2 w5.heap.size wr pa cap xs) ∧ Hid (Kp w5 wr)) (fun _ v _ => n - (intOf v).toNat)
  case atStart => exact ⟨0, 0, 0, none, [], rfl, rfl, by omega, rfl, Lib.hid ⟨rfl, rfl, rfl⟩, Lib.hid (Oi.nil _ _ _), Lib.hid (Kp.refl _)⟩
  case round =>
    obtain ⟨i, m, cap, pa, xs, rfl, rfl, hi, rfl, HX, HO, K5⟩ := hrel
    by_cases hlt : m < n
    · have hlt2 : (m : Int) < (n : Int) := by omega
      have hltw : m < ws.length := by rw [HN.out]; exact hlt
      obtain ⟨bb, off, rfl, hbl, hcs⟩ := (HS2.out.nx K5.out).get hltw
      have hci := hcs m hltw
      obtain ⟨x, hx⟩ : ∃ x, x = ws[m] := ⟨_, rfl⟩
      have HXI := Lib.hid hx
      rw [← hx] at hci
      clear hcs hx
      by_cases hx0 : x < 0
      · clear HX HO
        go_wp2_with fail
        go_ret
        exact ⟨rfl, Kp.nx K.out K5.out⟩
      by_cases hx1 : (1048576 : Int) < x
      · clear HX HO
        go_wp2_with fail
        go_ret
        exact ⟨rfl, Kp.nx K.out K5.out⟩
      have hA := take_all hltw HX.out.2.2 (by rw [← HXI.out, okW]; simp; omega)
      have hM := mul_take c hltw
      rw [← HXI.out, ← HX.out.2.1] at hM
      have HM := Lib.hid hM
      have HA := Lib.hid hA
      have hmb : 0 ≤ c * x ∧ c * x ≤ 104857600 := by
        have h1 : 0 ≤ c * x := Int.mul_nonneg (by omega) (by omega)
        have h2 : c * x ≤ 100 * 1048576 := Int.mul_le_mul (by omega) (by omega) (by omega) (by omega)
        omega
      obtain ⟨y, hy⟩ : ∃ y : Int, c * x = y := ⟨_, rfl⟩
      rw [hy] at hmb HM
      have hyw : IntKind.i64.wrap y = y := by rw [IntKind.wrap_i64]; omega
      have hxl : xs.length ≤ 100 := by rw [← HX.out.1]; omega
      clear hA hM
      go_wp2_with (at_builtin; refine wpList_append_int (B := w5.heap.size) rfl _ _ 22 rfl 2 i0 Try.underlying22 hi0 hz0 hz1 hz2 pa m cap xs rfl (HO.out.nx ((Kp.refl _).al _)) HX.out.1 ⟨wr.heap.size, 0, none⟩ 1 y rfl ((Bk.new wr #[.int .i64 y] 2).c 0) (by omega) (by have := K5.out.size; simp; omega) ?_)
      intro g cap' w' H
      have K6 := Lib.hid (show Kp w5 w' from Kp.grown (Kp.nx K5.out ((Kp.refl wr).al (.cells #[.int .i64 y] 2))) H.out.2.1 (fun k e => (HO.out.blk_ge k e).1))
      clear hy hyw
      go_wp2_with fail
      go_roundw
      case rel => exact ⟨m + 1, m + 1, cap', _, xs ++ [y], rfl, by go_num, by omega, rfl, Lib.hid ⟨by rw [List.length_append, ← HX.out.1]; rfl, HM.out, HA.out⟩, Lib.hid H.out.1, K6⟩
      case measure => simp [intOf]; omega
    · have hlt2 : ¬ ((m : Int) < (n : Int)) := by omega
      have hmn : m = n := by omega
      subst hmn
      have hall : ws.all okW = true := by have := HX.out.2.2; rwa [← HN.out, List.take_length] at this
      have hxs : xs = mulW c ws := by have := HX.out.2.1; rwa [← HN.out, List.take_length] at this
      subst hxs
      have HR2 := Lib.hid (HO.out.ri)
      have HS3 := Lib.hid (HS2.out.nx K5.out)
      replace K := Lib.hid (Kp.nx K.out K5.out)
      have hml := mulW_len c ws
      have hnn := HN.out
      have hwhy := why_mul hcb.1 hall
      clear HX HO HS2 K5
      by_cases hz : whyW ws = 0 ∧ whyW (mulW c ws) = 0
      · obtain ⟨hza, hzb⟩ := hz
        have hn := why_len hza.symm
        have hsp := sum_pos hza.symm
        have hsp2 := sum_pos hzb.symm
        have hsb := up_bd hall ws.length hn.2
        have HT1 := Lib.hid (fun (W : World) (h : Ri W a0 ws) => new1 ws a0 cap0 W h hn hza.symm)
        have HT2 := Lib.hid (fun (W : World) (h : Ri W pa (mulW c ws)) => new1 (mulW c ws) pa cap W h (by rw [hml]; exact hn) hzb.symm)
        obtain ⟨hP, -⟩ := table_pl (n := ws.length) (w := wf ws) hn.1 (fun j => Int.mul_nonneg (by omega) (wf_ok hall j).1) (fun j => by
          have h2 : (ws.length : Int) * wf ws j ≤ 64 * 1048576 := Int.mul_le_mul (by omega) (wf_ok hall j).2 (wf_ok hall j).1 (by omega)
          omega)
        have e1 : up (wf (mulW c ws)) (mulW c ws).length = c * up (wf ws) ws.length := by rw [hml, wf_mul, up_sc]
        have e2 : table (mulW c ws).length (wf (mulW c ws)) = (table ws.length (wf ws)).sc c := by rw [hml, wf_mul, table_sc (by omega)]
        rw [e1] at hsp2
        rw [e1, e2, hml] at HT2
        rw [hnn] at hsp hsp2 hsb HT1 HT2 hn hP
        have HPa := Lib.hid hP.at'
        generalize table m (wf ws) = tb at *
        generalize up (wf ws) m = s at *
        clear hP e1 e2 hza hzb hwhy hall hml hnn
        have hsm : 0 ≤ c * s ∧ c * s ≤ 6710886400 := by
          have h1 : 0 ≤ c * s := Int.mul_nonneg (by omega) (by omega)
          have h2 : c * s ≤ 100 * 67108864 := Int.mul_le_mul (by omega) (by omega) (by omega) (by omega)
          omega
        obtain ⟨s', hs'⟩ : ∃ y : Int, c * s = y := ⟨_, rfl⟩
        have hs'w : IntKind.i64.wrap s' = s' := by rw [IntKind.wrap_i64]; omega
        rw [hs'] at HT2 hsm hsp2
        have HSM := Lib.hid hs'
        clear hs'
        go_wp2_with fail
        refine (HT1.out _ HS3.out).mono ?_; rintro e w6 ⟨g, gc, go, rfl, hT, -, hb⟩
        have T1 := Lib.hid hT
        replace K := Lib.hid (Kp.nx K.out hb)
        replace HR2 := Lib.hid (HR2.out.nx hb)
        clear HT1 HS3 hT hb
        go_wp2_with fail
        refine (HT2.out _ HR2.out).mono ?_; rintro e w7 ⟨g', gc', go', rfl, hT, -, hb⟩
        replace T1 := Lib.hid (T1.out.nx hb)
        have T2 := Lib.hid hT
        replace K := Lib.hid (Kp.nx K.out hb)
        clear HT2 HR2 hT hb
        go_wp2_with fail
        go_loopw [12] (fun s12 wq => ∃ i : Nat, s12 = .int .i64 (i : Int) ∧ i ≤ m ∧ w7 = wq) (fun v _ => m - (intOf v).toNat)
        case atStart => exact ⟨0, rfl, by omega, rfl⟩
        case round =>
          obtain ⟨i, rfl, hi2, rfl⟩ := hrel
          by_cases hlt3 : i < m
          · have hlt4 : (i : Int) < (m : Int) := by omega
            have C1 := Lib.hid (cut1 i T1.out (by omega) hlt3 hn.2)
            have O1 := Lib.hid (other1 i T1.out (by omega) hlt3 hn.2)
            have C2 := Lib.hid (show Calls Try.prog 18 #[.pointer (some ⟨g', 0, none⟩), .int .i64 (i : Int)] w7 (fun e w' => e = .returned (.tuple #[.int .i64 (c * tb.cu i), .int .i64 0]) ∧ w7 = w') from cut1 i T2.out (by omega) hlt3 hn.2)
            have O2 := Lib.hid (show Calls Try.prog 19 #[.pointer (some ⟨g', 0, none⟩), .int .i64 (i : Int)] w7 (fun e w' => e = .returned (.tuple #[.int .i64 (tb.ot i), .int .i64 0]) ∧ w7 = w') from other1 i T2.out (by omega) hlt3 hn.2)
            have hcu : 0 ≤ tb.cu i ∧ tb.cu i ≤ 67108864 := by
              rcases HPa.out i hlt3 with ⟨h1, -⟩ | ⟨-, -, h1, h2, -⟩ <;> omega
            generalize tb.cu i = x at *
            generalize tb.ot i = o at *
            have hmb : 0 ≤ c * x ∧ c * x ≤ 6710886400 := by
              have h1 : 0 ≤ c * x := Int.mul_nonneg (by omega) (by omega)
              have h2 : c * x ≤ 100 * 67108864 := Int.mul_le_mul (by omega) (by omega) (by omega) (by omega)
              omega
            obtain ⟨y, hy⟩ : ∃ y : Int, c * x = y := ⟨_, rfl⟩
            rw [hy] at hmb C2
            have hyw : IntKind.i64.wrap y = y := by rw [IntKind.wrap_i64]; omega
            clear T1 T2 HPa
            go_wp2_with fail
            refine C1.out.mono ?_; rintro e w' ⟨rfl, rfl⟩
            go_wp2_with fail
            refine C2.out.mono ?_; rintro e w' ⟨rfl, rfl⟩
            go_wp2_with fail
            refine O1.out.mono ?_; rintro e w' ⟨rfl, rfl⟩
            go_wp2_with fail
            refine O2.out.mono ?_; rintro e w' ⟨rfl, rfl⟩
            go_wp2_with fail
            go_roundw
            case rel => exact ⟨i + 1, by go_num, by omega, by trivial⟩
            case measure => simp [intOf]; omega
          · have hlt4 : ¬ ((i : Int) < (m : Int)) := by omega
            have M1 := Lib.hid (sum1 T1.out)
            have M2 := Lib.hid (sum1 T2.out)
            have hss : c * s = s' := HSM.out
            clear T1 T2 HPa
            go_wp2_with fail
            refine M2.out.mono ?_; rintro e w' ⟨rfl, rfl⟩
            go_wp2_with fail
            refine M1.out.mono ?_; rintro e w' ⟨rfl, rfl⟩
            go_wp2_with fail
            go_ret
            exact ⟨rfl, K.out⟩
      · have hcase : (whyW (mulW c ws) = whyW ws ∧ whyW ws ≠ 0) ∨ (whyW ws = 0 ∧ whyW (mulW c ws) = 1) := by
          rcases hwhy with h | h
          · left; exact ⟨h, fun h0 => hz ⟨h0, by rw [h, h0]⟩⟩
          · exact .inr h
        clear hwhy hz
        rcases hcase with ⟨h1, h2⟩ | ⟨h1, h2⟩
        · obtain ⟨z, hz⟩ : ∃ z, z = whyW ws := ⟨_, rfl⟩
          rw [← hz] at h1 h2
          have HT1 := Lib.hid (fun (W : World) (h : Ri W a0 ws) => new_no ws a0 cap0 W h (by omega) z hz h2)
          have HT2 := Lib.hid (fun (W : World) (h : Ri W pa (mulW c ws)) => new_no (mulW c ws) pa cap W h (by omega) z h1.symm h2)
          rw [hnn] at HT1
          rw [hml, hnn] at HT2
          have hzb : (z == 0) = false := by rw [beq_eq_false_iff_ne]; exact h2
          have hzt : (z == z) = true := by simp
          have hzb2 : ¬ (z = 0) := h2
          clear hz h1 h2 hall hml hnn
          go_wp2_with fail
          refine (HT1.out _ HS3.out).mono ?_; rintro e w' ⟨rfl, rfl⟩
          clear HT1 HS3
          go_wp2_with fail
          refine (HT2.out _ HR2.out).mono ?_; rintro e w' ⟨rfl, rfl⟩
          clear HT2 HR2
          go_wp2_with fail
          go_ret
          exact ⟨rfl, K.out⟩
        · have hn := why_len h1.symm
          have HT1 := Lib.hid (fun (W : World) (h : Ri W a0 ws) => new1 ws a0 cap0 W h hn h1.symm)
          have HT2 := Lib.hid (fun (W : World) (h : Ri W pa (mulW c ws)) => new_no (mulW c ws) pa cap W h (by omega) 1 h2.symm (by decide))
          rw [hnn] at HT1
          rw [hml, hnn] at HT2
          clear h1 h2 hall hml hnn
          go_wp2_with fail
          refine (HT1.out _ HS3.out).mono ?_; rintro e w6 ⟨g, gc, go, rfl, hT, -, hb⟩
          replace K := Lib.hid (Kp.nx K.out hb)
          replace HR2 := Lib.hid (HR2.out.nx hb)
          clear HT1 HS3 hT hb
          go_wp2_with fail
          refine (HT2.out _ HR2.out).mono ?_; rintro e w' ⟨rfl, rfl⟩
          clear HT2 HR2
          go_wp2_with fail
          go_ret
          exact ⟨rfl, K.out⟩

/-! ### THE ROW's STEP: WRITTEN OUT: LEAVE IT -/
set_option maxRecDepth 100000 in
theorem lifted (os : Os) (started : os.Started) (H : Type) (enc : TypeId × Value → H) :
    ReturnsInHanded {} Try.checked os 5 .any (Rows.aliasTimesSpec.pre6 enc Try.prog Try.f5 Rows.aliasTimesRow.domain false) (Rows.aliasTimesSpec.post enc Try.prog Try.f5 false true false false) := by
  refine returnsInHanded_of_change (C := Try.checked) own started (by kernel_rfl) Try.func5
    (ChangeSpec.witness6 (enc := enc) (C := Try.checked) false ⟨#[], #[.slice none 0 0, .int .u8 0], []⟩ 8 (by kernel_rfl) (by kernel_rfl) (by kernel_rfl) (by kernel_rfl)) ?_
  intro W base args ds gs before hval0 hW hcnd _
  have hval : ∀ (j : Nat) t v, Try.f5.params[j]? = some t → args[j]? = some v → Value.okWide Try.prog W .any base t v := hval0
  have hW' := hW
  obtain ⟨p, q, hA0, hV, rfl, hfz, hnd⟩ := hW
  have hA : DataW.TrodAll enc Try.prog W 0 (fun _ => true) true Try.f5.params.toList args.toList ds p := hA0
  rw [Try.params5] at hA hval
  obtain ⟨v0, vs0, d0, ds0, p0, q0, hargs, rfl, rfl, h0, r0⟩ := trodAll_cons hA
  obtain ⟨v1, vs1, d1, ds1, p1, q1, rfl, rfl, rfl, h1, r1⟩ := trodAll_cons r0
  obtain ⟨rfl, rfl, rfl⟩ := trodAll_nil r1
  obtain rfl : args = #[v0, v1] := by cases args; simp_all
  obtain ⟨rfl, rfl⟩ := trodVars_none hV
  obtain ⟨a0, len0, cap0, rfl⟩ := okWide_slice Try.underlying22 (hval 0 22 v0 rfl rfl)
  have k0 := h0
  have lt0 : ∀ x ∈ p0, x.block < W.heap.size := by obtain ⟨m, hm⟩ := k0; exact DataW.trod_lt m _ _ _ hm
  obtain ⟨z0, w0⟩ : ∃ zs, IsRow .i64 W a0 len0 cap0 zs := by
    obtain ⟨fuel, hf⟩ := h0
    rcases open_ints Try.underlying22 Try.underlying2 (by kernel_rfl) hf with ⟨hcs, _⟩ | ⟨x, l, c, zs, hcs, _, hl, hm, hz, _, hcell, hwz⟩
    · simp [Value.cells] at hcs
      obtain ⟨rfl, rfl, rfl⟩ := hcs
      exact ⟨[], .inl ⟨rfl, rfl, rfl, rfl⟩⟩
    · simp [Value.cells] at hcs
      obtain ⟨rfl, rfl, rfl⟩ := hcs
      exact ⟨zs, .inr ⟨_, rfl, hl, hm, by simpa using hz, hcell, hwz⟩⟩
  obtain ⟨a1, rfl, rfl, rfl, w1⟩ := open_int Try.underlying5 (hval 1 5 v1 rfl rfl) h1
  clear hA0 hval0
  refine (walk a0 len0 cap0 z0 a1 W w0 w1).mono fun e W' ⟨he, bel⟩ => ?_
  subst he
  exact ⟨_, rfl, _, _, _, [], _, [], hW', trodAll_mk1 (shut_bool Try.underlying4 _), (trodAll_cons_mk (Below.trod laidOut (by kernel_rfl) (of_decide_eq_true (by kernel_rfl)) k0 bel lt0) (trodAll_cons_mk (shut_int Try.underlying5 w1) trodAll_mk0)), rfl, bel.frame _, fun h => by cases h⟩

theorem over : Rows.aliasTimesRow.holds Try.pinned (OpenSpec.ofChange Rows.aliasTimesSpec) :=
  OpenClaim.holds_of_wide 5 Try.f5 rfl rfl rfl rfl rfl rfl rfl ⟨rfl, rfl, rfl, rfl, rfl⟩ rfl rfl rfl rfl rfl (by kernel_rfl) Try.func5 (by kernel_rfl)
    (of_decide_eq_true (by kernel_rfl)) (by unfold Func.isWrapper; first | (rw [if_pos (by decide +kernel)]; kernel_rfl) | (rw [if_neg (by decide +kernel)]; exact ⟨rfl, rfl⟩))
    (fun os started H enc _ => lifted os started H enc)

/-- ████ THE STATEMENT ████ -/
theorem proved : Rows.AliasTimesSaid := over
#print axioms proved
end Go.Proofs.Yticickjnlkbkoaa.aliasTimes
