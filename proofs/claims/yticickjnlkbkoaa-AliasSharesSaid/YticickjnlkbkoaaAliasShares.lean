/- The statement AliasShares: a place is picked by its weight times Len of all pairs of a place and a number below W; so its share is its weight over W. No condition. -/
import Derived.Test.YticickjnlkbkoaaRows
import Derived.WalkKit
import Derived.ProofKit
import Derived.OpenShut
import Derived.Test.YticickjnlkbkoaaAliZ
import Derived.Test.YticickjnlkbkoaaAliS
import Derived.Test.YticickjnlkbkoaaAliG
import Derived.Test.YticickjnlkbkoaaAliI
import Derived.ShutString
import Derived.ChangeOld
import Derived.Below
namespace Go.Proofs.Yticickjnlkbkoaa.aliasShares
open Go.ChangeShapes Go.WideShapes Go.ChangeAt Go.RowKit
open Go.Proofs
open Go.ChangeMaps (open_string shut_string)
set_option linter.unusedVariables false

theorem own : ownKnob Try.prog.godebug = none := by kernel_rfl
theorem laidOut : laidOutB Try.prog = true := by kernel_rfl

/-- WHAT THE WALK IS TOLD OF A SLICE OF INTEGERS THAT CAME IN: it is nil; or it leads to a row of 'cap' cells, the numbers 'zs' (the first 'len' are its elements, the rest its spare room), each fitting its kind. -/
def IsRow (k : IntKind) (w : World) (a : Option Addr) (len cap : Nat) (zs : List Int) : Prop :=
  (a = none ∧ len = 0 ∧ cap = 0 ∧ zs = []) ∨
  ∃ x, a = some x ∧ len ≤ cap ∧ cap ≤ maxLen ∧ zs.length = cap ∧ (∀ i, i < zs.length → w.cell? (x.add i) = some (.int k (zs.getD i 0))) ∧ ∀ n ∈ zs, (Lit.int k n).wf = true

open Go.Proofs.AL Go.Proofs.SL Go.Proofs.RA Go.Proofs.NP Go.Proofs.BL
set_option linter.unusedSimpArgs false

/-! ### STEP 1: THE WALK: the Go text returns true, AND WRITES NOTHING THAT WAS THERE: 'Below w.heap.size w w'' (Derived/Below.lean: '.refl', '.alloc', '.drew', '.setCell' at a new block, '.trans'). Open each 'IsRow' by 'rcases' AHEAD of 'go_enter'; part every test ahead of the walk. -/
set_option maxHeartbeats 2000000 in
set_option maxRecDepth 100000 in
theorem walk (a0 : Option Addr) (len0 cap0 : Nat) (z0 : List Int) (w : World) (w0 : IsRow .i64 w a0 len0 cap0 z0) :
    Calls Try.prog 6 #[.slice a0 len0 cap0] w fun e w' => e = .returned (.bool true) ∧ Below w.heap.size w w' := by
  obtain ⟨ws, rfl, hlen, Sx⟩ := Ri.of_row w0
  clear w0
  by_cases hl : 100 < ws.length
  · have hl2 : (100 : Int) < (ws.length : Int) := by omega
    go_enter Try.func6, Try.ntmps6
    go_wp2_with fail
    refine (AL.awake _).mono ?_; rintro e w5 ⟨rfl, hb⟩
    have K := Lib.hid hb
    go_wp2_with fail
    go_ret
    exact ⟨rfl, K.out⟩
  have hl2 : ¬ ((100 : Int) < (ws.length : Int)) := by omega
  obtain ⟨z, hz⟩ : ∃ z, z = whyW ws := ⟨_, rfl⟩
  by_cases hzz : z = 0
  · subst hzz
    have hn := why_len hz
    have hsp := sum_pos hz
    obtain ⟨hall, -⟩ := why0 hz
    have hq0 : ∀ j, 0 ≤ (ws.length : Int) * wf ws j := fun j => Int.mul_nonneg (by omega) (wf_ok hall j).1
    have hq1 : ∀ j, (ws.length : Int) * wf ws j ≤ 134217728 := fun j => by
      have h2 : (ws.length : Int) * wf ws j ≤ 64 * 1048576 := Int.mul_le_mul (by omega) (wf_ok hall j).2 (wf_ok hall j).1 (by omega)
      omega
    obtain ⟨hP, -⟩ := table_pl (n := ws.length) (w := wf ws) hn.1 hq0 hq1
    have hcols := table_cols (n := ws.length) (w := wf ws) hn.1 hq0 hq1
    have hsb := up_bd hall ws.length hn.2
    have HN := Lib.hid (fun (W : World) (h : Ri W a0 ws) => new1 ws a0 cap0 W h hn hz)
    have HF := Lib.hid (fun (W : World) (h : Ri W a0 ws) => fnew ws a0 cap0 W h hlen 0 hz)
    have HFS := Lib.hid (fun (S i x : Nat) (us vs : List Nat) (g gp cap : Nat) (W : World) (h : Fq W g gp cap ws) (hi : i < ws.length) (hS : up (wf ws) ws.length = S) (hS1 : 1 ≤ S ∧ S ≤ 67108864) (hx : wf ws i = x) (hu : us = L (x / Nat.gcd x S)) (hv : vs = L (S / Nat.gcd x S)) => fshare S i x h hn hi hall hS hS1 hx hu hv)
    have HX := Lib.hid (fun j => wf_ok hall j)
    have HUB := Lib.hid (fun j (h : j ≤ 64) => up_bd hall j h)
    obtain ⟨n, hnn⟩ : ∃ n, ws.length = n := ⟨_, rfl⟩
    have HP := Lib.hid hP.at'
    rw [hnn] at hn hsp hsb hl2 HN HF HP HFS hcols ⊢
    have HNN := Lib.hid hnn
    generalize htb : table n (wf ws) = tb at *
    obtain ⟨S, hS⟩ : ∃ S : Nat, up (wf ws) n = S := ⟨(up (wf ws) n).toNat, by omega⟩
    have HSS := Lib.hid hS
    rw [hS] at hsp hsb HN HP hcols
    have hS1 : 1 ≤ S ∧ S ≤ 67108864 := by omega
    have HCO := Lib.hid hcols
    have HCU := Lib.hid (show ∀ k, k < n → 0 ≤ tb.cu k ∧ tb.cu k ≤ (S : Int) from fun k hk => by
      rcases HP.out k hk with ⟨h1, -⟩ | ⟨-, -, h1, h2, -⟩ <;> omega)
    have HS := Lib.hid Sx
    clear hz hall hP hl hnn hlen htb hS Sx hcols hq0 hq1 HP
    go_enter Try.func6, Try.ntmps6
    go_wp2_with fail
    refine (AL.awake _).mono ?_; rintro e w5 ⟨rfl, hb⟩
    have K := Lib.hid hb
    have HS2 := Lib.hid (HS.out.nx hb)
    clear hb HS
    go_wp2_with fail
    refine (HN.out _ HS2.out).mono ?_; rintro e w6 ⟨g, gc, go, rfl, hT, -, hb⟩
    have T := Lib.hid hT
    replace K := Lib.hid (Kp.nx K.out hb)
    replace HS2 := Lib.hid (HS2.out.nx hb)
    clear HN hT hb
    go_wp2_with fail
    refine (HF.out _ HS2.out).mono ?_; rintro e w7 ⟨hb, he⟩
    rw [if_pos rfl] at he
    obtain ⟨gf, gp, cp, rfl, hF⟩ := he
    have FQ := Lib.hid hF
    replace T := Lib.hid (T.out.nx hb)
    replace K := Lib.hid (Kp.nx K.out hb)
    replace HS2 := Lib.hid (HS2.out.nx hb)
    clear HF hF hb
    go_wp2_with fail
    go_loopw [7, 8] (fun s7 s8 wq => ∃ i : Nat, s8 = .int .i64 (i : Int) ∧ i ≤ n ∧ s7 = .int .i64 (up (wf ws) i) ∧ w7 = wq) (fun _ v _ => n - (intOf v).toNat)
    case atStart => exact ⟨0, rfl, by omega, rfl, rfl⟩
    case round =>
      obtain ⟨i, rfl, hi, rfl, rfl⟩ := hrel
      by_cases hlt : i < n
      · have hlt2 : (i : Int) < (n : Int) := by omega
        have hlw : i < ws.length := by rw [HNN.out]; exact hlt
        obtain ⟨bb, off, rfl, hbl, hc⟩ := HS2.out.get hlw
        have hci := hc i hlw
        rw [← wf_get ws i hlw] at hci
        have hb1 := HUB.out i (by omega)
        have hb2 := HX.out i
        have HU := Lib.hid (show up (wf ws) (i + 1) = up (wf ws) i + wf ws i from rfl)
        generalize up (wf ws) i = u at *
        generalize wf ws i = x at *
        have hxw : IntKind.i64.wrap (u + x) = u + x := by rw [IntKind.wrap_i64]; omega
        clear hc
        go_wp2_with fail
        go_roundw
        case rel => exact ⟨i + 1, by go_num, by omega, by rw [HU.out], by trivial⟩
        case measure => simp [intOf]; omega
      · have hlt2 : ¬ ((i : Int) < (n : Int)) := by omega
        have hin : i = n := by omega
        subst hin
        rw [HSS.out]
        have M1 := Lib.hid (sum1 T.out)
        have M2 := Lib.hid (len1 T.out)
        have hSt : ((S : Int) == (S : Int)) = true := by simp
        clear hlt hlt2 hi
        go_wp2_with fail
        refine (M1.out).mono ?_; rintro e w' ⟨rfl, rfl⟩
        go_wp2_with fail
        refine (M2.out).mono ?_; rintro e w' ⟨rfl, rfl⟩
        go_wp2_with fail
        clear M1 M2
        go_loopw [9] (fun s9 wr => ∃ j : Nat, s9 = .int .i64 (j : Int) ∧ j ≤ i ∧ Hid (Kp w7 wr)) (fun v _ => i - (intOf v).toNat)
        case atStart => exact ⟨0, rfl, by omega, Lib.hid (Kp.refl _)⟩
        case round =>
          obtain ⟨j, rfl, hj, KJ⟩ := hrel
          by_cases hlt : j < i
          · have hlt2 : (j : Int) < (i : Int) := by omega
            have TJ := Lib.hid (T.out.nx KJ.out)
            have KK := Lib.hid (Kp.nx K.out KJ.out)
            go_wp2_with fail
            go_loopw [10, 11] (fun s10 s11 wq => ∃ k : Nat, s11 = .int .i64 (k : Int) ∧ k ≤ i ∧ s10 = .int .i64 (mny S tb.cu tb.ot j k) ∧ wr = wq) (fun _ v _ => i - (intOf v).toNat)
            case atStart => exact ⟨0, rfl, by omega, rfl, rfl⟩
            case round =>
              obtain ⟨k, rfl, hk, rfl, rfl⟩ := hrel
              by_cases hkt : k < i
              · have hkt2 : (k : Int) < (i : Int) := by omega
                have C1 := Lib.hid (cut1 k TJ.out (by omega) hkt (by omega))
                have O1 := Lib.hid (other1 k TJ.out (by omega) hkt (by omega))
                have hm := mny_bd (ot := tb.ot) HCU.out (i := j) k hk
                have hm2 : (k : Int) * (2 * (S : Int)) ≤ 64 * 134217728 := Int.mul_le_mul (by omega) (by omega) (by omega) (by omega)
                have hcb := HCU.out k hkt
                have HU := Lib.hid (show mny S tb.cu tb.ot j (k + 1) = mny S tb.cu tb.ot j k + (if k = j then tb.cu k else 0) + (if tb.ot k = (j : Int) then (S : Int) - tb.cu k else 0) from rfl)
                generalize mny S tb.cu tb.ot j k = m at *
                generalize tb.cu k = x at *
                generalize tb.ot k = o at *
                have hmm : 0 ≤ m ∧ m ≤ 64 * 134217728 := by omega
                have u1 : IntKind.i64.wrap (m + x) = m + x := by rw [IntKind.wrap_i64]; omega
                have u2 : IntKind.i64.wrap (m + x + (S : Int)) = m + x + (S : Int) := by rw [IntKind.wrap_i64]; omega
                have u3 : IntKind.i64.wrap (m + (S : Int)) = m + (S : Int) := by rw [IntKind.wrap_i64]; omega
                have u4 : IntKind.i64.wrap (m + x + (S : Int) - x) = m + x + (S : Int) - x := by rw [IntKind.wrap_i64]; omega
                have u5 : IntKind.i64.wrap (m + (S : Int) - x) = m + (S : Int) - x := by rw [IntKind.wrap_i64]; omega
                clear hm hm2 T TJ
                by_cases e1 : k = j
                · have e1b : ((k : Int) == (j : Int)) = true := by rw [beq_iff_eq]; omega
                  have E1 := Lib.hid e1
                  clear e1
                  by_cases e2 : o = (j : Int)
                  · have e2b : (o == (j : Int)) = true := by rw [beq_iff_eq]; exact e2
                    have E2 := Lib.hid e2
                    clear e2
                    go_wp2_with fail
                    refine (C1.out).mono ?_; rintro e w' ⟨rfl, rfl⟩
                    go_wp2_with fail
                    refine (O1.out).mono ?_; rintro e w' ⟨rfl, rfl⟩
                    go_wp2_with fail
                    go_roundw
                    case rel => exact ⟨k + 1, by go_num, by omega, by congr 1; rw [HU.out, if_pos E1.out, if_pos E2.out]; try omega, by trivial⟩
                    case measure => simp [intOf]; omega
                  · have e2b : (o == (j : Int)) = false := by rw [beq_eq_false_iff_ne]; exact e2
                    have E2 := Lib.hid e2
                    clear e2
                    go_wp2_with fail
                    refine (C1.out).mono ?_; rintro e w' ⟨rfl, rfl⟩
                    go_wp2_with fail
                    refine (O1.out).mono ?_; rintro e w' ⟨rfl, rfl⟩
                    go_wp2_with fail
                    go_roundw
                    case rel => exact ⟨k + 1, by go_num, by omega, by congr 1; rw [HU.out, if_pos E1.out, if_neg E2.out]; try omega, by trivial⟩
                    case measure => simp [intOf]; omega
                · have e1b : ((k : Int) == (j : Int)) = false := by rw [beq_eq_false_iff_ne]; omega
                  have E1 := Lib.hid e1
                  clear e1
                  by_cases e2 : o = (j : Int)
                  · have e2b : (o == (j : Int)) = true := by rw [beq_iff_eq]; exact e2
                    have E2 := Lib.hid e2
                    clear e2
                    go_wp2_with fail
                    refine (C1.out).mono ?_; rintro e w' ⟨rfl, rfl⟩
                    go_wp2_with fail
                    refine (O1.out).mono ?_; rintro e w' ⟨rfl, rfl⟩
                    go_wp2_with fail
                    go_roundw
                    case rel => exact ⟨k + 1, by go_num, by omega, by congr 1; rw [HU.out, if_neg E1.out, if_pos E2.out]; try omega, by trivial⟩
                    case measure => simp [intOf]; omega
                  · have e2b : (o == (j : Int)) = false := by rw [beq_eq_false_iff_ne]; exact e2
                    have E2 := Lib.hid e2
                    clear e2
                    go_wp2_with fail
                    refine (C1.out).mono ?_; rintro e w' ⟨rfl, rfl⟩
                    go_wp2_with fail
                    refine (O1.out).mono ?_; rintro e w' ⟨rfl, rfl⟩
                    go_wp2_with fail
                    go_roundw
                    case rel => exact ⟨k + 1, by go_num, by omega, by congr 1; rw [HU.out, if_neg E1.out, if_neg E2.out]; try omega, by trivial⟩
                    case measure => simp [intOf]; omega
              · have hkt2 : ¬ ((k : Int) < (i : Int)) := by omega
                have hki : k = i := by omega
                subst hki
                have hjw : j < ws.length := by rw [HNN.out]; exact hlt
                obtain ⟨bb, off, rfl, hbl, hc⟩ := (HS2.out.nx KJ.out).get hjw
                have HCI := Lib.hid (fun (W : World) (h : Ri W (some ⟨bb, off, none⟩) ws) => show W.cell? ⟨bb, off + j, none⟩ = some (.int .i64 (wf ws j)) by
                  obtain ⟨b', o', e, -, h9⟩ := h.get hjw
                  cases e
                  rw [h9 j hjw, wf_get ws j hjw])
                have hbx := HX.out j
                obtain ⟨x, hx⟩ : ∃ x : Nat, wf ws j = x := ⟨(wf ws j).toNat, by omega⟩
                have hco := HCO.out j hlt
                have hmq := mny_eq S tb.cu tb.ot j k
                rw [if_pos hlt, hco, hx] at hmq
                rw [hx] at hbx hco HCI
                obtain ⟨us, hus⟩ : ∃ s, s = L (x / Nat.gcd x S) := ⟨_, rfl⟩
                obtain ⟨vs, hvs⟩ : ∃ s, s = L (S / Nat.gcd x S) := ⟨_, rfl⟩
                have lu : us.length ≤ 1 := by rw [hus]; exact L_len _ 1 (by have := Nat.div_le_self x (Nat.gcd x S); omega)
                have lv : vs.length ≤ 1 := by rw [hvs]; exact L_len _ 1 (by have := Nat.div_le_self S (Nat.gcd x S); omega)
                have hnx : ((k * x : Nat) : Int) = (k : Int) * (x : Int) := Int.natCast_mul _ _
                have SH1 := Lib.hid (fun (W : World) (h : Tb W g gc go k (S : Int) tb.cu tb.ot) => tshare (us := us) (vs := vs) S j (k * x) h hn hlt hS1 HCU.out (by rw [shs_giv, hco, hnx]) (by rw [hus, (share_gcd (by omega)).1]) (by rw [hvs, (share_gcd (by omega)).2]))
                have SH2 := Lib.hid (fun (W : World) (h : Fq W gf gp cp ws) => HFS.out S j x us vs gf gp cp W h hlt HSS.out hS1 hx hus hvs)
                obtain ⟨y, hy⟩ : ∃ y : Int, (k : Int) * (x : Int) = y := ⟨_, rfl⟩
                have hyb : 0 ≤ y ∧ y ≤ 67108864 := by
                  have h1 : 0 ≤ (k : Int) * (x : Int) := Int.mul_nonneg (by omega) (by omega)
                  have h2 : (k : Int) * (x : Int) ≤ 64 * 1048576 := Int.mul_le_mul (by omega) (by omega) (by omega) (by omega)
                  omega
                have hyw : IntKind.i64.wrap y = y := by rw [IntKind.wrap_i64]; omega
                have hyt : (y == y) = true := by simp
                rw [hmq, hy]
                clear hmq hco hnx hus hvs hx hc hbl hkt
                go_wp2_with fail
                refine (SH1.out _ TJ.out).mono ?_; rintro e W1 ⟨p1, e1, q1, d1, rfl, ho1, ho2, hb⟩
                have X1 := Lib.hid (RatV.new ho1.rd ho2.rd)
                have KA := (Kp.nx hb ((Kp.refl _).al (.cells #[.bool false, .slice p1 us.length e1, .slice q1 vs.length d1] 42)))
                replace KJ := Lib.hid (Kp.nx KJ.out KA)
                replace KK := Lib.hid (Kp.nx KK.out KA)
                clear SH1 ho1 ho2 hb KA TJ
                go_wp2_with fail
                generalize (W1.alloc (.cells #[.bool false, .slice p1 us.length e1, .slice q1 vs.length d1] 42)) = Y1 at *
                refine (SH2.out _ (FQ.out.nx KJ.out)).mono ?_; rintro e W2 ⟨p2, e2, q2, d2, rfl, ho1, ho2, hb⟩
                have X2 := Lib.hid (RatV.new ho1.rd ho2.rd)
                have KA := (Kp.nx hb ((Kp.refl _).al (.cells #[.bool false, .slice p2 us.length e2, .slice q2 vs.length d2] 42)))
                replace X1 := Lib.hid (X1.out.nx KA)
                replace KJ := Lib.hid (Kp.nx KJ.out KA)
                replace KK := Lib.hid (Kp.nx KK.out KA)
                obtain ⟨a0, a1, a2⟩ := X1.out.cs
                obtain ⟨b0, b1, b2⟩ := X2.out.cs
                have hci := HCI.out _ (HS2.out.nx KJ.out)
                clear SH2 ho1 ho2 hb KA HCI
                go_wp2_with fail
                generalize (W2.alloc (.cells #[.bool false, .slice p2 us.length e2, .slice q2 vs.length d2] 42)) = Y2 at *
                refine (is6 X1.out.ru X2.out.ru X1.out.rv X2.out.rv rfl rfl (by omega) (by omega)).mono ?_; rintro e W6 ⟨rfl, hb⟩
                replace KJ := Lib.hid (Kp.nx KJ.out hb)
                clear X1 X2 a0 a1 a2 b0 b1 b2 hb hci
                go_wp2_with fail
                go_roundw
                case rel => exact ⟨j + 1, by go_num, by omega, KJ⟩
                case measure => simp [intOf]; omega
          · have hlt2 : ¬ ((j : Int) < (i : Int)) := by omega
            replace K := Lib.hid (Kp.nx K.out KJ.out)
            go_wp2_with fail
            go_ret
            exact ⟨rfl, K.out⟩
  · have HN := Lib.hid (fun (W : World) (h : Ri W a0 ws) => new_no ws a0 cap0 W h hlen z hz hzz)
    have HF := Lib.hid (fun (W : World) (h : Ri W a0 ws) => fnew ws a0 cap0 W h hlen z hz)
    have hzb : (z == 0) = false := by rw [beq_eq_false_iff_ne]; exact hzz
    have hzt : (z == z) = true := by simp
    have HZ := Lib.hid hzz
    have HS := Lib.hid Sx
    clear hz hzz hl Sx
    go_enter Try.func6, Try.ntmps6
    go_wp2_with fail
    refine (AL.awake _).mono ?_; rintro e w5 ⟨rfl, hb⟩
    have K := Lib.hid hb
    have HS2 := Lib.hid (HS.out.nx hb)
    clear hb HS
    go_wp2_with fail
    refine (HN.out _ HS2.out).mono ?_; rintro e w' ⟨rfl, rfl⟩
    go_wp2_with fail
    refine (HF.out _ HS2.out).mono ?_; rintro e w6 ⟨hb, he⟩
    rw [if_neg HZ.out] at he
    subst he
    replace K := Lib.hid (Kp.nx K.out hb)
    clear HN HF HS2 hb
    go_wp2_with fail
    go_ret
    exact ⟨rfl, K.out⟩

/-! ### THE ROW's STEP: WRITTEN OUT: LEAVE IT -/
set_option maxRecDepth 100000 in
theorem lifted (os : Os) (started : os.Started) (H : Type) (enc : TypeId × Value → H) :
    ReturnsInHanded {} Try.checked os 6 .any (Rows.aliasSharesSpec.pre6 enc Try.prog Try.f6 Rows.aliasSharesRow.domain false) (Rows.aliasSharesSpec.post enc Try.prog Try.f6 false true false false) := by
  refine returnsInHanded_of_change (C := Try.checked) own started (by kernel_rfl) Try.func6
    (ChangeSpec.witness6 (enc := enc) (C := Try.checked) false ⟨#[], #[.slice none 0 0], []⟩ 8 (by kernel_rfl) (by kernel_rfl) (by kernel_rfl) (by kernel_rfl)) ?_
  intro W base args ds gs before hval0 hW hcnd _
  have hval : ∀ (j : Nat) t v, Try.f6.params[j]? = some t → args[j]? = some v → Value.okWide Try.prog W .any base t v := hval0
  have hW' := hW
  obtain ⟨p, q, hA0, hV, rfl, hfz, hnd⟩ := hW
  have hA : DataW.TrodAll enc Try.prog W 0 (fun _ => true) true Try.f6.params.toList args.toList ds p := hA0
  rw [Try.params6] at hA hval
  obtain ⟨v0, vs0, d0, ds0, p0, q0, hargs, rfl, rfl, h0, r0⟩ := trodAll_cons hA
  obtain ⟨rfl, rfl, rfl⟩ := trodAll_nil r0
  obtain rfl : args = #[v0] := by cases args; simp_all
  obtain ⟨rfl, rfl⟩ := trodVars_none hV
  obtain ⟨a0, len0, cap0, rfl⟩ := okWide_slice Try.underlying22 (hval 0 22 v0 rfl rfl)
  have k0 := h0
  have lt0 : ∀ x ∈ p0, x.block < W.heap.size := by obtain ⟨m, hm⟩ := k0; exact DataW.trod_lt m _ _ _ hm
  obtain ⟨z0, w0⟩ : ∃ zs, IsRow .i64 W a0 len0 cap0 zs := by
    obtain ⟨fuel, hf⟩ := h0
    rcases open_ints Try.underlying22 Try.underlying2 (by kernel_rfl) hf with ⟨hcs, _⟩ | ⟨x, l, c, zs, hcs, _, hl, hm, hz, _, hcell, hwz⟩
    · simp [Value.cells] at hcs
      obtain ⟨rfl, rfl, rfl⟩ := hcs
      exact ⟨[], .inl ⟨rfl, rfl, rfl, rfl⟩⟩
    · simp [Value.cells] at hcs
      obtain ⟨rfl, rfl, rfl⟩ := hcs
      exact ⟨zs, .inr ⟨_, rfl, hl, hm, by simpa using hz, hcell, hwz⟩⟩
  clear hA0 hval0
  refine (walk a0 len0 cap0 z0 W w0).mono fun e W' ⟨he, bel⟩ => ?_
  subst he
  exact ⟨_, rfl, _, _, _, [], _, [], hW', trodAll_mk1 (shut_bool Try.underlying4 _), (trodAll_cons_mk (Below.trod laidOut (by kernel_rfl) (of_decide_eq_true (by kernel_rfl)) k0 bel lt0) trodAll_mk0), rfl, bel.frame _, fun h => by cases h⟩

theorem over : Rows.aliasSharesRow.holds Try.pinned (OpenSpec.ofChange Rows.aliasSharesSpec) :=
  OpenClaim.holds_of_wide 6 Try.f6 rfl rfl rfl rfl rfl rfl rfl ⟨rfl, rfl, rfl, rfl, rfl⟩ rfl rfl rfl rfl rfl (by kernel_rfl) Try.func6 (by kernel_rfl)
    (of_decide_eq_true (by kernel_rfl)) (by unfold Func.isWrapper; first | (rw [if_pos (by decide +kernel)]; kernel_rfl) | (rw [if_neg (by decide +kernel)]; exact ⟨rfl, rfl⟩))
    (fun os started H enc _ => lifted os started H enc)

/-- ████ THE STATEMENT ████ -/
theorem proved : Rows.AliasSharesSaid := over
#print axioms proved
end Go.Proofs.Yticickjnlkbkoaa.aliasShares
