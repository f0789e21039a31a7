/- The statement AliasDraws: what is drawn by the table of any weights, again and again, of any string of bits, and how many bits are read, are the document's. No condition. -/
import Derived.Test.YticickjnlkbkoaaRows
import Derived.WalkKit
import Derived.ProofKit
import Derived.OpenShut
import Derived.Test.YticickjnlkbkoaaAliD
import Derived.Test.YticickjnlkbkoaaAliT
import Derived.Test.YticickjnlkbkoaaAliG
import Derived.Test.YticickjnlkbkoaaAliI
import Derived.ShutString
import Derived.ChangeOld
import Derived.Below
namespace Go.Proofs.Yticickjnlkbkoaa.aliasDraws
open Go.ChangeShapes Go.WideShapes Go.ChangeAt Go.RowKit
open Go.Proofs
open Go.ChangeMaps (open_string shut_string)
set_option linter.unusedVariables false

theorem own : ownKnob Try.prog.godebug = none := by kernel_rfl
theorem laidOut : laidOutB Try.prog = true := by kernel_rfl

/-- WHAT THE WALK IS TOLD OF A SLICE OF INTEGERS THAT CAME IN: it is nil; or it leads to a row of 'cap' cells, the numbers 'zs' (the first 'len' are its elements, the rest its spare room), each fitting its kind. -/
def IsRow (k : IntKind) (w : World) (a : Option Addr) (len cap : Nat) (zs : List Int) : Prop :=
  (a = none ∧ len = 0 ∧ cap = 0 ∧ zs = []) ∨
  ∃ x, a = some x ∧ len ≤ cap ∧ cap ≤ maxLen ∧ zs.length = cap ∧ (∀ i, i < zs.length → w.cell? (x.add i) = some (.int k (zs.getD i 0))) ∧ ∀ n ∈ zs, (Lit.int k n).wf = true

open Go.Proofs.AL Go.Proofs.SL Go.Proofs.RA Go.Proofs.BL Go.Proofs.BT
set_option linter.unusedSimpArgs false

/-! ### STEP 1: THE WALK: the Go text returns true, AND WRITES NOTHING THAT WAS THERE: 'Below w.heap.size w w'' (Derived/Below.lean: '.refl', '.alloc', '.drew', '.setCell' at a new block, '.trans'). Open each 'IsRow' by 'rcases' AHEAD of 'go_enter'; part every test ahead of the walk. -/
set_option maxHeartbeats 4000000 in
set_option maxRecDepth 100000 in
theorem walk (a0 : Option Addr) (len0 cap0 : Nat) (z0 : List Int) (a1 : ByteArray) (a2 : Int) (w : World) (w0 : IsRow .i64 w a0 len0 cap0 z0) (w1 : a1.size ≤ maxLen) (w2 : (Lit.int .u8 a2).wf = true) :
    Calls Try.prog 7 #[.slice a0 len0 cap0, .string a1, .int .u8 a2] w fun e w' => e = .returned (.bool true) ∧ Below w.heap.size w w' := by
  obtain ⟨ws, rfl, hlen, Sx⟩ := Ri.of_row w0
  unfold maxLen at w1
  have hbo := bounds_u8 w2
  clear w0 w2
  by_cases hl : 100 < ws.length
  · have hl2 : (100 : Int) < (ws.length : Int) := by omega
    go_enter Try.func7, Try.ntmps7
    go_wp2_with fail
    refine (AL.awake _).mono ?_; rintro e w5 ⟨rfl, hb⟩
    have K := Lib.hid hb
    go_wp2_with fail
    go_ret
    exact ⟨rfl, K.out⟩
  have hl2 : ¬ ((100 : Int) < (ws.length : Int)) := by omega
  obtain ⟨z, hz⟩ : ∃ z, z = whyW ws := ⟨_, rfl⟩
  obtain ⟨o8, rfl⟩ : ∃ m : Nat, a2 = m := ⟨a2.toNat, by omega⟩
  obtain ⟨m, hm⟩ : ∃ m, m = o8 % 20 := ⟨_, rfl⟩
  have hm20 : (o8 : Int) % 20 = (m : Int) := by omega
  have HM := Lib.hid hm20
  have hm2 : m ≤ 20 := by omega
  clear hm hbo
  by_cases hzz : z = 0
  · subst hzz
    cases hy : isB a1 with
    | false =>
      have HN1 := Lib.hid (fun (W : World) (h : Ri W a0 ws) => new1 ws a0 cap0 W h (why_len hz) hz)
      have HN2 := Lib.hid (fun (W : World) (h : Ri W a0 ws) => rnew ws a0 cap0 W h (why_len hz) hz)
      have HC1 := Lib.hid (fun w1 => new1_no a1 w1 (by omega) hy)
      have HC2 := Lib.hid (fun w1 => new2_no a1 w1 (by omega) hy)
      have HS := Lib.hid Sx
      clear hz hl Sx hy
      go_enter Try.func7, Try.ntmps7
      go_wp2_with fail
      refine (HN1.out _ HS.out).mono ?_; rintro e w6 ⟨g, gc, go, rfl, hT, -, hb⟩
      have K := Lib.hid hb
      replace HS := Lib.hid (HS.out.nx hb)
      clear HN1 hT hb
      go_wp2_with fail
      refine (HN2.out _ HS.out).mono ?_; rintro e w7 ⟨g', gc', cc, go', co, rfl, hT, -, hb⟩
      replace K := Lib.hid (Kp.nx K.out hb)
      clear HN2 HS hT hb
      go_wp2_with fail
      refine (HC1.out _).mono ?_; rintro e w' ⟨rfl, rfl⟩
      go_wp2_with fail
      refine (HC2.out _).mono ?_; rintro e w' ⟨rfl, rfl⟩
      clear HC1 HC2
      go_wp2_with fail
      refine (AL.awake _).mono ?_; rintro e w5 ⟨rfl, hb⟩
      replace K := Lib.hid (Kp.nx K.out hb)
      clear hb
      go_wp2_with fail
      go_ret
      exact ⟨rfl, K.out⟩
    | true =>
      have hn := why_len hz
      have hsp := sum_pos hz
      obtain ⟨hall, -⟩ := why0 hz
      have hsb := up_bd hall ws.length hn.2
      have HN1 := Lib.hid (fun (W : World) (h : Ri W a0 ws) => new1 ws a0 cap0 W h hn hz)
      have HN2 := Lib.hid (fun (W : World) (h : Ri W a0 ws) => rnew ws a0 cap0 W h hn hz)
      obtain ⟨n, hnn⟩ : ∃ n, ws.length = n := ⟨_, rfl⟩
      rw [hnn] at hn hsp hsb hl2 HN1 HN2 ⊢
      generalize htb : table n (wf ws) = tb at *
      obtain ⟨S, hS⟩ : ∃ S : Nat, up (wf ws) n = S := ⟨(up (wf ws) n).toNat, by omega⟩
      rw [hS] at hsp hsb HN1 HN2
      have hS1 : 1 ≤ S ∧ S ≤ 67108864 := by omega
      have hs := isB_le hy
      have HC1 := Lib.hid (fun w1 => new1_ok a1 w1 (by omega) hy)
      have HC2 := Lib.hid (fun w1 => new2_ok a1 w1 (by omega) hy)
      have HD1 := Lib.hid (fun (W : World) (g gc go b a : Nat) (o : Bool) (h : Tb W g gc go n (S : Int) tb.cu tb.ot) (hc : Cp W b a1 a o) (hne : g ≠ b ∧ gc ≠ b ∧ go ≠ b) (ha : a ≤ a1.size) (p : Int) (is : Bool) (at' : Nat) (ov : Bool) (hR : tdr n S tb.cu tb.ot a1 a o = (p, is, at', ov)) => tdraw S b a a1 o h hn hS1 hc hne ha (by omega) (isB_bits hy) p is at' ov hR)
      have HD2 := Lib.hid (fun (W : World) (g gc cc go co b a : Nat) (o : Bool) (h : Tr W g gc cc go co n (S : Int) tb.cu tb.ot) (hc : Cr W b a1 a o) (hne : g ≠ b ∧ gc ≠ b ∧ go ≠ b) (ha : a ≤ a1.size) (p : Int) (is : Bool) (at' : Nat) (ov : Bool) (hR : tdr n S tb.cu tb.ot a1 a o = (p, is, at', ov)) => rdraw S b a a1 o h hn hS1 hc hne ha (by omega) (isB_bits hy) p is at' ov hR)
      have HS := Lib.hid Sx
      clear hz hall hl hnn hlen htb hS Sx hy
      go_enter Try.func7, Try.ntmps7
      go_wp2_with fail
      refine (HN1.out _ HS.out).mono ?_; rintro e w6 ⟨g, gc, go, rfl, hT, -, hb⟩
      have T1 := Lib.hid hT
      have K := Lib.hid hb
      replace HS := Lib.hid (HS.out.nx hb)
      clear HN1 hT hb
      go_wp2_with fail
      refine (HN2.out _ HS.out).mono ?_; rintro e w7 ⟨g', gc', cc, go', co, rfl, hT, -, hb⟩
      have T2 := Lib.hid hT
      replace T1 := Lib.hid (T1.out.nx hb)
      replace K := Lib.hid (Kp.nx K.out hb)
      have hgs : (g < w7.heap.size ∧ gc < w7.heap.size ∧ go < w7.heap.size) ∧ (g' < w7.heap.size ∧ gc' < w7.heap.size ∧ go' < w7.heap.size) := ⟨⟨T1.out.tb.lt, T1.out.cb.lt, T1.out.ob.lt⟩, hT.tb.lt, hT.lc, hT.lo⟩
      have hw7 := K.out.size
      clear HN2 HS hT hb
      go_wp2_with fail
      refine (HC1.out _).mono ?_; rintro e w8 ⟨rfl, hc1, hb⟩
      have C1 := Lib.hid hc1
      replace T1 := Lib.hid (T1.out.nx hb)
      replace T2 := Lib.hid (T2.out.nx hb)
      replace K := Lib.hid (Kp.nx K.out hb)
      have hlt8 := hc1.lt
      obtain ⟨b1, hb1⟩ : ∃ b, w7.heap.size = b := ⟨_, rfl⟩
      rw [hb1] at C1 hgs hlt8 hw7
      simp only [hb1]
      clear hb1 hc1 hb HC1
      go_wp2_with fail
      refine (HC2.out _).mono ?_; rintro e w9 ⟨rfl, hc2, hb⟩
      have C2 := Lib.hid hc2
      replace C1 := Lib.hid (C1.out.nx hb)
      replace T1 := Lib.hid (T1.out.nx hb)
      replace T2 := Lib.hid (T2.out.nx hb)
      replace K := Lib.hid (Kp.nx K.out hb)
      obtain ⟨b2, hb2⟩ : ∃ b, w8.heap.size = b := ⟨_, rfl⟩
      rw [hb2] at C2 hlt8
      simp only [hb2]
      clear hb2 hc2 hb HC2
      have HG := Lib.hid (show ((g ≠ b1 ∧ gc ≠ b1 ∧ go ≠ b1) ∧ (g' ≠ b1 ∧ gc' ≠ b1 ∧ go' ≠ b1)) ∧ ((g ≠ b2 ∧ gc ≠ b2 ∧ go ≠ b2) ∧ (g' ≠ b2 ∧ gc' ≠ b2 ∧ go' ≠ b2)) ∧ b1 ≠ b2 ∧ w.heap.size ≤ b1 ∧ w.heap.size ≤ b2 by omega)
      clear hgs hlt8 hw7
      go_wp2_with fail
      go_loopw [15] (fun s15 wr => ∃ (i a : Nat) (o : Bool), s15 = .int .i64 (i : Int) ∧ i ≤ m ∧ a ≤ a1.size ∧ Hid (Cp wr b1 a1 a o) ∧ Hid (Cr wr b2 a1 a o) ∧ Hid (Tb wr g gc go n (S : Int) tb.cu tb.ot) ∧ Hid (Tr wr g' gc' cc go' co n (S : Int) tb.cu tb.ot) ∧ Hid (Kp w wr)) (fun v _ => m - (intOf v).toNat)
      case atStart => exact ⟨0, 0, false, rfl, by omega, by omega, C1, C2, T1, T2, K⟩
      case round =>
        clear C1 C2 T1 T2 K
        obtain ⟨i, a, o, rfl, hi, ha, C1, C2, T1, T2, K⟩ := hrel
        by_cases hlt : i < m
        · have hlt2 : (i : Int) < (m : Int) := by omega
          obtain ⟨R, hR⟩ : ∃ R, tdr n S tb.cu tb.ot a1 a o = R := ⟨_, rfl⟩
          have hRa : R.2.2.1 ≤ a1.size := by rw [← hR]; exact tdr_le ha
          obtain ⟨p, is, n9, ov⟩ := R
          simp only at hRa
          have D1 := Lib.hid (fun (W : World) (h : Tb W g gc go n (S : Int) tb.cu tb.ot) (hc : Cp W b1 a1 a o) => HD1.out W g gc go b1 a o h hc HG.out.1.1 ha p is n9 ov hR)
          have D2 := Lib.hid (fun (W : World) (h : Tr W g' gc' cc go' co n (S : Int) tb.cu tb.ot) (hc : Cr W b2 a1 a o) => HD2.out W g' gc' cc go' co b2 a o h hc HG.out.2.1.2 ha p is n9 ov hR)
          have hpp : (p == p) = true := by simp
          have hnq : ((n9 : Int) == (n9 : Int)) = true := by simp
          clear hR
          try simp only [HM.out]
          go_wp2_with fail
          refine (D1.out _ T1.out C1.out).mono ?_; rintro e w3 ⟨rfl, hc1, hgr⟩
          replace K := Lib.hid (show Kp w w3 from Kp.grown K.out hgr (fun k e => by cases e; exact HG.out.2.2.2.1))
          replace C2 := Lib.hid (C2.out.kept hgr (by simp; exact HG.out.2.2.1.symm))
          replace T1 := Lib.hid (T1.out.kept hgr HG.out.1.1.1 HG.out.1.1.2.1 HG.out.1.1.2.2)
          replace T2 := Lib.hid (T2.out.kept hgr HG.out.1.2.1 HG.out.1.2.2.1 HG.out.1.2.2.2)
          replace C1 := Lib.hid hc1
          clear D1 hc1 hgr
          go_wp2_with fail
          refine (D2.out _ T2.out C2.out).mono ?_; rintro e w4 ⟨rfl, hc2, hgr⟩
          replace K := Lib.hid (show Kp w w4 from Kp.grown K.out hgr (fun k e => by cases e; exact HG.out.2.2.2.2))
          replace C1 := Lib.hid (C1.out.kept hgr (by simp; exact HG.out.2.2.1))
          replace T1 := Lib.hid (T1.out.kept hgr HG.out.2.1.1.1 HG.out.2.1.1.2.1 HG.out.2.1.1.2.2)
          replace T2 := Lib.hid (T2.out.kept hgr HG.out.2.1.2.1 HG.out.2.1.2.2.1 HG.out.2.1.2.2.2)
          replace C2 := Lib.hid hc2
          have x1 := C2.out.c1
          have x2 := C2.out.c2
          have HA := Lib.hid (fun q => BL.at1 b1 n9 a1 ov (w4.drewN q) (C1.out.dr q))
          have HO := Lib.hid (fun q => BL.over1 b1 n9 a1 ov (w4.drewN q) (C1.out.dr q))
          clear D2 hc2 hgr HD1 HD2
          cases is <;> cases ov
          all_goals
            go_wp2_with fail
            go_quiet (first | (go_at_call 30; exact (HA.out _).mono (fun _ _ h => ⟨h.1, _, h.2.symm⟩)) | (go_at_call 31; exact (HO.out _).mono (fun _ _ h => ⟨h.1, _, h.2.symm⟩)))
            go_wp2_with fail
            go_roundw
            case rel => exact ⟨i + 1, n9, _, by go_num, by omega, hRa, Lib.hid (C1.out.dr nq), Lib.hid (C2.out.dr nq), Lib.hid (T1.out.nx ((Kp.refl _).dr nq)), Lib.hid (T2.out.nx ((Kp.refl _).dr nq)), Lib.hid (K.out.dr nq)⟩
            case measure => simp [intOf]; omega
        · have hlt2 : ¬ ((i : Int) < (m : Int)) := by omega
          clear C1 C2 HD1 HD2 T1 T2
          try simp only [HM.out]
          go_wp2_with fail
          refine (AL.awake _).mono ?_; rintro e w5 ⟨rfl, hb⟩
          replace K := Lib.hid (Kp.nx K.out hb)
          clear hb
          go_wp2_with fail
          go_ret
          exact ⟨rfl, K.out⟩
  · cases hy : isB a1 with
    | false =>
      have HN1 := Lib.hid (fun (W : World) (h : Ri W a0 ws) => new_no ws a0 cap0 W h hlen z hz hzz)
      have HN2 := Lib.hid (fun (W : World) (h : Ri W a0 ws) => rnew_no ws a0 cap0 W h hlen z hz hzz)
      have hzb : (z == 0) = false := by rw [beq_eq_false_iff_ne]; exact hzz
      have hzt : (z == z) = true := by simp
      have hzb2 : ¬ (z = 0) := hzz
      have HC1 := Lib.hid (fun w1 => new1_no a1 w1 (by omega) hy)
      have HC2 := Lib.hid (fun w1 => new2_no a1 w1 (by omega) hy)
      have HS := Lib.hid Sx
      clear hz hl Sx hy hzz
      go_enter Try.func7, Try.ntmps7
      go_wp2_with fail
      refine (HN1.out _ HS.out).mono ?_; rintro e w' ⟨rfl, rfl⟩
      go_wp2_with fail
      refine (HN2.out _ HS.out).mono ?_; rintro e w' ⟨rfl, rfl⟩
      have K := Lib.hid (Kp.refl w)
      clear HN1 HN2 HS
      go_wp2_with fail
      refine (HC1.out _).mono ?_; rintro e w' ⟨rfl, rfl⟩
      go_wp2_with fail
      refine (HC2.out _).mono ?_; rintro e w' ⟨rfl, rfl⟩
      clear HC1 HC2
      go_wp2_with fail
      refine (AL.awake _).mono ?_; rintro e w5 ⟨rfl, hb⟩
      replace K := Lib.hid (Kp.nx K.out hb)
      clear hb
      go_wp2_with fail
      go_ret
      exact ⟨rfl, K.out⟩
    | true =>
      have HN1 := Lib.hid (fun (W : World) (h : Ri W a0 ws) => new_no ws a0 cap0 W h hlen z hz hzz)
      have HN2 := Lib.hid (fun (W : World) (h : Ri W a0 ws) => rnew_no ws a0 cap0 W h hlen z hz hzz)
      have hzb : (z == 0) = false := by rw [beq_eq_false_iff_ne]; exact hzz
      have hzt : (z == z) = true := by simp
      have hzb2 : ¬ (z = 0) := hzz
      have HC1 := Lib.hid (fun w1 => new1_ok a1 w1 (by omega) hy)
      have HC2 := Lib.hid (fun w1 => new2_ok a1 w1 (by omega) hy)
      have HS := Lib.hid Sx
      clear hz hl Sx hy hzz
      go_enter Try.func7, Try.ntmps7
      go_wp2_with fail
      refine (HN1.out _ HS.out).mono ?_; rintro e w' ⟨rfl, rfl⟩
      go_wp2_with fail
      refine (HN2.out _ HS.out).mono ?_; rintro e w' ⟨rfl, rfl⟩
      have K := Lib.hid (Kp.refl w)
      clear HN1 HN2 HS
      go_wp2_with fail
      refine (HC1.out _).mono ?_; rintro e w8 ⟨rfl, hc, hb⟩
      replace K := Lib.hid (Kp.nx K.out hb)
      clear HC1 hc hb
      go_wp2_with fail
      refine (HC2.out _).mono ?_; rintro e w9 ⟨rfl, hc, hb⟩
      replace K := Lib.hid (Kp.nx K.out hb)
      clear HC2 hc hb
      go_wp2_with fail
      refine (AL.awake _).mono ?_; rintro e w5 ⟨rfl, hb⟩
      replace K := Lib.hid (Kp.nx K.out hb)
      clear hb
      go_wp2_with fail
      go_ret
      exact ⟨rfl, K.out⟩

/-! ### THE ROW's STEP: WRITTEN OUT: LEAVE IT -/
set_option maxRecDepth 100000 in
theorem lifted (os : Os) (started : os.Started) (H : Type) (enc : TypeId × Value → H) :
    ReturnsInHanded {} Try.checked os 7 .any (Rows.aliasDrawsSpec.pre6 enc Try.prog Try.f7 Rows.aliasDrawsRow.domain false) (Rows.aliasDrawsSpec.post enc Try.prog Try.f7 false true false false) := by
  refine returnsInHanded_of_change (C := Try.checked) own started (by kernel_rfl) Try.func7
    (ChangeSpec.witness6 (enc := enc) (C := Try.checked) false ⟨#[], #[.slice none 0 0, .string ByteArray.empty, .int .u8 0], []⟩ 8 (by kernel_rfl) (by kernel_rfl) (by kernel_rfl) (by kernel_rfl)) ?_
  intro W base args ds gs before hval0 hW hcnd _
  have hval : ∀ (j : Nat) t v, Try.f7.params[j]? = some t → args[j]? = some v → Value.okWide Try.prog W .any base t v := hval0
  have hW' := hW
  obtain ⟨p, q, hA0, hV, rfl, hfz, hnd⟩ := hW
  have hA : DataW.TrodAll enc Try.prog W 0 (fun _ => true) true Try.f7.params.toList args.toList ds p := hA0
  rw [Try.params7] at hA hval
  obtain ⟨v0, vs0, d0, ds0, p0, q0, hargs, rfl, rfl, h0, r0⟩ := trodAll_cons hA
  obtain ⟨v1, vs1, d1, ds1, p1, q1, rfl, rfl, rfl, h1, r1⟩ := trodAll_cons r0
  obtain ⟨v2, vs2, d2, ds2, p2, q2, rfl, rfl, rfl, h2, r2⟩ := trodAll_cons r1
  obtain ⟨rfl, rfl, rfl⟩ := trodAll_nil r2
  obtain rfl : args = #[v0, v1, v2] := by cases args; simp_all
  obtain ⟨rfl, rfl⟩ := trodVars_none hV
  obtain ⟨a0, len0, cap0, rfl⟩ := okWide_slice Try.underlying22 (hval 0 22 v0 rfl rfl)
  have k0 := h0
  have lt0 : ∀ x ∈ p0, x.block < W.heap.size := by obtain ⟨m, hm⟩ := k0; exact DataW.trod_lt m _ _ _ hm
  obtain ⟨z0, w0⟩ : ∃ zs, IsRow .i64 W a0 len0 cap0 zs := by
    obtain ⟨fuel, hf⟩ := h0
    rcases open_ints Try.underlying22 Try.underlying2 (by kernel_rfl) hf with ⟨hcs, _⟩ | ⟨x, l, c, zs, hcs, _, hl, hm, hz, _, hcell, hwz⟩
    · simp [Value.cells] at hcs
      obtain ⟨rfl, rfl, rfl⟩ := hcs
      exact ⟨[], .inl ⟨rfl, rfl, rfl, rfl⟩⟩
    · simp [Value.cells] at hcs
      obtain ⟨rfl, rfl, rfl⟩ := hcs
      exact ⟨zs, .inr ⟨_, rfl, hl, hm, by simpa using hz, hcell, hwz⟩⟩
  obtain ⟨a1, rfl, rfl, rfl, w1⟩ := open_string Try.underlying9 (hval 1 9 v1 rfl rfl) h1
  obtain ⟨a2, rfl, rfl, rfl, w2⟩ := open_int Try.underlying5 (hval 2 5 v2 rfl rfl) h2
  clear hA0 hval0
  refine (walk a0 len0 cap0 z0 a1 a2 W w0 w1 w2).mono fun e W' ⟨he, bel⟩ => ?_
  subst he
  exact ⟨_, rfl, _, _, _, [], _, [], hW', trodAll_mk1 (shut_bool Try.underlying4 _), (trodAll_cons_mk (Below.trod laidOut (by kernel_rfl) (of_decide_eq_true (by kernel_rfl)) k0 bel lt0) (trodAll_cons_mk (shut_string Try.underlying9 w1) (trodAll_cons_mk (shut_int Try.underlying5 w2) trodAll_mk0))), rfl, bel.frame _, fun h => by cases h⟩

theorem over : Rows.aliasDrawsRow.holds Try.pinned (OpenSpec.ofChange Rows.aliasDrawsSpec) :=
  OpenClaim.holds_of_wide 7 Try.f7 rfl rfl rfl rfl rfl rfl rfl ⟨rfl, rfl, rfl, rfl, rfl⟩ rfl rfl rfl rfl rfl (by kernel_rfl) Try.func7 (by kernel_rfl)
    (of_decide_eq_true (by kernel_rfl)) (by unfold Func.isWrapper; first | (rw [if_pos (by decide +kernel)]; kernel_rfl) | (rw [if_neg (by decide +kernel)]; exact ⟨rfl, rfl⟩))
    (fun os started H enc _ => lifted os started H enc)

/-- ████ THE STATEMENT ████ -/
theorem proved : Rows.AliasDrawsSaid := over
#print axioms proved
end Go.Proofs.Yticickjnlkbkoaa.aliasDraws
