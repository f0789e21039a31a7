/- The document's Digits of layer 2: a natural's digits of 16 bits. -/
import Derived.Test.YtepndjcncmkkkaaRefA
import Derived.Test.YtepndjcncmkkkaaRefPure
namespace Go.Proofs.RN
open Go.RowKit
open Go.Proofs
open Go.Proofs.NP
open Go.Proofs.SL
set_option linter.unusedVariables false

theorem own_more {e : TypeId} {B : Nat} {w : World} {v : Value} {us : List Nat} {d : Nat} {z : Int} (hz : z = (d : Int)) (h : w.ownsRow B e 1 v (us.length + 1) (us.map enc ++ [.int .u64 z])) (hu : Ws us) (hd : d < 18446744073709551616) :
    ∃ a c, v = .slice a (us ++ [d]).length c ∧ Own e B w a c (us ++ [d]) := by
  subst hz
  have hl : (us ++ [d]).length = us.length + 1 := by simp
  have hsh : ∃ a c, v = .slice a (us.length + 1) c := by
    rcases h.2 with ⟨_, h0⟩ | ⟨g, c, cur, rfl, _⟩
    · omega
    · exact ⟨_, c, rfl⟩
  obtain ⟨a, c, rfl⟩ := hsh
  refine ⟨a, c, by rw [hl], ⟨?_, ?_⟩⟩
  · intro x hx
    rcases List.mem_append.1 hx with h' | h'
    · exact hu x h'
    · simp at h'; subst h'; exact hd
  · rw [hl, List.map_append]; exact h

set_option maxHeartbeats 2000000 in
theorem digits (a : Option Addr) (cap l : Nat) (xs : List Nat) (w : World) (hs : Rd w a cap xs) (lx : xs.length = l) (hlen : l ≤ 100000) :
    Calls Try.prog 41 #[.slice a l cap] w (Gives 36 w (D (V xs))) := by
  have hle := hs.le
  have hmx : cap ≤ 9223372036854775807 := by have := hs.max; unfold maxLen at this; omega
  have hws := hs.ws
  obtain ⟨i0, hi, hz0, hz1, hz2⟩ := info_parts NT.Try.info36
  subst lx
  go_enter Try.func41, Try.ntmps41
  go_wp2
  go_loopw [3, 4] (fun s3 s4 wr => ∃ (i : Nat) (pa : Option Addr) (ca : Nat) (os : List Nat), s3 = .slice pa os.length ca ∧ s4 = .int .i64 i ∧ i ≤ xs.length ∧ Hid (os = spread (xs.take i)) ∧ Own 36 w.heap.size wr pa ca os ∧ Below w.heap.size w wr) (fun _ s _ => xs.length - (intOf s).toNat)
  case atStart => exact ⟨0, none, 0, [], rfl, rfl, by omega, rfl, ⟨Dig.nil _, World.ownsRow_nil w _ _ _⟩, Below.refl _ _⟩
  case round =>
    obtain ⟨i, pa, ca, os, rfl, rfl, hi', HO, ho, hb⟩ := hrel
    by_cases hlt : i < xs.length
    · rcases hs.at' with rfl | ⟨b, off, rfl, hbk, hc⟩
      · simp at hlt
      have hc := hc i hlt
      have e0 := hb.cell (p := ⟨b, off + i, none⟩) hbk
      have hc' : wr.cell? ⟨b, off + i, none⟩ = some (.int .u64 (xs[i] : Nat)) := by rw [e0]; exact hc
      have hx := hws.get i hlt
      have HT := Lib.hid (show spread (xs.take (i + 1)) = os ++ lows 4 xs[i] by rw [List.take_succ_eq_append_getElem hlt, spread_append, HO.out]; simp [spread])
      obtain ⟨x, hxe⟩ : ∃ x, x = xs[i] := ⟨_, rfl⟩
      rw [← hxe] at hc' hx HT
      clear hxe hc e0
      obtain ⟨wo, rfl⟩ : ∃ wo : World, wo = wr := ⟨_, rfl⟩
      go_wp2_with fail
      go_loopw [3, 5, 6] (fun s3 s5 s6 wr => ∃ (k y : Nat) (pa : Option Addr) (ca : Nat) (us : List Nat), s3 = .slice pa us.length ca ∧ s5 = .int .u64 y ∧ s6 = .int .i64 k ∧ k ≤ 4 ∧ y < 18446744073709551616 ∧ us.length ≤ os.length + k ∧ Hid (y = x / 65536 ^ k) ∧ Hid (us = os ++ lows k x) ∧ Own 36 w.heap.size wr pa ca us ∧ Below w.heap.size w wr) (fun _ _ s _ => 4 - (intOf s).toNat)
      case atStart => exact ⟨0, x, pa, ca, os, rfl, rfl, rfl, by omega, hx, by omega, by simp [Hid], by simp [Hid, lows], ho, hb⟩
      case round =>
        obtain ⟨k, y, pa1, ca1, us, rfl, rfl, rfl, hk, hy, hul, HY, HU, ho1, hb1⟩ := hrel
        by_cases hlt2 : k < 4
        · have hown := (ho1.al (.cells #[.int .u64 ((y : Int) % 65536)] 36)).row
          have hcell : Hid ((wr.alloc (.cells #[.int .u64 ((y : Int) % 65536)] 36)).cell? ⟨wr.heap.size, 0, none⟩ = some (.int .u64 ((y : Int) % 65536))) := by
            have := (World.ownsRow_lit (e := 36) (base := 0) (size := 1) wr #[.int .u64 ((y : Int) % 65536)] 1 (Nat.zero_le _) (by decide) (by simp)).cellAt 0 (by decide)
            exact this
          have hul2 : os.length ≤ 400000 := by rw [HO.out, spread_length, List.length_take]; omega
          go_wp2_with (at_builtin; refine wpList_append_own _ rfl _ _ 22 rfl w.heap.size 36 i0 (.int .u64 0) 1 8 Try.underlying22 hi hz0 hz1 hz2 rfl (by decide) _ us.length (us.map enc) rfl hown ⟨wr.heap.size, 0, none⟩ 1 1 [.int .u64 ((y : Int) % 65536)] rfl ?c1 ?c2 ?c3 ?c4 ?c5 ?c6 ?_)
          case c1 => rfl
          case c2 =>
            intro j u hu
            cases j with
            | zero => simp at hu; subst hu; exact hcell.out
            | succ j => simp at hu
          case c3 => intro u hu; simp at hu; subst hu; rfl
          case c4 => unfold maxLen; omega
          case c5 => omega
          case c6 => exact Nat.le_trans hb1.size (by simp)
          intro v' w2 hown2 hgr2 hnil2
          obtain ⟨pa2, ca2, rfl, ho2⟩ := own_more (d := y % 65536) (by omega) hown2 ho1.dig (by omega)
          have hb2 : Below w.heap.size w w2 := by
            refine (hb1.alloc hb1.size _).grown hgr2 (Nat.le_trans hb1.size (by simp)) (fun g hg => ?_)
            rcases ho1.cases with ⟨rfl, _⟩ | ⟨g', rfl, h1, _⟩
            · simp [Value.ownBlock] at hg
            · simp [Value.ownBlock] at hg; omega
          have HY2 : Hid (y / 65536 = x / 65536 ^ (k + 1)) := by rw [Hid, HY.out, Nat.div_div_eq_div_mul, Nat.pow_succ]
          have HU2 : Hid (us ++ [y % 65536] = os ++ lows (k + 1) x) := by rw [Hid, lows_succ, ← List.append_assoc, ← HU.out, ← HY.out]
          have hul3 : (us ++ [y % 65536]).length ≤ os.length + (k + 1) := by simp; omega
          obtain ⟨us2, hus2⟩ : ∃ z, z = us ++ [y % 65536] := ⟨_, rfl⟩
          rw [← hus2] at HU2 hul3 ho2 ⊢
          obtain ⟨y2, hy2⟩ : ∃ z, z = y / 65536 := ⟨_, rfl⟩
          rw [← hy2] at HY2
          have HYE := Lib.hid (show (y : Int) / 65536 = (y2 : Int) by omega)
          have hy3 : y2 < 18446744073709551616 := by omega
          clear hus2 hy2 hown2 hgr2 hnil2 hown hcell hb1 ho1 HU HY
          go_wp2_with fail
          refine ⟨⟨k + 1, y2, pa2, ca2, us2, rfl, by rw [HYE.out], by simp, by omega, hy3, hul3, HY2, HU2, ho2, hb2⟩, ?_⟩
          simp [intOf]; omega
        · obtain rfl : k = 4 := by omega
          have HT2 : Hid (us = spread (xs.take (i + 1))) := by rw [Hid, HT.out]; exact HU.out
          clear HT HU HO hul HY
          go_wp2_with fail
          go_roundw
          case rel => exact ⟨i + 1, pa1, ca1, us, rfl, by simp, by omega, HT2, ho1, hb1⟩
          case measure => simp [intOf]; omega
    · have hi2 : i = xs.length := by omega
      subst hi2
      have HO2 := HO.out
      rw [List.take_length] at HO2
      have hU := spread_val xs hws
      have hdo : Dig 65536 os := by rw [HO2]; exact spread_dig xs
      obtain ⟨n, hn, ht⟩ := digs_take hdo
      have htk := ho.take n hn
      have hl : (os.take n).length = n := by simp; omega
      have hle1 : os.length ≤ 1000000 := by rw [HO2, spread_length]; omega
      have hUo : U os = V xs := by unfold U; rw [HO2]; exact hU
      have hC := cut wr.heap.size pa ca os wr ho.sl hdo hle1
      have hD : D (V xs) = os.take n := by rw [← hUo]; exact ht.symm
      have hDl : (D (V xs)).length = n := by rw [hD, hl]
      rw [hUo, hDl] at hC
      have HC := Lib.hid hC
      have hf : Hid (Gives 36 w (D (V xs)) (.returned (.slice pa n ca)) wr) := ⟨pa, ca, by rw [hDl], by rw [hD]; exact htk, hb⟩
      clear hC hD hDl hUo hle1 hl htk ht hn hdo hU HO2 ho hb HO
      go_wp2_with fail
      refine HC.out.mono ?_
      rintro e w' ⟨rfl, rfl⟩
      go_wp2
      go_ret
      exact hf.out
end Go.Proofs.RN
