/- The document's Join of layer 2: the natural of digits of 16 bits. -/
import Derived.Test.YtepndjcncmkkkaaRefB
import Derived.Test.YtepndjcncmkkkaaRefPack
namespace Go.Proofs.RN
open Go.RowKit
open Go.Proofs
open Go.Proofs.NP
open Go.Proofs.SL
set_option linter.unusedVariables false

/-- one step down a row: the value of the digits from k on, up to m -/
theorem val_down (ds : List Nat) (m k : Nat) (hm : m ≤ ds.length) (h : k < m) : val 65536 ((ds.take m).drop k) = ds[k]?.getD 0 + 65536 * val 65536 ((ds.take m).drop (k + 1)) := by
  have hk : k < (ds.take m).length := by simp; omega
  rw [List.drop_eq_getElem_cons hk, val]
  congr 1
  simp [show k < ds.length by omega]
theorem val_down_lt (ds : List Nat) (hd : Dig 65536 ds) (m k i : Nat) (hm : m ≤ i + 4) (h : i ≤ k) : val 65536 ((ds.take m).drop k) < 65536 ^ (i + 4 - k) := by
  have hd' : Dig 65536 ((ds.take m).drop k) := fun x hx => hd x (List.mem_of_mem_take (List.mem_of_mem_drop hx))
  have h1 := val_lt (b := 65536) (by decide) hd'
  exact Nat.lt_of_lt_of_le h1 (Nat.pow_le_pow_right (by decide) (by simp; omega))

set_option maxHeartbeats 2000000 in
theorem join (a : Option Addr) (cap l : Nat) (xs : List Nat) (w : World) (hs : Rd w a cap xs) (hd : Dig 65536 xs) (lx : xs.length = l) (hlen : l ≤ 1000000) :
    Calls Try.prog 52 #[.slice a l cap] w (Gives 36 w (L (U xs))) := by
  subst lx
  have hle := hs.le
  have hmx : cap ≤ 9223372036854775807 := by have := hs.max; unfold maxLen at this; omega
  obtain ⟨i0, hi, hz0, hz1, hz2⟩ := info_parts NT.Try.info36
  have hC := cut w.heap.size a cap xs w hs hd hlen
  obtain ⟨n, hn, ht⟩ := digs_take hd
  have hp := pack_digs (U xs)
  have hs2 := NT.Sl.take hs n hn
  have hd2 : Dig 65536 (xs.take n) := hd.take n
  change xs.take n = D (U xs) at ht
  change pack (D (U xs)) = _ at hp
  rw [ht] at hs2 hd2
  have hdl : (D (U xs)).length ≤ xs.length := by rw [← ht]; simp; omega
  obtain ⟨ds, hds⟩ : ∃ ds, ds = D (U xs) := ⟨_, rfl⟩
  obtain ⟨zs, hzs⟩ : ∃ zs, zs = L (U xs) := ⟨_, rfl⟩
  rw [← hds] at hC hp hs2 hd2 hdl
  rw [← hzs] at hp ⊢
  have HC := Lib.hid hC
  have HP := Lib.hid hp
  clear hC hp ht hds hzs hs
  go_enter Try.func52, Try.ntmps52
  go_wp2_with fail
  refine HC.out.mono ?_
  rintro e w' ⟨rfl, rfl⟩
  clear HC
  go_wp2
  go_loopw [3, 4] (fun s3 s4 wr => ∃ (i : Nat) (pa : Option Addr) (ca : Nat) (os : List Nat), s3 = .slice pa os.length ca ∧ s4 = .int .i64 i ∧ i ≤ ds.length + 4 ∧ os.length ≤ i ∧ Hid (os ++ pack (ds.drop i) = zs) ∧ Own 36 w.heap.size wr pa ca os ∧ Below w.heap.size w wr) (fun _ s _ => ds.length - (intOf s).toNat)
  case atStart => exact ⟨0, none, 0, [], rfl, rfl, by omega, by simp, HP.out, ⟨Dig.nil _, World.ownsRow_nil w _ _ _⟩, Below.refl _ _⟩
  case round =>
    obtain ⟨i, pa, ca, os, rfl, rfl, hi', hol, HO, ho, hb⟩ := hrel
    by_cases hlt : i < ds.length
    · obtain ⟨m, hm⟩ : ∃ m, m = min ds.length (i + 4) := ⟨_, rfl⟩
      have hm1 : m ≤ ds.length := by omega
      have hm2 : m ≤ i + 4 := by omega
      have hm3 : i < m := by omega
      obtain ⟨wo, rfl⟩ : ∃ wo : World, wo = wr := ⟨_, rfl⟩
      have hne : ds.drop i ≠ [] := by intro h; have := congrArg List.length h; simp at this; omega
      have HS := Lib.hid (show os ++ (val 65536 ((ds.take m).drop i) :: pack (ds.drop (i + 4))) = zs by
        have h1 := HO.out
        rw [pack_step hne, List.drop_drop] at h1
        have h2 : (ds.take m).drop i = (ds.drop i).take 4 := by
          rw [List.drop_take]
          rcases Nat.le_total ds.length (i + 4) with h | h
          · rw [List.take_of_length_le (by simp; omega), List.take_of_length_le (by simp; omega)]
          · rw [show m - i = 4 by omega]
        rw [h2]; exact h1)
      have hlast : Hid ((ds.take m).drop m = []) := List.drop_eq_nil_of_le (by simp; omega)
      rcases hs2.at' with h0 | ⟨b, off, rfl, hbk, hc⟩
      · rw [h0] at hlt; simp at hlt
      have HCC := Lib.hid hc
      clear hc hne
      rcases Nat.lt_or_ge (i + 4) ds.length with h4 | h4
      · go_wp2_with fail
        go_loop [5, 6] (fun s5 s6 => ∃ (kz : Int) (x : Nat), s5 = .int .u64 x ∧ s6 = .int .i64 kz ∧ (i : Int) - 1 ≤ kz ∧ kz < m ∧ x < 18446744073709551616 ∧ Hid (x = val 65536 ((ds.take m).drop (kz + 1).toNat))) (fun _ s => (intOf s + 1).toNat)
        case atStart => exact ⟨(m : Int) - 1, 0, rfl, by congr 1; omega, by omega, by omega, by omega, by rw [Hid, show ((m : Int) - 1 + 1).toNat = m by omega, hlast.out]; rfl⟩
        case round =>
          obtain ⟨kz, x, rfl, rfl, h1, h2, hx, HX⟩ := hrel
          by_cases hk : (i : Int) ≤ kz
          · obtain ⟨k, rfl⟩ : ∃ k : Nat, kz = k := ⟨kz.toNat, by omega⟩
            have e1 : ((k : Int) + 1).toNat = k + 1 := by omega
            rw [e1] at HX
            have hkl : k < ds.length := by omega
            have hcc : wo.cell? ⟨b, off + k, none⟩ = some (.int .u64 (ds[k] : Nat)) := by rw [hb.cell (p := ⟨b, off + k, none⟩) hbk]; exact HCC.out k hkl
            have hdk := hd2.get k hkl
            have hx3 : x < 281474976710656 := by
              rw [HX.out]
              refine Nat.lt_of_lt_of_le (val_down_lt ds hd2 m (k + 1) i hm2 (by omega)) ?_
              exact Nat.le_trans (Nat.pow_le_pow_right (by decide) (show i + 4 - (k + 1) ≤ 3 by omega)) (by decide)
            have HV := Lib.hid (val_down ds m k hm1 (by omega))
            obtain ⟨d, hde⟩ : ∃ d, d = ds[k] := ⟨_, rfl⟩
            have hde2 : ds[k]?.getD 0 = d := by rw [hde]; simp [hkl]
            rw [hde2, ← HX.out] at HV
            rw [← hde] at hcc hdk
            clear hde hde2 e1 HX
            go_wp2_with fail
            refine ⟨⟨(k : Int) - 1, x * 65536 + d, by simp, by simp, by omega, by omega, by omega, ?_⟩, ?_⟩
            · rw [Hid, show ((k : Int) - 1 + 1).toNat = k by omega, HV.out]; omega
            · simp [intOf]
          · have hkz : kz = (i : Int) - 1 := by omega
            subst hkz
            rw [show ((i : Int) - 1 + 1).toNat = i by omega] at HX
            have HS2 := Lib.hid (show (os ++ [x]) ++ pack (ds.drop (i + 4)) = zs by rw [HX.out, List.append_assoc]; exact HS.out)
            clear HS HX HO hlast
            have hown := (ho.al (.cells #[.int .u64 (x : Int)] 36)).row
            have hcell : Hid ((wo.alloc (.cells #[.int .u64 (x : Int)] 36)).cell? ⟨wo.heap.size, 0, none⟩ = some (.int .u64 (x : Int))) := by
              have := (World.ownsRow_lit (e := 36) (base := 0) (size := 1) wo #[.int .u64 (x : Int)] 1 (Nat.zero_le _) (by decide) (by simp)).cellAt 0 (by decide)
              exact this
            go_wp2_with (at_builtin; refine wpList_append_own _ rfl _ _ 23 rfl w.heap.size 36 i0 (.int .u64 0) 1 8 Try.underlying23 hi hz0 hz1 hz2 rfl (by decide) _ os.length (os.map enc) rfl hown ⟨wo.heap.size, 0, none⟩ 1 1 [.int .u64 (x : Int)] rfl ?c1 ?c2 ?c3 ?c4 ?c5 ?c6 ?_)
            case c3 => rfl
            case c4 => unfold maxLen; omega
            case c5 => omega
            case c6 => exact Nat.le_trans hb.size (by simp)
            intro v' w2 hown2 hgr2 hnil2
            obtain ⟨pa2, ca2, rfl, ho2⟩ := own_more (d := x) rfl hown2 ho.dig hx
            have hb2 : Below w.heap.size w w2 := by
              refine (hb.alloc hb.size _).grown hgr2 (Nat.le_trans hb.size (by simp)) (fun g hg => ?_)
              rcases ho.cases with ⟨rfl, _⟩ | ⟨g', rfl, h1, _⟩
              · simp [Value.ownBlock] at hg
              · simp [Value.ownBlock] at hg; omega
            have hul3 : (os ++ [x]).length ≤ i + 4 := by simp; omega
            obtain ⟨us2, hus2⟩ : ∃ z, z = os ++ [x] := ⟨_, rfl⟩
            rw [← hus2] at HS2 hul3 ho2 ⊢
            clear hus2 hown2 hgr2 hnil2 hown hcell hb ho
            go_wp2_with fail
            go_roundw
            case rel => exact ⟨i + 4, pa2, ca2, us2, rfl, by simp, by omega, hul3, HS2, ho2, hb2⟩
            case measure => simp [intOf]; omega
      · go_wp2_with fail
        go_loop [5, 6] (fun s5 s6 => ∃ (kz : Int) (x : Nat), s5 = .int .u64 x ∧ s6 = .int .i64 kz ∧ (i : Int) - 1 ≤ kz ∧ kz < m ∧ x < 18446744073709551616 ∧ Hid (x = val 65536 ((ds.take m).drop (kz + 1).toNat))) (fun _ s => (intOf s + 1).toNat)
        case atStart => exact ⟨(m : Int) - 1, 0, rfl, by congr 1; omega, by omega, by omega, by omega, by rw [Hid, show ((m : Int) - 1 + 1).toNat = m by omega, hlast.out]; rfl⟩
        case round =>
          obtain ⟨kz, x, rfl, rfl, h1, h2, hx, HX⟩ := hrel
          by_cases hk : (i : Int) ≤ kz
          · obtain ⟨k, rfl⟩ : ∃ k : Nat, kz = k := ⟨kz.toNat, by omega⟩
            have e1 : ((k : Int) + 1).toNat = k + 1 := by omega
            rw [e1] at HX
            have hkl : k < ds.length := by omega
            have hcc : wo.cell? ⟨b, off + k, none⟩ = some (.int .u64 (ds[k] : Nat)) := by rw [hb.cell (p := ⟨b, off + k, none⟩) hbk]; exact HCC.out k hkl
            have hdk := hd2.get k hkl
            have hx3 : x < 281474976710656 := by
              rw [HX.out]
              refine Nat.lt_of_lt_of_le (val_down_lt ds hd2 m (k + 1) i hm2 (by omega)) ?_
              exact Nat.le_trans (Nat.pow_le_pow_right (by decide) (show i + 4 - (k + 1) ≤ 3 by omega)) (by decide)
            have HV := Lib.hid (val_down ds m k hm1 (by omega))
            obtain ⟨d, hde⟩ : ∃ d, d = ds[k] := ⟨_, rfl⟩
            have hde2 : ds[k]?.getD 0 = d := by rw [hde]; simp [hkl]
            rw [hde2, ← HX.out] at HV
            rw [← hde] at hcc hdk
            clear hde hde2 e1 HX
            go_wp2_with fail
            refine ⟨⟨(k : Int) - 1, x * 65536 + d, by simp, by simp, by omega, by omega, by omega, ?_⟩, ?_⟩
            · rw [Hid, show ((k : Int) - 1 + 1).toNat = k by omega, HV.out]; omega
            · simp [intOf]
          · have hkz : kz = (i : Int) - 1 := by omega
            subst hkz
            rw [show ((i : Int) - 1 + 1).toNat = i by omega] at HX
            have HS2 := Lib.hid (show (os ++ [x]) ++ pack (ds.drop (i + 4)) = zs by rw [HX.out, List.append_assoc]; exact HS.out)
            clear HS HX HO hlast
            have hown := (ho.al (.cells #[.int .u64 (x : Int)] 36)).row
            have hcell : Hid ((wo.alloc (.cells #[.int .u64 (x : Int)] 36)).cell? ⟨wo.heap.size, 0, none⟩ = some (.int .u64 (x : Int))) := by
              have := (World.ownsRow_lit (e := 36) (base := 0) (size := 1) wo #[.int .u64 (x : Int)] 1 (Nat.zero_le _) (by decide) (by simp)).cellAt 0 (by decide)
              exact this
            go_wp2_with (at_builtin; refine wpList_append_own _ rfl _ _ 23 rfl w.heap.size 36 i0 (.int .u64 0) 1 8 Try.underlying23 hi hz0 hz1 hz2 rfl (by decide) _ os.length (os.map enc) rfl hown ⟨wo.heap.size, 0, none⟩ 1 1 [.int .u64 (x : Int)] rfl ?d1 ?d2 ?d3 ?d4 ?d5 ?d6 ?_)
            case d3 => rfl
            case d4 => unfold maxLen; omega
            case d5 => omega
            case d6 => exact Nat.le_trans hb.size (by simp)
            intro v' w2 hown2 hgr2 hnil2
            obtain ⟨pa2, ca2, rfl, ho2⟩ := own_more (d := x) rfl hown2 ho.dig hx
            have hb2 : Below w.heap.size w w2 := by
              refine (hb.alloc hb.size _).grown hgr2 (Nat.le_trans hb.size (by simp)) (fun g hg => ?_)
              rcases ho.cases with ⟨rfl, _⟩ | ⟨g', rfl, h1, _⟩
              · simp [Value.ownBlock] at hg
              · simp [Value.ownBlock] at hg; omega
            have hul3 : (os ++ [x]).length ≤ i + 4 := by simp; omega
            obtain ⟨us2, hus2⟩ : ∃ z, z = os ++ [x] := ⟨_, rfl⟩
            rw [← hus2] at HS2 hul3 ho2 ⊢
            clear hus2 hown2 hgr2 hnil2 hown hcell hb ho
            go_wp2_with fail
            go_roundw
            case rel => exact ⟨i + 4, pa2, ca2, us2, rfl, by simp, by omega, hul3, HS2, ho2, hb2⟩
            case measure => simp [intOf]; omega
    · have e : os = zs := by have := HO.out; rw [List.drop_eq_nil_of_le (by omega), pack_nil, List.append_nil] at this; exact this
      subst e
      have hf : Hid (Gives 36 w os (.returned (.slice pa os.length ca)) wr) := ⟨pa, ca, rfl, ho, hb⟩
      clear ho hb HO
      go_wp2
      go_ret
      exact hf.out
end Go.Proofs.RN
