/- Lesser strings: the iterator's contract. -/
import Derived.Test.YtbmifejeffgobaaDoorCandC
import Derived.Laws.EntriesVeiled
namespace Go.Proofs.CT
open Go.RowKit
open Go.Proofs
open Go.Proofs.BT
open Go.Proofs.RO
open Go.Shelf
open Go
set_option linter.unusedVariables false
set_option linter.unusedSimpArgs false
attribute [local go_sem] Oper.semAt_some
theorem ways_mk (w : World) : Calls Tryd.prog 25 #[] w fun e w' => e = .returned (.agg #[.func (.func 33) #[] #[], .func (.func 34) #[] #[]]) ∧ Below w.heap.size w w' := by
  go_enter Tryd.func25, Tryd.ntmps25
  go_wp2_with fail
  refine bodyPost_ret (v := .agg #[.func (.func 33) #[] #[], .func (.func 34) #[] #[]]) (by simp [results, Tryd.results25, go_sem]) rfl ⟨rfl, ?_⟩
  first
    | exact (Below.refl _ _).alloc (Nat.le_refl _) _
    | exact ((Below.refl _ _).alloc (Nat.le_refl _) _).setCell (by simp) _
    | exact (((Below.refl _ _).alloc (Nat.le_refl _) _).setCell (by simp) _).setCell (by simp) _
/-- what is to come when j ways are over -/
def wayT (u : ByteArray) : Nat → List ByteArray
  | 0 => partJ cutB u 0 ++ (partJ clearB u 0 ++ downs u 0 u.size)
  | 1 => partJ clearB u 0 ++ downs u 0 u.size
  | _ => downs u 0 u.size
theorem each_mk (u : ByteArray) (w : World) : Calls Tryd.prog 16 #[.string u] w fun e w' => e = .returned (.func (.func 24) #[] #[.pointer (some ⟨w.heap.size, 0, none⟩)]) ∧ w.alloc (.cells #[.string u] 9) = w' := by
  go_enter Tryd.func16, Tryd.ntmps16
  go_wp2_with fail
  go_ret
  exact ⟨rfl, rfl⟩
set_option maxHeartbeats 8000000 in
set_option maxRecDepth 100000 in
theorem each_seq (n bu : Nat) (u : ByteArray) (w : World) (hs : u.size ≤ 4294967296) (hB : bu < w.heap.size) (hw : wide4 w) (hc : w.cell? ⟨bu, 0, none⟩ = some (.string u)) :
    SeqO Fence.wide n Tryd.prog 24 #[.pointer (some ⟨bu, 0, none⟩)] (keepE bu) (cands u).length (fun k => #[.string ((cands u).getD k ⟨#[]⟩)]) w := fun l J Jx W hW hJ hJx hY0 h0 => by
  have hc' := (hW.cell (p := ⟨bu, 0, none⟩) hB).trans hc
  have hw' := hw.below hW
  have hu' : bu < W.heap.size := Nat.lt_of_lt_of_le hB hW.size
  have hY : Rounds bu W.heap.size l (cands u) J Jx := fun m k W1 hj hk => yield_any rfl m (hY0 k W1 hj hk)
  clear hY0 hW hw hc hB
  refine callsIn_wide.2 (callsIn_wide (n := 12).1 ?_)
  cases hb : isB u with
  | false =>
    have HI := Lib.hid (is_both u hs).1
    rw [hb] at HI
    have e0 : (cands u).length = 0 := by simp [cands, hb]
    rw [e0]
    clear hb e0 hY
    refine callsIn_of_wp Tryd.func24 rfl trivial ?_ rfl
    simp only [Tryd.ntmps24, List.size_toArray, List.length_cons, List.length_nil, Nat.reduceAdd, Nat.reduceSub, Array.replicate_succ, Array.replicate_zero, List.push_toArray, List.append_toArray, List.nil_append, List.cons_append]
    gi_wp2_with fail
    refine ⟨trivial, ?_⟩
    refine (HI.out.into _ _).mono ?_; rintro e w4 ⟨rfl, hb4⟩
    have hj4 := own_step hJ h0 hb4
    clear hb4
    gi_wp2_with fail
    refine bodyPost_ret (results_none rfl _ _ _) rfl ?_
    exact ⟨⟨_, rfl⟩, .inl hj4⟩
  | true =>
    have hs1 := isB_size hb
    have HI := Lib.hid (is_both u hs).1
    rw [hb] at HI
    have HB := Lib.hid hb
    obtain ⟨cs, hcs⟩ : ∃ cs, cands u = cs := ⟨_, rfl⟩
    have HC0 := Lib.hid (show cs.drop 0 = partJ cutB u 0 ++ (partJ clearB u 0 ++ downs u 0 u.size) by rw [← hcs, cands, if_pos hb]; rfl)
    rw [hcs] at hY ⊢
    clear hb hcs
    refine callsIn_of_wp Tryd.func24 rfl trivial ?_ rfl
    simp only [Tryd.ntmps24, List.size_toArray, List.length_cons, List.length_nil, Nat.reduceAdd, Nat.reduceSub, Array.replicate_succ, Array.replicate_zero, List.push_toArray, List.append_toArray, List.nil_append, List.cons_append]
    gi_wp2_with fail
    refine ⟨trivial, ?_⟩
    refine (HI.out.into _ _).mono ?_; rintro e w4 ⟨rfl, hb4⟩
    have k4 : Kb (keepE bu) W.heap.size W w4 := Kb.below hb4
    have hj4 := own_step hJ h0 hb4
    clear hb4 h0
    gi_wp2_with fail
    refine ⟨trivial, ?_⟩
    refine (callsIn_wide.2 (ways_mk _)).mono ?_; rintro e w5 ⟨rfl, hb5⟩
    have k5 : Kb (keepE bu) W.heap.size W w5 := k4.trans (Kb.below hb5)
    have hj5 := own_step hJ hj4 hb5
    clear hb5 k4 hj4
    gi_wp2_with fail
    have uc5 := k5.cell (fun _ _ => .inl rfl) hc'
    have wd5 := hw'.keep k5
    gi_loopw [12] (fun v wr => ∃ (j : Nat) (vI : Int) (k : Nat), v = .int .i64 vI ∧ vI = j ∧ j ≤ 2 ∧ Hid (cs.drop k = wayT u j) ∧ k ≤ cs.length ∧ J k wr ∧ wr.cell? ⟨bu, 0, none⟩ = some (.string u) ∧ wide4 wr ∧ Kb (keepE bu) W.heap.size W wr) (fun v _ => 2 - (intOf v).toNat)
    case atStart => exact ⟨0, 0, 0, rfl, rfl, by omega, HC0, by omega, hj5, uc5, wd5, k5⟩
    case round =>
      clear HC0 hj5 uc5 wd5 k5 hc' hw'
      obtain ⟨j, vI, k, rfl, hjv, hj2, HD, hk, hj, hcu, hwr, hkb⟩ := hrel
      by_cases hlt : j < 2
      · have hcase : j = 0 ∨ j = 1 := by omega
        rcases hcase with rfl | rfl
        · obtain rfl : vI = 0 := by omega
          have HI2 := Lib.hid (show ∀ V : World, (Instr.index 45 (.agg #[.func (.func 33) #[] #[], .func (.func 34) #[] #[]]) (.int .i64 0)).run Tryd.prog V = .ok (.agg #[.func (.func 33) #[] #[]]) V from fun V => by kernel_rfl)
          have b0 := (Below.refl wr.heap.size wr).alloc (Nat.le_refl _) (.cells #[.func (.func 33) #[] #[]] 44)
          have uc1 := box_later hcu b0
          have wd1 := Lib.hid (hwr.below b0)
          have j1 := own_step hJ hj b0
          have kb1 := hkb.trans (Kb.below (p := keepE bu) (B := W.heap.size) b0)
          have sz1 := kb1.size
          have HP := Lib.hid (parts_cut bu W.heap.size l cs (wayT u 1) J Jx hJ hY u hs1 HB.out k HD.out hk)
          have hux : bu < (wr.alloc (.cells #[.func (.func 33) #[] #[]] 44)).heap.size := by omega
          clear hjv HD b0
          gi_wp2_with (rw [HI2.out])
          refine ⟨trivial, ?_⟩
          refine (HP.out _ sz1 hux j1 wd1.out _).mono ?_
          rintro e w6 ⟨k6, (⟨rfl, q, hd6, hq6, hj6⟩ | ⟨rfl, q, hq6, hx6⟩)⟩
          · have HD6 := Lib.hid hd6
            have kb6 := kb1.trans k6
            have uc6 := k6.cell (fun _ _ => .inl rfl) uc1
            have wd6 := wd1.out.keep k6
            clear hd6 k6 uc1 wd1 j1 kb1 HP hj hkb hcu hwr
            gi_wp2_with fail
            go_roundw
            case rel => exact ⟨1, _, q, rfl, by omega, by omega, HD6, hq6, hj6, uc6, wd6, kb6⟩
            case measure => simp [intOf]
          · clear k6 uc1 wd1 j1 kb1 HP hj hkb hcu hwr
            gi_wp2_with fail
            refine bodyPost_ret (results_none rfl _ _ _) rfl ?_
            exact ⟨⟨_, rfl⟩, .inr ⟨q, hq6, hx6⟩⟩
        · obtain rfl : vI = 1 := by omega
          have HI2 := Lib.hid (show ∀ V : World, (Instr.index 45 (.agg #[.func (.func 33) #[] #[], .func (.func 34) #[] #[]]) (.int .i64 1)).run Tryd.prog V = .ok (.agg #[.func (.func 34) #[] #[]]) V from fun V => by kernel_rfl)
          have b0 := (Below.refl wr.heap.size wr).alloc (Nat.le_refl _) (.cells #[.func (.func 34) #[] #[]] 44)
          have uc1 := box_later hcu b0
          have wd1 := Lib.hid (hwr.below b0)
          have j1 := own_step hJ hj b0
          have kb1 := hkb.trans (Kb.below (p := keepE bu) (B := W.heap.size) b0)
          have sz1 := kb1.size
          have HP := Lib.hid (parts_clear bu W.heap.size l cs (wayT u 2) J Jx hJ hY u hs1 HB.out k HD.out hk)
          have hux : bu < (wr.alloc (.cells #[.func (.func 34) #[] #[]] 44)).heap.size := by omega
          clear hjv HD b0
          gi_wp2_with (rw [HI2.out])
          refine ⟨trivial, ?_⟩
          refine (HP.out _ sz1 hux j1 wd1.out _).mono ?_
          rintro e w6 ⟨k6, (⟨rfl, q, hd6, hq6, hj6⟩ | ⟨rfl, q, hq6, hx6⟩)⟩
          · have HD6 := Lib.hid hd6
            have kb6 := kb1.trans k6
            have uc6 := k6.cell (fun _ _ => .inl rfl) uc1
            have wd6 := wd1.out.keep k6
            clear hd6 k6 uc1 wd1 j1 kb1 HP hj hkb hcu hwr
            gi_wp2_with fail
            go_roundw
            case rel => exact ⟨2, _, q, rfl, by omega, by omega, HD6, hq6, hj6, uc6, wd6, kb6⟩
            case measure => simp [intOf]
          · clear k6 uc1 wd1 j1 kb1 HP hj hkb hcu hwr
            gi_wp2_with fail
            refine bodyPost_ret (results_none rfl _ _ _) rfl ?_
            exact ⟨⟨_, rfl⟩, .inr ⟨q, hq6, hx6⟩⟩
      · obtain rfl : j = 2 := by omega
        obtain rfl : vI = 2 := by omega
        clear hlt hjv hj2
        gi_wp2_with fail
        gi_loopw [23] (fun v wq => ∃ a c k : Nat, v = .int .i64 (a : Nat) ∧ a + c = u.size ∧ Hid (cs.drop k = downs u a c) ∧ k ≤ cs.length ∧ J k wq ∧ wq.cell? ⟨bu, 0, none⟩ = some (.string u) ∧ Kb (keepE bu) W.heap.size W wq) (fun v _ => u.size - (intOf v).toNat)
        case atStart => exact ⟨0, u.size, k, rfl, by omega, HD, hk, hj, hcu, hkb⟩
        case round =>
          clear HD hk hj hcu hkb hwr
          obtain ⟨a, c, k, rfl, hac, HD, hk, hj, hcu, hkb⟩ := hrel
          by_cases hle : a < u.size
          · obtain ⟨c, rfl⟩ : ∃ c', c = c' + 1 := ⟨c - 1, by omega⟩
            by_cases h49 : u[a] = 49
            · obtain ⟨X, hX⟩ : ∃ X, X = downB u a := ⟨_, rfl⟩
              have HC := Lib.hid (show Ret 27 #[.string u, .int .i64 (a : Int)] (.tuple #[.string X, .int .i64 0]) by rw [hX]; exact fun w => down1 u a w hs1 HB.out hle h49)
              have hD2 : cs.drop k = X :: downs u (a + 1) c := by have := HD.out; rw [downs, dif_pos hle, if_pos h49, ← hX] at this; exact this
              have HY := Lib.hid (fun W4 (hj4 : J k W4) => hY.at hD2 9 hj4)
              clear HD hX hD2 h49
              gi_wp2_with (refine ⟨trivial, ?_⟩; gi_at_call 27; refine (HC.out.into _ _).mono ?_; rintro e w4 ⟨rfl, hb4⟩; have hj4 := own_step hJ hj hb4; have hcu4 := box_later hcu hb4; have hkb4 := hkb.trans (Kb.below hb4); obtain ⟨fn, tmps, assign, body, hy, hR⟩ := HY.out w4 hj4; clear hj hcu hkb hb4 hj4)
              refine (roundIn_any (m' := _) rfl hR).mono ?_
              rintro e W5 ⟨hk5, (⟨rfl, hj5, hd5, hl5⟩ | ⟨rfl, q, hq, hx5⟩)⟩
              · have HD5 := Lib.hid hd5
                have hcu5 := hk5.cell (fun _ _ => .inl rfl) hcu4
                clear hd5 hR hy
                gi_wp2_with fail
                go_roundw
                case rel => exact ⟨a + 1, c, k + 1, by go_num, by omega, HD5, hl5, hj5, hcu5, hkb4.trans hk5⟩
                case measure => simp [intOf]; omega
              · clear hR hy
                gi_wp2_with fail
                refine bodyPost_ret (results_none rfl _ _ _) rfl ?_
                exact ⟨⟨_, rfl⟩, .inr ⟨q, hq, hx5⟩⟩
            · have HC := Lib.hid (show Ret 27 #[.string u, .int .i64 (a : Int)] (.tuple #[.string ⟨#[]⟩, .int .i64 1]) from .of fun w => down1_zero u a w hs1 HB.out hle h49)
              have HD2 := Lib.hid (show cs.drop k = downs u (a + 1) c by have := HD.out; rw [downs, dif_pos hle, if_neg h49] at this; exact this)
              clear HD h49
              gi_wp2_with (refine ⟨trivial, ?_⟩; gi_at_call 27; refine (HC.out.into _ _).mono ?_; rintro e w4 ⟨rfl, hb4⟩; have hj4 := own_step hJ hj hb4; have hcu4 := box_later hcu hb4; have hkb4 := hkb.trans (Kb.below hb4); clear hj hcu hkb hb4)
              refine ⟨fun _ h => (by cases h), ?_⟩
              gi_wp2_with fail
              go_roundw
              case rel => exact ⟨a + 1, c, k, by go_num, by omega, HD2, hk, hj4, hcu4, hkb4⟩
              case measure => simp [intOf]; omega
          · obtain rfl : c = 0 := by omega
            have e := drop_end hk (by have := HD.out; rw [downs] at this; exact this)
            gi_wp2_with fail
            go_end0
            exact ⟨⟨_, rfl⟩, .inl (e ▸ hj)⟩
end Go.Proofs.CT
