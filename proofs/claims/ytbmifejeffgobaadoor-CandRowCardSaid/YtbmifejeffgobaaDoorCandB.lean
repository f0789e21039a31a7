/- Lesser strings: the parts of a way. -/
import Derived.Test.YtbmifejeffgobaaDoorCandA
namespace Go.Proofs.CT
open Go.RowKit
open Go.Proofs
open Go.Proofs.BT
open Go.Proofs.RO
open Go.Shelf
open Go
set_option linter.unusedVariables false
set_option linter.unusedSimpArgs false
attribute [local go_sem] Oper.semAt_some
/-- what a round must keep: the box of u, the widths, and each way's box that was laid since the call began -/
def keepE (bu : Nat) (B k : Nat) (o : Obj) : Prop := k = bu ∨ k = 0 ∨ (B ≤ k ∧ ∃ cs fr, o = .cells cs 44 fr)
/-- the widths lie -/
def wide4 (W : World) : Prop := W.cell? ⟨0, 0, none⟩ = some (.int .i64 8) ∧ W.cell? ⟨0, 1, none⟩ = some (.int .i64 4) ∧ W.cell? ⟨0, 2, none⟩ = some (.int .i64 2) ∧ W.cell? ⟨0, 3, none⟩ = some (.int .i64 1)
theorem wide4.keep {bu B : Nat} {W W' : World} (h : wide4 W) (k : Kb (keepE bu) B W W') : wide4 W' :=
  ⟨k.cell (fun _ _ => .inr (.inl rfl)) h.1, k.cell (fun _ _ => .inr (.inl rfl)) h.2.1, k.cell (fun _ _ => .inr (.inl rfl)) h.2.2.1, k.cell (fun _ _ => .inr (.inl rfl)) h.2.2.2⟩
theorem wide4.below {W W' : World} (h : wide4 W) (k : Below W.heap.size W W') : wide4 W' := h.keep (bu := 0) (B := 0) (Kb.below k)
/-- the rounds of the loop over the strings that are told -/
def Rounds (bu B l : Nat) (cs : List ByteArray) (J Jx : Nat → World → Prop) : Prop :=
  ∀ m k W1, J k W1 → k < cs.length → YieldAt Fence.wide m Tryd.prog l #[.string (cs.getD k ⟨#[]⟩)] W1 fun e W' => Kb (keepE bu) B W1 W' ∧
      ((e = .returned (.bool true) ∧ J (k + 1) W') ∨ (e = .returned (.bool false) ∧ Jx (k + 1) W'))
theorem Rounds.at {bu B l : Nat} {cs : List ByteArray} {J Jx : Nat → World → Prop} (h : Rounds bu B l cs J Jx) {k : Nat} {x : ByteArray} {r : List ByteArray} (hd : cs.drop k = x :: r) (m : Nat) {W1 : World} (hj : J k W1) :
    YieldAt Fence.wide m Tryd.prog l #[.string x] W1 fun e W' => Kb (keepE bu) B W1 W' ∧ ((e = .returned (.bool true) ∧ J (k + 1) W' ∧ cs.drop (k + 1) = r ∧ k + 1 ≤ cs.length) ∨ (e = .returned (.bool false) ∧ ∃ q, q ≤ cs.length ∧ Jx q W')) := by
  obtain ⟨h1, h2, h3⟩ := drop_at hd
  have := h m k W1 hj h1
  rw [h2] at this
  exact this.mono (fun e W' ⟨a, b⟩ => ⟨a, b.elim (fun ⟨x1, x2⟩ => .inl ⟨x1, x2, h3, h1⟩) (fun ⟨x1, x2⟩ => .inr ⟨x1, k + 1, h1, x2⟩)⟩)
theorem box_later {W W' : World} {b : Nat} {v : Value} (hc : W.cell? ⟨b, 0, none⟩ = some v) (h : Below W.heap.size W W') : W'.cell? ⟨b, 0, none⟩ = some v := cell_kept hc (grown_of_below h) (fun r e => by cases e)
/-- how the parts of a way come to their end -/
def partPost (bu B : Nat) (cs tail : List ByteArray) (J Jx : Nat → World → Prop) (W : World) (e : Ending) (W' : World) : Prop :=
  Kb (keepE bu) B W W' ∧ ((e = .returned (.bool true) ∧ ∃ k, cs.drop k = tail ∧ k ≤ cs.length ∧ J k W') ∨ (e = .returned (.bool false) ∧ ∃ k, k ≤ cs.length ∧ Jx k W'))
/-- a call inside the wide fence -/
theorem _root_.Go.Proofs.BT.Ret.into {f : Nat} {args : Array Value} {v : Value} (h : Ret f args v) (n : Nat) (w : World) : CallsIn Fence.wide n Tryd.prog f args w (fun e w' => e = .returned v ∧ Below w.heap.size w w') := callsIn_wide.2 (h w)
theorem way_boxed {W W' : World} {B bu g : Nat} {v : Value} (hb : Boxed W g 44 v) (hg : B ≤ g) (k : Kb (keepE bu) B W W') : Boxed W' g 44 v :=
  k.same _ _ hb (.inr (.inr ⟨hg, _, _, rfl⟩))
theorem way_later {W W' : World} {g : Nat} {v : Value} {t : TypeId} (hb : Boxed W g t v) (k : Below W.heap.size W W') : Boxed W' g t v := hb.kept (grown_of_below k) (by simp)
set_option maxHeartbeats 8000000 in
set_option maxRecDepth 100000 in
theorem parts_cut (bu B l : Nat) (cs tail : List ByteArray) (J Jx : Nat → World → Prop) (hJ : OwnFrom B J) (hY : Rounds bu B l cs J Jx) (u : ByteArray) (hs : u.size ≤ 1024) (hb : isB u = true) (k0 : Nat) (hcs : cs.drop k0 = partJ cutB u 0 ++ tail) (hk0 : k0 ≤ cs.length) (W : World) (hB : B ≤ W.heap.size) (hu : bu < W.heap.size) (hj0 : J k0 W) (hw : wide4 W) (n : Nat) :
    CallsIn Fence.wide n Tryd.prog 26 #[.agg #[.func (.func 33) #[] #[]], .string u, .func (.yield l) #[] #[]] W (partPost bu B cs tail J Jx W) := by
  refine callsIn_wide.2 (callsIn_wide (n := 12).1 ?_)
  obtain ⟨h0, h1, h2, h3⟩ := hw.below ((Below.refl _ W).alloc (Nat.le_refl _) (.cells #[.func (.func 33) #[] #[]] 44))
  have HCS := Lib.hid hcs
  have bx := Boxed.new W 44 (.func (.func 33) #[] #[])
  have kb0 : Kb (keepE bu) B W (W.alloc (.cells #[.func (.func 33) #[] #[]] 44)) := Kb.below ((Below.refl _ W).alloc (Nat.le_refl _) _)
  have j0 : J k0 (W.alloc (.cells #[.func (.func 33) #[] #[]] 44)) := hJ.alloc _ hj0
  have wc := bx.cell
  clear hcs
  refine callsIn_of_wp Tryd.func26 rfl trivial ?_ rfl
  simp only [Tryd.ntmps26, List.size_toArray, List.length_cons, List.length_nil, Nat.reduceAdd, Nat.reduceSub, Array.replicate_succ, Array.replicate_zero, List.push_toArray, List.append_toArray, List.nil_append, List.cons_append]
  gi_wp2_with fail
  obtain ⟨gx, hgx0⟩ : ∃ gx, W.heap.size = gx := ⟨_, rfl⟩
  rw [hgx0] at bx wc ⊢
  have hgx : B ≤ gx := by omega
  generalize (W.alloc (.cells #[.func (.func 33) #[] #[]] 44)) = V at *
  clear h0 h1 h2 h3 hgx0 hw
  gi_loopw [13] (fun v wr => ∃ (j : Nat) (vI : Int) (k : Nat), v = .int .i64 vI ∧ vI = j ∧ j ≤ 4 ∧ Hid (cs.drop k = partJ cutB u j ++ tail) ∧ k ≤ cs.length ∧ J k wr ∧ Boxed wr gx 44 (.func (.func 33) #[] #[]) ∧ Kb (keepE bu) B W wr) (fun v _ => 4 - (intOf v).toNat)
  case atStart => exact ⟨0, 0, k0, rfl, rfl, by omega, HCS, hk0, j0, bx, kb0⟩
  case round =>
    obtain ⟨j, vI, k, rfl, hjv, hj4, HD, hk, hj, hbx, hkb⟩ := hrel
    have hwc := hbx.cell
    clear HCS hk0 j0 bx kb0 wc
    by_cases hlt : j < 4
    · have hcase : j = 0 ∨ j = 1 ∨ j = 2 ∨ j = 3 := by omega
      rcases hcase with rfl | rfl | rfl | rfl
      -- parts of 8 bits
      · obtain rfl : vI = 0 := by omega
        have hD := Lib.hid (show cs.drop k = rem cutB u 8 0 (u.size + 1 - 8) ++ (partJ cutB u 1 ++ tail) by rw [HD.out, partJ_next _ _ _ (by omega), List.append_assoc]; rfl)
        have HI := Lib.hid (show (Instr.index 52 (.agg #[.int .i64 8, .int .i64 4, .int .i64 2, .int .i64 1]) (.int .i64 0)).run Tryd.prog wr = .ok (.int .i64 8) wr by kernel_rfl)
        clear HD hjv
        gi_wp2_with (rw [HI.out])
        clear HI
        gi_loopw [9] (fun v wq => ∃ a c k, v = .int .i64 (a : Nat) ∧ a + c = u.size + 1 - 8 ∧ Hid (cs.drop k = rem cutB u 8 a c ++ (partJ cutB u 1 ++ tail)) ∧ k ≤ cs.length ∧ J k wq ∧ Boxed wq gx 44 (.func (.func 33) #[] #[]) ∧ Kb (keepE bu) B W wq) (fun v _ => u.size + 1 - (intOf v).toNat)
        case atStart => exact ⟨0, u.size + 1 - 8, k, rfl, by omega, hD, hk, hj, hbx, hkb⟩
        case round =>
          clear hD hk hj hbx hkb hwc
          obtain ⟨a, c, k, rfl, hac, HD, hk, hj, hbx, hkb⟩ := hrel
          have hwc := hbx.cell
          by_cases hle : (a : Int) ≤ (u.size : Int) - 8
          · obtain ⟨c, rfl⟩ : ∃ c', c = c' + 1 := ⟨c - 1, by omega⟩
            obtain ⟨X, hX⟩ : ∃ X, X = cutB u a 8 := ⟨_, rfl⟩
            have HC := Lib.hid (show Ret 33 #[.string u, .int .i64 (a : Int), .int .i64 8] (.tuple #[.string X, .int .i64 0]) by rw [hX]; exact .drew fun w => cut1 u a 8 w (by omega) hb (by omega) (by omega))
            by_cases hx : X = u
            · have HD2 := Lib.hid (show cs.drop k = rem cutB u 8 (a + 1) c ++ (partJ cutB u 1 ++ tail) by have := HD.out; rw [rem, ← hX, if_pos hx] at this; exact this)
              have t1 := seq_yes hx
              clear HD hX hx
              gi_wp2_with (refine ⟨trivial, ?_⟩; gi_at_call 33; refine (HC.out.into _ _).mono ?_; rintro e w4 ⟨rfl, hb4⟩; have hj4 := own_step hJ hj hb4; have hbx4 := way_later hbx hb4; have hkb4 := hkb.trans (Kb.below hb4); clear hj hbx hkb hwc hb4)
              go_roundw
              case rel => exact ⟨a + 1, c, k, by go_num, by omega, HD2, hk, hj4, hbx4, hkb4⟩
              case measure => simp [intOf]; omega
            · have hD2 : cs.drop k = X :: (rem cutB u 8 (a + 1) c ++ (partJ cutB u 1 ++ tail)) := by have := HD.out; rw [rem, ← hX, if_neg hx] at this; exact this
              have HY := Lib.hid (fun W4 (hj4 : J k W4) => hY.at hD2 9 hj4)
              have t1 := seq_no hx
              clear HD hX hx hD2
              gi_wp2_with (refine ⟨trivial, ?_⟩; gi_at_call 33; refine (HC.out.into _ _).mono ?_; rintro e w4 ⟨rfl, hb4⟩; have hj4 := own_step hJ hj hb4; have hbx4 := way_later hbx hb4; have hkb4 := hkb.trans (Kb.below hb4); obtain ⟨fn, tmps, assign, body, hy, hR⟩ := HY.out w4 hj4; clear hj hbx hkb hwc hb4 hj4)
              refine (roundIn_any (m' := _) rfl hR).mono ?_
              rintro e W5 ⟨hk5, (⟨rfl, hj5, hd5, hl5⟩ | ⟨rfl, q, hq, hx5⟩)⟩
              · have HD5 := Lib.hid hd5
                clear hd5 hR hy
                have hbx5 := way_boxed hbx4 hgx hk5
                gi_wp2_with fail
                go_roundw
                case rel => exact ⟨a + 1, c, k + 1, by go_num, by omega, HD5, hl5, hj5, hbx5, hkb4.trans hk5⟩
                case measure => simp [intOf]; omega
              · clear hR hy
                gi_wp2_with fail
                go_ret
                exact ⟨hkb4.trans hk5, .inr ⟨rfl, q, hq, hx5⟩⟩
          · obtain rfl : c = 0 := by omega
            gi_wp2_with fail
            go_roundw
            case rel => exact ⟨1, _, k, rfl, by omega, by omega, Lib.hid (by have := HD.out; rw [rem, List.nil_append] at this; exact this), hk, hj, hbx, hkb⟩
            case measure => simp [intOf]
      -- parts of 4 bits
      · obtain rfl : vI = 1 := by omega
        have hD := Lib.hid (show cs.drop k = rem cutB u 4 0 (u.size + 1 - 4) ++ (partJ cutB u 2 ++ tail) by rw [HD.out, partJ_next _ _ _ (by omega), List.append_assoc]; rfl)
        have HI := Lib.hid (show (Instr.index 52 (.agg #[.int .i64 8, .int .i64 4, .int .i64 2, .int .i64 1]) (.int .i64 1)).run Tryd.prog wr = .ok (.int .i64 4) wr by kernel_rfl)
        clear HD hjv
        gi_wp2_with (rw [HI.out])
        clear HI
        gi_loopw [9] (fun v wq => ∃ a c k, v = .int .i64 (a : Nat) ∧ a + c = u.size + 1 - 4 ∧ Hid (cs.drop k = rem cutB u 4 a c ++ (partJ cutB u 2 ++ tail)) ∧ k ≤ cs.length ∧ J k wq ∧ Boxed wq gx 44 (.func (.func 33) #[] #[]) ∧ Kb (keepE bu) B W wq) (fun v _ => u.size + 1 - (intOf v).toNat)
        case atStart => exact ⟨0, u.size + 1 - 4, k, rfl, by omega, hD, hk, hj, hbx, hkb⟩
        case round =>
          clear hD hk hj hbx hkb hwc
          obtain ⟨a, c, k, rfl, hac, HD, hk, hj, hbx, hkb⟩ := hrel
          have hwc := hbx.cell
          by_cases hle : (a : Int) ≤ (u.size : Int) - 4
          · obtain ⟨c, rfl⟩ : ∃ c', c = c' + 1 := ⟨c - 1, by omega⟩
            obtain ⟨X, hX⟩ : ∃ X, X = cutB u a 4 := ⟨_, rfl⟩
            have HC := Lib.hid (show Ret 33 #[.string u, .int .i64 (a : Int), .int .i64 4] (.tuple #[.string X, .int .i64 0]) by rw [hX]; exact .drew fun w => cut1 u a 4 w (by omega) hb (by omega) (by omega))
            by_cases hx : X = u
            · have HD2 := Lib.hid (show cs.drop k = rem cutB u 4 (a + 1) c ++ (partJ cutB u 2 ++ tail) by have := HD.out; rw [rem, ← hX, if_pos hx] at this; exact this)
              have t1 := seq_yes hx
              clear HD hX hx
              gi_wp2_with (refine ⟨trivial, ?_⟩; gi_at_call 33; refine (HC.out.into _ _).mono ?_; rintro e w4 ⟨rfl, hb4⟩; have hj4 := own_step hJ hj hb4; have hbx4 := way_later hbx hb4; have hkb4 := hkb.trans (Kb.below hb4); clear hj hbx hkb hwc hb4)
              go_roundw
              case rel => exact ⟨a + 1, c, k, by go_num, by omega, HD2, hk, hj4, hbx4, hkb4⟩
              case measure => simp [intOf]; omega
            · have hD2 : cs.drop k = X :: (rem cutB u 4 (a + 1) c ++ (partJ cutB u 2 ++ tail)) := by have := HD.out; rw [rem, ← hX, if_neg hx] at this; exact this
              have HY := Lib.hid (fun W4 (hj4 : J k W4) => hY.at hD2 9 hj4)
              have t1 := seq_no hx
              clear HD hX hx hD2
              gi_wp2_with (refine ⟨trivial, ?_⟩; gi_at_call 33; refine (HC.out.into _ _).mono ?_; rintro e w4 ⟨rfl, hb4⟩; have hj4 := own_step hJ hj hb4; have hbx4 := way_later hbx hb4; have hkb4 := hkb.trans (Kb.below hb4); obtain ⟨fn, tmps, assign, body, hy, hR⟩ := HY.out w4 hj4; clear hj hbx hkb hwc hb4 hj4)
              refine (roundIn_any (m' := _) rfl hR).mono ?_
              rintro e W5 ⟨hk5, (⟨rfl, hj5, hd5, hl5⟩ | ⟨rfl, q, hq, hx5⟩)⟩
              · have HD5 := Lib.hid hd5
                clear hd5 hR hy
                have hbx5 := way_boxed hbx4 hgx hk5
                gi_wp2_with fail
                go_roundw
                case rel => exact ⟨a + 1, c, k + 1, by go_num, by omega, HD5, hl5, hj5, hbx5, hkb4.trans hk5⟩
                case measure => simp [intOf]; omega
              · clear hR hy
                gi_wp2_with fail
                go_ret
                exact ⟨hkb4.trans hk5, .inr ⟨rfl, q, hq, hx5⟩⟩
          · obtain rfl : c = 0 := by omega
            gi_wp2_with fail
            go_roundw
            case rel => exact ⟨2, _, k, rfl, by omega, by omega, Lib.hid (by have := HD.out; rw [rem, List.nil_append] at this; exact this), hk, hj, hbx, hkb⟩
            case measure => simp [intOf]
      -- parts of 2 bits
      · obtain rfl : vI = 2 := by omega
        have hD := Lib.hid (show cs.drop k = rem cutB u 2 0 (u.size + 1 - 2) ++ (partJ cutB u 3 ++ tail) by rw [HD.out, partJ_next _ _ _ (by omega), List.append_assoc]; rfl)
        have HI := Lib.hid (show (Instr.index 52 (.agg #[.int .i64 8, .int .i64 4, .int .i64 2, .int .i64 1]) (.int .i64 2)).run Tryd.prog wr = .ok (.int .i64 2) wr by kernel_rfl)
        clear HD hjv
        gi_wp2_with (rw [HI.out])
        clear HI
        gi_loopw [9] (fun v wq => ∃ a c k, v = .int .i64 (a : Nat) ∧ a + c = u.size + 1 - 2 ∧ Hid (cs.drop k = rem cutB u 2 a c ++ (partJ cutB u 3 ++ tail)) ∧ k ≤ cs.length ∧ J k wq ∧ Boxed wq gx 44 (.func (.func 33) #[] #[]) ∧ Kb (keepE bu) B W wq) (fun v _ => u.size + 1 - (intOf v).toNat)
        case atStart => exact ⟨0, u.size + 1 - 2, k, rfl, by omega, hD, hk, hj, hbx, hkb⟩
        case round =>
          clear hD hk hj hbx hkb hwc
          obtain ⟨a, c, k, rfl, hac, HD, hk, hj, hbx, hkb⟩ := hrel
          have hwc := hbx.cell
          by_cases hle : (a : Int) ≤ (u.size : Int) - 2
          · obtain ⟨c, rfl⟩ : ∃ c', c = c' + 1 := ⟨c - 1, by omega⟩
            obtain ⟨X, hX⟩ : ∃ X, X = cutB u a 2 := ⟨_, rfl⟩
            have HC := Lib.hid (show Ret 33 #[.string u, .int .i64 (a : Int), .int .i64 2] (.tuple #[.string X, .int .i64 0]) by rw [hX]; exact .drew fun w => cut1 u a 2 w (by omega) hb (by omega) (by omega))
            by_cases hx : X = u
            · have HD2 := Lib.hid (show cs.drop k = rem cutB u 2 (a + 1) c ++ (partJ cutB u 3 ++ tail) by have := HD.out; rw [rem, ← hX, if_pos hx] at this; exact this)
              have t1 := seq_yes hx
              clear HD hX hx
              gi_wp2_with (refine ⟨trivial, ?_⟩; gi_at_call 33; refine (HC.out.into _ _).mono ?_; rintro e w4 ⟨rfl, hb4⟩; have hj4 := own_step hJ hj hb4; have hbx4 := way_later hbx hb4; have hkb4 := hkb.trans (Kb.below hb4); clear hj hbx hkb hwc hb4)
              go_roundw
              case rel => exact ⟨a + 1, c, k, by go_num, by omega, HD2, hk, hj4, hbx4, hkb4⟩
              case measure => simp [intOf]; omega
            · have hD2 : cs.drop k = X :: (rem cutB u 2 (a + 1) c ++ (partJ cutB u 3 ++ tail)) := by have := HD.out; rw [rem, ← hX, if_neg hx] at this; exact this
              have HY := Lib.hid (fun W4 (hj4 : J k W4) => hY.at hD2 9 hj4)
              have t1 := seq_no hx
              clear HD hX hx hD2
              gi_wp2_with (refine ⟨trivial, ?_⟩; gi_at_call 33; refine (HC.out.into _ _).mono ?_; rintro e w4 ⟨rfl, hb4⟩; have hj4 := own_step hJ hj hb4; have hbx4 := way_later hbx hb4; have hkb4 := hkb.trans (Kb.below hb4); obtain ⟨fn, tmps, assign, body, hy, hR⟩ := HY.out w4 hj4; clear hj hbx hkb hwc hb4 hj4)
              refine (roundIn_any (m' := _) rfl hR).mono ?_
              rintro e W5 ⟨hk5, (⟨rfl, hj5, hd5, hl5⟩ | ⟨rfl, q, hq, hx5⟩)⟩
              · have HD5 := Lib.hid hd5
                clear hd5 hR hy
                have hbx5 := way_boxed hbx4 hgx hk5
                gi_wp2_with fail
                go_roundw
                case rel => exact ⟨a + 1, c, k + 1, by go_num, by omega, HD5, hl5, hj5, hbx5, hkb4.trans hk5⟩
                case measure => simp [intOf]; omega
              · clear hR hy
                gi_wp2_with fail
                go_ret
                exact ⟨hkb4.trans hk5, .inr ⟨rfl, q, hq, hx5⟩⟩
          · obtain rfl : c = 0 := by omega
            gi_wp2_with fail
            go_roundw
            case rel => exact ⟨3, _, k, rfl, by omega, by omega, Lib.hid (by have := HD.out; rw [rem, List.nil_append] at this; exact this), hk, hj, hbx, hkb⟩
            case measure => simp [intOf]
      -- parts of 1 bits
      · obtain rfl : vI = 3 := by omega
        have hD := Lib.hid (show cs.drop k = rem cutB u 1 0 (u.size + 1 - 1) ++ (partJ cutB u 4 ++ tail) by rw [HD.out, partJ_next _ _ _ (by omega), List.append_assoc]; rfl)
        have HI := Lib.hid (show (Instr.index 52 (.agg #[.int .i64 8, .int .i64 4, .int .i64 2, .int .i64 1]) (.int .i64 3)).run Tryd.prog wr = .ok (.int .i64 1) wr by kernel_rfl)
        clear HD hjv
        gi_wp2_with (rw [HI.out])
        clear HI
        gi_loopw [9] (fun v wq => ∃ a c k, v = .int .i64 (a : Nat) ∧ a + c = u.size + 1 - 1 ∧ Hid (cs.drop k = rem cutB u 1 a c ++ (partJ cutB u 4 ++ tail)) ∧ k ≤ cs.length ∧ J k wq ∧ Boxed wq gx 44 (.func (.func 33) #[] #[]) ∧ Kb (keepE bu) B W wq) (fun v _ => u.size + 1 - (intOf v).toNat)
        case atStart => exact ⟨0, u.size + 1 - 1, k, rfl, by omega, hD, hk, hj, hbx, hkb⟩
        case round =>
          clear hD hk hj hbx hkb hwc
          obtain ⟨a, c, k, rfl, hac, HD, hk, hj, hbx, hkb⟩ := hrel
          have hwc := hbx.cell
          by_cases hle : (a : Int) ≤ (u.size : Int) - 1
          · obtain ⟨c, rfl⟩ : ∃ c', c = c' + 1 := ⟨c - 1, by omega⟩
            obtain ⟨X, hX⟩ : ∃ X, X = cutB u a 1 := ⟨_, rfl⟩
            have HC := Lib.hid (show Ret 33 #[.string u, .int .i64 (a : Int), .int .i64 1] (.tuple #[.string X, .int .i64 0]) by rw [hX]; exact .drew fun w => cut1 u a 1 w (by omega) hb (by omega) (by omega))
            by_cases hx : X = u
            · have HD2 := Lib.hid (show cs.drop k = rem cutB u 1 (a + 1) c ++ (partJ cutB u 4 ++ tail) by have := HD.out; rw [rem, ← hX, if_pos hx] at this; exact this)
              have t1 := seq_yes hx
              clear HD hX hx
              gi_wp2_with (refine ⟨trivial, ?_⟩; gi_at_call 33; refine (HC.out.into _ _).mono ?_; rintro e w4 ⟨rfl, hb4⟩; have hj4 := own_step hJ hj hb4; have hbx4 := way_later hbx hb4; have hkb4 := hkb.trans (Kb.below hb4); clear hj hbx hkb hwc hb4)
              go_roundw
              case rel => exact ⟨a + 1, c, k, by go_num, by omega, HD2, hk, hj4, hbx4, hkb4⟩
              case measure => simp [intOf]; omega
            · have hD2 : cs.drop k = X :: (rem cutB u 1 (a + 1) c ++ (partJ cutB u 4 ++ tail)) := by have := HD.out; rw [rem, ← hX, if_neg hx] at this; exact this
              have HY := Lib.hid (fun W4 (hj4 : J k W4) => hY.at hD2 9 hj4)
              have t1 := seq_no hx
              clear HD hX hx hD2
              gi_wp2_with (refine ⟨trivial, ?_⟩; gi_at_call 33; refine (HC.out.into _ _).mono ?_; rintro e w4 ⟨rfl, hb4⟩; have hj4 := own_step hJ hj hb4; have hbx4 := way_later hbx hb4; have hkb4 := hkb.trans (Kb.below hb4); obtain ⟨fn, tmps, assign, body, hy, hR⟩ := HY.out w4 hj4; clear hj hbx hkb hwc hb4 hj4)
              refine (roundIn_any (m' := _) rfl hR).mono ?_
              rintro e W5 ⟨hk5, (⟨rfl, hj5, hd5, hl5⟩ | ⟨rfl, q, hq, hx5⟩)⟩
              · have HD5 := Lib.hid hd5
                clear hd5 hR hy
                have hbx5 := way_boxed hbx4 hgx hk5
                gi_wp2_with fail
                go_roundw
                case rel => exact ⟨a + 1, c, k + 1, by go_num, by omega, HD5, hl5, hj5, hbx5, hkb4.trans hk5⟩
                case measure => simp [intOf]; omega
              · clear hR hy
                gi_wp2_with fail
                go_ret
                exact ⟨hkb4.trans hk5, .inr ⟨rfl, q, hq, hx5⟩⟩
          · obtain rfl : c = 0 := by omega
            gi_wp2_with fail
            go_roundw
            case rel => exact ⟨4, _, k, rfl, by omega, by omega, Lib.hid (by have := HD.out; rw [rem, List.nil_append] at this; exact this), hk, hj, hbx, hkb⟩
            case measure => simp [intOf]
    · obtain rfl : j = 4 := by omega
      obtain rfl : vI = 4 := by omega
      clear hlt hjv hj4
      gi_wp2_with fail
      go_ret
      exact ⟨hkb, .inl ⟨rfl, k, by have := HD.out; simpa [partJ] using this, hk, hj⟩⟩
end Go.Proofs.CT
