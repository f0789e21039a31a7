/- Alias tables: nil, and what nobody made. -/
import Derived.Test.YticickjnlkbkoaaGreatAliA
import Derived.Test.YticickjnlkbkoaaGreatBelE
import Derived.Test.YticickjnlkbkoaaGreatRatE
namespace Go.Proofs.AL
open Go.RowKit
open Go.Proofs
open Go.Proofs.NP
open Go.Proofs.SL
open Go.Proofs.RA
open Go.Proofs.BL
open Go
set_option linter.unusedVariables false
set_option linter.unusedSimpArgs false
set_option maxRecDepth 20000
variable {w : World} {t : Option Addr}
/-- nil, or a table of zeros -/
def Tz (W : World) (t : Option Addr) : Prop := t = none ∨ ∃ g, t = some ⟨g, 0, none⟩ ∧ Bk W g #[.int .i64 0, .slice none 0 0, .slice none 0 0] 38
theorem Tz.nx {W W' : World} {t : Option Addr} (h : Tz W t) (hk : Kp W W') : Tz W' t := by
  rcases h with h | ⟨g, h, hb⟩
  · exact .inl h
  · exact .inr ⟨g, h, hb.nx hk⟩
theorem atz (i : Int) (h : Tz w t) : Calls Tryz.prog 23 #[.pointer t, .int .i64 i] w fun e w' => e = .returned (.int .i64 2) ∧ w = w' := by
  rcases h with rfl | ⟨g, rfl, hb⟩
  · go_enter Tryz.func23, Tryz.ntmps23
    go_wp2_with fail
    go_ret
    exact ⟨rfl, rfl⟩
  · have c0 := hb.c 0
    have c1 := hb.c 1
    clear hb
    go_enter Tryz.func23, Tryz.ntmps23
    go_wp2_with fail
    go_ret
    exact ⟨rfl, rfl⟩
theorem lenz (h : Tz w t) : Calls Tryz.prog 12 #[.pointer t] w fun e w' => e = .returned (.int .i64 0) ∧ w = w' := by
  rcases h with rfl | ⟨g, rfl, hb⟩
  · go_enter Tryz.func12, Tryz.ntmps12
    go_wp2_with fail
    go_ret
    exact ⟨rfl, rfl⟩
  · have c0 := hb.c 0
    have c1 := hb.c 1
    clear hb
    go_enter Tryz.func12, Tryz.ntmps12
    go_wp2_with fail
    go_ret
    exact ⟨rfl, rfl⟩
theorem sumz (h : Tz w t) : Calls Tryz.prog 13 #[.pointer t] w fun e w' => e = .returned (.int .i64 0) ∧ w = w' := by
  rcases h with rfl | ⟨g, rfl, hb⟩
  · go_enter Tryz.func13, Tryz.ntmps13
    go_wp2_with fail
    go_ret
    exact ⟨rfl, rfl⟩
  · have c0 := hb.c 0
    have c1 := hb.c 1
    clear hb
    go_enter Tryz.func13, Tryz.ntmps13
    go_wp2_with fail
    go_ret
    exact ⟨rfl, rfl⟩
theorem cutz (i : Int) (h : Tz w t) : Calls Tryz.prog 6 #[.pointer t, .int .i64 i] w fun e w' => e = .returned (.tuple #[.int .i64 0, .int .i64 2]) ∧ w = w' := by
  have HA := Lib.hid (atz i h)
  clear h
  go_enter Tryz.func6, Tryz.ntmps6
  go_wp2_with fail
  refine HA.out.mono ?_; rintro e w' ⟨rfl, rfl⟩
  clear HA
  go_wp2_with fail
  go_ret2
  exact ⟨rfl, rfl⟩
theorem otherz (i : Int) (h : Tz w t) : Calls Tryz.prog 7 #[.pointer t, .int .i64 i] w fun e w' => e = .returned (.tuple #[.int .i64 0, .int .i64 2]) ∧ w = w' := by
  have HA := Lib.hid (atz i h)
  clear h
  go_enter Tryz.func7, Tryz.ntmps7
  go_wp2_with fail
  refine HA.out.mono ?_; rintro e w' ⟨rfl, rfl⟩
  clear HA
  go_wp2_with fail
  go_ret2
  exact ⟨rfl, rfl⟩
theorem pickz (i r : Int) (h : Tz w t) : Calls Tryz.prog 9 #[.pointer t, .int .i64 i, .int .i64 r] w fun e w' => e = .returned (.tuple #[.int .i64 0, .int .i64 2]) ∧ w = w' := by
  have HA := Lib.hid (atz i h)
  clear h
  go_enter Tryz.func9, Tryz.ntmps9
  go_wp2_with fail
  refine HA.out.mono ?_; rintro e w' ⟨rfl, rfl⟩
  clear HA
  go_wp2_with fail
  go_ret2
  exact ⟨rfl, rfl⟩
theorem drawz (c : Option Addr) (h : Tz w t) : Calls Tryz.prog 11 #[.pointer t, .pointer c] w fun e w' => e = .returned (.tuple #[.int .i64 0, .bool false]) ∧ w = w' := by
  have HA := Lib.hid (atz 0 h)
  clear h
  go_enter Tryz.func11, Tryz.ntmps11
  go_wp2_with fail
  refine HA.out.mono ?_; rintro e w' ⟨rfl, rfl⟩
  clear HA
  go_wp2_with fail
  go_ret2
  exact ⟨rfl, rfl⟩
theorem sharez (i : Int) (h : Tz w t) : Calls Tryz.prog 10 #[.pointer t, .int .i64 i] w (NoRat 2 w) := by
  have R0 := Lib.hid (Rs.new w #[.bool false, .slice none 0 0, .slice none 0 0] 49)
  have HA := Lib.hid (atz i (h.nx ((Kp.refl w).al (.cells #[.bool false, .slice none 0 0, .slice none 0 0] 49))))
  clear h
  go_enter Tryz.func10, Tryz.ntmps10
  go_wp2_with fail
  refine HA.out.mono ?_; rintro e w' ⟨rfl, rfl⟩
  have f0 := R0.out.rb.f 0
  have f1 := R0.out.rb.f 1
  have f2 := R0.out.rb.f 2
  have r0 := R0.out.rb.c 0
  have r1 := R0.out.rb.c 1
  have r2 := R0.out.rb.c 2
  clear HA
  go_wp2_with fail
  have RB := R0.out.rb
  have z0 := RB.c 0
  have z1 := RB.c 1
  have z2 := RB.c 2
  refine bodyPost_ret (v := .tuple #[.agg #[.bool false, .slice none 0 0, .slice none 0 0], .int .i64 2]) (by simp [results, Tryz.results10, go_sem, z0, z1, z2]) rfl ?_
  exact ⟨rfl, R0.out.kw⟩
theorem costz {zs : List Nat} (hz : zs = L 0) (h : Tz w t) : Calls Tryz.prog 18 #[.pointer t] w (GivesR1 w zs [1]) := by
  have R0 := Lib.hid (Rs.new w #[.bool false, .slice none 0 0, .slice none 0 0] 49)
  have HA := Lib.hid (atz 0 (h.nx ((Kp.refl w).al (.cells #[.bool false, .slice none 0 0, .slice none 0 0] 49))))
  have HO := Lib.hid (fun W => show Calls Tryz.prog 21 #[.int .i64 0] W (GivesR1 W zs [1]) from rof 0 W (by decide) hz)
  clear h hz
  go_enter Tryz.func18, Tryz.ntmps18
  go_wp2_with fail
  generalize (w.alloc (.cells #[.bool false, .slice none 0 0, .slice none 0 0] 49)) = W0 at *
  refine HA.out.mono ?_; rintro e w' ⟨rfl, rfl⟩
  clear HA
  go_wp2_with fail
  refine (HO.out _).mono ?_; rintro e W1 ⟨p5, d5, p6, d6, rfl, ho5, ho6, hb⟩
  have H4 := Lib.hid (R0.out.nx hb)
  have HO5 := Lib.hid (ho5.mono R0.out.sz)
  have HO6 := Lib.hid (ho6.mono R0.out.sz)
  clear HO R0 ho5 ho6 hb
  have f0 := H4.out.rb.f 0
  have f1 := H4.out.rb.f 1
  have f2 := H4.out.rb.f 2
  have r0 := H4.out.rb.c 0
  have r1 := H4.out.rb.c 1
  have r2 := H4.out.rb.c 2
  go_wp2_with fail
  have RB := H4.out.rb.put3 (.bool false) (.slice p5 zs.length d5) (.slice p6 1 d6)
  unfold RA.put3 at RB
  have z0 := RB.c 0
  have z1 := RB.c 1
  have z2 := RB.c 2
  refine bodyPost_ret (v := .agg #[.bool false, .slice p5 zs.length d5, .slice p6 1 d6]) (by simp [results, Tryz.results18, go_sem, z0, z1, z2]) rfl ?_
  exact ⟨_, _, _, _, rfl, (HO5.out.put3 (by omega) _ _ _).mono (by omega), (HO6.out.put3 (by omega) _ _ _).mono (by omega), Kp.put3 H4.out.kw (by omega) _ _ _⟩
end Go.Proofs.AL
