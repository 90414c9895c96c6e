/- The walk of ValueTexts. -/
import Derived.Test.YtpekccomahikbaaVaLaws
import Derived.Test.YtpekccomahikbaaVaOne
import Derived.Deep.RegionWith
import Derived.Deep.DeepCutAuto
import Derived.Lib.QuietBelow
namespace Go.Proofs.Ytpekccomahikbaa
open Go.RowKit Go.Own Go.Sort

theorem sum_is (a b r : ByteArray) (h : a.size + b.size ≤ 40) (hr : a ++ b = r) (w : World) :
    Calls Try.prog 8 #[.int .u8 8, .agg #[.int .u8 3, .int .i64 0, .string a], .agg #[.int .u8 3, .int .i64 0, .string b]] w fun e w' => e = .returned (.tuple #[.agg #[.int .u8 3, .int .i64 0, .string r], .int .i64 0]) ∧ Up w w' :=
  two_is 8 3 0 3 0 a b 3 0 r 0 (by rw [show Va.two 8 ⟨3, 0, a⟩ ⟨3, 0, b⟩ = Va.sum a b from rfl, Va.sum, if_neg (by omega), hr]; rfl) (fit_lit rfl) (fit_lit rfl) (by unfold maxLen; omega) (by unfold maxLen; omega) w
theorem sum_big (a b : ByteArray) (h : 40 < a.size + b.size) (ha : a.size ≤ 2000) (hb : b.size ≤ 2000) (w : World) :
    Calls Try.prog 8 #[.int .u8 8, .agg #[.int .u8 3, .int .i64 0, .string a], .agg #[.int .u8 3, .int .i64 0, .string b]] w fun e w' => e = .returned (.tuple #[.agg #[.int .u8 0, .int .i64 0, .string ⟨#[]⟩], .int .i64 20]) ∧ Up w w' :=
  two_is 8 3 0 3 0 a b 0 0 ⟨#[]⟩ 20 (by rw [show Va.two 8 ⟨3, 0, a⟩ ⟨3, 0, b⟩ = Va.sum a b from rfl, Va.sum, if_pos h]; rfl) (fit_lit rfl) (fit_lit rfl) (by unfold maxLen; omega) (by unfold maxLen; omega) w
theorem len_is (t : ByteArray) (w : World) :
    Calls Try.prog 15 #[.int .u8 16, .agg #[.int .u8 3, .int .i64 0, .string t]] w fun e w' => e = .returned (.tuple #[.agg #[.int .u8 1, .int .i64 t.size, .string ⟨#[]⟩], .int .i64 0]) ∧ Up w w' :=
  one_ok_16 0 t w

theorem len_sum (a b : ByteArray) (w : World) :
    Calls Try.prog 15 #[.int .u8 16, .agg #[.int .u8 3, .int .i64 0, .string (a ++ b)]] w fun e w' => e = .returned (.tuple #[.agg #[.int .u8 1, .int .i64 ((a.size : Int) + b.size), .string ⟨#[]⟩], .int .i64 0]) ∧ Up w w' := by
  have h := len_is (a ++ b) w
  rwa [show ((a ++ b).size : Int) = (a.size : Int) + b.size by rw [ByteArray.size_append]; omega] at h

set_option maxRecDepth 100000 in
set_option maxHeartbeats 3200000 in
theorem valueTexts_long (a b c : ByteArray) (w : World) (ha : a.size ≤ 140737488351232) (hb : b.size ≤ 140737488351232) (hc : c.size ≤ 140737488351232) (h : (2000 : Int) < a.size ∨ (2000 : Int) < b.size ∨ (2000 : Int) < c.size) :
    Calls Try.prog 7 #[.string a, .string b, .string c] w fun e w' => e = .returned (.bool true) ∧ Up w w' := by
  by_cases h1 : (2000 : Int) < a.size
  · clear h
    go_enter Try.func7, Try.ntmps7
    go_wp2_with fail
    refine (works_any _).mono ?_; rintro e w1 ⟨rfl, u1⟩
    go_wp2_with fail
    refine (works_any _).mono ?_; rintro e w2 ⟨rfl, u2⟩
    go_wp2_with fail
    go_ret
    exact ⟨rfl, u1.trans u2⟩
  by_cases h2 : (2000 : Int) < b.size
  · clear h
    go_enter Try.func7, Try.ntmps7
    go_wp2_with fail
    refine (works_any _).mono ?_; rintro e w1 ⟨rfl, u1⟩
    go_wp2_with fail
    refine (works_any _).mono ?_; rintro e w2 ⟨rfl, u2⟩
    go_wp2_with fail
    go_ret
    exact ⟨rfl, u1.trans u2⟩
  · have h3 : (2000 : Int) < c.size := by omega
    clear h
    go_enter Try.func7, Try.ntmps7
    go_wp2_with fail
    refine (works_any _).mono ?_; rintro e w1 ⟨rfl, u1⟩
    go_wp2_with fail
    refine (works_any _).mono ?_; rintro e w2 ⟨rfl, u2⟩
    go_wp2_with fail
    go_ret
    exact ⟨rfl, u1.trans u2⟩

set_option maxRecDepth 100000 in
set_option maxHeartbeats 3200000 in
theorem valueTexts_1 (a b c : ByteArray) (w : World) (ha : a.size ≤ 2000) (hb : b.size ≤ 2000) (hc : c.size ≤ 2000) (h : (40 : Int) < a.size + b.size) :
    Calls Try.prog 7 #[.string a, .string b, .string c] w fun e w' => e = .returned (.bool true) ∧ Up w w' := by
  have hT := Lib.hid (sum_big a b (by omega) ha hb)
  go_enter Try.func7, Try.ntmps7
  go_wp2_with fail
  refine (works_any _).mono ?_; rintro e w1 ⟨rfl, u1⟩
  go_wp2_with fail
  refine (ltext_any _ _).mono ?_; rintro e w2 ⟨rfl, u2⟩
  go_wp2_with fail
  refine (ltext_any _ _).mono ?_; rintro e w3 ⟨rfl, u3⟩
  go_wp2_with fail
  refine (hT.out _).mono ?_; rintro e w4 ⟨rfl, u4⟩
  go_wp2_with fail
  go_ret
  exact ⟨rfl, by (repeat (first | exact Up.refl _ | assumption | refine Up.drew ?_ | refine Up.drewN ?_ _ | refine Up.alloc ?_ _ | refine Up.setCell ?_ (by simp <;> omega) _ | refine Up.trans ?_ (by assumption)))⟩

set_option maxRecDepth 100000 in
set_option maxHeartbeats 12000000 in
theorem valueTexts_2 (a b c : ByteArray) (yk yn : Int) (yt : ByteArray) (ye xk xn : Int) (xt : ByteArray) (xe : Int) (w : World) (ha : a.size ≤ 2000) (hb : b.size ≤ 2000) (hc : c.size ≤ 2000) (h : ¬ (40 : Int) < a.size + b.size)
    (hY : ∀ w, Calls Try.prog 8 #[.int .u8 8, .agg #[.int .u8 3, .int .i64 0, .string b], .agg #[.int .u8 3, .int .i64 0, .string c]] w fun e w' => e = .returned (.tuple #[.agg #[.int .u8 yk, .int .i64 yn, .string yt], .int .i64 ye]) ∧ Up w w')
    (hX : ∀ w, Calls Try.prog 8 #[.int .u8 8, .agg #[.int .u8 3, .int .i64 0, .string (a ++ b)], .agg #[.int .u8 3, .int .i64 0, .string c]] w fun e w' => e = .returned (.tuple #[.agg #[.int .u8 xk, .int .i64 xn, .string xt], .int .i64 xe]) ∧ Up w w')
    (hfin : (ye = 20 ∧ xe = 20) ∨ (ye = 0 ∧ xe = 20) ∨ (ye = 0 ∧ xe = 0 ∧ ∀ w, Calls Try.prog 8 #[.int .u8 8, .agg #[.int .u8 3, .int .i64 0, .string a], .agg #[.int .u8 yk, .int .i64 yn, .string yt]] w fun e w' => e = .returned (.tuple #[.agg #[.int .u8 xk, .int .i64 xn, .string xt], .int .i64 0]) ∧ Up w w')) :
    Calls Try.prog 7 #[.string a, .string b, .string c] w fun e w' => e = .returned (.bool true) ∧ Up w w' := by
  have hT := Lib.hid (sum_is a b (a ++ b) (by omega) rfl)
  have hL := Lib.hid (len_sum a b)
  have HY := Lib.hid hY
  have HX := Lib.hid hX
  have HF := Lib.hid hfin
  clear hY hX hfin
  go_enter Try.func7, Try.ntmps7
  go_wp2_with fail
  refine (works_any _).mono ?_; rintro e w1 ⟨rfl, u1⟩
  go_wp2_with fail
  refine (ltext_any _ _).mono ?_; rintro e w2 ⟨rfl, u2⟩
  go_wp2_with fail
  refine (ltext_any _ _).mono ?_; rintro e w3 ⟨rfl, u3⟩
  go_wp2_with fail
  refine (hT.out _).mono ?_; rintro e w4 ⟨rfl, u4⟩
  go_upto_region 8 with fail
  go_cut [9, 10] (fun s9 s10 wx => ∃ B9, s9 = .pointer (some ⟨B9, 0, none⟩) ∧ s10 = .int .i64 0 ∧ Box3 B9 (.int .u8 1) (.int .i64 ((a.size : Int) + b.size)) (.string ⟨#[]⟩) wx ∧ Box3 w4.heap.size (.int .u8 3) (.int .i64 0) (.string (a ++ b)) wx ∧ Up w wx)
  case first =>
    go_wp2_with fail
    refine (hL.out _).mono ?_; rintro e w5 ⟨rfl, u5⟩
    go_wp2_with fail
    go_meet
    exact ⟨_, rfl, rfl, Box3.new _ _ _ _ _, (Box3.new _ _ _ w4 23).up (by (repeat (first | exact Up.refl _ | assumption | refine Up.drew ?_ | refine Up.drewN ?_ _ | refine Up.alloc ?_ _ | refine Up.setCell ?_ (by simp <;> omega) _ | refine Up.trans ?_ (by assumption)))), by (repeat (first | exact Up.refl _ | assumption | refine Up.drew ?_ | refine Up.drewN ?_ _ | refine Up.alloc ?_ _ | refine Up.setCell ?_ (by simp <;> omega) _ | refine Up.trans ?_ (by assumption)))⟩
  case rest =>
    obtain ⟨B9, rfl, rfl, b9, b7, u⟩ := hcut
    go_upto_region 9 with fail
    go_cut [11, 12] (fun s11 s12 wx => ∃ B11, s11 = .pointer (some ⟨B11, 0, none⟩) ∧ s12 = .int .i64 ye ∧ Box3 B11 (.int .u8 yk) (.int .i64 yn) (.string yt) wx ∧ Box3 B9 (.int .u8 1) (.int .i64 ((a.size : Int) + b.size)) (.string ⟨#[]⟩) wx ∧ Box3 w4.heap.size (.int .u8 3) (.int .i64 0) (.string (a ++ b)) wx ∧ Up w wx)
    case first =>
      go_wp2_with fail
      refine (ltext_any _ _).mono ?_; rintro e w6 ⟨rfl, u6⟩
      go_wp2_with fail
      refine (ltext_any _ _).mono ?_; rintro e w7 ⟨rfl, u7⟩
      go_wp2_with fail
      refine (HY.out _).mono ?_; rintro e w8 ⟨rfl, u8⟩
      go_wp2_with fail
      go_meet
      exact ⟨_, rfl, rfl, Box3.new _ _ _ _ _, b9.up (by (repeat (first | exact Up.refl _ | assumption | refine Up.drew ?_ | refine Up.drewN ?_ _ | refine Up.alloc ?_ _ | refine Up.setCell ?_ (by simp <;> omega) _ | refine Up.trans ?_ (by assumption)))), b7.up (by (repeat (first | exact Up.refl _ | assumption | refine Up.drew ?_ | refine Up.drewN ?_ _ | refine Up.alloc ?_ _ | refine Up.setCell ?_ (by simp <;> omega) _ | refine Up.trans ?_ (by assumption)))), by (repeat (first | exact Up.refl _ | assumption | refine Up.drew ?_ | refine Up.drewN ?_ _ | refine Up.alloc ?_ _ | refine Up.setCell ?_ (by simp <;> omega) _ | refine Up.trans ?_ (by assumption)))⟩
    case rest =>
      obtain ⟨B11, rfl, rfl, b11, b9, b7, u⟩ := hcut
      obtain ⟨l7, p7, q7, r7⟩ := id b7
      have hzu := u.size
      go_upto_region 10 with fail
      go_cut [13, 14] (fun s13 s14 wx => ∃ B13, s13 = .pointer (some ⟨B13, 0, none⟩) ∧ s14 = .int .i64 xe ∧ Box3 B13 (.int .u8 xk) (.int .i64 xn) (.string xt) wx ∧ Box3 B11 (.int .u8 yk) (.int .i64 yn) (.string yt) wx ∧ Box3 B9 (.int .u8 1) (.int .i64 ((a.size : Int) + b.size)) (.string ⟨#[]⟩) wx ∧ Box3 w4.heap.size (.int .u8 3) (.int .i64 0) (.string (a ++ b)) wx ∧ Up w wx)
      case first =>
        go_region_with (first | (go_at_call 17; refine (ltext_any _ _).mono ?_; rintro e w9 ⟨rfl, u9⟩; obtain ⟨l7', p7', q7', r7'⟩ := b7.up (Up.trans (by (repeat (first | exact Up.refl _ | assumption | refine Up.drew ?_ | refine Up.drewN ?_ _ | refine Up.alloc ?_ _ | refine Up.setCell ?_ (by simp <;> omega) _ | refine Up.trans ?_ (by assumption)))) u9); have hc9 := u9.cells; have hz9 := u9.size; (try simp at hz9); (try have hl9 := Nat.lt_of_succ_le hz9)) | (go_at_call 8; refine (HX.out _).mono ?_; rintro e w10 ⟨rfl, u10⟩; have hc10 := u10.cells; have hz10 := u10.size; (try simp at hz10)))
        all_goals
          go_wp2_with fail
          go_meet
          exact ⟨_, rfl, rfl, (by first | exact Box3.new _ _ _ _ _ | exact Box3.put (Box3.up (Box3.new _ _ _ _ _) (by assumption)) | exact Box3.put (Box3.up (Box3.updrew (Box3.new _ _ _ _ _) (by assumption)) (by assumption)) | exact Box3.put (Box3.up (Box3.up (Box3.new _ _ _ _ _) (by assumption)) (by assumption))), b11.up (by (repeat (first | exact Up.refl _ | assumption | refine Up.drew ?_ | refine Up.drewN ?_ _ | refine Up.alloc ?_ _ | refine Up.setCell ?_ (by simp <;> omega) _ | refine Up.trans ?_ (by assumption)))), b9.up (by (repeat (first | exact Up.refl _ | assumption | refine Up.drew ?_ | refine Up.drewN ?_ _ | refine Up.alloc ?_ _ | refine Up.setCell ?_ (by simp <;> omega) _ | refine Up.trans ?_ (by assumption)))), b7.up (by (repeat (first | exact Up.refl _ | assumption | refine Up.drew ?_ | refine Up.drewN ?_ _ | refine Up.alloc ?_ _ | refine Up.setCell ?_ (by simp <;> omega) _ | refine Up.trans ?_ (by assumption)))), by (repeat (first | exact Up.refl _ | assumption | refine Up.drew ?_ | refine Up.drewN ?_ _ | refine Up.alloc ?_ _ | refine Up.setCell ?_ (by simp <;> omega) _ | refine Up.trans ?_ (by assumption)))⟩
      case rest =>
        obtain ⟨B13, rfl, rfl, b13, b11, b9, b7, u⟩ := hcut
        clear l7 p7 q7 r7
        obtain ⟨l7, p7, q7, r7⟩ := id b7
        obtain ⟨l9, p9, q9, r9⟩ := id b9
        go_upto_region 11 with fail
        go_cut [95] (fun s95 wx => s95 = .bool false ∧ Box3 B13 (.int .u8 xk) (.int .i64 xn) (.string xt) wx ∧ Box3 B11 (.int .u8 yk) (.int .i64 yn) (.string yt) wx ∧ Up w wx)
        case first =>
          have k71 := cell_regrown p7; have k72 := cell_regrown q7; have k73 := cell_regrown r7
          have k91 := cell_regrown p9; have k92 := cell_regrown q9; have k93 := cell_regrown r9
          have cN : ∀ d os, Calls Try.prog 11 #[.int .i64 ((a.size : Int) + b.size)] (grow (redrawn wc d) os) fun e w'' => e = .returned (.agg #[.int .u8 1, .int .i64 ((a.size : Int) + b.size), .string ⟨#[]⟩]) ∧ ∃ p : Regrown, w'' = grow (redrawn wc p.d) p.os := fun d os => Calls.regrown_of (lnum_any _ _)
          have cT : ∀ d os, Calls Try.prog 17 #[.string (a ++ b)] (grow (redrawn wc d) os) fun e w'' => e = .returned (.agg #[.int .u8 3, .int .i64 0, .string (a ++ b)]) ∧ ∃ p : Regrown, w'' = grow (redrawn wc p.d) p.os := fun d os => Calls.regrown_of (ltext_any _ _)
          clear p7 q7 r7 p9 q9 r9 l7 l9
          have hn1 : ¬ 9223372036854775807 < a.size + b.size := by omega
          have hwr : IntKind.i64.wrap ((a.size : Int) + b.size) = (a.size : Int) + b.size := IntWalk.i64_in _ ⟨by omega, by omega⟩
          refine wp_region_quiet_below (by kernel_rfl) (by kernel_rfl) ?_
          repeat (quiet_step (first | exact cN _ _ | exact cT _ _))
          refine wpQuiet_nil ?_
          intro _ hw'
          obtain ⟨⟨dq, osq⟩, hw''⟩ := hw'
          subst hw''
          go_wp2_with fail
          go_meet
          exact ⟨rfl, b13.up (below_regrown wc dq osq), b11.up (below_regrown wc dq osq), u.trans (below_regrown wc dq osq)⟩
        case rest =>
          obtain ⟨rfl, b13, b11, u⟩ := hcut
          clear l7 p7 q7 r7 l9 p9 q9 r9 b9 b7
          rcases HF.out with ⟨rfl, rfl⟩ | ⟨rfl, rfl⟩ | ⟨rfl, rfl, hZ⟩
          · go_wp2_with fail
            go_ret
            exact ⟨rfl, u⟩
          · go_wp2_with fail
            go_ret
            exact ⟨rfl, u⟩
          · have HZ := Lib.hid hZ
            clear hZ
            obtain ⟨l11, p11, q11, r11⟩ := id b11
            have hzu := u.size
            go_upto_region 15 with fail
            go_cut [15, 16] (fun s15 s16 wx => ∃ B15, s15 = .pointer (some ⟨B15, 0, none⟩) ∧ s16 = .int .i64 0 ∧ Box3 B15 (.int .u8 xk) (.int .i64 xn) (.string xt) wx ∧ Box3 B13 (.int .u8 xk) (.int .i64 xn) (.string xt) wx ∧ Up w wx)
            case first =>
              go_region_with (first | (go_at_call 17; refine (ltext_any _ _).mono ?_; rintro e w9 ⟨rfl, u9⟩; obtain ⟨l7', p7', q7', r7'⟩ := b11.up (Up.trans (by (repeat (first | exact Up.refl _ | assumption | refine Up.drew ?_ | refine Up.drewN ?_ _ | refine Up.alloc ?_ _ | refine Up.setCell ?_ (by simp <;> omega) _ | refine Up.trans ?_ (by assumption)))) u9); have hc9 := u9.cells; have hz9 := u9.size; (try simp at hz9); (try have hl9 := Nat.lt_of_succ_le hz9)) | (go_at_call 8; refine (HZ.out _).mono ?_; rintro e w10 ⟨rfl, u10⟩; have hc10 := u10.cells; have hz10 := u10.size; (try simp at hz10)))
              all_goals
                go_wp2_with fail
                go_meet
                exact ⟨_, rfl, rfl, (by first | exact Box3.new _ _ _ _ _ | exact Box3.put (Box3.up (Box3.new _ _ _ _ _) (by assumption)) | exact Box3.put (Box3.up (Box3.updrew (Box3.new _ _ _ _ _) (by assumption)) (by assumption)) | exact Box3.put (Box3.up (Box3.up (Box3.new _ _ _ _ _) (by assumption)) (by assumption))), b13.up (by (repeat (first | exact Up.refl _ | assumption | refine Up.drew ?_ | refine Up.drewN ?_ _ | refine Up.alloc ?_ _ | refine Up.setCell ?_ (by simp <;> omega) _ | refine Up.trans ?_ (by assumption)))), by (repeat (first | exact Up.refl _ | assumption | refine Up.drew ?_ | refine Up.drewN ?_ _ | refine Up.alloc ?_ _ | refine Up.setCell ?_ (by simp <;> omega) _ | refine Up.trans ?_ (by assumption)))⟩
            case rest =>
              obtain ⟨B15, rfl, rfl, b15, b13, u⟩ := hcut
              clear l11 p11 q11 r11 b11
              obtain ⟨l13, p13, q13, r13⟩ := id b13
              obtain ⟨l15, p15, q15, r15⟩ := id b15
              go_wp2_with fail
              go_ret
              exact ⟨rfl, u⟩

theorem valueTexts_walk (a b c : ByteArray) (w : World) (ha : a.size ≤ 140737488351232) (hb : b.size ≤ 140737488351232) (hc : c.size ≤ 140737488351232) :
    Calls Try.prog 7 #[.string a, .string b, .string c] w fun e w' => e = .returned (.bool true) ∧ Up w w' := by
  by_cases h : (2000 : Int) < a.size ∨ (2000 : Int) < b.size ∨ (2000 : Int) < c.size
  · exact valueTexts_long a b c w ha hb hc h
  have h1 : a.size ≤ 2000 := by omega
  have h2 : b.size ≤ 2000 := by omega
  have h3 : c.size ≤ 2000 := by omega
  by_cases h4 : (40 : Int) < a.size + b.size
  · exact valueTexts_1 a b c w h1 h2 h3 h4
  have hab : (a ++ b).size = a.size + b.size := ByteArray.size_append
  have hbc : (b ++ c).size = b.size + c.size := ByteArray.size_append
  by_cases h5 : 40 < b.size + c.size
  · exact valueTexts_2 a b c 0 0 ⟨#[]⟩ 20 0 0 ⟨#[]⟩ 20 w h1 h2 h3 h4 (sum_big b c h5 h2 h3) (sum_big (a ++ b) c (by omega) (by omega) h3) (.inl ⟨rfl, rfl⟩)
  by_cases h6 : 40 < a.size + b.size + c.size
  · exact valueTexts_2 a b c 3 0 (b ++ c) 0 0 0 ⟨#[]⟩ 20 w h1 h2 h3 h4 (sum_is b c _ (by omega) rfl) (sum_big (a ++ b) c (by omega) (by omega) h3) (.inr (.inl ⟨rfl, rfl⟩))
  · exact valueTexts_2 a b c 3 0 (b ++ c) 0 3 0 (a ++ b ++ c) 0 w h1 h2 h3 h4 (sum_is b c _ (by omega) rfl) (sum_is (a ++ b) c _ (by omega) rfl) (.inr (.inr ⟨rfl, rfl, sum_is a (b ++ c) _ (by omega) (ByteArray.append_assoc ..).symm⟩))
end Go.Proofs.Ytpekccomahikbaa
