/- The walk of value.numbers. -/
import Derived.Test.YtpekccomahikbaaVaNumbers
namespace Go.Proofs.Ytpekccomahikbaa
open Go.RowKit Go.Own

set_option maxRecDepth 100000 in
set_option maxHeartbeats 8000000 in
theorem numbers_mid (op a b : Int) (w : World) (ha : Va.Fit a) (hb : Va.Fit b) (hop : op = 5 ∨ op = 6 ∨ op = 7 ∨ op = 8 ∨ op = 15)
    (hz : ((b == 0) && ((op == 6) || (op == 7))) = false) :
    Calls Try.prog 20 #[.int .u8 op, .int .i64 a, .int .i64 b] w fun e w' => e = .returned (.tuple #[.agg #[.int .u8 (Va.numbers op a b).1.k, .int .i64 (Va.numbers op a b).1.n, .string (Va.numbers op a b).1.t], .int .i64 (Va.numbers op a b).2]) ∧ Up w w' := by
  go_enter Try.func20, Try.ntmps20
  go_upto_region 1 with fail
  go_cut [21] (fun s wx => s = .bool false ∧ wx = ((w.alloc (.cells #[.int .i64 a] 2)).alloc (.cells #[.int .i64 b] 2)).alloc (.cells #[.int .u8 0, .int .i64 0, .string ⟨#[]⟩] 23))
  case first =>
    generalize e1 : (b == 0) = p1 at hz
    cases p1
    · clear hz
      go_wp2_with fail
      all_goals (go_meet; exact ⟨rfl, rfl⟩)
    · have e6 : (op == 6) = false := by simp at hz; simpa using hz.1
      have e7 : (op == 7) = false := by simp at hz; simpa using hz.2
      clear hz hop
      go_wp2_with fail
      all_goals (go_meet; exact ⟨rfl, rfl⟩)
  case rest =>
    obtain ⟨rfl, rfl⟩ := hcut
    go_upto_region 3 with fail
    go_cut [8] (fun s wx => s = .pointer (some ⟨w.heap.size + 3, 0, none⟩) ∧ wx = (((w.alloc (.cells #[.int .i64 a] 2)).alloc (.cells #[.int .i64 b] 2)).alloc (.cells #[.int .u8 0, .int .i64 0, .string ⟨#[]⟩] 23)).alloc (.cells #[.bool ((a != -9223372036854775808) || (b != -1))] 4))
    case first =>
      generalize e2 : (a != -9223372036854775808) = p2
      generalize e3 : (b != -1) = p3
      cases p2 <;> cases p3
      all_goals (go_wp2_with fail; go_meet; exact ⟨rfl, by rw [e2, e3]; rfl⟩)
    case rest =>
      obtain ⟨rfl, rfl⟩ := hcut
      go_upto_region 5 with fail
      rcases hop with rfl | rfl | rfl | rfl | rfl
      · generalize hr : Va.inR (a * b) = r
        have HM := Lib.hid (fun p q w hp hq => clo_mul a b p q w ha hb hp hq)
        cases r
        · have He := Lib.hid (Va.no_5 a b hr)
          clear ha hb hz
          go_wp2_with fail
          refine (HM.out _ _ _ (by simp [go_sem]) (by simp [go_sem])).mono ?_; rintro e w1 ⟨c, n, rfl, hc, rfl⟩
          rw [hr]
          clear hc hr
          go_wp2_with fail
          exact bodyPost_ret (v := .tuple #[.agg #[.int .u8 0, .int .i64 0, .string ⟨#[]⟩], .int .i64 20]) (by simp [results, Try.results20, go_sem]) rfl ⟨by rw [He.out]; rfl, by (repeat (first | exact Up.refl _ | assumption | refine Up.drew ?_ | refine Up.drewN ?_ _ | refine Up.alloc ?_ _ | refine Up.setCell ?_ (by simp <;> omega) _ | refine Up.trans ?_ (by assumption)))⟩
        · have He := Lib.hid (Va.yes_5 a b hr)
          clear ha hb hz
          go_wp2_with fail
          refine (HM.out _ _ _ (by simp [go_sem]) (by simp [go_sem])).mono ?_; rintro e w1 ⟨c, n, rfl, hc, rfl⟩
          rw [hc hr, hr]
          clear hc hr
          go_wp2_with fail
          refine (num_any _ _).mono ?_; rintro e w1 ⟨rfl, h1⟩
          have hc1 := h1.cells
          have hz1 := h1.size
          simp at hz1
          go_wp2_with fail
          exact bodyPost_ret (v := .tuple #[.agg #[.int .u8 1, .int .i64 (a * b), .string ⟨#[]⟩], .int .i64 0]) (by simp [results, Try.results20, go_sem, hc1]) rfl ⟨by rw [He.out]; rfl, by (repeat (first | exact Up.refl _ | assumption | refine Up.drew ?_ | refine Up.drewN ?_ _ | refine Up.alloc ?_ _ | refine Up.setCell ?_ (by simp <;> omega) _ | refine Up.trans ?_ (by assumption)))⟩
      · have hb0 : b ≠ 0 := by intro h; simp [h] at hz
        have hwh := Va.whole_ok a b ha hb0
        rw [hwh]
        generalize hr : Va.inR (a.tdiv b) = r
        clear hwh
        cases r
        · have He := Lib.hid (Va.no_6 a b hb0 hr)
          clear ha hb hz
          go_wp2_with fail
          clear hr
          refine (clo_2 a b false _ _ _ _ hb0 (by simp [go_sem]) (by simp [go_sem]) (by simp [go_sem])).mono ?_; rintro e w1 ⟨rfl, n, rfl⟩
          go_wp2_with fail
          exact bodyPost_ret (v := .tuple #[.agg #[.int .u8 0, .int .i64 0, .string ⟨#[]⟩], .int .i64 20]) (by simp [results, Try.results20, go_sem]) rfl ⟨by rw [He.out]; rfl, by (repeat (first | exact Up.refl _ | assumption | refine Up.drew ?_ | refine Up.drewN ?_ _ | refine Up.alloc ?_ _ | refine Up.setCell ?_ (by simp <;> omega) _ | refine Up.trans ?_ (by assumption)))⟩
        · have He := Lib.hid (Va.yes_6 a b hb0 hr)
          have Hw := Lib.hid (Va.Fit.iff.2 hr).wrap
          clear ha hb hz
          go_wp2_with fail
          clear hr
          refine (clo_2 a b true _ _ _ _ hb0 (by simp [go_sem]) (by simp [go_sem]) (by simp [go_sem])).mono ?_; rintro e w1 ⟨rfl, n, rfl⟩
          rw [Hw.out]
          go_wp2_with fail
          refine (num_any _ _).mono ?_; rintro e w1 ⟨rfl, h1⟩
          have hc1 := h1.cells
          have hz1 := h1.size
          simp at hz1
          go_wp2_with fail
          exact bodyPost_ret (v := .tuple #[.agg #[.int .u8 1, .int .i64 (a.tdiv b), .string ⟨#[]⟩], .int .i64 0]) (by simp [results, Try.results20, go_sem, hc1]) rfl ⟨by rw [He.out]; rfl, by (repeat (first | exact Up.refl _ | assumption | refine Up.drew ?_ | refine Up.drewN ?_ _ | refine Up.alloc ?_ _ | refine Up.setCell ?_ (by simp <;> omega) _ | refine Up.trans ?_ (by assumption)))⟩
      · have hb0 : b ≠ 0 := by intro h; simp [h] at hz
        have hwh := Va.whole_ok a b ha hb0
        rw [hwh]
        generalize hr : Va.inR (a.tdiv b) = r
        clear hwh
        cases r
        · have He := Lib.hid (Va.no_7 a b hb0 hr)
          clear ha hb hz
          go_wp2_with fail
          clear hr
          refine (clo_3 a b false _ _ _ _ hb0 (by simp [go_sem]) (by simp [go_sem]) (by simp [go_sem])).mono ?_; rintro e w1 ⟨rfl, n, rfl⟩
          go_wp2_with fail
          exact bodyPost_ret (v := .tuple #[.agg #[.int .u8 0, .int .i64 0, .string ⟨#[]⟩], .int .i64 20]) (by simp [results, Try.results20, go_sem]) rfl ⟨by rw [He.out]; rfl, by (repeat (first | exact Up.refl _ | assumption | refine Up.drew ?_ | refine Up.drewN ?_ _ | refine Up.alloc ?_ _ | refine Up.setCell ?_ (by simp <;> omega) _ | refine Up.trans ?_ (by assumption)))⟩
        · have He := Lib.hid (Va.yes_7 a b hb0 hr)
          clear ha hb hz
          go_wp2_with fail
          clear hr
          refine (clo_3 a b true _ _ _ _ hb0 (by simp [go_sem]) (by simp [go_sem]) (by simp [go_sem])).mono ?_; rintro e w1 ⟨rfl, n, rfl⟩
          go_wp2_with fail
          refine (num_any _ _).mono ?_; rintro e w1 ⟨rfl, h1⟩
          have hc1 := h1.cells
          have hz1 := h1.size
          simp at hz1
          go_wp2_with fail
          exact bodyPost_ret (v := .tuple #[.agg #[.int .u8 1, .int .i64 (a.tmod b), .string ⟨#[]⟩], .int .i64 0]) (by simp [results, Try.results20, go_sem, hc1]) rfl ⟨by rw [He.out]; rfl, by (repeat (first | exact Up.refl _ | assumption | refine Up.drew ?_ | refine Up.drewN ?_ _ | refine Up.alloc ?_ _ | refine Up.setCell ?_ (by simp <;> omega) _ | refine Up.trans ?_ (by assumption)))⟩
      · have hx := Va.add_ok a b ha hb
        generalize hr : Va.inR (a + b) = r at hx
        cases r
        · have He := Lib.hid (Va.no_8 a b hr)
          clear ha hb hz
          have Hx := Lib.hid hx
          clear hx
          go_wp2_with fail
          clear hr
          refine (clo_4 a b _ _ _ (by simp [go_sem]) (by simp [go_sem])).mono ?_; rintro e w1 ⟨rfl, n, rfl⟩
          rw [Hx.out]
          go_wp2_with fail
          exact bodyPost_ret (v := .tuple #[.agg #[.int .u8 0, .int .i64 0, .string ⟨#[]⟩], .int .i64 20]) (by simp [results, Try.results20, go_sem]) rfl ⟨by rw [He.out]; rfl, by (repeat (first | exact Up.refl _ | assumption | refine Up.drew ?_ | refine Up.drewN ?_ _ | refine Up.alloc ?_ _ | refine Up.setCell ?_ (by simp <;> omega) _ | refine Up.trans ?_ (by assumption)))⟩
        · have He := Lib.hid (Va.yes_8 a b hr)
          have Hw := Lib.hid (Va.Fit.iff.2 hr).wrap
          have Hx := Lib.hid hx
          clear hx
          clear ha hb hz
          go_wp2_with fail
          clear hr
          refine (clo_4 a b _ _ _ (by simp [go_sem]) (by simp [go_sem])).mono ?_; rintro e w1 ⟨rfl, n, rfl⟩
          rw [Hx.out, Hw.out]
          go_wp2_with fail
          refine (num_any _ _).mono ?_; rintro e w1 ⟨rfl, h1⟩
          have hc1 := h1.cells
          have hz1 := h1.size
          simp at hz1
          go_wp2_with fail
          exact bodyPost_ret (v := .tuple #[.agg #[.int .u8 1, .int .i64 (a + b), .string ⟨#[]⟩], .int .i64 0]) (by simp [results, Try.results20, go_sem, hc1]) rfl ⟨by rw [He.out]; rfl, by (repeat (first | exact Up.refl _ | assumption | refine Up.drew ?_ | refine Up.drewN ?_ _ | refine Up.alloc ?_ _ | refine Up.setCell ?_ (by simp <;> omega) _ | refine Up.trans ?_ (by assumption)))⟩
      · have hx := Va.sub_ok a b ha hb
        generalize hr : Va.inR (a - b) = r at hx
        cases r
        · have He := Lib.hid (Va.no_15 a b hr)
          clear ha hb hz
          have Hx := Lib.hid hx
          clear hx
          go_wp2_with fail
          clear hr
          refine (clo_5 a b _ _ _ (by simp [go_sem]) (by simp [go_sem])).mono ?_; rintro e w1 ⟨rfl, n, rfl⟩
          rw [Hx.out]
          go_wp2_with fail
          exact bodyPost_ret (v := .tuple #[.agg #[.int .u8 0, .int .i64 0, .string ⟨#[]⟩], .int .i64 20]) (by simp [results, Try.results20, go_sem]) rfl ⟨by rw [He.out]; rfl, by (repeat (first | exact Up.refl _ | assumption | refine Up.drew ?_ | refine Up.drewN ?_ _ | refine Up.alloc ?_ _ | refine Up.setCell ?_ (by simp <;> omega) _ | refine Up.trans ?_ (by assumption)))⟩
        · have He := Lib.hid (Va.yes_15 a b hr)
          have Hw := Lib.hid (Va.Fit.iff.2 hr).wrap
          have Hx := Lib.hid hx
          clear hx
          clear ha hb hz
          go_wp2_with fail
          clear hr
          refine (clo_5 a b _ _ _ (by simp [go_sem]) (by simp [go_sem])).mono ?_; rintro e w1 ⟨rfl, n, rfl⟩
          rw [Hx.out, Hw.out]
          go_wp2_with fail
          refine (num_any _ _).mono ?_; rintro e w1 ⟨rfl, h1⟩
          have hc1 := h1.cells
          have hz1 := h1.size
          simp at hz1
          go_wp2_with fail
          exact bodyPost_ret (v := .tuple #[.agg #[.int .u8 1, .int .i64 (a - b), .string ⟨#[]⟩], .int .i64 0]) (by simp [results, Try.results20, go_sem, hc1]) rfl ⟨by rw [He.out]; rfl, by (repeat (first | exact Up.refl _ | assumption | refine Up.drew ?_ | refine Up.drewN ?_ _ | refine Up.alloc ?_ _ | refine Up.setCell ?_ (by simp <;> omega) _ | refine Up.trans ?_ (by assumption)))⟩

theorem numbers_zero (op a : Int) (w : World) (hop : op = 6 ∨ op = 7) :
    Calls Try.prog 20 #[.int .u8 op, .int .i64 a, .int .i64 0] w fun e w' => e = .returned (.tuple #[.agg #[.int .u8 0, .int .i64 0, .string ⟨#[]⟩], .int .i64 21]) ∧ Up w w' := by
  rcases hop with rfl | rfl
  all_goals
    go_enter Try.func20, Try.ntmps20
    go_wp2_with fail
    exact bodyPost_ret (v := .tuple #[.agg #[.int .u8 0, .int .i64 0, .string ⟨#[]⟩], .int .i64 21]) (by simp [results, Try.results20, go_sem]) rfl ⟨rfl, by (repeat (first | exact Up.refl _ | assumption | refine Up.drew ?_ | refine Up.drewN ?_ _ | refine Up.alloc ?_ _ | refine Up.setCell ?_ (by simp <;> omega) _ | refine Up.trans ?_ (by assumption)))⟩

theorem numbers_any (op a b : Int) (w : World) (ha : Va.Fit a) (hb : Va.Fit b) (hop : op = 5 ∨ op = 6 ∨ op = 7 ∨ op = 8 ∨ op = 15) :
    Calls Try.prog 20 #[.int .u8 op, .int .i64 a, .int .i64 b] w fun e w' => e = .returned (.tuple #[.agg #[.int .u8 (Va.numbers op a b).1.k, .int .i64 (Va.numbers op a b).1.n, .string (Va.numbers op a b).1.t], .int .i64 (Va.numbers op a b).2]) ∧ Up w w' := by
  by_cases hz : b = 0 ∧ (op = 6 ∨ op = 7)
  · obtain ⟨rfl, h⟩ := hz
    have e : Va.numbers op a 0 = (Va.none, 21) := by rcases h with rfl | rfl <;> simp [Va.numbers]
    rw [e]
    exact numbers_zero op a w h
  · exact numbers_mid op a b w ha hb hop (by rw [Bool.eq_false_iff]; intro h; simp at h; exact hz h)
end Go.Proofs.Ytpekccomahikbaa
