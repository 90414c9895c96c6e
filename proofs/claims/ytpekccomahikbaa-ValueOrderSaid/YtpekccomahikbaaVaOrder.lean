/- The walks of value.order, value.equal. -/
import Derived.Test.YtpekccomahikbaaVaWalks
import Derived.Deep.RegionWith
namespace Go.Proofs.Ytpekccomahikbaa
open Go.RowKit Go.Own

theorem cmpString_any (a b : ByteArray) (w : World) :
    Calls Try.prog 41 #[.string a, .string b] w fun e w' => e = .returned (.int .i64 (Lib.compareBytes a.data.toList b.data.toList)) ∧ w = w' := by
  go_enter Try.func41, Try.ntmps41
  go_wp2
  rw [run_callFunc_extern Try.func42 (by kernel_rfl) (by kernel_rfl) (by kernel_rfl) (e := Extern.BytealgCompare.compare) (by kernel_rfl), Lib.run_compareString]
  simp only [Result.andThen]
  rw [Oper.upon_value]
  go_wp2
  go_ret
  exact ⟨rfl, rfl⟩

theorem compare_any (a b : ByteArray) (w : World) :
    Calls Try.prog 34 #[.string a, .string b] w fun e w' => e = .returned (.int .i64 (Lib.compareBytes a.data.toList b.data.toList)) ∧ w = w' := by
  go_enter Try.func34, Try.ntmps34
  go_wp2_with (go_at_call 41; refine (cmpString_any _ _ _).mono ?_; rintro e w1 ⟨rfl, rfl⟩)
  go_ret
  exact ⟨rfl, rfl⟩

theorem order_text (ak an bk bn : Int) (at_ bt : ByteArray) (w : World) (h : (ak == 3) = true) :
    Calls Try.prog 18 #[.agg #[.int .u8 ak, .int .i64 an, .string at_], .agg #[.int .u8 bk, .int .i64 bn, .string bt]] w fun e w' => e = .returned (.int .i64 (Lib.compareBytes at_.data.toList bt.data.toList)) ∧ Up w w' := by
  go_enter Try.func18, Try.ntmps18
  go_wp2_with (go_at_call 34; refine (compare_any _ _ _).mono ?_; rintro e w1 ⟨rfl, rfl⟩)
  go_ret
  exact ⟨rfl, by (repeat (first | exact Up.refl _ | assumption | refine Up.drew ?_ | refine Up.drewN ?_ _ | refine Up.alloc ?_ _ | refine Up.setCell ?_ (by simp <;> omega) _ | refine Up.trans ?_ (by assumption)))⟩

theorem order_int (ak an bk bn : Int) (at_ bt : ByteArray) (w : World) (h : (ak == 3) = false) :
    Calls Try.prog 18 #[.agg #[.int .u8 ak, .int .i64 an, .string at_], .agg #[.int .u8 bk, .int .i64 bn, .string bt]] w fun e w' => e = .returned (.int .i64 (Va.cmpi an bn)) ∧ Up w w' := by
  by_cases h1 : an < bn
  · go_enter Try.func18, Try.ntmps18
    go_wp2
    go_ret
    exact ⟨by rw [Va.cmpi_lt h1]; rfl, by (repeat (first | exact Up.refl _ | assumption | refine Up.drew ?_ | refine Up.drewN ?_ _ | refine Up.alloc ?_ _ | refine Up.setCell ?_ (by simp <;> omega) _ | refine Up.trans ?_ (by assumption)))⟩
  · by_cases h2 : bn < an
    · go_enter Try.func18, Try.ntmps18
      go_wp2
      go_ret
      exact ⟨by rw [Va.cmpi_gt h2]; rfl, by (repeat (first | exact Up.refl _ | assumption | refine Up.drew ?_ | refine Up.drewN ?_ _ | refine Up.alloc ?_ _ | refine Up.setCell ?_ (by simp <;> omega) _ | refine Up.trans ?_ (by assumption)))⟩
    · go_enter Try.func18, Try.ntmps18
      go_wp2
      go_ret
      exact ⟨by rw [Va.cmpi_eq (by omega) (by omega)]; rfl, by (repeat (first | exact Up.refl _ | assumption | refine Up.drew ?_ | refine Up.drewN ?_ _ | refine Up.alloc ?_ _ | refine Up.setCell ?_ (by simp <;> omega) _ | refine Up.trans ?_ (by assumption)))⟩

theorem order_any (ak an bk bn : Int) (at_ bt : ByteArray) (w : World) :
    Calls Try.prog 18 #[.agg #[.int .u8 ak, .int .i64 an, .string at_], .agg #[.int .u8 bk, .int .i64 bn, .string bt]] w fun e w' => e = .returned (.int .i64 (Va.cmp ⟨ak, an, at_⟩ ⟨bk, bn, bt⟩)) ∧ Up w w' := by
  by_cases h : ak = 3
  · have e : Va.cmp ⟨ak, an, at_⟩ ⟨bk, bn, bt⟩ = Lib.compareBytes at_.data.toList bt.data.toList := by simp [Va.cmp, h]
    rw [e]; exact order_text ak an bk bn at_ bt w (by simp [h])
  · have e : Va.cmp ⟨ak, an, at_⟩ ⟨bk, bn, bt⟩ = Va.cmpi an bn := by simp [Va.cmp, h]
    rw [e]; exact order_int ak an bk bn at_ bt w (by simp [h])

theorem equal_any (ak an bk bn : Int) (at_ bt : ByteArray) (w : World) :
    Calls Try.prog 19 #[.agg #[.int .u8 ak, .int .i64 an, .string at_], .agg #[.int .u8 bk, .int .i64 bn, .string bt]] w fun e w' => e = .returned (.bool (Va.equal ⟨ak, an, at_⟩ ⟨bk, bn, bt⟩)) ∧ Up w w' := by
  by_cases h : ak = 2
  · subst h
    have e : Va.equal ⟨2, an, at_⟩ ⟨bk, bn, bt⟩ = ((an != 0) == ((bk == 2) && (bn != 0))) := by simp [Va.equal, Va.yes]
    rw [e]
    clear e
    go_enter Try.func19, Try.ntmps19
    go_wp2_with fail
    go_region_with (go_at_call 12; refine (yes_any _ _ _ _).mono ?_; rintro e w1 ⟨rfl, h1⟩; have hc1 := h1.cells)
    all_goals
      go_wp2_with fail
      go_ret
      exact ⟨rfl, by (repeat (first | exact Up.refl _ | assumption | refine Up.drew ?_ | refine Up.drewN ?_ _ | refine Up.alloc ?_ _ | refine Up.setCell ?_ (by simp <;> omega) _ | refine Up.trans ?_ (by assumption)))⟩
  · have e : Va.equal ⟨ak, an, at_⟩ ⟨bk, bn, bt⟩ = (Va.cmp ⟨ak, an, at_⟩ ⟨bk, bn, bt⟩ == 0) := by simp [Va.equal, h]
    rw [e]
    have h : (ak == 2) = false := by simp [h]
    clear e
    go_enter Try.func19, Try.ntmps19
    go_wp2_with (go_at_call 18; refine (order_any _ _ _ _ _ _ _).mono ?_; rintro e w1 ⟨rfl, h1⟩)
    go_ret
    exact ⟨rfl, by (repeat (first | exact Up.refl _ | assumption | refine Up.drew ?_ | refine Up.drewN ?_ _ | refine Up.alloc ?_ _ | refine Up.setCell ?_ (by simp <;> omega) _ | refine Up.trans ?_ (by assumption)))⟩
end Go.Proofs.Ytpekccomahikbaa
