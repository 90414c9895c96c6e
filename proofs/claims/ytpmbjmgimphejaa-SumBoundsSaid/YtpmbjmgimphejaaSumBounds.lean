/- The walk of SumBounds. -/
import Derived.Test.YtpmbjmgimphejaaSumNames
import Derived.WalkSpells
import Derived.Deep.RegionWith
import Derived.Deep.OwnRows
import Derived.Deep.DeepCutAuto
namespace Go.Proofs.Ytpmbjmgimphejaa
open Go.RowKit Go.Own

theorem info_u8 : (Try.prog.info? 5).map (fun i => (i.zero, i.size, i.bytes)) = some (some (.int .u8 0), 1, 1) := by kernel_rfl

theorem zeros_back (M : Nat) (w : World) :
    (convert 24 9 (.slice (some ⟨w.heap.size, 0, none⟩) M M)).run Try.prog (w.alloc (.cells (madeCells #[.int .u8 0] M) 5)) = .ok (.string ⟨(List.replicate M (0 : UInt8)).toArray⟩) (w.alloc (.cells (madeCells #[.int .u8 0] M) 5)) := by
  have h := run_convert_bytes_back (P := Try.prog) (w.alloc (.cells (madeCells #[.int .u8 0] M) 5)) 24 9 5 ⟨w.heap.size, 0, none⟩ M (List.replicate M 0) Try.underlying24 Try.underlying5 Try.underlying9 (fun j hj => by
    simp only [List.length_replicate] at hj
    rw [show (Addr.add ⟨w.heap.size, 0, none⟩ j) = ⟨w.heap.size, j, none⟩ from (by unfold Addr.add; cases j <;> simp), World.cell?_alloc_new]
    simp [madeCells, hj, Nat.mod_one])
  rwa [List.length_replicate] at h

theorem fin_eq (x y M : Nat) (hx : x < 65521) (hy : y < 65521) (hM : M < 500) : (((y : Int) + M * x) % 65521 == (wrap64 ((y : Int) + wrap64 (M * x))).tmod 65521) = true := by
  have hm : M * x ≤ 500 * 65521 := Nat.mul_le_mul (by omega) (by omega)
  have e : (M : Int) * (x : Int) = ((M * x : Nat) : Int) := by simp
  rw [e]
  generalize M * x = q at *
  rw [IntWalk.wrap64_in (q : Int) ⟨by omega, by omega⟩, IntWalk.wrap64_in ((y : Int) + q) ⟨by omega, by omega⟩]
  have e2 : (((y : Int) + q)).tmod 65521 = ((y : Int) + q) % 65521 := Int.tmod_eq_emod_of_nonneg (by omega)
  rw [e2]
  simp

theorem both_val (p : Nat × Nat) (hp : p.1 < 65521 ∧ p.2 < 65521) (w : World) : Calls Try.prog 10 #[.int .u32 (Sm.val p)] w fun e w' => e = .returned (.tuple #[.int .i64 p.1, .int .i64 p.2]) ∧ w = w' := by
  have hv := val_lt p (by omega)
  have e1 : (Sm.val p : Int) % 65536 = p.1 := by unfold Sm.val; omega
  have e2 : (Sm.val p : Int) / 65536 = p.2 := by unfold Sm.val; omega
  have := both_any (Sm.val p) w (by omega)
  rwa [e1, e2] at this

set_option maxRecDepth 100000 in
set_option maxHeartbeats 800000 in
theorem sumBounds_walk (s : ByteArray) (at_ n : Int) (w : World) (hs : s.size ≤ 140737488351232) (ha : (Lit.int .i64 at_).wf = true) (hn : (Lit.int .i64 n).wf = true) :
    Calls Try.prog 4 #[.string s, .int .i64 at_, .int .i64 n] w fun e w' => e = .returned (.bool true) ∧ Up w w' := by
  have hs1 := reach_maxLen hs
  have ha := i64_of_wf ha
  have hn := i64_of_wf hn
  by_cases hl : (40000 : Int) < s.size
  · go_enter Try.func4, Try.ntmps4
    go_wp2_with fail
    refine (works_any _).mono ?_; rintro e w1 ⟨rfl, h1⟩
    go_wp2_with fail
    refine (works_any _).mono ?_; rintro e w2 ⟨rfl, h2⟩
    go_wp2_with fail
    go_ret
    exact ⟨rfl, h1.trans h2⟩
  · have hp := Sm.run_lt' (1, 0) s.data.toList (by decide)
    obtain ⟨K, hK, eK⟩ := uint_mod at_ (s.size + 1) (by omega) (by omega)
    obtain ⟨M, hM, eM⟩ := uint_mod n 500 (by omega) (by omega)
    have c1 : ((s.size + 1 : Nat) : Int) = (s.size : Int) + 1 := by omega
    have c2 : ((500 : Nat) : Int) = 500 := rfl
    rw [c1] at eK
    rw [c2] at eM
    clear c1 c2
    have hS : ∀ w, Calls Try.prog 9 #[.string s] w fun e w' => e = .returned (.int .u32 (Sm.val (Sm.run (1, 0) s.data.toList))) ∧ Up w w' := fun w => sum_any s w hs1
    have hB := both_val _ hp
    have hd : (s.extract K s.size ++ s.extract 0 K).data.toList = s.data.toList.drop K ++ s.data.toList.take K := by
      simp [ByteArray.data_append, ByteArray.data_extract]
      exact List.take_of_length_le (by simp)
    have hp2 := Sm.run_lt' (1, 0) (s.extract K s.size ++ s.extract 0 K).data.toList (by decide)
    have hf2 : (Sm.run (1, 0) (s.extract K s.size ++ s.extract 0 K).data.toList).1 = (Sm.run (1, 0) s.data.toList).1 := by
      rw [hd, Sm.run_fst _ _ (by decide), Sm.run_fst _ _ (by decide), Sm.tot_turn]
    clear hd
    have hS2 : ∀ w, Calls Try.prog 9 #[.string (s.extract K s.size ++ s.extract 0 K)] w fun e w' => e = .returned (.int .u32 (Sm.val (Sm.run (1, 0) (s.extract K s.size ++ s.extract 0 K).data.toList))) ∧ Up w w' := fun w => sum_any _ w (by rw [ByteArray.size_append]; simp; unfold maxLen; omega)
    have hB2 := both_val _ hp2
    rw [hf2] at hB2
    have hS3 : ∀ w, Calls Try.prog 9 #[.string (s ++ ⟨(List.replicate M (0 : UInt8)).toArray⟩)] w fun e w' => e = .returned (.int .u32 (Sm.val (Sm.run (1, 0) (s ++ ⟨(List.replicate M (0 : UInt8)).toArray⟩).data.toList))) ∧ Up w w' := fun w => sum_any _ w (by rw [ByteArray.size_append, size_mk (List.replicate M 0), List.length_replicate]; unfold maxLen; omega)
    have hr3 : Sm.run (1, 0) (s ++ ⟨(List.replicate M (0 : UInt8)).toArray⟩).data.toList = ((Sm.run (1, 0) s.data.toList).1, ((Sm.run (1, 0) s.data.toList).2 + M * (Sm.run (1, 0) s.data.toList).1) % 65521) := by
      rw [ByteArray.data_append, Array.toList_append, Sm.run_append]
      exact Sm.run_zeros _ _ _ hp.1 hp.2
    have hB3 := both_val (Sm.run (1, 0) (s ++ ⟨(List.replicate M (0 : UInt8)).toArray⟩).data.toList) (by rw [hr3]; exact ⟨hp.1, by simp only; omega⟩)
    rw [hr3] at hB3 hS3
    generalize Sm.run (1, 0) (s.extract K s.size ++ s.extract 0 K).data.toList = p2 at *
    generalize Sm.run (1, 0) s.data.toList = p at *
    obtain ⟨x, y⟩ := p
    obtain ⟨x2, y2⟩ := p2
    simp only at hp hp2 hB hB2 hB3 hS2 hS3 hf2
    generalize Sm.val (x2, y2) = v2 at *
    generalize Sm.val (x, (y + M * x) % 65521) = v3 at *
    generalize Sm.val (x, y) = v at *
    have hmk := fun w => run_make_row' (P := Try.prog) 24 5 (.int .u8 0) 1 Try.underlying24 info_u8 rfl .i64 .i64 M (by omega) (by omega) w
    have hcv := zeros_back M
    generalize madeCells #[.int .u8 0] M = Z at *
    have hz : (ByteArray.mk (List.replicate M (0 : UInt8)).toArray).size < 500 := by rw [size_mk (List.replicate M 0), List.length_replicate]; omega
    generalize ByteArray.mk (List.replicate M (0 : UInt8)).toArray = z at *
    have HhS := Lib.hid hS
    clear hS
    have HhS2 := Lib.hid hS2
    clear hS2
    have HhS3 := Lib.hid hS3
    clear hS3
    have HhB := Lib.hid hB
    clear hB
    have HhB2 := Lib.hid hB2
    clear hB2
    have HhB3 := Lib.hid hB3
    clear hB3
    have Hhr3 := Lib.hid hr3
    clear hr3
    have HeK := Lib.hid eK
    clear eK
    have HeM := Lib.hid eM
    clear eM
    clear hf2
    go_enter Try.func4, Try.ntmps4
    go_wp2_with fail
    refine (works_any _).mono ?_; rintro e w1 ⟨rfl, h1⟩
    go_wp2_with fail
    refine (HhS.out _).mono ?_; rintro e w2 ⟨rfl, h2⟩
    go_wp2_with fail
    refine (HhB.out _).mono ?_; rintro e w3 ⟨rfl, rfl⟩
    go_upto_region 7 with fail
    rw [HeK.out]
    go_cut [10, 11] (fun a b wx => a = .int .i64 x ∧ b = .int .i64 y2 ∧ Up w2 wx)
    case first =>
      go_region_with (first | (go_at_call 9; refine (HhS2.out _).mono ?_; rintro e w3 ⟨rfl, h3⟩) | (go_at_call 10; refine (HhB2.out _).mono ?_; rintro e w4 ⟨rfl, rfl⟩))
      all_goals (go_wp2_with fail; go_meet; exact ⟨rfl, rfl, by first | assumption | exact Up.trans (Up.drew (Up.refl _)) (by assumption)⟩)
    case rest =>
      obtain ⟨rfl, rfl, h3⟩ := hcut
      go_upto_region 9 with fail
      rw [HeM.out]
      go_wp2_with fail
      refine (HhS3.out _).mono ?_; rintro e w4 ⟨rfl, h4⟩
      go_wp2_with fail
      refine (HhB3.out _).mono ?_; rintro e w5 ⟨rfl, rfl⟩
      go_wp2_with fail
      go_ret
      exact ⟨ret_bool (fin_eq x y M hp.1 hp.2 hM), (h1.trans <| h2.trans <| h3.trans <| (Up.refl _).alloc _).trans h4⟩
end Go.Proofs.Ytpmbjmgimphejaa
