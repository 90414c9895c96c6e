/- The walk of SumByte. -/
import Derived.Test.YtpmbjmgimphejaaSumNames
import Derived.WalkSpells
import Derived.RegionTactic
import Derived.Deep.RegionWith
import Derived.Deep.DeepCutAuto
import Derived.Laws.IdiomStrings
namespace Go.Proofs.Ytpmbjmgimphejaa
open Go.RowKit Go.Own

/-- block B holds these bytes -/
def Bytes (B : Nat) (l : List UInt8) (w : World) : Prop := B < w.heap.size ∧ ∀ j (hj : j < l.length), w.cell? ⟨B, j, none⟩ = some (.int .u8 (l[j].toNat : Int))
theorem Bytes.up {B : Nat} {l : List UInt8} {w w' : World} (h : Bytes B l w) (k : Up w w') : Bytes B l w' :=
  ⟨Nat.lt_of_lt_of_le h.1 k.size, fun j hj => by rw [k.cell h.1]; exact h.2 j hj⟩
theorem Bytes.drew {B : Nat} {l : List UInt8} {w : World} (h : Bytes B l w) : Bytes B l w.drew := h
theorem Bytes.back {B : Nat} {l : List UInt8} {w : World} (h : Bytes B l w) (n cap : Nat) (hn : n = l.length) :
    (convert 24 9 (.slice (some ⟨B, 0, none⟩) n cap)).run Try.prog w = .ok (.string ⟨l.toArray⟩) w := by
  subst hn
  exact run_convert_bytes_back (P := Try.prog) w 24 9 5 ⟨B, 0, none⟩ cap l Try.underlying24 Try.underlying5 Try.underlying9 (fun j hj => by
    rw [show (Addr.add ⟨B, 0, none⟩ j) = ⟨B, j, none⟩ from (by unfold Addr.add; cases j <;> simp)]
    exact h.2 j hj)
theorem Bytes.backs {B : Nat} {l : List UInt8} {w : World} (h : Bytes B l w) (n cap : Nat) (hn : n = l.length) (t : ByteArray) (ht : t = ⟨l.toArray⟩) :
    (convert 24 9 (.slice (some ⟨B, 0, none⟩) n cap)).run Try.prog w = .ok (.string t) w := by
  rw [ht]; exact h.back n cap hn
theorem Bytes.made (s : ByteArray) (cap : Nat) (w : World) (t : TypeId) (fr : Nat × Nat) : Bytes w.heap.size s.data.toList (w.alloc (.cells (bytesRow s cap) t fr)) := by
  refine ⟨by simp, fun j hj => ?_⟩
  rw [World.cell?_alloc_mark]
  unfold bytesRow
  simp at hj
  rw [Array.getElem?_append_left (by simpa using hj)]
  have hj' : j < s.data.size := hj
  rw [Array.getElem?_eq_getElem (by simpa using hj')]; simp
theorem Bytes.free (s : ByteArray) (cap : Nat) (w : World) (t : TypeId) : ∀ j, j < s.size → (w.alloc (.cells (bytesRow s cap) t ((bytesRow s cap).size, (bytesRow s cap).size + 1))).frozen? ⟨w.heap.size, j, none⟩ = false := by
  intro j hj
  rw [World.frozen?_alloc_mark]
  have : (bytesRow s cap).size ≥ s.size := by unfold bytesRow; simp
  simp; omega
theorem Bytes.set {B : Nat} {l : List UInt8} {w : World} (h : Bytes B l w) (K : Nat) (hK : K < l.length) (x : UInt8) : Bytes B (l.set K x) (w.setCell ⟨B, K, none⟩ (.int .u8 (x.toNat : Int))) := by
  refine ⟨by simpa using h.1, fun j hj => ?_⟩
  simp only [List.length_set] at hj
  by_cases e : K = j
  · subst e
    rw [World.cell?_setCell_same _ _ _ (h.2 K hK)]; simp
  · rw [World.cell?_setCell_other _ _ _ _ (fun c => e (by injection c)), h.2 j hj]
    simp [e]

theorem sum_all (u : ByteArray) (B : Nat) (l : List UInt8) (w0 w : World) (hu : u.size ≤ 40000) (h : Bytes B l w) (h0 : Up w0 w) : Calls Try.prog 9 #[.string u] w fun e w' => e = .returned (.int .u32 (Sm.val (Sm.run (1, 0) u.data.toList))) ∧ Bytes B l w' ∧ Up w0 w' :=
  (sum_any u w (by unfold maxLen; omega)).mono fun _ _ ⟨he, hw⟩ => ⟨he, h.up hw, h0.trans hw⟩

set_option maxRecDepth 100000 in
set_option maxHeartbeats 3200000 in
theorem sumByte_walk (s : ByteArray) (at_ x : Int) (w : World) (hs : s.size ≤ 140737488351232) (ha : (Lit.int .i64 at_).wf = true) (hx : (Lit.int .u8 x).wf = true) :
    Calls Try.prog 3 #[.string s, .int .i64 at_, .int .u8 x] w fun e w' => e = .returned (.bool true) ∧ Up w w' := by
  have ha := i64_of_wf ha
  by_cases hl : (40000 : Int) < s.size
  · go_enter Try.func3, Try.ntmps3
    go_wp2_with fail
    refine (works_any _).mono ?_; rintro e w1 ⟨rfl, h1⟩
    go_wp2_with fail
    refine (works_any _).mono ?_; rintro e w2 ⟨rfl, h2⟩
    go_wp2_with fail
    go_ret
    exact ⟨rfl, h1.trans h2⟩
  by_cases hz : ((s.size : Int) == 0) = true
  · go_enter Try.func3, Try.ntmps3
    go_wp2_with fail
    refine (works_any _).mono ?_; rintro e w1 ⟨rfl, h1⟩
    go_wp2_with fail
    refine (works_any _).mono ?_; rintro e w2 ⟨rfl, h2⟩
    go_wp2_with fail
    go_ret
    exact ⟨rfl, h1.trans h2⟩
  · have hz : ((s.size : Int) == 0) = false := by simpa using hz
    have hz' : 0 < s.size := by have := bne_iff_ne.1 (show ((s.size : Int) != 0) = true by simp [bne, hz]); omega
    obtain ⟨K, hK, eK⟩ := uint_mod at_ s.size (by omega) (by omega)
    have HeK := Lib.hid eK
    clear eK
    have kc := fun w => run_bytes_of_string (P := Try.prog) w 9 24 5 s Try.underlying9 Try.underlying24 Try.underlying5
    obtain ⟨u, hxu⟩ : ∃ u : UInt8, x = (u.toNat : Int) := ⟨UInt8.ofNat x.toNat, by have := u8_of_wf hx; rw [UInt8.toNat_ofNat']; omega⟩
    clear hx
    subst hxu
    go_enter Try.func3, Try.ntmps3
    go_wp2_with fail
    refine (works_any _).mono ?_; rintro e w1 ⟨rfl, h1⟩
    go_upto_region 4 with fail
    rw [HeK.out]
    go_cut [7] (fun b wx => ∃ B cap, b = .slice (some ⟨B, 0, none⟩) s.size cap ∧ Bytes B s.data.toList wx ∧ (∀ j, j < s.size → wx.frozen? ⟨B, j, none⟩ = false) ∧ w.heap.size ≤ B ∧ Up w wx)
    case first =>
      go_wp2
      go_meet
      case rel => exact ⟨_, _, rfl, Bytes.made s _ w1 _ _, Bytes.free s _ w1 _, h1.size, (h1.alloc _).drew⟩
    case rest =>
      obtain ⟨B, cap, rfl, hb, hf, hB, hu⟩ := hcut
      have hl1 : K < s.data.toList.length := by simpa using hK
      have hcell := hb.2 K hl1
      have hfr := hf K hK
      have hu2 := hu.setCell (p := ⟨B, K, none⟩) hB (.int .u8 (u.toNat : Int))
      have hb2 := hb.set K hl1 u
      go_upto_region 5 with fail
      go_cut [] (fun wx => Bytes B (s.data.toList.set K u) wx ∧ Up w wx)
      case first =>
        go_wp2
        go_meet
        case rel => exact ⟨hb2, hu2⟩
      case rest =>
        obtain ⟨hb3, hu3⟩ := hcut
        clear hcell hfr hb2 hu2 hb hf hB hu
        have hiff := Sm.set_iff s.data.toList K hl1 u
        obtain ⟨t, ht⟩ : ∃ t : ByteArray, t = ⟨(s.data.toList.set K u).toArray⟩ := ⟨_, rfl⟩
        have hlen : s.size = (s.data.toList.set K u).length := by simp
        have htd : t.data.toList = s.data.toList.set K u := by rw [ht]
        have hts : t.size ≤ 40000 := by rw [ht, size_mk]; simp; omega
        have hss : s.size ≤ 40000 := by omega
        obtain ⟨c, hc1, hc2⟩ : ∃ c : Bool, (t.toList == s.toList) = c ∧ (((Sm.val (Sm.run (1, 0) t.data.toList) : Nat) : Int) == ((Sm.val (Sm.run (1, 0) s.data.toList) : Nat) : Int)) = c := by
          refine ⟨_, rfl, ?_⟩
          rw [Bool.eq_iff_iff, beq_iff_eq, beq_iff_eq, ByteArray.toList_eq, ByteArray.toList_eq, htd, Int.natCast_inj, ← hiff]
        have hcv := hb3.drew.backs s.size cap hlen t ht
        have Ht := Lib.hid ht
        have Hlen := Lib.hid hlen
        clear hiff htd ht hlen
        go_upto_region 6 with fail
        go_cut [45] (fun b wx => b = .bool false ∧ Up w wx)
        case first =>
          cases c
          all_goals
            go_region_with (go_at_call 9; refine (sum_all _ B (s.data.toList.set K u) w _ (by assumption) (by first | assumption | exact Bytes.drew (by assumption)) (by first | assumption | exact Up.drew (by assumption))).mono ?_; rintro e w5 ⟨rfl, hb5, hu5⟩; have hcv5 := hb5.backs s.size cap Hlen.out t Ht.out)
            all_goals (go_wp2_with fail; go_meet; exact ⟨rfl, by assumption⟩)
        case rest =>
          obtain ⟨rfl, hu4⟩ := hcut
          clear hcv hc1 hc2 hb3 hu3
          by_cases hk1 : K + 1 < s.size
          · go_upto_region 10 with fail
            go_cut [8] (fun b wx => ∃ B cap, b = .slice (some ⟨B, 0, none⟩) s.size cap ∧ Bytes B s.data.toList wx ∧ (∀ j, j < s.size → wx.frozen? ⟨B, j, none⟩ = false) ∧ w.heap.size ≤ B ∧ Up w wx)
            case first =>
              go_wp2
              go_meet
              case rel => exact ⟨_, _, rfl, Bytes.made s _ _ _ _, Bytes.free s _ _ _, hu4.size, (hu4.alloc _).drew⟩
            case rest =>
              obtain ⟨D, cap2, rfl, hb, hf, hB, hu⟩ := hcut
              have hl2 : K + 1 < s.data.toList.length := by simpa using hk1
              have hcell1 := hb.2 K hl1
              have hcell2 := hb.2 (K + 1) hl2
              have hfr1 := hf K hK
              have hfr2 := hf (K + 1) hk1
              obtain ⟨p, hp⟩ : ∃ p : UInt8, s.data.toList[K] = p := ⟨_, rfl⟩
              obtain ⟨q, hq⟩ : ∃ q : UInt8, s.data.toList[K + 1] = q := ⟨_, rfl⟩
              have hsw : (s.data.toList.set K q).set (K + 1) p = Sm.swap s.data.toList K := by
                unfold Sm.swap; rw [getElem!_pos s.data.toList K hl1, getElem!_pos s.data.toList (K + 1) hl2, hp, hq]
              rw [hp] at hcell1
              rw [hq] at hcell2
              clear hp hq
              have hb2 := ((hb.set K hl1 q).set (K + 1) (by simpa using hl2) p)
              rw [hsw] at hb2
              have hu2 := (hu.setCell (p := ⟨D, K, none⟩) hB (.int .u8 (q.toNat : Int))).setCell (p := ⟨D, K + 1, none⟩) hB (.int .u8 (p.toNat : Int))
              clear hsw
              go_upto_region 11 with fail
              go_cut [] (fun wx => Bytes D (Sm.swap s.data.toList K) wx ∧ Up w wx)
              case first =>
                go_region
                all_goals (go_wp2_with fail; go_meet; exact ⟨hb2.drew, hu2.drew⟩)
              case rest =>
                obtain ⟨hb3, hu3⟩ := hcut
                clear hcell1 hcell2 hfr1 hfr2 hb2 hu2 hb hf hB hu
                have hiff := Sm.swap_iff s.data.toList K hl2
                have hlen : s.size = (Sm.swap s.data.toList K).length := by unfold Sm.swap; simp
                obtain ⟨t, ht⟩ : ∃ t : ByteArray, t = ⟨(Sm.swap s.data.toList K).toArray⟩ := ⟨_, rfl⟩
                have htd : t.data.toList = Sm.swap s.data.toList K := by rw [ht]
                have hts : t.size ≤ 40000 := by rw [ht, size_mk, ← hlen]; omega
                obtain ⟨c, hc1, hc2⟩ : ∃ c : Bool, (t.toList == s.toList) = c ∧ (((Sm.val (Sm.run (1, 0) t.data.toList) : Nat) : Int) == ((Sm.val (Sm.run (1, 0) s.data.toList) : Nat) : Int)) = c := by
                  refine ⟨_, rfl, ?_⟩
                  rw [Bool.eq_iff_iff, beq_iff_eq, beq_iff_eq, ByteArray.toList_eq, ByteArray.toList_eq, htd, Int.natCast_inj, ← hiff]
                have hcv := hb3.drew.backs s.size cap2 hlen t ht
                have Ht2 := Lib.hid ht
                have Hlen2 := Lib.hid hlen
                clear hiff htd ht hlen
                go_upto_region 12 with fail
                cases c
                all_goals
                  go_region_with (go_at_call 9; refine (sum_all _ D (Sm.swap s.data.toList K) w _ (by assumption) (by first | assumption | exact Bytes.drew (by assumption)) (by first | assumption | exact Up.drew (by assumption))).mono ?_; rintro e w5 ⟨rfl, hb5, hu5⟩; have hcv5 := hb5.backs s.size cap2 Hlen2.out t Ht2.out)
                  all_goals
                    go_wp2_with fail
                    go_ret
                    exact ⟨rfl, by assumption⟩
          · go_wp2_with fail
            go_ret
            exact ⟨rfl, hu4⟩
end Go.Proofs.Ytpmbjmgimphejaa
