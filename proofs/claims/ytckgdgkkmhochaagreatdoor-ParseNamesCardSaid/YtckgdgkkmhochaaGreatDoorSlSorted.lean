/- slices.Values, slices.Sorted and slices.Compact at strings, as the walks want them. -/
import Derived.Test.YtckgdgkkmhochaaGreatDoorSlSeq
import Derived.Test.YtckgdgkkmhochaaGreatDoorSfE
import Derived.Test.YtckgdgkkmhochaaGreatDoorPxNamesP
import Derived.Test.YtckgdgkkmhochaaGreatDoorShelf
namespace Go.Proofs.YtckgdgkkmhochaaGreatDoor
open Go Go.RowKit Go.Shelf Go.Proofs Go.Sort
attribute [local go_sem] Oper.semAt_some
set_option linter.unusedVariables false
set_option linter.unusedSimpArgs false

set_option maxRecDepth 100000 in
set_option maxHeartbeats 2000000 in
theorem collect_in (n : Nat) (hn : 4 ≤ n) (Bs : Nat) (sv : Value) (zs : List (List UInt8)) (hlen : zs.length ≤ maxLen) (hbytes : zs.length * 16 ≤ 140737488351232) (w : World) (hBs : Bs < w.heap.size)
    (hcs : w.cell? ⟨Bs, 0, none⟩ = some sv) (hI : StrsB w.heap.size w sv zs) :
    CallsIn Fence.wide n Tryz.prog 47 #[.func (.func 49) #[] #[.pointer (some ⟨Bs, 0, none⟩)]] w fun e W' => ∃ v, e = .returned v ∧ W'.ownsRow w.heap.size 9 1 v zs.length (zs.map strB) ∧ (v = .slice none 0 0 ↔ zs = []) ∧ Below w.heap.size w W' := by
  have h1 : 1 ≤ n := by omega
  have hfA : Fence.wide.fn 71 := trivial
  refine callsIn_of_wp Tryz.func47 rfl trivial ?_ rfl
  simp only [Tryz.ntmps47, List.size_toArray, List.length_cons, List.length_nil, Nat.reduceAdd, Nat.reduceSub, Array.replicate_succ, Array.replicate_zero, List.push_toArray, List.append_toArray, List.nil_append, List.cons_append]
  gi_wp2_with (gi_at_call 71; refine (appendSeq_in Fence.wide (n - 1) trivial trivial rfl (by omega) Bs sv zs hlen hbytes w hBs hcs hI).mono ?_; rintro e W ⟨v, rfl, hrow, hnil, hb⟩)
  go_ret
  exact ⟨_, rfl, hrow, hnil, hb⟩
set_option maxRecDepth 100000 in
set_option maxHeartbeats 2000000 in
theorem sorted_in (n : Nat) (hn : 5 ≤ n) (Bs : Nat) (sv : Value) (zs : List (List UInt8)) (hlen : zs.length ≤ maxLen) (hbytes : zs.length * 16 ≤ 140737488351232) (w : World) (hBs : Bs < w.heap.size)
    (hcs : w.cell? ⟨Bs, 0, none⟩ = some sv) (hI : StrsB w.heap.size w sv zs) :
    CallsIn Fence.wide n Tryz.prog 33 #[.func (.func 49) #[] #[.pointer (some ⟨Bs, 0, none⟩)]] w fun e W' => ∃ v, e = .returned v ∧ W'.ownsRow w.heap.size 9 1 v zs.length ((Px.sortB zs).map strB) ∧ (v = .slice none 0 0 ↔ zs = []) ∧ Below w.heap.size w W' := by
  have h1 : 1 ≤ n := by omega
  have hfA : Fence.wide.fn 47 := trivial
  have hfB : Fence.wide.fn 48 := trivial
  refine callsIn_of_wp Tryz.func33 rfl trivial ?_ rfl
  simp only [Tryz.ntmps33, List.size_toArray, List.length_cons, List.length_nil, Nat.reduceAdd, Nat.reduceSub, Array.replicate_succ, Array.replicate_zero, List.push_toArray, List.append_toArray, List.nil_append, List.cons_append]
  gi_wp2_with (gi_at_call 47; refine (collect_in (n - 1) (by omega) Bs sv zs hlen hbytes w hBs hcs hI).mono ?_; rintro e W ⟨v, rfl, hrow, hnil, hb⟩)
  rcases hrow.2 with ⟨rfl, hz⟩ | ⟨gb, cap, cur, rfl, hbase, hgb, r1, r2, r3, r4⟩
  · have hss : zs = [] := List.eq_nil_of_length_eq_zero hz
    subst hss
    gi_wp2_with (gi_at_call 48; refine (callsIn_wide.2 (Tryz.slices_Sort_string_none none 0 W)).mono ?_; rintro e w' ⟨rfl, rfl⟩)
    go_ret
    exact ⟨.slice none 0 0, rfl, by simpa [Px.sortB] using hrow, by simp, hb⟩
  · have hH : Holds encStr W gb 0 zs.toArray := holds_of_block hgb (by
      have : strB = encStr := rfl
      rw [this] at r4; simpa using r4)
    have hgl : gb < W.heap.size := (Array.getElem?_eq_some_iff.1 hgb).1
    have hsz : zs.length < 4611686018427387904 := by omega
    have cS := Tryz.slices_Sort_string gb 0 cap zs W hH hgl hsz
    gi_wp2_with (gi_at_call 48; refine (callsIn_wide.2 cS).mono ?_; rintro e w' ⟨rfl, nn, os, rfl⟩)
    go_ret
    exact ⟨_, rfl, ownsRow_sorted (by simp) hbase hgb r1 r2 r3, hnil, hb.grown (grownBy_sorted _) hb.size (fun j hj => by cases hj; exact hbase)⟩
set_option maxHeartbeats 1000000 in
theorem values_in (a : Option Addr) (len cap : Nat) (w : World) :
    CallsIn Fence.wide 3 Tryz.prog 34 #[.slice a len cap] w fun e w' => e = .returned (.func (.func 49) #[] #[.pointer (some ⟨w.heap.size, 0, none⟩)]) ∧ w' = w.alloc (.cells #[.slice a len cap] 31) := by
  refine callsIn_of_wp Tryz.func34 rfl trivial ?_ rfl
  simp only [Tryz.ntmps34, List.size_toArray, List.length_cons, List.length_nil, Nat.reduceAdd, Nat.reduceSub, Array.replicate_succ, Array.replicate_zero, List.push_toArray, List.append_toArray, List.nil_append, List.cons_append]
  gi_wp2
  go_ret
  exact ⟨rfl, rfl⟩
end Go.Proofs.YtckgdgkkmhochaaGreatDoor
namespace Go.Proofs.YtckgdgkkmhochaaGreatDoor
open Go Go.RowKit Go.SF Go.Shelf Go.Sort
set_option linter.unusedVariables false
set_option linter.unusedSimpArgs false
theorem values_i (a : Option Addr) (len cap : Nat) (W : Wd) : CallsI Tryz.prog 34 #[.slice a len cap] W.all (fun v w' => v = .func (.func 49) #[] #[.pointer (some ⟨W.w.heap.size, 0, none⟩)] ∧ w'.heap[W.w.heap.size]? = some (.cells #[.slice a len cap] 31 (0, 0))) :=
  Calls.mono (callsIn_wide.1 (values_in a len cap W.w)) fun e w' ⟨he, hw⟩ => by
    subst he hw
    exact ⟨Keeps.of_below ((Below.refl _ _).alloc (Nat.le_refl _) _), _, rfl, rfl, World.alloc_heap_new _ _⟩
theorem sorted_i (Bs : Nat) (sv : Value) (zs : List (List UInt8)) (hlen : zs.length ≤ 1000000000) (W : Wd) (hcs : W.w.cell? ⟨Bs, 0, none⟩ = some sv) (hBs : Bs < W.w.heap.size) (hI : StrsB W.w.heap.size W.w sv zs) :
    CallsI Tryz.prog 33 #[.func (.func 49) #[] #[.pointer (some ⟨Bs, 0, none⟩)]] W.all (fun v w' => w'.ownsRow W.w.heap.size 9 1 v zs.length ((Px.sortB zs).map strB)) :=
  Calls.mono (callsIn_wide.1 (sorted_in 5 (Nat.le_refl _) Bs sv zs (by simp [maxLen]; omega) (by omega) W.w hBs hcs hI)) fun e w' ⟨v, he, hrow, hnil, hb⟩ => by
    subst he
    exact ⟨Keeps.of_below hb, _, rfl, hrow⟩
theorem compact_e (W : Wd) (n0 : Nat) (v : Value) (zs : List Lx.Bs) (ms : List Nat) (hr : W.w.ownsRow n0 9 1 v zs.length (zs.map strB)) (hz : zs.length ≤ 8796093022208) (hms : ∀ k, v.ownBlock = some k → k ∈ ms) :
    CallsE Tryz.prog 32 #[v] (W.but ms) (Ret fun u w' => (∃ a c, u = .slice a (Px.once zs).length c) ∧ (u.ownBlock = v.ownBlock) ∧ w'.ownsRow n0 9 1 u (Px.once zs).length ((Px.once zs).map strB)) := by
  rcases hr.2 with ⟨rfl, h0⟩ | ⟨g, cap, cur, rfl, hbase, hgb, r1, r2, r3, r4⟩
  · have hss : zs = [] := List.eq_nil_of_length_eq_zero h0
    subst hss
    refine Calls.mono (Tryz.slices_Compact_string_empty none 0 W.w) fun e w' ⟨he, hw⟩ => ?_
    subst he hw
    exact ⟨⟨rfl, rfl, rfl, Nat.le_refl _, fun _ _ => rfl⟩, _, rfl, ⟨none, 0, rfl⟩, rfl, by simpa [Px.once] using hr⟩
  · have hH : Holds encStr W.w g 0 zs.toArray := holds_of_block hgb (by
      have : strB = encStr := rfl
      rw [this] at r4; simpa using r4)
    have hlen := Px.len_once zs
    refine Calls.mono (Tryz.slices_Compact_string g 0 cap zs W.w hH (by omega) r1) fun e w' ⟨he, q, hw⟩ => ?_
    rw [Px.compact_once] at he hw
    obtain ⟨ts, hts⟩ : ∃ ts, ts = Px.once zs ++ List.replicate (zs.length - (Px.once zs).length) ([] : List UInt8) := ⟨_, rfl⟩
    have hl : ts.length = zs.length := by rw [hts]; simp; omega
    rw [← hts] at hw
    have hw : w' = grow (putRow encStr (Sort.ahead W.w q) g 0 ts.toArray) #[] := by rw [hw]; unfold grow; simp only [Array.append_empty]
    have ho := ownsRow_sorted (base := n0) (n := q) (os := #[]) (ts := ts) (ss := zs) hl hbase hgb r1 r2 r3
    have hg := grownBy_sorted (w := W.w) (n := q) (g := g) (os := #[]) ts.toArray
    subst he
    rw [← hw] at ho hg
    refine ⟨⟨hg.os, hg.tape, hg.output, hg.size, fun b hb => hg.block b hb.1 fun e => hb.2 (hms b (by rw [e]; rfl))⟩, _, rfl, ⟨_, _, rfl⟩, rfl, ?_⟩
    rcases ho.2 with ⟨h1, _⟩ | ⟨g', cap', cur', hv, hb', hgb', k1, k2, k3, k4⟩
    · cases h1
    · simp only [Value.slice.injEq, Option.some.injEq, Addr.mk.injEq, and_true, true_and] at hv
      obtain ⟨rfl, rfl⟩ := hv
      refine ⟨by simp, .inr ⟨g, cap, cur', rfl, hb', hgb', by omega, k2, k3, ?_⟩⟩
      have : (cur'.toList.take (zs.length * 1)).take ((Px.once zs).length * 1) = (ts.map encStr).take ((Px.once zs).length * 1) := by rw [k4]
      rw [List.take_take, Nat.min_eq_left (by omega)] at this
      rw [this, hts, List.map_append, List.take_left' (by simp)]
      rfl
end Go.Proofs.YtckgdgkkmhochaaGreatDoor
