/- vars.Way: what vars.way gives, collected. -/
import Derived.Test.YtamnfdmmjjekhaaVrPlace
namespace Go.Proofs.Ytamnfdmmjjekhaa
open Go Go.RowKit Go.Maps Go.Lib Go.Shelf
attribute [local go_sem] Oper.semAt_some
set_option linter.unusedVariables false
set_option linter.unusedSimpArgs false
theorem infoInt : (Try.prog.info? 3).map (fun i => (i.zero, i.size, i.bytes)) = some (some (.int .i64 0), 1, 8) := by kernel_rfl
/-- the blocks of cells of that type stand -/
def KT (it : TypeId) (A B : World) : Prop := ∀ (b : Nat) cs fr, A.heap[b]? = some (Obj.cells cs it fr) → B.heap[b]? = A.heap[b]?
theorem KT.refl (it : TypeId) (A : World) : KT it A A := fun _ _ _ _ => rfl
theorem KT.trans {it : TypeId} {A B C : World} (h : KT it A B) (k : KT it B C) : KT it A C := fun b cs fr hb => by rw [k b cs fr (by rw [h b cs fr hb]; exact hb), h b cs fr hb]
theorem KT.below {it : TypeId} {A B : World} (h : Below A.heap.size A B) : KT it A B := fun b cs fr hb => h.block b (Array.getElem?_eq_some_iff.1 hb).1
/-- an append turns no block of another type -/
theorem items_appended {W w1 : World} {n₀ B : Nat} {t e : TypeId} {size : Nat} {v v' : Value} {k : Nat} {xs : List Value} {tmp : Obj} {it : TypeId}
    (hv : Boxed W B t v) (hrow : W.ownsRow n₀ e size v k xs) (hgrow : (W.alloc tmp).grownBy w1 v.ownBlock) (ht : t ≠ it) (he : e ≠ it) : KT it W (w1.setCell ⟨B, 0, none⟩ v') := fun b cs fr hb => by
  have hlt := (Array.getElem?_eq_some_iff.1 hb).1
  have h1 : b ≠ B := by
    rintro rfl
    rw [show W.heap[b]? = _ from hv] at hb
    simp at hb
    exact ht hb.2.1
  have h2 : some b ≠ v.ownBlock := by
    rcases hrow.2 with ⟨rfl, _⟩ | ⟨g, cap, cur, rfl, _, hgb, _⟩
    · simp [Value.ownBlock]
    · intro e'
      obtain rfl : b = g := by simpa [Value.ownBlock] using e'
      rw [hgb] at hb
      simp at hb
      exact he hb.2.1
  rw [show (w1.setCell ⟨B, 0, none⟩ v').heap[b]? = w1.heap[b]? from Below.heap_setCell _ _ _ b h1, hgrow.block b (by simp; omega) h2]
  exact Below.heap_alloc W tmp b hlt
theorem keepsOthers_walks {W W' : World} (h : KeepsOthers W W') : KeepsWalks W W' := ⟨h.size, fun k o hk ho => h.same k o hk (by cases o <;> first | rfl | cases ho)⟩
set_option maxRecDepth 100000 in
set_option maxHeartbeats 2000000 in
/-- slices.AppendSeq of nothing, and what vars.way handed back -/
theorem appendSeq_in (n : Nat) (hn : 5 ≤ n) (S : Vr.StV) (its : List Vr.It) (hl : its.length ≤ 1000000) (hups : ∀ x ∈ its, (Lit.int .i64 x.up).wf = true) (sc : Int) (hsc : (Lit.int .i64 sc).wf = true) (Bs Ss : Nat) (w : World)
    (hc : w.heap[Bs]? = some (.cells #[.int .i64 sc] 3)) (hs : w.heap[Ss]? = some (stCells S)) (hS : SF.SlW w S.i.a S.i.n S.i.c 8 (its.flatMap Vr.It.enc)) :
    CallsIn Fence.wide n Try.prog 46 #[.slice none 0 0, .func (.func 47) #[] #[.pointer (some ⟨Bs, 0, none⟩), .pointer (some ⟨Ss, 0, none⟩)]] w fun e W' => ∃ v, e = .returned v ∧ W'.ownsRow w.heap.size 3 1 v (Vr.way its sc).length ((Vr.way its sc).map (Value.int .i64)) ∧ Below w.heap.size w W' := by
  have h1 : 1 ≤ n := by omega
  obtain ⟨i0, hi, hz0, hz1, hz2⟩ := info_parts infoInt
  refine callsIn_of_wp_marks Try.func46 rfl trivial ?_ rfl
  simp only [Try.ntmps46, List.size_toArray, List.length_cons, List.length_nil, Nat.reduceAdd, Nat.reduceSub, Array.replicate_succ, Array.replicate_zero, List.push_toArray, List.append_toArray, List.nil_append, List.cons_append]
  gi_wp2
  have bO := Boxed.new w 32 (.slice none 0 0)
  have hB0 : Below w.heap.size w (w.alloc (.cells #[.slice none 0 0] 32)) := (Below.refl _ w).alloc (Nat.le_refl _) _
  have hBs := (Array.getElem?_eq_some_iff.1 hc).1
  have hSs := (Array.getElem?_eq_some_iff.1 hs).1
  have hSI : SF.SlAt (w.alloc (.cells #[.slice none 0 0] 32)) (fun b => b < w.heap.size) S.i.a S.i.n S.i.c 8 (its.flatMap Vr.It.enc) := by
    obtain ⟨h1, h2, h3⟩ := hS
    refine ⟨h1, h2, ?_⟩
    rcases h3 with h | ⟨b, o, e, _, hb, hc⟩
    · exact .inl h
    · exact .inr ⟨b, o, e, hb, by simp; omega, fun j u hu => (hB0.cell (p := ⟨b, o + j, none⟩) hb).trans (hc j u hu)⟩
  refine wpIn_rangeFunc_ownG rfl h1 (gf := 47) (lb := #[.pointer (some ⟨Bs, 0, none⟩), .pointer (some ⟨Ss, 0, none⟩)]) rfl trivial (enters_of Try.func47 (by kernel_rfl) rfl)
    (way_stops (n - 1) (by omega) S its hl hups sc hsc Bs Ss (fun k => k < w.heap.size) _ (fun k hk => by simp; omega) hBs hSs (heap_old hc _) (heap_old hs _) hSI) (fun h k => h.trans k) (fun W l o o' hl h hc hw => Kw.putObj (n₀ := (w.alloc (.cells #[.slice none 0 0] 32)).heap.size) (fun k hk => by simp; omega) W l o o' hl h hc hw) (Below.refl _ _) (fun _ => rfl)
    (fun (pre : List Int) W => (∃ v, Boxed W w.heap.size 32 v ∧ W.ownsRow w.heap.size 3 1 v pre.length (pre.map (Value.int .i64)) ∧ True) ∧ Below w.heap.size w W)
    (fun _ _ _ => False)
    (OwnFrom.and (Own.from (holdsRow_own w.heap.size w.heap.size 32 3 1 (fun pre : List Int => pre.length) (fun pre => pre.map (Value.int .i64)) (fun pre v => True)) _) (ownFrom_below (Nat.le_refl _) (by simp)))
    (fun _ _ _ _ _ hs _ _ => hs)
    ⟨⟨_, bO, World.ownsRow_nil _ _ _ _, trivial⟩, hB0⟩
    (fun x => { tmps := #[.slice none 0 0, .func (.func 47) #[] #[.pointer (some ⟨Bs, 0, none⟩), .pointer (some ⟨Ss, 0, none⟩)], .pointer (some ⟨w.heap.size, 0, none⟩), undef, .slice none 0 0, .int .i64 x, .func (.func 47) #[] #[.pointer (some ⟨Bs, 0, none⟩), .pointer (some ⟨Ss, 0, none⟩)], .int .i64 x, undef, undef, undef, undef, undef], defers := [] }) ?assign ?body ?done ?stop
  case assign =>
    intro l x W K hK
    gi_wp2
    exact hK
  case body =>
    rintro l pre x W ⟨⟨v, hv, hrow, _⟩, hB⟩ hlt
    have hc := hv.cell
    gi_wp2_with (gi_at_builtin; refine wpListIn_append_own _ rfl _ _ 32 rfl w.heap.size 3 i0 (.int .i64 0) 1 8 Try.underlying32 hi hz0 hz1 hz2 rfl (by decide) _ _ _ rfl (hrow.alloc _) ⟨W.heap.size, 0, none⟩ 1 1 [.int .i64 x] rfl rfl (cell_one_new _ _ _) (by simp [Value.oneCell']) (by unfold maxLen; omega) (by omega) (by have := hB.size; simp; omega) ?_; intro v' w1 hown' hgrow _; obtain ⟨g', cap', rfl⟩ := ownsRow_succ hown'; obtain ⟨hv1, hv2, hr2, hk2, hb2⟩ := hv.appended (by decide) hrow hB.size (Nat.le_refl _) hown' hgrow; have hc1 := hv1.cell; have hf1 := hv1.frozen; have hit := items_appended (it := 54) (v' := .slice (some ⟨g', 0, none⟩) (pre.length + 1) cap') hv hrow hgrow (by decide) (by decide))
    exact ⟨hk2.from _, ⟨KB.of_below hb2 (fun _ h => h), keepsOthers_walks hk2, hit⟩, ⟨_, hv2, by simpa using hr2, trivial⟩, hB.trans hb2⟩
  case done =>
    rintro D ys W hD rfl ⟨⟨v, hv, hrow, _⟩, hB⟩ hK
    have hc := hv.cell
    gi_wp2
    refine ⟨by simp, .inl ⟨_, _, rfl, run_takeDeferred hK, ?_⟩⟩
    exact ⟨_, results_tmp rfl _ _ _, v, rfl, ownsRow_putObj hrow _ hK rfl, hB.trans (belowK_b (w := w) (Nat.le_refl _) W D _ _ (by simp at hD; omega) hK rfl rfl)⟩
  case stop =>
    rintro D c pre W _ _ h _
    exact h.elim
set_option maxRecDepth 100000 in
set_option maxHeartbeats 2000000 in
theorem collect_in (n : Nat) (hn : 6 ≤ n) (S : Vr.StV) (its : List Vr.It) (hl : its.length ≤ 1000000) (hups : ∀ x ∈ its, (Lit.int .i64 x.up).wf = true) (sc : Int) (hsc : (Lit.int .i64 sc).wf = true) (Bs Ss : Nat) (w : World)
    (hc : w.heap[Bs]? = some (.cells #[.int .i64 sc] 3)) (hs : w.heap[Ss]? = some (stCells S)) (hS : SF.SlW w S.i.a S.i.n S.i.c 8 (its.flatMap Vr.It.enc)) :
    CallsIn Fence.wide n Try.prog 33 #[.func (.func 47) #[] #[.pointer (some ⟨Bs, 0, none⟩), .pointer (some ⟨Ss, 0, none⟩)]] w fun e W' => ∃ v, e = .returned v ∧ W'.ownsRow w.heap.size 3 1 v (Vr.way its sc).length ((Vr.way its sc).map (Value.int .i64)) ∧ Below w.heap.size w W' := by
  have h1 : 1 ≤ n := by omega
  have hfA : Fence.wide.fn 46 := trivial
  refine callsIn_of_wp Try.func33 rfl trivial ?_ rfl
  simp only [Try.ntmps33, List.size_toArray, List.length_cons, List.length_nil, Nat.reduceAdd, Nat.reduceSub, Array.replicate_succ, Array.replicate_zero, List.push_toArray, List.append_toArray, List.nil_append, List.cons_append]
  gi_wp2_with (gi_at_call 46; refine (appendSeq_in (n - 1) (by omega) S its hl hups sc hsc Bs Ss w hc hs hS).mono ?_; rintro e W ⟨v, rfl, hrow, hb⟩)
  go_ret
  exact ⟨_, rfl, hrow, hb⟩
set_option maxRecDepth 100000 in
set_option maxHeartbeats 2000000 in
theorem wayL_in (n : Nat) (hn : 7 ≤ n) (S : Vr.StV) (its : List Vr.It) (hl : its.length ≤ 1000000) (hups : ∀ x ∈ its, (Lit.int .i64 x.up).wf = true) (sc : Int) (hsc : (Lit.int .i64 sc).wf = true) (w : World) (hS : SF.SlW w S.i.a S.i.n S.i.c 8 (its.flatMap Vr.It.enc)) :
    CallsIn Fence.wide n Try.prog 12 #[S.val, .int .i64 sc] w fun e W' => ∃ v, e = .returned v ∧ W'.ownsRow w.heap.size 3 1 v (Vr.way its sc).length ((Vr.way its sc).map (Value.int .i64)) ∧ Below w.heap.size w W' := by
  have h1 : 1 ≤ n := by omega
  have hfA : Fence.wide.fn 33 := trivial
  have hfW : Fence.wide.fn 34 := trivial
  refine callsIn_of_wp Try.func12 rfl trivial ?_ rfl
  simp only [Try.ntmps12, List.size_toArray, List.length_cons, List.length_nil, Nat.reduceAdd, Nat.reduceSub, Array.replicate_succ, Array.replicate_zero, List.push_toArray, List.append_toArray, List.nil_append, List.cons_append]
  have hway := way_in (n - 1) S sc
  unfold Vr.StV.val at hway ⊢
  have hcol : ∀ o, CallsIn Fence.wide (n - 1) Try.prog 33 #[.func (.func 47) #[] #[.pointer (some ⟨w.heap.size + 1 + 1, 0, none⟩), .pointer (some ⟨w.heap.size + 1, 0, none⟩)]] (((w.alloc o).alloc (stCells S)).alloc (.cells #[.int .i64 sc] 3)) fun e W' => ∃ v, e = .returned v ∧ W'.ownsRow w.heap.size 3 1 v (Vr.way its sc).length ((Vr.way its sc).map (Value.int .i64)) ∧ Below w.heap.size w W' := fun o => by
    have hB : Below w.heap.size w (((w.alloc o).alloc (stCells S)).alloc (.cells #[.int .i64 sc] 3)) := (((Below.refl _ w).alloc (Nat.le_refl _) _).alloc (by simp) _).alloc (by simp; omega) _
    refine (collect_in (n - 1) (by omega) S its hl hups sc hsc (w.heap.size + 1 + 1) (w.heap.size + 1) _ (new_at _ (by simp)) (heap_old (new_at _ (by simp)) _) ?_).mono ?_
    · obtain ⟨h1, h2, h3⟩ := hS
      refine ⟨h1, h2, ?_⟩
      rcases h3 with h | ⟨b, o', e, _, hb, hc⟩
      · exact .inl h
      · exact .inr ⟨b, o', e, trivial, Nat.lt_of_lt_of_le hb hB.size, fun j u hu => (hB.cell (p := ⟨b, o' + j, none⟩) hb).trans (hc j u hu)⟩
    · rintro e W' ⟨v, rfl, hr, hb⟩
      refine ⟨v, rfl, ⟨hr.1, hr.2.imp id ?_⟩, hB.trans (hb.mono (by simp; omega))⟩
      rintro ⟨g, cap, cur, a, b, c⟩
      exact ⟨g, cap, cur, a, by simp at b; omega, c⟩
  gi_wp2_with (first | (gi_at_call 34; refine (hway _).mono ?_; rintro e w' ⟨rfl, rfl⟩) | (gi_at_call 33; refine (hcol _).mono ?_; rintro e W ⟨v, rfl, hrow, hb⟩))
  go_ret
  exact ⟨_, rfl, hrow, hb⟩
end Go.Proofs.Ytamnfdmmjjekhaa
namespace Go.Proofs.Ytamnfdmmjjekhaa
open Go Go.RowKit Go.SF
/-- a call hands over a new list of numbers -/
def NewInts (w0 w' : World) (v : Value) (l : List Int) : Prop := ∃ a c, v = .slice a l.length c ∧ SlAt w' (fun b => w0.heap.size ≤ b) a l.length c 1 (l.map (Value.int .i64))
theorem wayL_i (S : Vr.StV) (its : List Vr.It) (hl : its.length ≤ 1000000) (hups : ∀ x ∈ its, (Lit.int .i64 x.up).wf = true) (sc : Int) (hsc : (Lit.int .i64 sc).wf = true) (W : Wd) (hS : SlW W.w S.i.a S.i.n S.i.c 8 (its.flatMap Vr.It.enc)) :
    CallsI Try.prog 12 #[S.val, .int .i64 sc] W.all fun v w' => NewInts W.w w' v (Vr.way its sc) :=
  Calls.mono (callsIn_wide.1 (wayL_in 7 (Nat.le_refl _) S its hl hups sc hsc W.w hS)) fun e w' ⟨v, he, hr, hb⟩ => by
    subst he
    refine ⟨Keeps.of_below hb, v, rfl, ?_⟩
    rcases hr.2 with ⟨rfl, h0⟩ | ⟨g, cap, cur, rfl, _⟩
    · refine ⟨none, 0, ?_, ?_⟩
      · rw [h0]
      · have := owns_sl hr
        rw [h0] at *; exact this
    · exact ⟨_, cap, rfl, owns_sl hr⟩
end Go.Proofs.Ytamnfdmmjjekhaa
