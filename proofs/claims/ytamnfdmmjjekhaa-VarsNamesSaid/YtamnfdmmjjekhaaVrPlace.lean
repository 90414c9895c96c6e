/- vars.way and vars.place: the walks. -/
import Derived.Test.YtamnfdmmjjekhaaVrWay
import Derived.RangeFuncBox
import Derived.Shelf.Abstract
namespace Vr
open Go
/-- the first scope on the way that has the cell tells which -/
def placeW (cs : List Ce) (nm : Bs) : List Int → Int
  | [] => -1
  | id :: t => if 0 ≤ idx (isCe id nm) cs then idx (isCe id nm) cs else placeW cs nm t
theorem placeW_none {cs : List Ce} {nm : Bs} : ∀ {w : List Int}, (∀ id ∈ w, idx (isCe id nm) cs < 0) → placeW cs nm w = -1
  | [], _ => rfl
  | id :: t, h => by
    unfold placeW
    rw [if_neg (Int.not_le.2 (h id (List.mem_cons_self ..)))]
    exact placeW_none fun x hx => h x (List.mem_cons_of_mem _ hx)
theorem placeW_hit {cs : List Ce} {nm : Bs} {id : Int} : ∀ {p t : List Int}, (∀ x ∈ p, idx (isCe x nm) cs < 0) → 0 ≤ idx (isCe id nm) cs → placeW cs nm (p ++ id :: t) = idx (isCe id nm) cs
  | [], t, _, h => by simp [placeW, h]
  | x :: p, t, hp, h => by
    rw [List.cons_append]
    unfold placeW
    rw [if_neg (Int.not_le.2 (hp x (List.mem_cons_self ..)))]
    exact placeW_hit (fun y hy => hp y (List.mem_cons_of_mem _ hy)) h
def place (its : List It) (cs : List Ce) (sc : Int) (nm : Bs) : Int := placeW cs nm (way its sc)
end Vr
namespace Go.Proofs.Ytamnfdmmjjekhaa
open Go Go.RowKit Go.Maps Go.Lib Go.Shelf
attribute [local go_sem] Oper.semAt_some
set_option linter.unusedVariables false
set_option linter.unusedSimpArgs false
def stCells (S : Vr.StV) : Obj := .cells #[.int .i64 S.ck, .int .i64 S.nx, .slice S.d.a S.d.n S.d.c, .slice S.i.a S.i.n S.i.c, .slice S.c.a S.c.n S.c.c, .slice S.h.a S.h.n S.h.c] 27
set_option maxHeartbeats 1000000 in
theorem way_in (n : Nat) (S : Vr.StV) (sc : Int) (w : World) :
    CallsIn Fence.wide n Try.prog 34 #[S.val, .int .i64 sc] w fun e w' => e = .returned (.func (.func 47) #[] #[.pointer (some ⟨w.heap.size + 1, 0, none⟩), .pointer (some ⟨w.heap.size, 0, none⟩)]) ∧ w' = (w.alloc (stCells S)).alloc (.cells #[.int .i64 sc] 3) := by
  refine callsIn_of_wp Try.func34 rfl trivial ?_ rfl
  simp only [Try.ntmps34, List.size_toArray, List.length_cons, List.length_nil, Nat.reduceAdd, Nat.reduceSub, Array.replicate_succ, Array.replicate_zero, List.push_toArray, List.append_toArray, List.nil_append, List.cons_append]
  unfold stCells Vr.StV.val
  gi_wp2
  go_ret
  exact ⟨by simp, rfl⟩
theorem heap_old {w : World} {k : Nat} {o : Obj} (h : w.heap[k]? = some o) (o' : Obj) : (w.alloc o').heap[k]? = some o := (Below.heap_alloc w o' k (Array.getElem?_eq_some_iff.1 h).1).trans h
theorem new_at {w : World} {k : Nat} (o : Obj) (hk : k = w.heap.size) : (w.alloc o).heap[k]? = some o := hk ▸ World.alloc_heap_new w o
theorem five {w W : World} {o0 o1 o2 o3 o4 : Obj} (h : ((((w.alloc o0).alloc o1).alloc o2).alloc o3).alloc o4 = W) : W.heap.size = w.heap.size + 5 ∧ Below w.heap.size w W ∧ W.heap[w.heap.size]? = some o0 ∧ W.heap[w.heap.size + 1]? = some o1 ∧ W.heap[w.heap.size + 1 + 1]? = some o2 ∧ W.heap[w.heap.size + 1 + 1 + 1]? = some o3 ∧ W.heap[w.heap.size + 1 + 1 + 1 + 1]? = some o4 := by
  subst h
  refine ⟨by simp, (((((Below.refl _ w).alloc (Nat.le_refl _) _).alloc (by simp) _).alloc (by simp; omega) _).alloc (by simp; omega) _).alloc (by simp; omega) _, ?_, ?_, ?_, ?_, ?_⟩
  · exact heap_old (heap_old (heap_old (heap_old (new_at _ rfl) _) _) _) _
  · exact heap_old (heap_old (heap_old (new_at _ (by simp)) _) _) _
  · exact heap_old (heap_old (new_at _ (by simp)) _) _
  · exact heap_old (new_at _ (by simp)) _
  · exact new_at _ (by simp)
theorem keepsOthers_below {W W' : World} (h : Below W.heap.size W W') : KeepsOthers W W' := ⟨h.size, fun k o hk _ => (h.block k (Array.getElem?_eq_some_iff.1 hk).1).trans hk⟩
theorem kw_below {n₀ : Nat} {W W' : World} (h : Below W.heap.size W W') (hn : n₀ ≤ W.heap.size) : Kw (fun k => k < n₀) W W' :=
  ⟨KB.of_below (h.mono hn) (fun _ h => h), ⟨h.size, fun k o hk _ => (h.block k (Array.getElem?_eq_some_iff.1 hk).1).trans hk⟩, fun b cs fr hb => h.block b (Array.getElem?_eq_some_iff.1 hb).1⟩
set_option maxRecDepth 100000 in
set_option maxHeartbeats 4000000 in
theorem place_in (n : Nat) (hn : 5 ≤ n) (S : Vr.StV) (its : List Vr.It) (hl : its.length ≤ 1000000) (hups : ∀ x ∈ its, (Lit.int .i64 x.up).wf = true) (cs : List Vr.Ce) (hcl : cs.length ≤ 1000000) (sc : Int) (hsc : (Lit.int .i64 sc).wf = true) (nm : Vr.Bs) (w : World)
    (hS : SF.SlW w S.i.a S.i.n S.i.c 8 (its.flatMap Vr.It.enc)) (hC : SF.SlW w S.c.a S.c.n S.c.c 5 (cs.flatMap Vr.Ce.enc)) :
    CallsIn Fence.wide n Try.prog 35 #[S.val, .int .i64 sc, .string ⟨nm.toArray⟩] w fun e W' => e = .returned (.int .i64 (Vr.place its cs sc nm)) ∧ Below w.heap.size w W' := by
  have h1 : 1 ≤ n := by omega
  have hfW : Fence.wide.fn 34 := trivial
  have hfI : Fence.wide.fn 42 := trivial
  refine callsIn_of_wp_marks Try.func35 rfl trivial ?_ rfl
  simp only [Try.ntmps35, List.size_toArray, List.length_cons, List.length_nil, Nat.reduceAdd, Nat.reduceSub, Array.replicate_succ, Array.replicate_zero, List.push_toArray, List.append_toArray, List.nil_append, List.cons_append]
  have hway := way_in (n - 1) S sc
  unfold Vr.StV.val at hway ⊢
  gi_wp2_with (gi_at_call 34; refine (hway _).mono ?_; rintro e w' ⟨rfl, rfl⟩)
  generalize hW0 : World.alloc (World.alloc (World.alloc (World.alloc (World.alloc w _) _) _) _) _ = W0
  obtain ⟨hsz, hB0, b0, b1, b2, b3, b4⟩ := five hW0
  have h5 : w.heap.size + 5 ≤ W0.heap.size := by omega
  clear hW0 hway hsz
  have hSI : SF.SlAt W0 (fun b => b < W0.heap.size) S.i.a S.i.n S.i.c 8 (its.flatMap Vr.It.enc) := by
    obtain ⟨h1, h2, h3⟩ := hS
    refine ⟨h1, h2, ?_⟩
    rcases h3 with h | ⟨b, o, e, _, hb, hc⟩
    · exact .inl h
    · exact .inr ⟨b, o, e, by omega, by omega, fun j u hu => (hB0.cell (p := ⟨b, o + j, none⟩) hb).trans (hc j u hu)⟩
  have hCC : SF.SlAt W0 (fun b => b < W0.heap.size) S.c.a S.c.n S.c.c 5 (cs.flatMap Vr.Ce.enc) := by
    obtain ⟨h1, h2, h3⟩ := hC
    refine ⟨h1, h2, ?_⟩
    rcases h3 with h | ⟨b, o, e, _, hb, hc⟩
    · exact .inl h
    · exact .inr ⟨b, o, e, by omega, by omega, fun j u hu => (hB0.cell (p := ⟨b, o + j, none⟩) hb).trans (hc j u hu)⟩
  refine wpIn_rangeFunc_ownH rfl h1 (gf := 47) (lb := #[.pointer (some ⟨w.heap.size + 1 + 1 + 1 + 1, 0, none⟩), .pointer (some ⟨w.heap.size + 1 + 1 + 1, 0, none⟩)]) rfl trivial (enters_of Try.func47 (by kernel_rfl) rfl)
    (way_stops (n - 1) (by omega) S its hl hups sc hsc (w.heap.size + 1 + 1 + 1 + 1) (w.heap.size + 1 + 1 + 1) (fun k => k < W0.heap.size) W0 (fun _ h => h) (by show _ < _; omega) (by show _ < _; omega) b4 b3 hSI) (fun h k => h.trans k) (fun W l o o' hl h hc hw => Kw.putObj (fun _ h => h) W l o o' hl h hc hw) (Below.refl _ _) (fun _ => rfl)
    (fun pre W => (∀ id ∈ pre, Vr.idx (Vr.isCe id nm) cs < 0) ∧ Below W0.heap.size W0 W)
    (fun c pre W => ((c = .ret ∧ ∃ p id, pre = p ++ [id] ∧ (∀ x ∈ p, Vr.idx (Vr.isCe x nm) cs < 0) ∧ 0 ≤ Vr.idx (Vr.isCe id nm) cs ∧ Boxed W (w.heap.size + 1 + 1) 3 (.int .i64 (Vr.idx (Vr.isCe id nm) cs)))) ∧ Below w.heap.size w W)
    (OwnFrom.and (ownFrom_pure _ _) (ownFrom_below (Nat.le_refl _) (by omega)))
    (fun c => OwnFrom.and ?_ (ownFrom_below (Nat.le_refl _) (by omega)))
    ⟨by simp, Below.refl _ _⟩
    (fun x a' W => ∃ Bx, W0.heap.size ≤ Bx ∧ Boxed W Bx 3 (.int .i64 x) ∧ a' = { tmps := #[.agg #[.int .i64 S.ck, .int .i64 S.nx, .slice S.d.a S.d.n S.d.c, .slice S.i.a S.i.n S.i.c, .slice S.c.a S.c.n S.c.c, .slice S.h.a S.h.n S.h.c], .int .i64 sc, .string ⟨nm.toArray⟩, .pointer (some ⟨w.heap.size, 0, none⟩), undef, .pointer (some ⟨w.heap.size + 1, 0, none⟩), .pointer (some ⟨w.heap.size + 1 + 1, 0, none⟩), .pointer (some ⟨Bx, 0, none⟩), undef, .agg #[.int .i64 S.ck, .int .i64 S.nx, .slice S.d.a S.d.n S.d.c, .slice S.i.a S.i.n S.i.c, .slice S.c.a S.c.n S.c.c, .slice S.h.a S.h.n S.h.c], .int .i64 sc, .func (.func 47) #[] #[.pointer (some ⟨w.heap.size + 1 + 1 + 1 + 1, 0, none⟩), .pointer (some ⟨w.heap.size + 1 + 1 + 1, 0, none⟩)], .int .i64 x, undef, undef, undef, undef, undef, undef, undef], defers := [] })
    (fun x a' _ X Y row hs hg hr => by obtain ⟨Bx, e1, e2, e3⟩ := hs; exact ⟨Bx, e1, boxed_own Bx 3 (fun (_ : Unit) => Value.int .i64 x) () X Y row e2 hg (fun r e => (hr r e).2), e3⟩)
    ?assign ?body ?done ?stop
  case assign =>
    rintro l pre x W K ⟨hp, hB1⟩ hK
    gi_wp2
    exact hK _ _ ((KeepsOthers.alloc _ _).from _) ⟨(KB.refl _ W).alloc (fun k hk => Nat.lt_of_lt_of_le hk hB1.size) _, KeepsWalks.alloc _ _, fun b cs fr h => Below.heap_alloc _ _ _ (Array.getElem?_eq_some_iff.1 h).1⟩ ⟨hp, hB1.alloc hB1.size _⟩ ⟨W.heap.size, hB1.size, Boxed.new W 3 _, rfl⟩
  case body =>
    rintro l pre x a' W hl ⟨r, hr⟩ ⟨hp, hB1⟩ ⟨Bx, hBx, bX, rfl⟩ hlt
    have s4 : W.cell? ⟨w.heap.size, 4, none⟩ = some (.slice S.c.a S.c.n S.c.c) := (hB1.cell (p := ⟨w.heap.size, 4, none⟩) (by show w.heap.size < _; omega)).trans (by simp [World.cell?, b0])
    have hix := SF.CallsQ.out (ixc_q x nm Bx (w.heap.size + 1) cs hcl S.c.a S.c.n S.c.c (SF.Wd.of W) (slw_below hCC (KB.of_below hB1 (fun _ h => h))) bX ((hB1.block _ (by omega)).trans b1))
    have bR : Boxed W (w.heap.size + 1 + 1) 3 (.int .i64 0) := (hB1.block _ (by omega)).trans b2
    have hsW := hB1.size
    have h1' : 1 ≤ n - 1 - 1 := by omega
    generalize hj : Vr.idx (Vr.isCe x nm) cs = j at hix
    by_cases hi : 0 ≤ j
    · gi_wp2_with (gi_at_call 42; refine (CallsIn.inRound l (callsIn_wide.2 hix)).mono ?_; rintro e w2 ⟨rfl, hb2⟩; have hb2 : Below W.heap.size W w2 := hb2; have bR2 : Boxed w2 (w.heap.size + 1 + 1) 3 (.int .i64 0) := (hb2.block _ (by omega)).trans bR; have c6 := bR2.cell; have f6 := bR2.frozen)
      exact ⟨((keepsOthers_below hb2).trans (KeepsOthers.setCell _ _ _)).from _, ⟨rfl, pre, x, rfl, hp, by rw [hj]; exact hi, by rw [hj]; exact bR2.set _⟩, (hB0.trans (hB1.mono (by omega))).trans ((hb2.mono (by omega)).setCell (p := ⟨w.heap.size + 1 + 1, 0, none⟩) (by simp; omega) _)⟩
    · gi_wp2_with (gi_at_call 42; refine (CallsIn.inRound l (callsIn_wide.2 hix)).mono ?_; rintro e w2 ⟨rfl, hb2⟩; have hb2 : Below W.heap.size W w2 := hb2)
      exact ⟨(keepsOthers_below hb2).from _, kw_below hb2 hsW, fun z hz => (List.mem_append.1 hz).elim (hp z) (fun e => by obtain rfl := List.mem_singleton.1 e; rw [hj]; exact (by omega)), hB1.trans (hb2.mono hsW)⟩
  case done =>
    rintro D xs W hD rfl ⟨hp, hB1⟩ hK
    have bR : Boxed W (w.heap.size + 1 + 1) 3 (.int .i64 0) := (hB1.block _ (by omega)).trans b2
    have c6 := bR.cell
    have f6 := bR.frozen
    gi_wp2
    have hK' := (KeepsOthers.setCell W ⟨w.heap.size + 1 + 1, 0, none⟩ (.int .i64 (-1))).same D _ hK rfl
    refine ⟨by simp, .inl ⟨_, _, rfl, run_takeDeferred hK', ?_⟩⟩
    have hc5 := cell_kept (bR.set (.int .i64 (-1))).cell (grownBy_putObj' _ D (.deferred none)) (fun r e => by cases e; exact ⟨_, hK', rfl⟩)
    refine ⟨.int .i64 (-1), ?_, by unfold Vr.place; rw [Vr.placeW_none hp], ((hB0.trans (hB1.mono (by omega))).setCell (p := ⟨w.heap.size + 1 + 1, 0, none⟩) (by simp; omega) _).trans (belowK_b (w := w) (Nat.le_refl _) _ D _ _ (by omega) hK' rfl rfl)⟩
    simp [results, Try.f35, go_sem, hc5]
  case stop =>
    rintro D c pre W hD ⟨t, ht⟩ ⟨⟨rfl, p, id, rfl, hp, hi, bR⟩, hB1⟩ hK
    have c6 := bR.cell
    gi_wp2
    refine ⟨by simp, .inl ⟨_, _, rfl, run_takeDeferred hK, ?_⟩⟩
    have hc5 := cell_kept bR.cell (grownBy_putObj' _ D (.deferred none)) (fun r e => by cases e; exact ⟨_, hK, rfl⟩)
    refine ⟨_, ?_, by unfold Vr.place; rw [← ht, List.append_assoc, List.singleton_append, Vr.placeW_hit hp hi], hB1.trans (belowK_b (w := w) (Nat.le_refl _) W D _ _ (by omega) hK rfl rfl)⟩
    simp [results, Try.f35, go_sem, hc5]
  intro s X Y row hs hg hr
  obtain ⟨e, p, id, e1, e2, e3, hb⟩ := hs
  exact ⟨e, p, id, e1, e2, e3, hb.kept hg (fun e' => by obtain ⟨o, ho, hc⟩ := (hr _ e'.symm).2; rw [show X.heap[w.heap.size + 1 + 1]? = _ from hb] at ho; cases ho; cases hc)⟩
theorem place_q (S : Vr.StV) (its : List Vr.It) (hl : its.length ≤ 1000000) (hups : ∀ x ∈ its, (Lit.int .i64 x.up).wf = true) (cs : List Vr.Ce) (hcl : cs.length ≤ 1000000) (sc : Int) (hsc : (Lit.int .i64 sc).wf = true) (nm : Vr.Bs) (W : SF.Wd)
    (hS : SF.SlW W.w S.i.a S.i.n S.i.c 8 (its.flatMap Vr.It.enc)) (hC : SF.SlW W.w S.c.a S.c.n S.c.c 5 (cs.flatMap Vr.Ce.enc)) :
    SF.CallsQ Try.prog 35 #[S.val, .int .i64 sc, .string ⟨nm.toArray⟩] W (.int .i64 (Vr.place its cs sc nm)) :=
  SF.CallsQ.of_below (callsIn_wide.1 (place_in 5 (Nat.le_refl _) S its hl hups cs hcl sc hsc nm W.w hS hC))
end Go.Proofs.Ytamnfdmmjjekhaa
