/- Reading all of it: what is thrown is caught. -/
import Derived.Test.YtckgdgkkmhochaaGreatDoorPxTree
import Derived.Tactics
import Derived.Tactics2
import Derived.Defers
import Derived.Recover
import Derived.Handy
import Derived.StillTailTactics
import Derived.Laws.Pointers
namespace Go.Proofs.YtckgdgkkmhochaaGreatDoor
open Go Go.RowKit Go.SF
set_option linter.unusedSimpArgs false
set_option linter.unusedVariables false
section
variable {P : Program} {ops : Array Oper} {Q : Exit → Act → World → Prop} {a : Act} {w w' : World} {rest : List Oper} {o : Oper}
theorem st_val (v : Value) (hg : o.guard = none) (hr : (execOp a.eval o).run P w = .ok (.value v) w') (h : wpList P ops Q rest (a.put o.dst v) w') : wpList P ops Q (o :: rest) a w :=
  wpList_plain hg fun K hK => by unfold Oper.wp; rw [hr]; exact hK _ _ h
theorem st_skip (hg : o.guard = none) (hr : (execOp a.eval o).run P w = .ok .skip w') (h : wpList P ops Q rest (a.put o.dst undef) w') : wpList P ops Q (o :: rest) a w :=
  wpList_plain hg fun K hK => by unfold Oper.wp; rw [hr]; exact hK _ _ h
end
theorem stl_skip {P : Program} {ops : Array Oper} {Q : Act → Prop} {a : Act} {w : World} {rest : List Oper} {o : Oper} (hg : o.guard = none) (hr : (execOp a.eval o).run P w = .ok .skip w) (h : wpStill P ops w Q rest (a.put o.dst undef)) : wpStill P ops w Q (o :: rest) a :=
  wpStill_step fun K hK => by simp only [Region.wanted, hg, if_true]; unfold Oper.still; rw [hr]; exact ⟨rfl, hK _ h⟩
theorem setRow_same {w : World} {g : Nat} {cs : Array Value} {t : TypeId} (h : w.heap[g]? = some (.cells cs t)) : w.setRow g cs = w := by
  have e : (w.setRow g cs).heap = w.heap := by
    refine Array.ext_getElem? fun i => ?_
    by_cases hi : i = g
    · subst hi; rw [setRow_heap _ _ _ _ _ (0, 0) h, h]
    · exact setRow_other _ _ _ _ hi
  have e2 : w.setRow g cs = { w with heap := (w.setRow g cs).heap } := rfl
  rw [e2, e]
/-- an empty tree's cells -/
def zeroC : List Value := [.int .u8 0, .int .u8 0, .int .i64 0, .string ⟨#[]⟩, .string ⟨#[]⟩, .slice none 0 0]
theorem dens_val (ρ : Env) (vs : List Value) : Sy.dens ρ (vs.map .val) = vs := by
  rw [Sy.dens_eq, List.map_map]
  exact (List.map_congr_left fun v _ => rfl).trans (List.map_id vs)
theorem st_ex {w : World} {p : Nat} {vs : List Value} {a b c d e f : Value} (hp : w.heap[p]? = some (.cells vs.toArray 26)) (hl : vs.length = 6) (h1 : ∀ u ∈ [a, b, c, d, e, f], u.oneCell' = true) : (storeVar 26 ⟨p, 0, none⟩ (.agg #[a, b, c, d, e, f])).run Tryz.prog w = .ok () (w.setRow p #[a, b, c, d, e, f]) := by
  have h := run_stS (P := Tryz.prog) (ρ := { V := [a, b, c, d, e, f] }) (t := 26) (cs := vs.map .val) (vs := [.var 0, .var 1, .var 2, .var 3, .var 4, .var 5]) (off := 0) (n := 6) (s := .agg [.var 0, .var 1, .var 2, .var 3, .var 4, .var 5]) (fun v hv => h1 v hv) rfl ex_size rfl (by simp [hl]) (w := w) (b := p) (ty := 26) (by rw [dens_val]; exact hp)
  rw [over_den, dens_val, List.drop_eq_nil_of_le (by simp [hl])] at h
  exact h
theorem bo_size : sizeT Tryz.prog 4 = some 1 := by kernel_rfl
theorem st_bo {w : World} {p : Nat} {v : Value} {b : Bool} (hp : w.heap[p]? = some (.cells #[v] 4)) : (storeVar 4 ⟨p, 0, none⟩ (.bool b)).run Tryz.prog w = .ok () (w.setRow p #[.bool b]) := by
  have h := run_stS (P := Tryz.prog) (ρ := { B := [b] }) (t := 4) (cs := [v].map .val) (vs := [.bool (.bv 0)]) (off := 0) (n := 1) (s := .bool (.bv 0)) (fun v hv => by cases hv) rfl bo_size rfl (by simp) (w := w) (b := p) (ty := 4) (by rw [dens_val]; exact hp)
  rw [over_den, dens_val, List.drop_eq_nil_of_le (by simp)] at h
  exact h
set_option maxRecDepth 100000 in
theorem catch_p (p q : Nat) (vs : List Value) (ok : Value) (older : List PanicEntry) (w : World) (hp : w.heap[p]? = some (.cells vs.toArray 26)) (hl : vs.length = 6) (hq : w.heap[q]? = some (.cells #[ok] 4)) (hpq : p ≠ q) :
    CallsD Tryz.prog 60 #[.pointer (some ⟨p, 0, none⟩), .pointer (some ⟨q, 0, none⟩)] (.panicking ({ v := .iface 88 (.agg #[]), recovered := false } :: older)) w fun e u' w' =>
      e = .returned (.tuple #[]) ∧ u' = .panicking ({ v := .iface 88 (.agg #[]), recovered := true } :: older) ∧ w' = (w.setRow p zeroC.toArray).setRow q #[.bool false] := by
  refine callsD_of_wpS Tryz.func60 rfl fun c₀ cs hu => ?_
  apply wpS_seq
  apply wpS_region
  simp [wpOpsS, go_sem, recoverD, hu, Tryz.ntmps60, Exit.thenS]
  refine wpS_of_wp ?_
  apply wp_seq
  refine wp_region_list ?_
  simp [wpList, go_sem, Exit.then]
  left; left
  refine wp_cond (t := true) (by simp [Act.eval, Array.replicate]) ?_
  simp only [if_true]
  apply wp_seq
  refine wp_region_list ?_
  have hta : ∀ w, (Instr.typeAssert (.iface 88 (.agg #[])) 20 88 false).run Tryz.prog w = .ok (.agg #[]) w := fun w => by
    simp [Instr.typeAssert, run_underlying (show Tryz.prog.underlying 88 = some (.struct #[]) by kernel_rfl), go_sem, Result.andThen]
  simp [wpList, go_sem, Exit.then, hta]
  left; left
  refine wp_region_list ?_
  have hst : (storeVar 26 ⟨p, 0, none⟩ (.agg zeroC.toArray)).run Tryz.prog w = .ok () (w.setRow p zeroC.toArray) := st_ex hp hl (by simp [Value.oneCell'])
  have hst2 : (storeVar 4 ⟨q, 0, none⟩ (.bool false)).run Tryz.prog (w.setRow p zeroC.toArray) = .ok () ((w.setRow p zeroC.toArray).setRow q #[.bool false]) := st_bo (v := ok) (by rw [setRow_other _ _ _ _ (Ne.symm hpq)]; exact hq)
  refine st_val (.agg zeroC.toArray) rfl (w' := w) (by simp [execOp, Instr.build, go_sem, zeroC]) (st_skip rfl (w' := w.setRow p zeroC.toArray) (by
    simp [execOp, Instr.storeAt, Instr.sureAddr, Act.eval, Act.put, hst]) (st_skip rfl (w' := (w.setRow p zeroC.toArray).setRow q #[.bool false]) (by
    simp [execOp, Instr.storeAt, Instr.sureAddr, Act.eval, Act.put, hst2]) (wpList_nil ?_)))
  simp [bodyPostS, results, Tryz.results60, Act.put]
theorem catch_i (p q : Nat) (w : World) : CallsD Tryz.prog 60 #[.pointer (some ⟨p, 0, none⟩), .pointer (some ⟨q, 0, none⟩)] .returning w fun e u' w' => e = .returned (.tuple #[]) ∧ u' = .returning ∧ w' = w := by
  refine callsD_of_wpS Tryz.func60 rfl fun c₀ cs hu => ?_
  apply wpS_seq
  apply wpS_region
  simp [wpOpsS, go_sem, recoverD, hu, Tryz.ntmps60, Exit.thenS]
  refine wpS_of_wp ?_
  apply wp_seq
  refine wp_region_list ?_
  simp [wpList, go_sem, Exit.then]
  left; left
  refine wp_cond (t := false) (by simp [Act.eval, Array.replicate]) ?_
  simp only [Bool.false_eq_true, if_false]
  refine wp_skip ?_
  cases c₀
  simp_all [bodyPostS, results, Tryz.results60]

theorem al_heap (w : World) (o : Obj) (k : Nat) : (w.alloc o).heap[k]? = if k = w.heap.size then some o else w.heap[k]? := by
  rw [show (w.alloc o).heap = w.heap.push o from rfl, Array.getElem?_push]
theorem al_size (w : World) (o : Obj) : (w.alloc o).heap.size = w.heap.size + 1 := by
  rw [show (w.alloc o).heap = w.heap.push o from rfl, Array.size_push]
/-- the world behind three new blocks, all but the last stay -/
def W3 (W : Wd) (a b c : Obj) : Wd := ⟨((W.w.alloc a).alloc b).alloc c, fun k => k < W.w.heap.size + 2, fun k h => by rw [al_size, al_size, al_size]; omega⟩
theorem W3_size (W : Wd) (a b c : Obj) : (W3 W a b c).w.heap.size = W.w.heap.size + 3 := by
  show (((W.w.alloc a).alloc b).alloc c).heap.size = _
  rw [al_size, al_size, al_size]
theorem W3_heap (W : Wd) (a b c : Obj) (k : Nat) : (W3 W a b c).w.heap[k]? = if k = W.w.heap.size + 1 + 1 then some c else if k = W.w.heap.size + 1 then some b else if k = W.w.heap.size then some a else W.w.heap[k]? := by
  show (((W.w.alloc a).alloc b).alloc c).heap[k]? = _
  rw [al_heap, al_heap, al_heap, al_size, al_size]
theorem W3_ext (W : Wd) (a b c : Obj) : Ext W (W3 W a b c) :=
  ⟨by rw [W3_size]; omega, fun k h => by have := W.lt k h; show k < _; omega, fun k h => by
    have := W.lt k h
    rw [W3_heap, if_neg (by omega), if_neg (by omega), if_neg (by omega)], rfl, rfl, rfl⟩
theorem cells6 {w : World} {m : Nat} {a b c d e f : Value} {ty : TypeId} (h : w.heap[m]? = some (.cells #[a, b, c, d, e, f] ty)) : w.cell? ⟨m, 0, none⟩ = some a ∧ w.cell? ⟨m, 1, none⟩ = some b ∧ w.cell? ⟨m, 2, none⟩ = some c ∧ w.cell? ⟨m, 3, none⟩ = some d ∧ w.cell? ⟨m, 4, none⟩ = some e ∧ w.cell? ⟨m, 5, none⟩ = some f := by
  simp [World.cell?, h]
theorem cells1 {w : World} {m : Nat} {a : Value} {ty : TypeId} (h : w.heap[m]? = some (.cells #[a] ty)) : w.cell? ⟨m, 0, none⟩ = some a := by simp [World.cell?, h]
theorem keeps_row {V : Wd} {w : World} (h : Keeps V w) {g : Nat} (hg : ¬ V.I g) (cs : Array Value) : Keeps V (w.setRow g cs) :=
  ⟨h.os, h.tape, h.output, by simpa using h.size, fun b hb => by
    rw [setRow_other _ _ _ _ (show b ≠ g from fun e => hg (by rw [← e]; exact hb))]; exact h.keep b hb⟩
def WholeEnd (n0 : Nat) (ts : List Lx.Tok) (v : Value) (w' : World) : Prop := ∃ op k n t nm al len cl, v = .tuple #[.agg #[.int .u8 op, .int .u8 k, .int .i64 n, .string t, .string nm, .slice al len cl], .bool (Px.whole ts).isSome] ∧ ∀ x, Px.whole ts = some x → ExAt w' (fun b => n0 ≤ b) x [.int .u8 op, .int .u8 k, .int .i64 n, .string t, .string nm, .slice al len cl]
set_option maxRecDepth 100000 in
theorem whole_i (a : Option Addr) (c : Nat) (ts : List Lx.Tok) (W : Wd) (hT : Toks W a c ts) (hG : Glob W) (hts : TsOk ts) : CallsI Tryz.prog 39 #[.slice a ts.length c] W (WholeEnd W.w.heap.size ts) := by
  have x3 := W3_ext W (.cells #[.int .u8 0, .int .u8 0, .int .i64 0, .string ⟨#[]⟩, .string ⟨#[]⟩, .slice none 0 0] 26) (.cells #[.bool false] 4) (.cells #[.slice a ts.length c] 91)
  have two := (read_ok (3 * ts.length + 2)).2 1 (W.w.heap.size + 1 + 1) a c ts _ (by rw [W3_heap, if_pos rfl]) (fun h => by have h : W.w.heap.size + 1 + 1 < W.w.heap.size + 2 := h; omega) (hT.ext x3) (hG.ext x3) hts (Nat.le_refl _)
  have hmf : ∀ (fn : Fn) (first cap : Array Value) (w : World), (Instr.makeFunc fn first cap).run Tryz.prog w = .ok (.func fn first cap) w := fun _ _ _ _ => rfl
  have hw : Px.whole ts = match Px.two (3 * ts.length + 2) 1 ts with
    | some (e, []) => some e
    | _ => none := rfl
  unfold CallsI CallsE
  go_enter_defers Tryz.func39, Tryz.ntmps39
  go_wp2_with fail
  rename_i Q' K1 hK1 K hK
  refine Calls.mono two fun e w' ⟨hk, hE⟩ => ?_
  have h0 : w'.heap[W.w.heap.size]? = some (.cells zeroC.toArray 26) := by
    rw [hk.keep _ (by show _ < _; omega), W3_heap, if_neg (by omega), if_neg (by omega), if_pos rfl]; rfl
  have h1 : w'.heap[W.w.heap.size + 1]? = some (.cells #[.bool false] 4) := by
    rw [hk.keep _ (by show _ < _; omega), W3_heap, if_neg (by omega), if_pos rfl]
  rcases hE.out with ⟨ho, rfl⟩ | ⟨x, r, a', c', op, k, nn, t', nm, al, len, cl, ho, rfl, hx, hh, hs⟩
  · simp only []
    refine leaves_cons (f := 60) (args := #[.pointer (some ⟨W.w.heap.size, 0, none⟩), .pointer (some ⟨W.w.heap.size + 1, 0, none⟩)]) (by simp) (by simp [go_sem]) ?_
    refine (catch_p _ _ zeroC (.bool false) [] w' h0 rfl h1 (by omega)).mono ?_
    rintro e u' w'' ⟨rfl, rfl, rfl⟩
    generalize hF : (w'.setRow W.w.heap.size zeroC.toArray).setRow (W.w.heap.size + 1) #[.bool false] = F
    have f1 : F.heap[W.w.heap.size + 1]? = some (.cells #[.bool false] 4) := by rw [← hF]; exact setRow_heap _ _ _ _ _ (0, 0) (by rw [setRow_other _ _ _ _ (by omega)]; exact h1)
    have f0 : F.heap[W.w.heap.size]? = some (.cells #[.int .u8 0, .int .u8 0, .int .i64 0, .string ⟨#[]⟩, .string ⟨#[]⟩, .slice none 0 0] 26) := by rw [← hF, setRow_other _ _ _ _ (by omega)]; exact setRow_heap _ _ _ _ _ (0, 0) h0
    obtain ⟨g0, g1, g2, g3, g4, g5⟩ := cells6 f0
    have gb := cells1 f1
    simp [Leaves, settle, results, Tryz.results39, go_sem, g0, g1, g2, g3, g4, g5, gb]
    refine ⟨?_, _, rfl, 0, 0, 0, ⟨#[]⟩, ⟨#[]⟩, none, 0, 0, ?_, fun x hx => ?_⟩
    · rw [← hF]; exact keeps_row (keeps_row (Keeps.start x3 hk) (fun h => by have := W.lt _ h; omega) _) (fun h => by have := W.lt _ h; omega) _
    · rw [hw, ho]; rfl
    · rw [hw, ho] at hx; cases hx
  · simp only []
    have hst : (storeVar 26 ⟨W.w.heap.size, 0, none⟩ (.agg #[.int .u8 op, .int .u8 k, .int .i64 nn, .string t', .string nm, .slice al len cl])).run Tryz.prog w' = .ok () (w'.setRow W.w.heap.size #[.int .u8 op, .int .u8 k, .int .i64 nn, .string t', .string nm, .slice al len cl]) := st_ex h0 rfl (by simp [Value.oneCell'])
    refine hK _ _ (st_skip rfl (w' := w'.setRow W.w.heap.size #[.int .u8 op, .int .u8 k, .int .i64 nn, .string t', .string nm, .slice al len cl]) (by
      simp [execOp, Instr.storeAt, Instr.sureAddr, Act.eval, Act.put, hst]) (wpList_nil ?_))
    generalize hF : w'.setRow W.w.heap.size #[.int .u8 op, .int .u8 k, .int .i64 nn, .string t', .string nm, .slice al len cl] = F
    have f1 : F.heap[W.w.heap.size + 1]? = some (.cells #[.bool false] 4) := by rw [← hF, setRow_other _ _ _ _ (by omega)]; exact h1
    have f0 : F.heap[W.w.heap.size]? = some (.cells #[.int .u8 op, .int .u8 k, .int .i64 nn, .string t', .string nm, .slice al len cl] 26) := by rw [← hF]; exact setRow_heap _ _ _ _ _ (0, 0) h0
    have f2 : F.heap[W.w.heap.size + 1 + 1]? = some (.cells #[.slice a' r.length c'] 91) := by rw [← hF, setRow_other _ _ _ _ (by omega)]; exact hh
    obtain ⟨g0, g1, g2, g3, g4, g5⟩ := cells6 f0
    have gb := cells1 f1
    have gr := cells1 f2
    show K1 _ _
    refine hK1 _ _ ?_
    apply wp_seq
    clear hst hK hK1 hE two hmf
    refine wp_region_still_tail 8 (by kernel_rfl) (by kernel_rfl) ?_
    simp only [List.take_succ_cons, List.take_zero, List.drop_succ_cons, List.drop_zero]
    iterate 7 still_step
    have hst : (storeVar 26 ⟨W.w.heap.size, 0, none⟩ (.agg #[.int .u8 op, .int .u8 k, .int .i64 nn, .string t', .string nm, .slice al len cl])).run Tryz.prog F.drew = .ok () F.drew := by
      rw [st_ex (w := F.drew) (vs := [.int .u8 op, .int .u8 k, .int .i64 nn, .string t', .string nm, .slice al len cl]) (show F.drew.heap[_]? = _ from f0) rfl (by simp [Value.oneCell']), setRow_same (w := F.drew) f0]
    refine stl_skip rfl (by simp [execOp, Instr.storeAt, Instr.sureAddr, Act.eval, Act.put, hst]) (wpStill_nil ?_)
    have hst2 : (storeVar 4 ⟨W.w.heap.size + 1, 0, none⟩ (.bool ((r.length : Int) == 0))).run Tryz.prog F.drew = .ok () (F.drew.setRow (W.w.heap.size + 1) #[.bool ((r.length : Int) == 0)]) := st_bo (v := .bool false) f1
    refine st_skip rfl (w' := F.drew.setRow (W.w.heap.size + 1) #[.bool ((r.length : Int) == 0)]) (by simp [execOp, Instr.storeAt, Instr.sureAddr, Act.eval, Act.put, hst2]) (wpList_nil ?_)
    generalize hG' : F.drew.setRow (W.w.heap.size + 1) #[.bool ((r.length : Int) == 0)] = G
    have k1 : G.heap[W.w.heap.size + 1]? = some (.cells #[.bool ((r.length : Int) == 0)] 4) := by rw [← hG']; exact setRow_heap _ _ _ _ _ (0, 0) f1
    have k0 : G.heap[W.w.heap.size]? = some (.cells #[.int .u8 op, .int .u8 k, .int .i64 nn, .string t', .string nm, .slice al len cl] 26) := by rw [← hG', setRow_other _ _ _ _ (by omega)]; exact f0
    show Code.wp _ _ _ _ _
    refine wp_ret ?_
    clear hst hst2
    refine leaves_cons (f := 60) (args := #[.pointer (some ⟨W.w.heap.size, 0, none⟩), .pointer (some ⟨W.w.heap.size + 1, 0, none⟩)]) (by simp [Act.put]) (by simp [go_sem]) ?_
    refine (catch_i _ _ G).mono ?_
    rintro e u' w'' ⟨rfl, rfl, rfl⟩
    obtain ⟨q0, q1, q2, q3, q4, q5⟩ := cells6 k0
    have qb := cells1 k1
    simp [Leaves, settle, results, Tryz.results39, go_sem, q0, q1, q2, q3, q4, q5, qb, Act.put]
    refine ⟨?_, _, rfl, op, k, nn, t', nm, al, len, cl, ?_, fun y hy => ?_⟩
    · have hkF : Keeps W F := by rw [← hF]; exact keeps_row (Keeps.start x3 hk) (fun h => by have := W.lt _ h; omega) _
      have hkD : Keeps W F.drew := ⟨hkF.os, hkF.tape, hkF.output, hkF.size, hkF.keep⟩
      rw [← hG']; exact keeps_row hkD (fun h => by have := W.lt _ h; omega) _
    · rw [hw, ho]
      cases r <;> simp
      omega
    · rw [hw, ho] at hy
      cases r with
      | cons _ _ => cases hy
      | nil =>
        obtain rfl := Option.some.inj hy
        refine ExAt.move (fun b hb _ => ?_) hx
        have hb : W.w.heap.size + 3 ≤ b := by rw [W3_size] at hb; exact hb
        refine ⟨by omega, ?_⟩
        rw [← hG', setRow_other _ _ _ _ (by omega)]
        show F.heap[b]? = _
        rw [← hF, setRow_other _ _ _ _ (by omega)]
end Go.Proofs.YtckgdgkkmhochaaGreatDoor
