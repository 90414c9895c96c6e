/- vars.way: the iterator: its walk, inside a fence. -/
import Derived.RangeFuncNested
import Derived.RangeFuncBound
import Derived.RangeFuncCalls
import Derived.RangeFuncLeaves
import Derived.OwnWalkIn
import Derived.TacticsInMore
import Derived.LoopNIn
import Derived.LoopIn
import Derived.Sort.LoopGhostIn
import Derived.Maps.OwnIn
import Derived.Maps.Views
import Derived.Sort.CutIn
import Derived.Lib.BufferOwn
import Derived.Test.YtamnfdmmjjekhaaVrWayP
import Derived.Test.YtamnfdmmjjekhaaVrIdx
namespace Go.Proofs.Ytamnfdmmjjekhaa
open Go Go.RowKit Go.Maps Go.Lib
attribute [local go_sem] Oper.semAt_some
set_option linter.unusedVariables false
set_option linter.unusedSimpArgs false
/-- these blocks stand, and nothing is told to the world -/
structure KB (p : Nat → Prop) (w w' : World) : Prop where
  os : w'.os = w.os
  tape : w'.tape = w.tape
  output : w'.output = w.output
  size : w.heap.size ≤ w'.heap.size
  block : ∀ k, p k → w'.heap[k]? = w.heap[k]?
theorem KB.refl (p : Nat → Prop) (w : World) : KB p w w := ⟨rfl, rfl, rfl, Nat.le_refl _, fun _ _ => rfl⟩
theorem KB.trans {p : Nat → Prop} {a b c : World} (h : KB p a b) (k : KB p b c) : KB p a c :=
  ⟨k.os.trans h.os, k.tape.trans h.tape, k.output.trans h.output, Nat.le_trans h.size k.size, fun i hi => (k.block i hi).trans (h.block i hi)⟩
theorem KB.grown {p : Nat → Prop} {a w w' : World} {row : Option Nat} (h : KB p a w) (hg : w.grownBy w' row) (hp : ∀ k, p k → k < w.heap.size) (hr : ∀ k, row = some k → ¬ p k) : KB p a w' :=
  ⟨hg.os.trans h.os, hg.tape.trans h.tape, hg.output.trans h.output, Nat.le_trans h.size hg.size, fun i hi => (hg.block i (hp i hi) (fun e => hr i e.symm hi)).trans (h.block i hi)⟩
theorem KB.alloc {p : Nat → Prop} {a w : World} (h : KB p a w) (hp : ∀ k, p k → k < w.heap.size) (o : Obj) : KB p a (w.alloc o) := h.grown (World.grownBy_alloc w o none) hp (fun _ e => nomatch e)
theorem KB.cell {p : Nat → Prop} {w w' : World} (h : KB p w w') {a : Addr} (hp : p a.block) : w'.cell? a = w.cell? a := by
  unfold World.cell?
  rw [h.block _ hp]
theorem KB.of_below {n : Nat} {p : Nat → Prop} {w w' : World} (h : Below n w w') (hp : ∀ k, p k → k < n) : KB p w w' := ⟨h.os, h.tape, h.output, h.size, fun k hk => h.block k (hp k hk)⟩
/-- what a round of the loop keeps: these blocks, the maps, and the boxes of items -/
structure Kw (p : Nat → Prop) (A B : World) : Prop where
  below : KB p A B
  walks : KeepsWalks A B
  items : ∀ (b : Nat) cs fr, A.heap[b]? = some (Obj.cells cs 54 fr) → B.heap[b]? = A.heap[b]?
theorem Kw.trans {p : Nat → Prop} {A B C : World} (h : Kw p A B) (k : Kw p B C) : Kw p A C :=
  ⟨h.below.trans k.below, h.walks.trans k.walks, fun b cs fr hb => by rw [k.items b cs fr (by rw [h.items b cs fr hb]; exact hb), h.items b cs fr hb]⟩
theorem Kw.putObj {p : Nat → Prop} {n₀ : Nat} (hn : ∀ k, p k → k < n₀) (W : World) (l : Nat) (o o' : Obj) (hl : n₀ ≤ l) (h : W.heap[l]? = some o) (hc : o.isCells = false) (hw : o.isWalk = false) : Kw p W (W.putObj l o') :=
  ⟨(KB.refl p W).grown (row := some l) (grownBy_putObj' W l o') (fun k hk => by have := hn k hk; have := (Array.getElem?_eq_some_iff.1 h).1; omega) (fun k e hk => by cases e; have := hn _ hk; omega), KeepsWalks.putObj _ h hw, fun b cs fr hb => by
    refine World.putObj_heap_other ?_
    rintro rfl
    rw [h] at hb
    obtain rfl := Option.some.inj hb
    simp [Obj.isCells] at hc⟩
theorem slw_below {W W' : World} {p : Nat → Prop} {n c sz : Nat} {a : Option Addr} {L : List Value} (h : SF.SlAt W p a n c sz L) (hB : KB p W W') : SF.SlW W' a n c sz L := by
  obtain ⟨h1, h2, h3⟩ := h
  refine ⟨h1, h2, ?_⟩
  rcases h3 with ⟨_, e⟩ | ⟨b, o, e, hb, hlt, hc⟩
  · exact .inl ⟨trivial, e⟩
  · exact .inr ⟨b, o, e, trivial, Nat.lt_of_lt_of_le hlt hB.size, fun j u hu => (hB.cell (a := ⟨b, o + j, none⟩) hb).trans (hc j u hu)⟩
theorem nextId_wf {its : List Vr.It} (h : ∀ x ∈ its, (Lit.int .i64 x.up).wf = true) {x : Vr.It} (hx : x ∈ its) : (Lit.int .i64 (Vr.nextId its x)).wf = true := by
  unfold Vr.nextId
  split
  · cases hf : its.find? (Vr.isId x.up) with
    | none => rfl
    | some z => exact h z (List.mem_of_find?_eq_some hf)
  · exact h x hx
set_option maxRecDepth 100000 in
set_option maxHeartbeats 4000000 in
theorem way1_in (n : Nat) (hn : 3 ≤ n) (S : Vr.StV) (its : List Vr.It) (hl : its.length ≤ 1000000) (hups : ∀ x ∈ its, (Lit.int .i64 x.up).wf = true) (sc : Int) (hsc : (Lit.int .i64 sc).wf = true) (l Bs Ss : Nat) (p : Nat → Prop) (W : World) (hb : ∀ k, p k → k < W.heap.size) (hBs : p Bs) (hSs : p Ss)
    (hc : W.heap[Bs]? = some (.cells #[.int .i64 sc] 3)) (hs : W.heap[Ss]? = some (.cells #[.int .i64 S.ck, .int .i64 S.nx, .slice S.d.a S.d.n S.d.c, .slice S.i.a S.i.n S.i.c, .slice S.c.a S.c.n S.c.c, .slice S.h.a S.h.n S.h.c] 27))
    (hS : SF.SlAt W p S.i.a S.i.n S.i.c 8 (its.flatMap Vr.It.enc)) (J Jx : List Int → World → Prop) (hJ : AbidesFrom W.heap.size J) (hJx : AbidesFrom W.heap.size Jx)
    (hY : ∀ pre x W1, J pre W1 → pre.length < its.length → YieldAt Fence.wide (n - 1) Try.prog l #[.int .i64 x] W1 fun e W' =>
      (e = .returned (.bool true) ∧ J (pre ++ [x]) W' ∧ Kw p W1 W') ∨ (e = .returned (.bool false) ∧ Jx (pre ++ [x]) W'))
    (h0 : J [] W) :
    CallsIn Fence.wide n Try.prog 47 #[.func (.yield l) #[] #[], .pointer (some ⟨Bs, 0, none⟩), .pointer (some ⟨Ss, 0, none⟩)] W fun e W' => (∃ v, e = .returned v) ∧
      ((J (Vr.way its sc) W') ∨ (∃ pre, pre <+: Vr.way its sc ∧ Jx pre W')) := by
  refine callsIn_of_wp Try.func47 rfl trivial ?_ rfl
  simp only [Try.ntmps47, List.size_toArray, List.length_cons, List.length_nil, Nat.reduceAdd, Nat.reduceSub, Array.replicate_succ, Array.replicate_zero, List.push_toArray, List.append_toArray, List.nil_append, List.cons_append]
  have h1n : 1 ≤ n := by omega
  have hfA : Fence.wide.fn 48 := trivial
  have hmm := @run_makeMap Try.prog
  have hc1 : (W.alloc (.map #[] 0)).cell? ⟨Bs, 0, none⟩ = some (.int .i64 sc) := by
    have : W.cell? ⟨Bs, 0, none⟩ = some (.int .i64 sc) := by simp [World.cell?, hc]
    rw [← this]; exact ((KB.refl p W).alloc hb _).cell (a := ⟨Bs, 0, none⟩) hBs
  gi_wp2
  clear hmm hc1
  gi_loopg [5] (its.length + 1) (fun g vi wr => ∃ (id : Int) (pre : List Int) (D : DataW Unit), vi = .int .i64 id ∧ (Lit.int .i64 id).wf = true ∧ Vr.OnWay its sc pre id ∧ g + pre.length = its.length + 1 ∧ Aside (J pre wr) ∧ Aside (KB p W wr) ∧ W.heap.size < wr.heap.size ∧ Aside (wr.ownsMap Try.prog 3 (plainElem Try.prog 3) W.heap.size pre.length D) ∧ Aside (∀ x : Int, D.atKey (.int .i64 x) (.lit (.int .i64 0)) = .lit (.int .i64 (if x ∈ pre then 1 else 0))))
  case atStart => exact ⟨sc, [], .map [], rfl, hsc, Vr.OnWay.start its sc, rfl, hJ _ _ _ _ h0 (World.grownBy_alloc W _ none) (fun r e => nomatch e), (KB.refl _ _).alloc hb _, by simp, World.ownsMap_made W _ _ _, fun x => by simp [DataW.atKey]⟩
  case round =>
    obtain ⟨id, pre, D, rfl, hid, hw, hg, HJ, HB, hlt, HM, HD⟩ := hrel
    have hkey : keyOf Try.prog 3 (.int .i64 id) = some (.int .i64 id) := keyOf_int_mk Try.underlying3 hid
    have cell : ∀ j v, W.cell? ⟨Ss, j, none⟩ = some v → wr.cell? ⟨Ss, j, none⟩ = some v := fun j v h => (HB.out.cell (a := ⟨Ss, j, none⟩) hSs).trans h
    have s0 := cell 0 (.int .i64 S.ck) (by simp [World.cell?, hs])
    have s1 := cell 1 (.int .i64 S.nx) (by simp [World.cell?, hs])
    have s2 := cell 2 (.slice S.d.a S.d.n S.d.c) (by simp [World.cell?, hs])
    have s3 := cell 3 (.slice S.i.a S.i.n S.i.c) (by simp [World.cell?, hs])
    have s4 := cell 4 (.slice S.c.a S.c.n S.c.c) (by simp [World.cell?, hs])
    have s5 := cell 5 (.slice S.h.a S.h.n S.h.c) (by simp [World.cell?, hs])
    have hSw : SF.SlW wr S.i.a S.i.n S.i.c 8 (its.flatMap Vr.It.enc) := slw_below hS HB.out
    have hfind := SF.CallsQ.out (find_q S its hl id (SF.Wd.of wr) hSw)
    unfold Vr.StV.val Vr.It.enc at hfind
    generalize hx : (its.find? (Vr.isId id)).getD Vr.It.zero = x at hfind
    generalize hy : (its.find? (Vr.isId id)).isSome = y at hfind
    have C1 : Aside _ := cell
    have C2 : Aside _ := hSw
    have C3 : Aside _ := hs
    have C4 : Aside _ := hS
    have C5 : Aside _ := hx
    have C6 : Aside _ := hy
    have C7 : Aside _ := hY
    have C8 : Aside _ := hJ
    have C9 : Aside _ := hJx
    clear cell hSw hs hS hx hy hY hJ hJx
    gi_upto_region 3 with (gi_at_call 48; refine (callsIn_wide.2 hfind).mono ?_; rintro e w1 ⟨rfl, hb1⟩)
    have hgr : wr.grownBy (w1.alloc (.cells x.enc.toArray 54)) none := grownBy_allocR (grownBy_below (World.grownBy.refl wr none) hb1) _
    have hown := HM.out.kept hgr (by simp)
    have hpl := hw.len
    have hmax : pre.length < maxLen := by unfold maxLen; omega
    have C10 : Aside _ := hgr
    have C11 : Aside _ := hw
    clear hgr hw hfind
    gi_upto_region 4 with (first
      | (gi_at_lookup; refine wpListIn_lookup_own_int _ rfl _ _ 93 rfl 3 3 .i64 (int_keyed Try.underlying3) Try.underlying93 Try.underlying3 (Try.zeroValue3 _) W.heap.size pre.length _ rfl hown _ _ rfl hkey ?_; intro c hat hwc)
      | (gi_at_mapUpdate; refine wpListIn_mapUpdate_own _ rfl _ _ _ 93 rfl 3 3 (int_keyed Try.underlying3) Try.underlying93 _ W.heap.size pre.length _ rfl hown hmax _ _ _ rfl rfl hkey _ [] (plainElem_int Try.underlying3 (wrap64_wf _)) ?_; intro w2 hown2 hgrow2))
    obtain rfl : c = if id ∈ pre then 1 else 0 := by
      have := (HD.out id).symm.trans hat
      simpa using this.symm
    have hw64 : wrap64 ((if id ∈ pre then 1 else 0) + 1) = (if id ∈ pre then 2 else 1) := by split <;> (unfold wrap64; omega)
    rw [hw64] at hown2 ⊢
    have hD2 : ∀ z : Int, (D.put (Lit.int .i64 id) (DataW.lit (Lit.int .i64 (if id ∈ pre then 2 else 1)))).atKey (.int .i64 z) (.lit (.int .i64 0)) = .lit (.int .i64 (if z = id then (if id ∈ pre then 2 else 1) else if z ∈ pre then 1 else 0)) := fun z => by
      by_cases e : z = id
      · subst e; rw [if_pos rfl, atKey_put_same hown.isMap (by simp [WideAt.IsKeyLit])]
      · rw [if_neg e, atKey_put_other (by simpa using e)]; exact HD.out z
    have hlk : (Instr.lookup 93 (.map (some W.heap.size)) (.int .i64 id) false).run Try.prog w2 = .ok (.int .i64 (if id ∈ pre then 2 else 1)) w2 := by
      obtain ⟨c', h1, h2, h3⟩ := hown2.lookup_int (int_keyed Try.underlying3) Try.underlying93 Try.underlying3 (Try.zeroValue3 _) hkey
      rw [h1, show c' = (if id ∈ pre then 2 else 1) from by have := (hD2 id).symm.trans h2; simpa using this.symm]
    have hgr2 : wr.grownBy w2 (some W.heap.size) := grownBy_trans (C10.out.but _) hgrow2
    have hsz1 : w1.heap.size < w2.heap.size := by have := hgrow2.size; simp at this; omega
    have hsz1' : W.heap.size < w1.heap.size := by have := hb1.size; simp [SF.Wd.of] at this; omega
    have hbx : w2.heap[w1.heap.size]? = some (.cells #[.int .i64 x.id, .int .i64 x.up, .int .u8 x.is, .string ⟨x.proc.toArray⟩, .int .i64 x.node, .int .i64 x.frm, .int .u8 x.wait, .string ⟨x.code.toArray⟩] 54) := by
      rw [hgrow2.block _ (by simp) (by simp; omega)]; exact Array.getElem?_push_size ..
    have hmap : ∃ o, wr.heap[W.heap.size]? = some o ∧ o.isWalk = true := by
      obtain ⟨es, ck, h, _⟩ := HM.out; exact ⟨_, h, rfl⟩
    have HJ2 : J pre w2 := C8.out _ _ _ _ HJ.out hgr2 (by rintro r e; obtain rfl := Option.some.inj e; exact ⟨Nat.le_refl _, hmap⟩)
    have hbr : ∀ k, p k → k < wr.heap.size := fun k hk => by have := hb k hk; omega
    have HB2 : KB p W w2 := HB.out.grown hgr2 hbr (by rintro r e; obtain rfl := Option.some.inj e; exact fun hk => absurd (hb _ hk) (by omega))
    have b1 : w2.cell? ⟨w1.heap.size, 1, none⟩ = some (.int .i64 x.up) := by simp [World.cell?, hbx]
    have b2 : w2.cell? ⟨w1.heap.size, 2, none⟩ = some (.int .u8 x.is) := by simp [World.cell?, hbx]
    have b4 : w2.cell? ⟨w1.heap.size, 4, none⟩ = some (.int .i64 x.node) := by simp [World.cell?, hbx]
    have C12 : Aside _ := hbx
    have C13 : Aside _ := HJ2
    have C14 : Aside _ := HB2
    have C15 : Aside _ := hown2
    have C16 : Aside _ := hD2
    have hstop : ¬ (y = true ∧ x.is = 1 ∧ id ∉ pre) → Vr.way its sc = pre := fun hn => C11.out.stop fun z hz h => hn ⟨by rw [← C6.out, hz]; rfl, by rw [← C5.out, hz]; exact h⟩
    clear hbx HJ2 HB2 hown2 hD2 hgrow2 hown hat
    by_cases hin : id ∈ pre
    · rw [if_pos hin] at hlk
      simp only [if_pos hin]
      have hs := hstop (by simp [hin])
      generalize hp : (x.is == 1) = p
      cases y <;> cases p <;> gi_wp2
      all_goals
        refine ⟨(fun f h => nomatch h), ?_⟩
        gi_wp2
        refine bodyPost_ret (results_none rfl _ _ _) rfl ?_
        exact ⟨⟨_, rfl⟩, .inl (by rw [hs]; exact C13.out)⟩
    rw [if_neg hin] at hlk
    simp only [if_neg hin]
    by_cases hys : ¬ (y = true ∧ x.is = 1)
    · have hs := hstop fun h => hys ⟨h.1, h.2.1⟩
      generalize hp : (x.is == 1) = p at hys
      cases y <;> cases p
      case true.true => exact absurd ⟨rfl, by simpa using hp⟩ hys
      case true.false =>
        have his : ¬ x.is = 1 := by simpa using hp
        gi_wp2
        all_goals
          refine ⟨(fun f h => nomatch h), ?_⟩
          gi_wp2
          refine bodyPost_ret (results_none rfl _ _ _) rfl ?_
          exact ⟨⟨_, rfl⟩, .inl (by rw [hs]; exact C13.out)⟩
      all_goals gi_wp2
      all_goals
        refine ⟨(fun f h => nomatch h), ?_⟩
        gi_wp2
        refine bodyPost_ret (results_none rfl _ _ _) rfl ?_
        exact ⟨⟨_, rfl⟩, .inl (by rw [hs]; exact C13.out)⟩
    obtain ⟨rfl, his⟩ := Decidable.not_not.1 hys
    have hx1 : its.find? (Vr.isId id) = some x := by
      cases h : its.find? (Vr.isId id) with
      | none => have := C6.out; rw [h] at this; cases this
      | some z => have := C5.out; rw [h] at this; rw [← this]; rfl
    obtain ⟨hp1, ⟨t, hp2⟩, hp3, hp4⟩ := C11.out.step hx1 ⟨his, hin⟩
    obtain ⟨fn, tmps, assign, body, hy, hR⟩ := C7.out pre id w2 C13.out hp1
    have hlt2 : 1 ≤ n := h1n
    gi_upto_region 5 with fail
    refine hR.mono ?_
    rintro e W3 (⟨rfl, hJ3, hk3⟩ | ⟨rfl, hJx3⟩)
    rotate_left
    · gi_wp2
      refine bodyPost_ret (results_none rfl _ _ _) rfl ?_
      exact ⟨⟨_, rfl⟩, .inr ⟨_, ⟨t, hp2.symm⟩, hJx3⟩⟩
    have hbx3 := (hk3.items _ _ _ C12.out).trans C12.out
    have d4 : W3.cell? ⟨w1.heap.size, 4, none⟩ = some (.int .i64 x.node) := by simp [World.cell?, hbx3]
    have d1 : W3.cell? ⟨w1.heap.size, 1, none⟩ = some (.int .i64 x.up) := by simp [World.cell?, hbx3]
    clear hlk b1 b2 b4
    by_cases hnode : x.node = -1
    · have hs := hp3 hnode
      gi_wp2
      refine bodyPost_ret (results_none rfl _ _ _) rfl ?_
      exact ⟨⟨_, rfl⟩, .inl (by rw [hs]; exact hJ3)⟩
    have HB3 : KB p W W3 := C14.out.trans hk3.below
    have hS3 : SF.SlW W3 S.i.a S.i.n S.i.c 8 (its.flatMap Vr.It.enc) := slw_below C4.out HB3
    have hfind3 := SF.CallsQ.out (find_q S its hl x.up (SF.Wd.of W3) hS3)
    unfold Vr.StV.val Vr.It.enc at hfind3
    have hnx : (if ((its.find? (Vr.isId x.up)).getD Vr.It.zero).is = 2 then ((its.find? (Vr.isId x.up)).getD Vr.It.zero).up else x.up) = Vr.nextId its x := rfl
    generalize hx3 : (its.find? (Vr.isId x.up)).getD Vr.It.zero = x3 at hfind3 hnx
    generalize hy3 : (its.find? (Vr.isId x.up)).isSome = y3 at hfind3
    have cell : ∀ j v, W.cell? ⟨Ss, j, none⟩ = some v → W3.cell? ⟨Ss, j, none⟩ = some v := fun j v h => (HB3.cell (a := ⟨Ss, j, none⟩) hSs).trans h
    have s0 := cell 0 (.int .i64 S.ck) (by simp [World.cell?, C3.out])
    have s1 := cell 1 (.int .i64 S.nx) (by simp [World.cell?, C3.out])
    have s2 := cell 2 (.slice S.d.a S.d.n S.d.c) (by simp [World.cell?, C3.out])
    have s3 := cell 3 (.slice S.i.a S.i.n S.i.c) (by simp [World.cell?, C3.out])
    have s4 := cell 4 (.slice S.c.a S.c.n S.c.c) (by simp [World.cell?, C3.out])
    have s5 := cell 5 (.slice S.h.a S.h.n S.h.c) (by simp [World.cell?, C3.out])
    have H1 : Aside _ := HB3
    have H2 : Aside _ := hk3
    have H3 : Aside _ := hJ3
    have hws : w1.heap.size < W3.heap.size := Nat.lt_of_lt_of_le hsz1 hk3.below.size
    clear cell HB3 hk3 hJ3 hS3 hR
    gi_upto_region 6 with (gi_at_call 48; refine (callsIn_wide.2 hfind3).mono ?_; rintro e w4 ⟨rfl, hb4⟩)
    have e1 : (w4.alloc (.cells #[.int .i64 x3.id, .int .i64 x3.up, .int .u8 x3.is, .string ⟨x3.proc.toArray⟩, .int .i64 x3.node, .int .i64 x3.frm, .int .u8 x3.wait, .string ⟨x3.code.toArray⟩] 54)).cell? ⟨w1.heap.size, 1, none⟩ = some (.int .i64 x.up) := by
      rw [← d1]
      exact (((Below.refl w4.heap.size w4).alloc (Nat.le_refl _) _).cell (p := ⟨w1.heap.size, 1, none⟩) (Nat.lt_of_lt_of_le hws hb4.size)).trans (hb4.cell (p := ⟨w1.heap.size, 1, none⟩) hws)
    generalize hw5 : w4.alloc (.cells #[.int .i64 x3.id, .int .i64 x3.up, .int .u8 x3.is, .string ⟨x3.proc.toArray⟩, .int .i64 x3.node, .int .i64 x3.frm, .int .u8 x3.wait, .string ⟨x3.code.toArray⟩] 54) = w5 at e1 ⊢
    have hbx5 : w5.heap[w4.heap.size]? = some (.cells #[.int .i64 x3.id, .int .i64 x3.up, .int .u8 x3.is, .string ⟨x3.proc.toArray⟩, .int .i64 x3.node, .int .i64 x3.frm, .int .u8 x3.wait, .string ⟨x3.code.toArray⟩] 54) := by
      rw [← hw5]; exact Array.getElem?_push_size ..
    have e2 : w5.cell? ⟨w4.heap.size, 1, none⟩ = some (.int .i64 x3.up) := by simp [World.cell?, hbx5]
    have e3 : w5.cell? ⟨w4.heap.size, 2, none⟩ = some (.int .u8 x3.is) := by simp [World.cell?, hbx5]
    have hgr5 : W3.grownBy w5 none := by rw [← hw5]; exact grownBy_allocR (grownBy_below (World.grownBy.refl W3 none) hb4) _
    have HJ5 : Aside (J (pre ++ [id]) w5) := C8.out _ _ _ _ H3.out hgr5 (fun r e => nomatch e)
    have HB5 : Aside (KB p W w5) := H1.out.grown hgr5 (fun k hk => Nat.lt_of_lt_of_le (hb k hk) H1.out.size) (fun r e => nomatch e)
    have hsz5 : W.heap.size < w5.heap.size := by have := hgr5.size; omega
    have HM3 : W3.ownsMap Try.prog 3 (plainElem Try.prog 3) W.heap.size (pre.length + 1) (D.put (Lit.int .i64 id) (DataW.lit (Lit.int .i64 (if id ∈ pre then 2 else 1)))) := by
      obtain ⟨es, ck, h, F, hs, hD⟩ := C15.out
      exact ⟨es, ck, H2.out.walks.same _ _ h rfl, F, hs, hD⟩
    have HM5 : Aside _ := HM3.kept hgr5 (by simp)
    have HD5 : Aside _ := C16.out
    have hstep := hp4 hnode
    have hlx := nextId_wf hups (List.mem_of_find?_eq_some hx1)
    clear hbx5 hw5 HM3 hgr5 H1 H2 H3 C8 C15 C16 d1 d4 hbx3
    have HD6 : Aside (∀ z : Int, (D.put (Lit.int .i64 id) (DataW.lit (Lit.int .i64 (if id ∈ pre then 2 else 1)))).atKey (.int .i64 z) (.lit (.int .i64 0)) = .lit (.int .i64 (if z ∈ pre ++ [id] then 1 else 0))) := fun z => by
      rw [HD5.out z]
      by_cases e : z = id
      · subst e; simp [hin]
      · simp [e]
    have hlen : (pre ++ [id]).length = pre.length + 1 := by simp
    clear HD5
    by_cases his3 : x3.is = 2
    · rw [if_pos his3] at hnx
      gi_wp2
      go_roundg (gk - 1)
      case rel => exact ⟨_, pre ++ [id], _, rfl, hlx, hstep, by rw [hlen]; omega, HJ5, HB5, hsz5, by rw [hlen]; exact HM5, HD6⟩
      case measure => omega
    · rw [if_neg his3] at hnx
      gi_wp2
      go_roundg (gk - 1)
      case rel => exact ⟨_, pre ++ [id], _, rfl, hlx, hstep, by rw [hlen]; omega, HJ5, HB5, hsz5, by rw [hlen]; exact HM5, HD6⟩
      case measure => omega
/-- the iterator that vars.way hands back gives the scopes on the way, in order -/
theorem way_stops (n : Nat) (hn : 3 ≤ n) (S : Vr.StV) (its : List Vr.It) (hl : its.length ≤ 1000000) (hups : ∀ x ∈ its, (Lit.int .i64 x.up).wf = true) (sc : Int) (hsc : (Lit.int .i64 sc).wf = true) (Bs Ss : Nat) (p : Nat → Prop) (w : World) (hp : ∀ k, p k → k < w.heap.size) (hBs : p Bs) (hSs : p Ss)
    (hc : w.heap[Bs]? = some (.cells #[.int .i64 sc] 3)) (hs : w.heap[Ss]? = some (.cells #[.int .i64 S.ck, .int .i64 S.nx, .slice S.d.a S.d.n S.d.c, .slice S.i.a S.i.n S.i.c, .slice S.c.a S.c.n S.c.c, .slice S.h.a S.h.n S.h.c] 27))
    (hS : SF.SlAt w p S.i.a S.i.n S.i.c 8 (its.flatMap Vr.It.enc)) :
    SeqStopsK Fence.wide n Try.prog 47 #[.pointer (some ⟨Bs, 0, none⟩), .pointer (some ⟨Ss, 0, none⟩)] (fun x : Int => #[.int .i64 x]) (Kw p) (fun ys => ys = Vr.way its sc) (fun pre => pre <+: Vr.way its sc) its.length w := fun l J Jx W hW hJ hJx hY h0 => by
  have hB : KB p w W := KB.of_below hW hp
  refine (way1_in n hn S its hl hups sc hsc l Bs Ss p W (fun k hk => Nat.lt_of_lt_of_le (hp k hk) hW.size) hBs hSs (by rw [hB.block _ hBs]; exact hc) (by rw [hB.block _ hSs]; exact hs) ?_ J Jx hJ hJx hY h0).mono ?_
  · obtain ⟨h1, h2, h3⟩ := hS
    refine ⟨h1, h2, ?_⟩
    rcases h3 with ⟨hp, e⟩ | ⟨b, o, e, hb, hlt, hcs⟩
    · exact .inl ⟨hp, e⟩
    · exact .inr ⟨b, o, e, hb, Nat.lt_of_lt_of_le hlt hW.size, fun j u hu => (hB.cell (a := ⟨b, o + j, none⟩) hb).trans (hcs j u hu)⟩
  · rintro e W' ⟨he, hj | ⟨pre, hpre, hj⟩⟩
    · exact ⟨he, .inl ⟨_, rfl, hj⟩⟩
    · exact ⟨he, .inr ⟨pre, hpre, hj⟩⟩
end Go.Proofs.Ytamnfdmmjjekhaa
