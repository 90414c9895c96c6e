/- The statement ValidTold of callboardlaw16: for every input the law returns true, and each argument reads afterwards as it read before. No condition. Ahead of it: VdRoot VdAll VcVal6 VdCopy VcVl3 VdAwake VlPlain VcVl VlSe VlOpen FrOpen FrLaid Kit VlJoin VlToldP VcVl2 VlTold VlJoinT. -/
import Derived.Test.YtkpjmlnhhggenaaGreatDoorPt5
import Derived.WalkKit
import Derived.Maps.OwnSet
import Derived.Maps.OwnOps
import Derived.Lib.BufferOwn
import Derived.WalkSpells
import Derived.Deep.RegionWith
import Derived.Deep.OwnRows
import Derived.Deep.DeepCutAuto
import Derived.Test.YtkpjmlnhhggenaaGreatDoorProg
import Derived.Test.YtkpjmlnhhggenaaGreatDoorPt2
import Derived.Test.YtkpjmlnhhggenaaGreatDoorPt3
import Derived.Deep.Slices
import Derived.ChangeSame
import Derived.WideShapes
import Derived.Lib.LaidTab
import Derived.Stop.LaidErr
import Derived.Shelf.Vars
import Derived.Lib.Hide
import Derived.ShutString
import Derived.Deep.Draws
import Derived.Test.YtkpjmlnhhggenaaGreatDoorRows
import Derived.ProofKit
import Derived.OpenShut
import Derived.ChangeOld
import Derived.Below
import Derived.SizedLaws
import Derived.Lib.SmallJoins
import Derived.Test.YtkpjmlnhhggenaaGreatDoorCards
import Derived.Test.YtkpjmlnhhggenaaGreatDoorTie
import Derived.Deep.DeepHandedRow
import Derived.Deep.DeepWitnessRowRef
import Derived.LaidMore
import Derived.Lay
import Derived.MakeChecks
set_option linter.unusedSimpArgs false
set_option linter.unusedVariables false
section
/- The walk of package valid: begins. -/
namespace Vd
open Go Md
theorem name_len {s : Bs} (h : name s = true) : s.length ≤ 12 := by
 unfold name at h
 simp only [Bool.and_eq_true, Bool.not_eq_true', Bool.or_eq_false_iff, decide_eq_false_iff_not] at h
 omega
theorem ifand {c : Prop} [Decidable c] {a b : Bool} (h : (if c then (a && b) else b) = true) : b = true := by
 split at h
 ·rw [Bool.and_eq_true] at h; exact h.2
 ·exact h
theorem node_key {n : Nd} (h : node n = 0) : n.key.length ≤ 12 := by
 unfold node at h
 split at h
 ·exact absurd h (by decide)
 ·split at h
  ·rename_i h1
   simp only [Bool.and_eq_true] at h1
   have hb : k2 n = [] := by
    have := h1.2
    unfold bareNd at this
    simp only [Bool.and_eq_true, beq_iff_eq] at this
    exact this.1
   have o2t : o2 n = true := by
    have h2 := h1.1
    have h7 : o7 n = true := by unfold o8 at h2; exact ifand h2
    have h6 : o6 n = true := by unfold o7 at h7; exact ifand h7
    have h5 : o5 n = true := by unfold o6 at h6; exact ifand h6
    have h4 : o4 n = true := by unfold o5 at h5; rw [Bool.and_eq_true] at h5; exact h5.2
    have h3 : o3 n = true := by unfold o4 at h4; exact ifand h4
    unfold o3 at h3; exact ifand h3
   by_cases c1 : cKey n = true
   ·have : o1 n = true := by unfold o2 at o2t; exact ifand o2t
    unfold o1 at this
    rw [if_pos c1, Bool.and_eq_true] at this
    exact name_len this.1
   ·have hk1 : k1 n = n.key := if_neg c1
    by_cases c2 : cKey2 n = true
    ·unfold o2 at o2t
     rw [if_pos c2, hk1, Bool.and_eq_true, Bool.or_eq_true, Bool.and_eq_true, beq_iff_eq] at o2t
     rcases o2t.1 with h3 | h3
     ·exact name_len h3
     ·rw [h3.2]; exact Nat.zero_le _
    ·unfold k2 at hb
     rw [if_neg c2, hk1] at hb
     rw [hb]; exact Nat.zero_le _
  ·exact absurd h (by decide)
end Vd
namespace Go.Proofs.YtkpjmlnhhggenaaGreatDoor
open Go Go.RowKit Go.SF Go.Maps Go.Lib Go.WideMaps
theorem abs4 {P : Program} {c0 c1 c2 y T : Code} {Q : Exit → Act → World → Prop} {a : Act} {w : World} (G : Act → World → Prop) (hT : ∀ a w, G a w → T.wp P Q a w)
  (h : ∀ T' : Code, (∀ a w, G a w → T'.wp P Q a w) → (c0.seq (c1.seq (c2.seq (y.seq T')))).wp P Q a w) : (c0.seq (c1.seq (c2.seq (y.seq T)))).wp P Q a w := h T hT
set_option maxRecDepth 100000 in
set_option maxHeartbeats 2000000 in
theorem begins_q (p : PV) : BeginsQ p := by
 intro D fr tt m W hp hnd hI hm
 refine chk_q hI hm fun V hVw hx hVI => ?_
 rw [← hVw] at hm
 clear hVw
 have hp := hp.ext hx
 have hln := hp.ln
 unfold SF.CallsE
 have hmm := @run_makeMap Tryz.prog
 go_enter Tryz.func30, Tryz.ntmps30
 refine abs4 (fun a' w' => a'.eval (.tmp 0) = .pointer (some ⟨m, 0, none⟩) ∧ a'.tmps.size = 120 ∧ a'.defers = [] ∧ V.w.grownBy w' none ∧ Vd.begins p.pr = Vd.allAt (Vd.beginN p.pr) 0 p.pr.nodes) ?_ ?_
 ·rintro a' w' ⟨h0, hn, hd, hg', hb⟩
  have x' : Ext V ⟨w', V.I, fun b hb => Nat.lt_of_lt_of_le (V.lt b hb) hg'.size⟩ := ⟨hg'.size, fun _ h => h, fun b hb => hg'.block b (V.lt b hb) (fun e => nomatch e), hg'.os, hg'.tape, hg'.output⟩
  have hm' : w'.heap[m]? = some (.cells (chkC D p fr tt).toArray ChT) := by
   rw [← hm]; exact hg'.block m (Array.getElem?_eq_some_iff.1 hm).1 (fun e => nomatch e)
  rw [hb]
  exact vc_begins D.n D.c p.vars.length p.vc p.nodes.length p.nc p.flows.length p.fc fr.n fr.c tt.n tt.c ⟨p.nm.toArray⟩ D.a p.va p.na p.fa fr.a tt.a m V ⟨w', V.I, _⟩ _ a' rfl h0 hn hd hm' hVI (fun b hb => .inl hb) x' (begins_den D fr tt p m _ _ (hp.ext x') hVI)
 intro T hT
 generalize hR : (fun (e : Ending) (w' : World) => Keeps V w' ∧ (e = .returned (.bool (Vd.begins p.pr)) ∧ w'.heap[m]? = some (.cells (chkC D p fr tt).toArray ChT))) = R at hT ⊢
 have hg := World.grownBy_alloc V.w (.map #[] 0) none
 have hmlt : m < V.w.heap.size := (Array.getElem?_eq_some_iff.1 hm).1
 obtain ⟨V1, e1, hV1I⟩ : ∃ V1 : Wd, V1.w = V.w.alloc (.map #[] 0) ∧ V1.I = V.I := ⟨⟨V.w.alloc (.map #[] 0), V.I, fun b hb => Nat.lt_of_lt_of_le (V.lt b hb) hg.size⟩, rfl, rfl⟩
 have x1 : Ext V V1 := ⟨by rw [e1]; exact hg.size, fun b h => by rw [hV1I]; exact h, fun b hb => by rw [e1]; exact hg.block b (V.lt b hb) (fun e => nomatch e), by rw [e1]; exact hg.os, by rw [e1]; exact hg.tape, by rw [e1]; exact hg.output⟩
 have hm1 : V1.w.heap[m]? = some (.cells (chkC D p fr tt).toArray ChT) := by
  rw [← hm, e1]; exact hg.block m hmlt (fun e => nomatch e)
 have hst := starts_i D fr tt p (-1) m V1 (hp.ext x1) (by rw [hV1I]; exact hVI) hm1
 unfold SF.CallsI SF.CallsE SF.Ret NewNodes at hst
 rw [show V1.all.w = V.w.alloc (.map #[] 0) from e1] at hst
 go_upto_region 3 with (go_at_call 64; refine hst.mono ?_; rintro e w1 ⟨hk1, v, rfl, a8, c8, rfl, hS8⟩)
 generalize hl : (p.nodes.filter fun v : NV => Vd.isStart (-1) v.n) = l at hS8 ⊢
 have hll : l.length ≤ 1000000 := by rw [← hl]; exact Nat.le_trans (List.length_filter_le _ _) hln
 have grow : ∀ wr, w1.grownBy wr (some V.w.heap.size) → V.w.grownBy wr none := fun wr h =>
  ⟨by rw [h.os, hk1.os]; exact x1.os, by rw [h.tape, hk1.tape]; exact x1.tape, by rw [h.output, hk1.output]; exact x1.output, Nat.le_trans x1.size (Nat.le_trans hk1.size h.size), fun k hk _ => by
   have h1 : k < V1.w.heap.size := Nat.lt_of_lt_of_le hk x1.size
   rw [h.block k (Nat.lt_of_lt_of_le h1 hk1.size) (fun e => by injection e with e; omega), hk1.keep k h1]
   show V1.w.heap[k]? = _
   rw [e1]
   exact hg.block k hk (fun e => nomatch e)⟩
 have hs1 : V1.w.heap.size = V.w.heap.size + 1 := by rw [e1]; simp
 go_loopw [15] (fun i wr => ∃ (k : Nat) (ks : List Md.Bs) (D : DataW Unit), k ≤ l.length ∧ i = .int .i64 k ∧ wr.ownsMap Tryz.prog 9 unitElem V.w.heap.size k D ∧ w1.grownBy wr (some V.w.heap.size) ∧ (∀ x : Md.Bs, Maps.has D (.string x) = ks.contains x) ∧ Maps.size D = ks.length ∧ Vd.rootN (l.map (·.n)) [] = Vd.rootN ((l.drop k).map (·.n)) ks)
  (fun i _ => l.length - (RowKit.intOf i).toNat)
 case atStart => exact ⟨0, [], .map [], Nat.zero_le _, rfl, by
   obtain ⟨es, clock, h1, h2⟩ := World.ownsMap_made (H := Unit) V.w Tryz.prog 9 unitElem
   refine ⟨es, clock, ?_, h2⟩
   rw [hk1.keep V.w.heap.size (by show _ < V1.w.heap.size; omega)]
   show V1.w.heap[_]? = _
   rw [e1]; exact h1, World.grownBy.refl _ _, fun x => rfl, rfl, by simp⟩
 case round =>
  obtain ⟨k, ks, M, hk, rfl, hown, hgr, hhas, hsize, hroot⟩ := hrel
  rcases Nat.lt_or_ge k l.length with hkl | hkl
  ·have hx1 : l[k]? = some l[k] := List.getElem?_eq_getElem hkl
   rw [tdrop_get hkl, List.map_cons, Vd.rootN] at hroot
   generalize l[k] = x at hx1 hroot
   obtain ⟨_, hc8, h3⟩ := hS8
   rcases h3 with ⟨_, h4, _⟩ | ⟨b, o, rfl, hbB, hbl, hc⟩
   ·omega
   have cell : ∀ j u, j < 11 → (ndC x)[j]? = some u → wr.cell? ⟨b, o + (k * 11 + j), none⟩ = some u := fun j u hj hu => by
    have h5 := hc (k * 11 + j) u (by rw [flat_get ndC_len j hx1 hj]; exact hu)
    rw [← h5]
    exact World.cell?_of_block (hgr.block b hbl (fun e => by injection e with e; omega))
   have s0 : wr.cell? ⟨b, o + k * 11, none⟩ = some (.string ⟨x.n.nm.toArray⟩) := cell 0 _ (by decide) rfl
   have s1 : wr.cell? ⟨b, o + k * 11 + 1, none⟩ = some (.int .u8 x.n.kd) := by rw [Nat.add_assoc]; exact cell 1 _ (by decide) rfl
   have s2 : wr.cell? ⟨b, o + k * 11 + 2, none⟩ = some (.int .i64 x.n.inn) := by rw [Nat.add_assoc]; exact cell 2 _ (by decide) rfl
   have s3 : wr.cell? ⟨b, o + k * 11 + 3, none⟩ = some (.int .i64 x.n.on) := by rw [Nat.add_assoc]; exact cell 3 _ (by decide) rfl
   have s4 : wr.cell? ⟨b, o + k * 11 + 4, none⟩ = some (.int .u8 x.n.ev) := by rw [Nat.add_assoc]; exact cell 4 _ (by decide) rfl
   have s5 : wr.cell? ⟨b, o + k * 11 + 5, none⟩ = some (.string ⟨x.n.key.toArray⟩) := by rw [Nat.add_assoc]; exact cell 5 _ (by decide) rfl
   have s6 : wr.cell? ⟨b, o + k * 11 + 6, none⟩ = some (.string ⟨x.n.txt.toArray⟩) := by rw [Nat.add_assoc]; exact cell 6 _ (by decide) rfl
   have s7 : wr.cell? ⟨b, o + k * 11 + 7, none⟩ = some (.string ⟨x.n.set.toArray⟩) := by rw [Nat.add_assoc]; exact cell 7 _ (by decide) rfl
   have s8 : wr.cell? ⟨b, o + k * 11 + 8, none⟩ = some (.bool x.n.brk) := by rw [Nat.add_assoc]; exact cell 8 _ (by decide) rfl
   have s9 : wr.cell? ⟨b, o + k * 11 + 9, none⟩ = some (.slice x.va x.n.vars.length x.vc) := by rw [Nat.add_assoc]; exact cell 9 _ (by decide) rfl
   have s10 : wr.cell? ⟨b, o + k * 11 + 10, none⟩ = some (.slice x.ba x.n.back.length x.bc) := by rw [Nat.add_assoc]; exact cell 10 _ (by decide) rfl
   clear cell
   have hxm : x ∈ p.nodes := by
    have : x ∈ l := List.mem_of_getElem? hx1
    rw [← hl] at this
    exact (List.mem_filter.1 this).1
   have hkl12 := Vd.node_key (hnd x hxm)
   have hkey : keyOf Tryz.prog 9 (.string ⟨x.n.key.toArray⟩) = some (.string x.n.key) := by
    have := keyOf_string_mk (P := Tryz.prog) (k := 9) (s := ⟨x.n.key.toArray⟩) (by kernel_rfl) (by rw [mb_size]; unfold maxLen; omega)
    simpa using this
   have hz : ∀ w : World, (zeroValue 100).run Tryz.prog w = .ok (.agg #[]) w := fun w => by kernel_rfl
   have KP : Aside _ := And.intro hl (And.intro hgr (And.intro hT (And.intro hhas (And.intro hsize (And.intro hroot grow)))))
   clear hl hnd hgr hT hhas hsize hroot hc grow hst
   go_wp2_with (first
    | (at_lookup; refine wpList_lookup_own_unit _ rfl _ _ 98 rfl 9 100 (string_keyed (by kernel_rfl)) (by kernel_rfl) (hz _) V.w.heap.size k M rfl (hown.kept (row := none) (World.grownBy_alloc _ _ _) (by simp)) _ _ rfl hkey ?_)
    | (at_mapUpdate; refine wpList_mapUpdate_own _ rfl _ _ _ 98 rfl 9 100 (string_keyed (by kernel_rfl)) (by kernel_rfl) _ V.w.heap.size k M rfl (hown.kept (row := none) (grownBy_allocR (World.grownBy_alloc _ _ _) _) (by simp)) (by unfold maxLen; omega) _ _ _ rfl rfl hkey _ [] unitElem_mk ?_; intro w2 hown2 hgrow2)
    | go_in)
   ·obtain ⟨hl, hgr, hT, hhas, hsize, hroot, grow⟩ := KP.out
    have hbf : ((x.n.brk || (!(x.n.ev == 0) && !(x.n.ev == 1))) || ks.contains x.n.key) = true → Vd.begins p.pr = false := by
     intro h
     unfold Vd.begins
     rw [starts_map, hl, hroot, if_pos h]
    have hbb : Vd.begins p.pr = false := hbf (by rw [‹x.n.brk = true›]; rfl)
    have fin : ∀ w', V.w.grownBy w' none → R (.returned (.bool false)) w' := by
     intro w' hgw
     subst hR
     exact ⟨⟨hgw.os, hgw.tape, hgw.output, hgw.size, fun b hb => hgw.block b (V.lt b hb) (fun e => nomatch e)⟩, by rw [hbb], by rw [← hm]; exact hgw.block m hmlt (fun e => nomatch e)⟩
    exact fin _ (grow _ (grownBy_allocR (grownBy_allocR hgr _) _))
   ·obtain ⟨hl, hgr, hT, hhas, hsize, hroot, grow⟩ := KP.out
    have hbf : ((x.n.brk || (!(x.n.ev == 0) && !(x.n.ev == 1))) || ks.contains x.n.key) = true → Vd.begins p.pr = false := by
     intro h
     unfold Vd.begins
     rw [starts_map, hl, hroot, if_pos h]
    have hbb : Vd.begins p.pr = false := hbf (by rw [← hhas, ‹Maps.has M (Lit.string x.n.key) = true›, Bool.or_true])
    have fin : ∀ w', V.w.grownBy w' none → R (.returned (.bool false)) w' := by
     intro w' hgw
     subst hR
     exact ⟨⟨hgw.os, hgw.tape, hgw.output, hgw.size, fun b hb => hgw.block b (V.lt b hb) (fun e => nomatch e)⟩, by rw [hbb], by rw [← hm]; exact hgw.block m hmlt (fun e => nomatch e)⟩
    exact fin _ (grow _ (grownBy_allocR (grownBy_allocR hgr _) _))
   ·obtain ⟨hl, hgr, hT, hhas, hsize, hroot, grow⟩ := KP.out
    have hno : Maps.has M (Lit.string x.n.key) = false := by
     first
      | assumption
      | exact Bool.eq_false_iff.2 ‹¬ Maps.has M (Lit.string x.n.key) = true›
    have hbr : x.n.brk = false := by
     first
      | assumption
      | exact Bool.eq_false_iff.2 ‹¬ x.n.brk = true›
    have hev : (!(x.n.ev == 0) && !(x.n.ev == 1)) = false := by
     first
      | (rw [‹x.n.ev = 0›]; rfl)
      | (rw [‹x.n.ev = 1›]; rfl)
    refine ⟨⟨k + 1, ks ++ [x.n.key], M.put (.string x.n.key) (.agg []), by omega, rfl, hown2, grownBy_trans (grownBy_allocR (grownBy_allocR hgr _) _) hgrow2, fun y => ?_, ?_, ?_⟩, ?_⟩
    ·by_cases e : y = x.n.key
     ·subst e
      rw [has_put_same hown.isMap (by simp [WideAt.IsKeyLit])]
      simp
     ·rw [has_put_other (by simpa using e), hhas y]
      simp [e]
    ·rw [size_put (hown.tidy (string_keyed (by kernel_rfl))), if_neg (by rw [hno]; exact fun h => nomatch h), hsize, List.length_append]
     rfl
    ·rw [hroot, if_neg (by rw [hbr, hev, ← hhas, hno]; exact fun h => nomatch h)]
    ·simp [RowKit.intOf]; omega
   ·obtain ⟨hl, hgr, hT, hhas, hsize, hroot, grow⟩ := KP.out
    have hbf : ((x.n.brk || (!(x.n.ev == 0) && !(x.n.ev == 1))) || ks.contains x.n.key) = true → Vd.begins p.pr = false := by
     intro h
     unfold Vd.begins
     rw [starts_map, hl, hroot, if_pos h]
    have hbb : Vd.begins p.pr = false := hbf (by rw [← hhas, ‹Maps.has M (Lit.string x.n.key) = true›, Bool.or_true])
    have fin : ∀ w', V.w.grownBy w' none → R (.returned (.bool false)) w' := by
     intro w' hgw
     subst hR
     exact ⟨⟨hgw.os, hgw.tape, hgw.output, hgw.size, fun b hb => hgw.block b (V.lt b hb) (fun e => nomatch e)⟩, by rw [hbb], by rw [← hm]; exact hgw.block m hmlt (fun e => nomatch e)⟩
    exact fin _ (grow _ (grownBy_allocR (grownBy_allocR hgr _) _))
   ·obtain ⟨hl, hgr, hT, hhas, hsize, hroot, grow⟩ := KP.out
    have hno : Maps.has M (Lit.string x.n.key) = false := by
     first
      | assumption
      | exact Bool.eq_false_iff.2 ‹¬ Maps.has M (Lit.string x.n.key) = true›
    have hbr : x.n.brk = false := by
     first
      | assumption
      | exact Bool.eq_false_iff.2 ‹¬ x.n.brk = true›
    have hev : (!(x.n.ev == 0) && !(x.n.ev == 1)) = false := by
     first
      | (rw [‹x.n.ev = 0›]; rfl)
      | (rw [‹x.n.ev = 1›]; rfl)
    refine ⟨⟨k + 1, ks ++ [x.n.key], M.put (.string x.n.key) (.agg []), by omega, rfl, hown2, grownBy_trans (grownBy_allocR (grownBy_allocR hgr _) _) hgrow2, fun y => ?_, ?_, ?_⟩, ?_⟩
    ·by_cases e : y = x.n.key
     ·subst e
      rw [has_put_same hown.isMap (by simp [WideAt.IsKeyLit])]
      simp
     ·rw [has_put_other (by simpa using e), hhas y]
      simp [e]
    ·rw [size_put (hown.tidy (string_keyed (by kernel_rfl))), if_neg (by rw [hno]; exact fun h => nomatch h), hsize, List.length_append]
     rfl
    ·rw [hroot, if_neg (by rw [hbr, hev, ← hhas, hno]; exact fun h => nomatch h)]
    ·simp [RowKit.intOf]; omega
   ·obtain ⟨hl, hgr, hT, hhas, hsize, hroot, grow⟩ := KP.out
    have hbf : ((x.n.brk || (!(x.n.ev == 0) && !(x.n.ev == 1))) || ks.contains x.n.key) = true → Vd.begins p.pr = false := by
     intro h
     unfold Vd.begins
     rw [starts_map, hl, hroot, if_pos h]
    have hbb : Vd.begins p.pr = false := hbf (by rw [show (x.n.ev == 0) = false from beq_eq_false_iff_ne.2 ‹_›, show (x.n.ev == 1) = false from beq_eq_false_iff_ne.2 ‹_›]; simp)
    have fin : ∀ w', V.w.grownBy w' none → R (.returned (.bool false)) w' := by
     intro w' hgw
     subst hR
     exact ⟨⟨hgw.os, hgw.tape, hgw.output, hgw.size, fun b hb => hgw.block b (V.lt b hb) (fun e => nomatch e)⟩, by rw [hbb], by rw [← hm]; exact hgw.block m hmlt (fun e => nomatch e)⟩
    exact fin _ (grow _ (grownBy_allocR (grownBy_allocR hgr _) _))
  ·obtain rfl : k = l.length := by omega
   rw [List.drop_length] at hroot
   have hb : Vd.begins p.pr = (!(ks.length == 0) && Vd.allAt (Vd.beginN p.pr) 0 p.pr.nodes) := by
    unfold Vd.begins
    rw [starts_map, hl, hroot]; rfl
   go_wp2_with (first
    | (at_len; refine wpList_len_own _ rfl _ 98 rfl 9 100 (by kernel_rfl) unitElem V.w.heap.size l.length _ rfl hown ?_)
    | go_in)
   ·rw [← hR]
    have hgw := grow wr hgr
    refine ⟨⟨hgw.os, hgw.tape, hgw.output, hgw.size, fun b hb => hgw.block b (V.lt b hb) (fun e => nomatch e)⟩, ?_, ?_⟩
    ·rw [hb, show (ks.length == 0) = true from beq_iff_eq.2 (by have h := ‹(((ks.length : Nat) : Int) == 0) = true›; rw [beq_iff_eq] at h; omega)]; rfl
    ·rw [← hm]; exact hgw.block m hmlt (fun e => nomatch e)
   ·exact hT _ _ ⟨rfl, rfl, rfl, grow wr hgr, by rw [hb, show (ks.length == 0) = false from beq_eq_false_iff_ne.2 (by first | (have h := ‹¬ (((ks.length : Nat) : Int) == 0) = true›; rw [beq_iff_eq] at h; omega) | (have h := ‹(((ks.length : Nat) : Int) == 0) = false›; rw [beq_eq_false_iff_ne] at h; omega))]; rfl⟩
end Go.Proofs.YtkpjmlnhhggenaaGreatDoor
end
section
/- valid.Check answers Vd.check. -/
namespace Go.Proofs.YtkpjmlnhhggenaaGreatDoor
open Go Go.RowKit Go.SF
theorem vcheck_q (defs : List PV) (da : Option Addr) (dc : Nat) (p : PV) (W : Wd) (hd : defs.length ≤ 1000000) (hD : SlI W da defs.length dc 4 (defs.flatMap prC)) (hF : ∀ q ∈ defs, FitP q W)
  (hp : FitP p W) (hG : Glob W) (hT : GlobT W) (hM : GlobM W) :
  CallsQ Tryz.prog 12 #[.slice da defs.length dc, .agg (prC p).toArray] W (.int .i64 (Vd.check (defs.map PV.pr) p.pr)) :=
 vcheck_b defs da dc p W hd hD hF hp hG hT hM (begins_q p)
end Go.Proofs.YtkpjmlnhhggenaaGreatDoor
end
section
/- What is left to show of functions, as the walk that the kernel computes finds it (written by wip/vc2.py). -/
namespace Go.Proofs.YtkpjmlnhhggenaaGreatDoor
open Go Go.RowKit Go.SF
set_option maxRecDepth 100000
@[reducible] def t_clv_1 : Tree := (.app (.il 0) (.chk (.bin .le (.nv 0) (.il 2932031007402)) (.cells 0 (.nv 0) (.nv 1) 4 [⟨(.slc 1 (.il 0) (.nv 2)), (.il 0), 41, 4, []⟩] (.app (.nv 0) (.ret (.slc 2 (.nv 0) (.nv 3)) [] [] [⟨(.slc 2 (.nv 0) (.nv 3)), (.nv 0), 41, 4, [(.l 0)]⟩])))))
@[reducible] def t_clv : Tree :=
(.br (.un .not (.sm 0)) (.ret .nils [] [] []) t_clv_1)
theorem x_clv : xfn Tryz.prog { kc with rowT := [41, 9, 25, 33] } Tryz.f81 [(.slc 0 (.nv 0) (.nv 1))] [] [] kk2 = some t_clv := by kernel_rfl
theorem vc_clv (n0 n1 : Nat) (a0 : Option Addr) (W : Wd) (R : Ending → World → Prop) (h : t_clv.den Tryz.prog W.w.heap.size R [] { N := [n0, n1], A := [a0] } W) : CallsE Tryz.prog 81 #[.slice a0 n0 n1] W R :=
 fn_calls Tryz.func81 _ _ { N := [n0, n1], A := [a0] } _ x_clv (fun v hv => by cases hv) h
@[reducible] def t_cls_1 : Tree := (.app (.il 0) (.chk (.bin .le (.nv 0) (.il 8796093022208)) (.cells 0 (.nv 0) (.nv 1) 1 [⟨(.slc 1 (.il 0) (.nv 2)), (.il 0), 9, 1, []⟩] (.app (.nv 0) (.ret (.slc 2 (.nv 0) (.nv 3)) [] [] [⟨(.slc 2 (.nv 0) (.nv 3)), (.nv 0), 9, 1, [(.l 0)]⟩])))))
@[reducible] def t_cls : Tree :=
(.br (.un .not (.sm 0)) (.ret .nils [] [] []) t_cls_1)
theorem x_cls : xfn Tryz.prog { kc with rowT := [41, 9, 25, 33] } Tryz.f84 [(.slc 0 (.nv 0) (.nv 1))] [] [] kk2 = some t_cls := by kernel_rfl
theorem vc_cls (n0 n1 : Nat) (a0 : Option Addr) (W : Wd) (R : Ending → World → Prop) (h : t_cls.den Tryz.prog W.w.heap.size R [] { N := [n0, n1], A := [a0] } W) : CallsE Tryz.prog 84 #[.slice a0 n0 n1] W R :=
 fn_calls Tryz.func84 _ _ { N := [n0, n1], A := [a0] } _ x_cls (fun v hv => by cases hv) h
@[reducible] def t_cln_1 : Tree := (.app (.il 0) (.chk (.bin .le (.nv 0) (.il 925904528653)) (.cells 0 (.nv 0) (.nv 1) 11 [⟨(.slc 1 (.il 0) (.nv 2)), (.il 0), 25, 11, []⟩] (.app (.nv 0) (.ret (.slc 2 (.nv 0) (.nv 3)) [] [] [⟨(.slc 2 (.nv 0) (.nv 3)), (.nv 0), 25, 11, [(.l 0)]⟩])))))
@[reducible] def t_cln : Tree :=
(.br (.un .not (.sm 0)) (.ret .nils [] [] []) t_cln_1)
theorem x_cln : xfn Tryz.prog { kc with rowT := [41, 9, 25, 33] } Tryz.f82 [(.slc 0 (.nv 0) (.nv 1))] [] [] kk2 = some t_cln := by kernel_rfl
theorem vc_cln (n0 n1 : Nat) (a0 : Option Addr) (W : Wd) (R : Ending → World → Prop) (h : t_cln.den Tryz.prog W.w.heap.size R [] { N := [n0, n1], A := [a0] } W) : CallsE Tryz.prog 82 #[.slice a0 n0 n1] W R :=
 fn_calls Tryz.func82 _ _ { N := [n0, n1], A := [a0] } _ x_cln (fun v hv => by cases hv) h
@[reducible] def t_clf_1 : Tree := (.app (.il 0) (.chk (.bin .le (.nv 0) (.il 3518437208883)) (.cells 0 (.nv 0) (.nv 1) 4 [⟨(.slc 1 (.il 0) (.nv 2)), (.il 0), 33, 4, []⟩] (.app (.nv 0) (.ret (.slc 2 (.nv 0) (.nv 3)) [] [] [⟨(.slc 2 (.nv 0) (.nv 3)), (.nv 0), 33, 4, [(.l 0)]⟩])))))
@[reducible] def t_clf : Tree :=
(.br (.un .not (.sm 0)) (.ret .nils [] [] []) t_clf_1)
theorem x_clf : xfn Tryz.prog { kc with rowT := [41, 9, 25, 33] } Tryz.f83 [(.slc 0 (.nv 0) (.nv 1))] [] [] kk2 = some t_clf := by kernel_rfl
theorem vc_clf (n0 n1 : Nat) (a0 : Option Addr) (W : Wd) (R : Ending → World → Prop) (h : t_clf.den Tryz.prog W.w.heap.size R [] { N := [n0, n1], A := [a0] } W) : CallsE Tryz.prog 83 #[.slice a0 n0 n1] W R :=
 fn_calls Tryz.func83 _ _ { N := [n0, n1], A := [a0] } _ x_clf (fun v hv => by cases hv) h
@[reducible] def t_mcopy_1 : Tree := (.again 0 [(.int .i64 (.un (.wrap .i64) (.bin .add (.iv 0) (.il 1)))), (.slc 6 (.nv 12) (.nv 13))] [⟨(.slc 6 (.nv 12) (.nv 13)), (.nv 12), 25, 11, [(.l 4)]⟩])
@[reducible] def t_mcopy_2 : Tree := (.grow (.rset [(.l 2)] (.iv 0) 9 11 [(.slc 8 (.nv 16) (.nv 17))] (.grow (.rset [(.l 3)] (.iv 0) 10 11 [(.slc 10 (.nv 20) (.nv 21))] t_mcopy_1))))
@[reducible] def t_mcopy_3 : Tree := (.grow (.rlook 23 (.elt 6 (.iv 0) 11 10) (.slc 9 (.nv 18) (.nv 19)) ⟨(.slc 6 (.nv 12) (.nv 13)), (.nv 12), 25, 11, [(.l 2)]⟩ kk2 (.grow (.call 84 [(.slc 9 (.nv 18) (.nv 19))] [] [⟨(.slc 6 (.nv 12) (.nv 13)), (.nv 12), 25, 11, [(.l 2)]⟩, ⟨(.slc 5 (.nv 10) (.nv 11)), (.nv 10), 33, 4, [(.l 1)]⟩] [] (.slc 10 (.nv 20) (.nv 21)) kk2 t_mcopy_2))))
@[reducible] def t_mcopy_4 : Tree := (.grow (.call 81 [(.slc 7 (.nv 14) (.nv 15))] [] [⟨(.slc 6 (.nv 12) (.nv 13)), (.nv 12), 25, 11, [(.l 2)]⟩, ⟨(.slc 5 (.nv 10) (.nv 11)), (.nv 10), 33, 4, [(.l 1)]⟩] [] (.slc 8 (.nv 16) (.nv 17)) kk2 t_mcopy_3))
@[reducible] def t_mcopy_5 : Tree := (.grow (.rset [(.l 2)] (.iv 0) 9 11 [(.slc 9 (.nv 18) (.nv 19))] (.grow (.rset [(.l 3)] (.iv 0) 10 11 [(.slc 10 (.nv 20) (.nv 21))] t_mcopy_1))))
@[reducible] def t_mcopy_6 : Tree := (.grow (.call 84 [(.slc 8 (.nv 16) (.nv 17))] [] [⟨(.slc 6 (.nv 12) (.nv 13)), (.nv 12), 25, 11, [(.l 2)]⟩, ⟨(.slc 5 (.nv 10) (.nv 11)), (.nv 10), 33, 4, [(.l 1)]⟩] [] (.slc 10 (.nv 20) (.nv 21)) kk2 t_mcopy_5))
@[reducible] def t_mcopy_7 : Tree := (.grow (.rlook 23 (.elt 6 (.iv 0) 11 10) (.slc 8 (.nv 16) (.nv 17)) ⟨(.slc 6 (.nv 12) (.nv 13)), (.nv 12), 25, 11, [(.l 2)]⟩ kk2 (.grow (.call 81 [(.slc 7 (.nv 14) (.nv 15))] [] [⟨(.slc 6 (.nv 12) (.nv 13)), (.nv 12), 25, 11, [(.l 2)]⟩, ⟨(.slc 5 (.nv 10) (.nv 11)), (.nv 10), 33, 4, [(.l 1)]⟩] [] (.slc 9 (.nv 18) (.nv 19)) kk2 t_mcopy_6))))
@[reducible] def t_mcopy_8 : Tree := (.grow (.rlook 22 (.elt 6 (.iv 0) 11 9) (.slc 7 (.nv 14) (.nv 15)) ⟨(.slc 6 (.nv 12) (.nv 13)), (.nv 12), 25, 11, [(.l 2)]⟩ kk2 (.both t_mcopy_4 t_mcopy_7)))
@[reducible] def t_mcopy_9 : Tree := (.grow (.call 84 [(.slc 7 (.nv 14) (.nv 15))] [] [⟨(.slc 6 (.nv 12) (.nv 13)), (.nv 12), 25, 11, [(.l 2)]⟩, ⟨(.slc 5 (.nv 10) (.nv 11)), (.nv 10), 33, 4, [(.l 1)]⟩] [] (.slc 10 (.nv 20) (.nv 21)) kk2 t_mcopy_5))
@[reducible] def t_mcopy_10 : Tree := (.grow (.rlook 23 (.elt 6 (.iv 0) 11 10) (.slc 7 (.nv 14) (.nv 15)) ⟨(.slc 6 (.nv 12) (.nv 13)), (.nv 12), 25, 11, [(.l 2)]⟩ kk2 (.grow (.rlook 22 (.elt 6 (.iv 0) 11 9) (.slc 8 (.nv 16) (.nv 17)) ⟨(.slc 6 (.nv 12) (.nv 13)), (.nv 12), 25, 11, [(.l 2)]⟩ kk2 (.grow (.call 81 [(.slc 8 (.nv 16) (.nv 17))] [] [⟨(.slc 6 (.nv 12) (.nv 13)), (.nv 12), 25, 11, [(.l 2)]⟩, ⟨(.slc 5 (.nv 10) (.nv 11)), (.nv 10), 33, 4, [(.l 1)]⟩] [] (.slc 9 (.nv 18) (.nv 19)) kk2 t_mcopy_9))))))
@[reducible] def t_mcopy_11 : Tree := (.chk (.sm 6) (.chk (.bin .le (.il 0) (.iv 0)) (.chk (.bin .lt (.iv 0) (.nv 12)) (.both t_mcopy_8 t_mcopy_10))))
@[reducible] def t_mcopy_12 : Tree := (.wr (.ret (.agg [(.str (.tv 0)), (.slc 3 (.nv 6) (.nv 7)), (.slc 6 (.nv 12) (.nv 13)), (.slc 5 (.nv 10) (.nv 11))]) [] [] [⟨(.slc 6 (.nv 12) (.nv 13)), (.nv 12), 25, 11, [(.l 2)]⟩, ⟨(.slc 5 (.nv 10) (.nv 11)), (.nv 10), 33, 4, [(.l 1)]⟩]))
@[reducible] def t_mcopy_13 : Tree := (.grow (.new (.grow (.wr (.loop [(.int .i64 (.il 0)), (.slc 4 (.nv 8) (.nv 9))] [⟨(.slc 4 (.nv 8) (.nv 9)), (.nv 8), 25, 11, [(.l 0)]⟩] [(.int .i64 (.iv 0)), (.slc 6 (.nv 12) (.nv 13))] [⟨(.slc 6 (.nv 12) (.nv 13)), (.nv 12), 25, 11, [(.l 2)]⟩] kk7 (.br (.bin .lt (.iv 0) (.nv 8)) t_mcopy_11 t_mcopy_12))))))
@[reducible] def t_mcopy_14 : Tree := (.grow (.callr 83 [(.slc 2 (.nv 4) (.nv 5))] [] [⟨(.slc 4 (.nv 8) (.nv 9)), (.nv 8), 25, 11, [(.l 0)]⟩] [] (.slc 5 (.nv 10) (.nv 11)) [⟨(.slc 5 (.nv 10) (.nv 11)), (.nv 10), 33, 4, [(.l 1)]⟩] kk13 t_mcopy_13))
@[reducible] def t_mcopy_15 : Tree := (.grow (.wr (.loop [(.int .i64 (.il 0)), (.slc 4 (.nv 8) (.nv 9))] [⟨(.slc 4 (.nv 8) (.nv 9)), (.nv 8), 25, 11, [(.l 0)]⟩] [(.int .i64 (.iv 0)), (.slc 6 (.nv 12) (.nv 13))] [⟨(.slc 6 (.nv 12) (.nv 13)), (.nv 12), 25, 11, [(.l 2)]⟩] kk7 (.br (.bin .lt (.iv 0) (.nv 8)) t_mcopy_11 t_mcopy_12))))
@[reducible] def t_mcopy_16 : Tree := (.grow (.new (.grow (.callr 83 [(.slc 2 (.nv 4) (.nv 5))] [] [⟨(.slc 4 (.nv 8) (.nv 9)), (.nv 8), 25, 11, [(.l 0)]⟩] [] (.slc 5 (.nv 10) (.nv 11)) [⟨(.slc 5 (.nv 10) (.nv 11)), (.nv 10), 33, 4, [(.l 1)]⟩] kk13 t_mcopy_15))))
@[reducible] def t_mcopy_17 : Tree := (.grow (.callr 82 [(.slc 1 (.nv 2) (.nv 3))] [] [] [] (.slc 4 (.nv 8) (.nv 9)) [⟨(.slc 4 (.nv 8) (.nv 9)), (.nv 8), 25, 11, [(.l 0)]⟩] kk13 (.both t_mcopy_14 t_mcopy_16)))
@[reducible] def t_mcopy_18 : Tree := (.grow (.callr 83 [(.slc 2 (.nv 4) (.nv 5))] [] [⟨(.slc 4 (.nv 8) (.nv 9)), (.nv 8), 25, 11, [(.l 0)]⟩] [] (.slc 5 (.nv 10) (.nv 11)) [⟨(.slc 5 (.nv 10) (.nv 11)), (.nv 10), 33, 4, [(.l 1)]⟩] kk13 t_mcopy_15))
@[reducible] def t_mcopy_19 : Tree := (.grow (.new (.grow (.callr 82 [(.slc 1 (.nv 2) (.nv 3))] [] [] [] (.slc 4 (.nv 8) (.nv 9)) [⟨(.slc 4 (.nv 8) (.nv 9)), (.nv 8), 25, 11, [(.l 0)]⟩] kk13 t_mcopy_18))))
@[reducible] def t_mcopy_20 : Tree := (.grow (.call 81 [(.slc 0 (.nv 0) (.nv 1))] [] [] [] (.slc 3 (.nv 6) (.nv 7)) kk2 (.both t_mcopy_17 t_mcopy_19)))
@[reducible] def t_mcopy_21 : Tree := (.grow (.callr 82 [(.slc 1 (.nv 2) (.nv 3))] [] [] [] (.slc 4 (.nv 8) (.nv 9)) [⟨(.slc 4 (.nv 8) (.nv 9)), (.nv 8), 25, 11, [(.l 0)]⟩] kk13 t_mcopy_18))
@[reducible] def t_mcopy_22 : Tree := (.grow (.new (.grow (.call 81 [(.slc 0 (.nv 0) (.nv 1))] [] [] [] (.slc 3 (.nv 6) (.nv 7)) kk2 t_mcopy_21))))
@[reducible] def t_mcopy : Tree :=
(.new (.new (.both t_mcopy_20 t_mcopy_22)))
theorem x_mcopy : xfn Tryz.prog { kc with loops := [⟨3, [.tm 21, .rowc 2 2 28]⟩], rowT := [41, 9, 25, 33], rwx := true, rws := [(82, [], [(0, 25, 11)]), (83, [], [(0, 33, 4)])] } Tryz.f43 [(.agg [(.str (.tv 0)), (.slc 0 (.nv 0) (.nv 1)), (.slc 1 (.nv 2) (.nv 3)), (.slc 2 (.nv 4) (.nv 5))])] [] [] kk11 = some t_mcopy := by kernel_rfl
theorem vc_mcopy (n0 n1 n2 n3 n4 n5 : Nat) (t0 : ByteArray) (a0 a1 a2 : Option Addr) (W : Wd) (R : Ending → World → Prop) (h : t_mcopy.den Tryz.prog W.w.heap.size R [] { N := [n0, n1, n2, n3, n4, n5], T := [t0], A := [a0, a1, a2] } W) : CallsE Tryz.prog 43 #[.agg #[.string t0, .slice a0 n0 n1, .slice a1 n2 n3, .slice a2 n4 n5]] W R :=
 fn_calls Tryz.func43 _ _ { N := [n0, n1, n2, n3, n4, n5], T := [t0], A := [a0, a1, a2] } _ x_mcopy (fun v hv => by cases hv) h
end Go.Proofs.YtkpjmlnhhggenaaGreatDoor
end
section
/- The walks of slices.Clone and model.Copy (of processes whose own slices have no room). -/
namespace Go.Proofs.YtkpjmlnhhggenaaGreatDoor
open Go Go.RowKit Go.SF
def NewRow (ty : TypeId) (sz n : Nat) (w' : World) (v : Value) (len : Nat) (xs : List Value) : Prop := ∃ a c, v = .slice a len c ∧ w'.ownsRow n ty sz (.slice a len c) len xs
abbrev clT (ty : TypeId) (sz : Nat) (b : Int) : Tree := .br (.un .not (.sm 0)) (.ret .nils [] [] []) (.app (.il 0) (.chk (.bin .le (.nv 0) (.il b)) (.cells 0 (.nv 0) (.nv 1) sz [⟨(.slc 1 (.il 0) (.nv 2)), (.il 0), ty, sz, []⟩] (.app (.nv 0) (.ret (.slc 2 (.nv 0) (.nv 3)) [] [] [⟨(.slc 2 (.nv 0) (.nv 3)), (.nv 0), ty, sz, [(.l 0)]⟩])))))
theorem cl_den {ty : TypeId} {sz : Nat} {b : Int} {n c : Nat} {ad : Option Addr} {W : Wd} {l : List Value} (hS : SlI W ad n c sz l) (h1 : ∀ u ∈ l, u.oneCell' = true) (hb : (n : Int) ≤ b) :
  (clT ty sz b).den Tryz.prog W.w.heap.size (fun e w' => ∃ v, e = .returned v ∧ NewRow ty sz W.w.heap.size w' v n l) [] { N := [n, c], A := [ad] } W := by
 refine den_br (fun c1 => ?_) fun c1 => ?_
 ·have c1 : ad = none := by simpa [Sy.dens, Sy.den, E.i, E.b, E.t, gd, Env.push, z_a, z_b, z_c, z_d] using c1
  obtain ⟨h2, _, h3⟩ := hS
  have hn : n = 0 := by
   rcases h3 with ⟨_, z, _⟩ | ⟨b, o, e, _⟩
   ·exact z
   ·rw [c1] at e; cases e
  subst hn
  obtain rfl : l = [] := List.eq_nil_of_length_eq_zero (by omega)
  exact den_ret fun _ _ _ => ⟨_, rfl, none, 0, rfl, World.ownsRow_nil _ _ _ _⟩
 ·refine den_app fun a1 c2 W1 _ x1 => ?_
  simp only [zP]
  refine den_chk (chk_le (by simp only [zE]; omega)) (den_cells l ?_ h1 ?_ ?_ (den_app fun a2 c3 W2 _ x2 => den_ret fun _ _ hr => ⟨_, rfl, ?_⟩))
  ·simp only [zE]; exact hS.1
  ·intro h0
   have h0 : ad = none := h0
   simp [Sy.dens, Sy.den, E.i, E.b, E.t, gd, Env.push, z_a, z_b, z_c, z_d, h0] at c1
  ·intro a had W' xW j u hj
   have had : ad = some a := had
   obtain ⟨h2, _, ⟨_, z, _⟩ | ⟨b, o, e, hI, hb, hc⟩⟩ := hS.ext (ext_trans x1 xW)
   ·rw [z, Nat.zero_mul] at h2
    rw [List.eq_nil_of_length_eq_zero h2] at hj; simp at hj
   ·rw [had] at e
    obtain rfl := Option.some.inj e
    rw [add_none]; exact hc j u hj
  ·have h1 := (hr _ (List.mem_cons_self ..)).1
   simp only [zR, Sy.den, E.i, z_d] at h1
   exact ⟨a2, c3, rfl, h1⟩
theorem clv_nil (W : Wd) : CallsQ Tryz.prog 81 #[.slice none 0 0] W (.slice none 0 0) := by
 refine vc_clv 0 0 none W.all _ ?_
 exact den_br_t rfl (den_ret fun _ _ _ => ⟨_, rfl, rfl⟩)
theorem cls_nil (W : Wd) : CallsQ Tryz.prog 84 #[.slice none 0 0] W (.slice none 0 0) := by
 refine vc_cls 0 0 none W.all _ ?_
 exact den_br_t rfl (den_ret fun _ _ _ => ⟨_, rfl, rfl⟩)
theorem ndC_ones (l : List NV) : ∀ u ∈ l.flatMap ndC, u.oneCell' = true := by
 intro u hu
 obtain ⟨v, _, hv⟩ := List.mem_flatMap.1 hu
 simp only [ndC, List.mem_cons, List.not_mem_nil, or_false] at hv
 rcases hv with rfl | rfl | rfl | rfl | rfl | rfl | rfl | rfl | rfl | rfl | rfl <;> rfl
theorem flC_ones (l : List Md.Fl) : ∀ u ∈ l.flatMap flC, u.oneCell' = true := by
 intro u hu
 obtain ⟨v, _, hv⟩ := List.mem_flatMap.1 hu
 simp only [flC, List.mem_cons, List.not_mem_nil, or_false] at hv
 rcases hv with rfl | rfl | rfl | rfl <;> rfl
theorem cln_i (l : List NV) (ad : Option Addr) (c : Nat) (W : Wd) (hl : l.length ≤ 1000000) (hS : SlI W ad l.length c 11 (l.flatMap ndC)) :
  CallsI Tryz.prog 82 #[.slice ad l.length c] W.all fun v w' => NewRow NdT 11 W.w.heap.size w' v l.length (l.flatMap ndC) := by
 refine vc_cln l.length c ad W.all _ ?_
 exact cl_den (hS.ext W.all_ext) (ndC_ones l) (by omega)
theorem clf_i (l : List Md.Fl) (ad : Option Addr) (c : Nat) (W : Wd) (hl : l.length ≤ 1000000) (hS : SlI W ad l.length c 4 (l.flatMap flC)) :
  CallsI Tryz.prog 83 #[.slice ad l.length c] W.all fun v w' => NewRow 33 4 W.w.heap.size w' v l.length (l.flatMap flC) := by
 refine vc_clf l.length c ad W.all _ ?_
 exact cl_den (hS.ext W.all_ext) (flC_ones l) (by omega)
def Bare (p : PV) : Prop := p.va = none ∧ p.vars = [] ∧ p.vc = 0 ∧ ∀ v ∈ p.nodes, v.va = none ∧ v.n.vars = [] ∧ v.vc = 0 ∧ v.ba = none ∧ v.n.back = [] ∧ v.bc = 0
abbrev own (a : Option Addr) (n c : Nat) : Option Nat := (Value.slice a n c).ownBlock
def CopyR (n : Nat) (w' : World) (v : Value) (p : PV) : Prop := ∃ a c a' c', v = .agg #[strB p.nm, .slice none 0 0, .slice a p.nodes.length c, .slice a' p.flows.length c'] ∧
 w'.ownsRow n NdT 11 (.slice a p.nodes.length c) p.nodes.length (p.nodes.flatMap ndC) ∧ w'.ownsRow n 33 4 (.slice a' p.flows.length c') p.flows.length (p.flows.flatMap flC) ∧ ∀ k, own a p.nodes.length c = some k → own a' p.flows.length c' ≠ some k
abbrev cpR (n : Nat) (p : PV) : Ending → World → Prop := fun e w' => ∃ v, e = .returned v ∧ CopyR n w' v p
theorem chk_lt {a b : E} {ρ : Env} (h : a.i ρ < b.i ρ) : (E.bin .lt a b).b ρ = true := ltB_t h
theorem setL_same {l : List Value} {k : Nat} {v : Value} (h : l[k]? = some v) : setL l k [v] = l := by
 obtain ⟨hk, e⟩ := List.getElem?_eq_some_iff.1 h
 unfold setL
 simp only [List.length_singleton]
 rw [List.append_assoc, List.singleton_append, ← e, List.getElem_cons_drop, List.take_append_drop]
theorem owns_some {w : World} {b : Nat} {e : TypeId} {sz : Nat} {a : Option Addr} {n c : Nat} {xs : List Value} (h : w.ownsRow b e sz (.slice a n c) n xs) (hn : 0 < n) : a.isSome = true := by
 rcases h.2 with ⟨e1, z⟩ | ⟨g, cap, cur, e1, _⟩
 ·omega
 ·injection e1 with a1 a2 a3
  rw [a1]; rfl
theorem stray_aggT : aggT Tryz.prog 23 = some false := by kernel_rfl
section
variable (p : PV) (m : List Nat) (n0 c1 c2 : Nat) (a1 a2 : Option Addr)
abbrev cN : List Nat := [p.vars.length, p.vc, p.nodes.length, p.nc, p.flows.length, p.fc]
abbrev cρ1 : Env := { N := cN p ++ [0, 0], T := [⟨p.nm.toArray⟩], A := [p.va, p.na, p.fa, none], M := m }
abbrev cρ2 : Env := { N := cN p ++ [0, 0, p.nodes.length, c1], T := [⟨p.nm.toArray⟩], A := [p.va, p.na, p.fa, none, a1], M := m, L := [p.nodes.flatMap ndC] }
abbrev cρ3 : Env := { N := cN p ++ [0, 0, p.nodes.length, c1, p.flows.length, c2], T := [⟨p.nm.toArray⟩], A := [p.va, p.na, p.fa, none, a1, a2], M := m, L := [p.nodes.flatMap ndC, p.flows.flatMap flC] }
set_option maxRecDepth 100000 in
theorem cp15 (W : Wd) (hB : Bare p) (hln : p.nodes.length ≤ 1000000) (h2 : ∀ k, own a1 p.nodes.length c1 = some k → own a2 p.flows.length c2 ≠ some k) :
  t_mcopy_15.den Tryz.prog n0 (cpR n0 p) [] (cρ3 p m c1 c2 a1 a2) W := by
 refine den_grow fun W1 x1 => den_wr fun W2 x2 => ?_
 refine den_loop (fun j vs ls _ => ∃ i : Nat, vs = [.int .i64 (i : Nat), .slice a1 p.nodes.length c1] ∧ ls = [p.nodes.flatMap ndC] ∧ i ≤ p.nodes.length ∧ j = p.nodes.length - i) p.nodes.length ⟨0, rfl, by simp only [zR], Nat.zero_le _, rfl⟩ ?_
 rintro j vs ls W3 x3 ⟨i, rfl, rfl, hi, rfl⟩
 refine ⟨(i : Int), p.nodes.length, c1, a1, p.nodes.flatMap ndC, rfl, by simp only [zR], fun hrow => ?_⟩
 simp only [zP]
 have hro := (hrow _ (List.mem_cons_self ..)).1
 simp only [zR, Sy.den, E.i, z_d] at hro
 refine den_br (fun d1 => ?_) fun d1 => ?_
 ·simp only [zE, ltB_true] at d1
  have hil : i < p.nodes.length := by omega
  have hx : p.nodes[i]? = some p.nodes[i] := List.getElem?_eq_getElem hil
  have hv := hB.2.2.2 _ (List.getElem_mem hil)
  generalize p.nodes[i] = v at hx hv
  obtain ⟨b1, b2, b3, b4, b5, b6⟩ := hv
  have q9 : (ndC v)[9]? = some (.slice none 0 0) := by simp only [ndC, b1, b2, b3]; rfl
  have q10 : (ndC v)[10]? = some (.slice none 0 0) := by simp only [ndC, b4, b5, b6]; rfl
  have L9 : ∀ w, w.ownsRow n0 NdT 11 (.slice a1 p.nodes.length c1) p.nodes.length (p.nodes.flatMap ndC) → (Instr.loadAt 22 (.pointer (some ((a1.getD default).add (i * 11 + 9))))).run Tryz.prog w = .ok (.slice none 0 0) w := fun w h1 => by
   have h2 : SlI (Wd.of w).all a1 p.nodes.length c1 11 (p.nodes.flatMap ndC) := SlW.all (W := Wd.of w) ((owns_sl h1).mono fun _ _ => trivial)
   exact sl_look_f (P := Tryz.prog) ndC_len h2 varsl_aggT hx (k := 9) (by decide) q9 (W' := (Wd.of w).all) (Ext.refl _)
  have L10 : ∀ w, w.ownsRow n0 NdT 11 (.slice a1 p.nodes.length c1) p.nodes.length (p.nodes.flatMap ndC) → (Instr.loadAt 23 (.pointer (some ((a1.getD default).add (i * 11 + 10))))).run Tryz.prog w = .ok (.slice none 0 0) w := fun w h1 => by
   have h2 : SlI (Wd.of w).all a1 p.nodes.length c1 11 (p.nodes.flatMap ndC) := SlW.all (W := Wd.of w) ((owns_sl h1).mono fun _ _ => trivial)
   exact sl_look_f (P := Tryz.prog) ndC_len h2 stray_aggT hx (k := 10) (by decide) q10 (W' := (Wd.of w).all) (Ext.refl _)
  have S9 : setL (p.nodes.flatMap ndC) (i * 11 + 9) [.slice none 0 0] = p.nodes.flatMap ndC := setL_same (by rw [flat_get ndC_len 9 hx (by decide)]; exact q9)
  have S10 : setL (p.nodes.flatMap ndC) (i * 11 + 10) [.slice none 0 0] = p.nodes.flatMap ndC := setL_same (by rw [flat_get ndC_len 10 hx (by decide)]; exact q10)
  refine den_chk (by simp only [E.b, gd, Env.push]; exact owns_some hro (by omega)) (den_chk (chk_le (by simp only [zE]; omega)) (den_chk (chk_lt (by simp only [zE]; omega)) (den_both ?_ ?_)))
  ·refine den_grow fun V1 y1 => den_rlook (ExE.mk (d := { N := [0, 0], A := [none] }) ⟨rfl, fun v hv => by cases hv⟩ ⟨fun w hw => ?_, den_both ?_ ?_⟩)
   ·have h1 := hw.1
    simp only [zR, Sy.den, E.i, z_d] at h1
    have := L9 w h1
    simp only [zE] at this ⊢
    exact this
   ·simp only [zP]
    refine den_grow fun V2 y2 => den_call_q (fun _ _ => clv_nil V2) ⟨0, 0, none, rfl, fun V3 y3 => ?_⟩
    simp only [zP]
    refine den_grow fun V4 y4 => den_rlook (ExE.mk (d := { N := [0, 0], A := [none] }) ⟨rfl, fun v hv => by cases hv⟩ ⟨fun w hw => ?_, ?_⟩)
    ·have h1 := hw.1
     simp only [zR, Sy.den, E.i, z_d] at h1
     have := L10 w h1
     simp only [zE] at this ⊢
     exact this
    simp only [zP]
    refine den_grow fun V5 y5 => den_call_q (fun _ _ => cls_nil V5) ⟨0, 0, none, rfl, fun V6 y6 => ?_⟩
    simp only [zP]
    refine den_grow fun V7 y7 => den_rset fun V8 y8 => den_grow fun V9 y9 => den_rset fun V10 y10 => den_again ⟨p.nodes.length - (i + 1), by omega, i + 1, ?_, ?_, by omega, rfl⟩
    ·simp only [zE]; rw [w64i (by omega) (by omega)]; rfl
    ·simp only [zR, zE]
     rw [S9, S10]
   ·simp only [zP]
    refine den_grow fun V4 y4 => den_rlook (ExE.mk (d := { N := [0, 0], A := [none] }) ⟨rfl, fun v hv => by cases hv⟩ ⟨fun w hw => ?_, ?_⟩)
    ·have h1 := hw.1
     simp only [zR, Sy.den, E.i, z_d] at h1
     have := L10 w h1
     simp only [zE] at this ⊢
     exact this
    simp only [zP]
    refine den_grow fun V2 y2 => den_call_q (fun _ _ => clv_nil V2) ⟨0, 0, none, rfl, fun V3 y3 => ?_⟩
    simp only [zP]
    refine den_grow fun V5 y5 => den_call_q (fun _ _ => cls_nil V5) ⟨0, 0, none, rfl, fun V6 y6 => ?_⟩
    simp only [zP]
    refine den_grow fun V7 y7 => den_rset fun V8 y8 => den_grow fun V9 y9 => den_rset fun V10 y10 => den_again ⟨p.nodes.length - (i + 1), by omega, i + 1, ?_, ?_, by omega, rfl⟩
    ·simp only [zE]; rw [w64i (by omega) (by omega)]; rfl
    ·simp only [zR, zE]
     rw [S9, S10]
  ·refine den_grow fun V1 y1 => den_rlook (ExE.mk (d := { N := [0, 0], A := [none] }) ⟨rfl, fun v hv => by cases hv⟩ ⟨fun w hw => ?_, ?_⟩)
   ·have h1 := hw.1
    simp only [zR, Sy.den, E.i, z_d] at h1
    have := L10 w h1
    simp only [zE] at this ⊢
    exact this
   ·simp only [zP]
    refine den_grow fun V4 y4 => den_rlook (ExE.mk (d := { N := [0, 0], A := [none] }) ⟨rfl, fun v hv => by cases hv⟩ ⟨fun w hw => ?_, ?_⟩)
    ·have h1 := hw.1
     simp only [zR, Sy.den, E.i, z_d] at h1
     have := L9 w h1
     simp only [zE] at this ⊢
     exact this
    simp only [zP]
    refine den_grow fun V2 y2 => den_call_q (fun _ _ => clv_nil V2) ⟨0, 0, none, rfl, fun V3 y3 => ?_⟩
    simp only [zP]
    refine den_grow fun V5 y5 => den_call_q (fun _ _ => cls_nil V5) ⟨0, 0, none, rfl, fun V6 y6 => ?_⟩
    simp only [zP]
    refine den_grow fun V7 y7 => den_rset fun V8 y8 => den_grow fun V9 y9 => den_rset fun V10 y10 => den_again ⟨p.nodes.length - (i + 1), by omega, i + 1, ?_, ?_, by omega, rfl⟩
    ·simp only [zE]; rw [w64i (by omega) (by omega)]; rfl
    ·simp only [zR, zE]
     rw [S9, S10]
 ·simp only [zE, ltB_false] at d1
  refine den_wr fun W4 x4 => den_ret fun _ _ hr => ⟨_, rfl, a1, c1, a2, c2, rfl, ?_, ?_, h2⟩
  ·have h1 := (hr _ (List.mem_cons_self ..)).1
   simp only [zR, Sy.den, E.i, z_d] at h1
   exact h1
  ·have h1 := (hr _ (List.mem_cons_of_mem _ (List.mem_cons_self ..))).1
   simp only [zR, Sy.den, E.i, z_d] at h1
   exact h1
abbrev Rn (W : Wd) : Prop := n0 ≤ W.w.heap.size ∧ ∀ k, own a1 p.nodes.length c1 = some k → k < W.w.heap.size
theorem Rn.ext {p : PV} {n0 c1 : Nat} {a1 : Option Addr} {W W' : Wd} (h : Rn p n0 c1 a1 W) (x : Ext W W') : Rn p n0 c1 a1 W' := ⟨Nat.le_trans h.1 x.size, fun k hk => Nat.lt_of_lt_of_le (h.2 k hk) x.size⟩
theorem cp83 {T : Tree} {rw} (W : Wd) (hp : FitP p W) (h1 : Rn p n0 c1 a1 W) (k : ∀ a2 c2 W', Ext W W' → (∀ k, own a1 p.nodes.length c1 = some k → own a2 p.flows.length c2 ≠ some k) → T.den Tryz.prog n0 (cpR n0 p) [] (cρ3 p m c1 c2 a1 a2) W') :
  (Tree.callr 83 [(.slc 2 (.nv 4) (.nv 5))] [] rw [] (.slc 5 (.nv 10) (.nv 11)) [⟨(.slc 5 (.nv 10) (.nv 11)), (.nv 10), 33, 4, [(.l 1)]⟩] ⟨0, 2, 0, 0, 0, 1, 0, 1⟩ T).den Tryz.prog n0 (cpR n0 p) [] (cρ2 p m c1 a1) W := by
 refine den_callr_i (fun _ _ => clf_i p.flows p.fa p.fc W hp.lf hp.fs) fun v w' _ hN => ?_
 obtain ⟨a2, c2, hv, ho⟩ := id hN
 refine ExE.mk (d := { N := [p.flows.length, c2], A := [a2], L := [p.flows.flatMap flC] }) ⟨rfl, fun v hv => by cases hv⟩ ⟨hv, rowsNew_one h1.1 ?_ ?_, fun W4 e4 x4 n4 => ?_⟩
 ·simp only [zR, Sy.den, E.i, z_d]; exact ho
 ·simp only [zR]; exact flC_ones _
 ·have e : (cρ2 p m c1 a1).push { N := [p.flows.length, c2], A := [a2], L := [p.flows.flatMap flC] } = cρ3 p m c1 c2 a1 a2 := by simp [Env.push]
  rw [e]
  exact k a2 c2 W4 x4 fun k hk hk2 => by
   have := h1.2 k hk
   have := (World.ownsRow.lt ho k hk2).1
   omega
theorem cp82 {T : Tree} {rw} (W : Wd) (hp : FitP p W) (hn : n0 ≤ W.w.heap.size) (k : ∀ a1 c1 W', Ext W W' → Rn p n0 c1 a1 W' → T.den Tryz.prog n0 (cpR n0 p) [] (cρ2 p m c1 a1) W') :
  (Tree.callr 82 [(.slc 1 (.nv 2) (.nv 3))] [] rw [] (.slc 4 (.nv 8) (.nv 9)) [⟨(.slc 4 (.nv 8) (.nv 9)), (.nv 8), 25, 11, [(.l 0)]⟩] ⟨0, 2, 0, 0, 0, 1, 0, 1⟩ T).den Tryz.prog n0 (cpR n0 p) [] (cρ1 p m) W := by
 refine den_callr_i (fun _ _ => cln_i p.nodes p.na p.nc W hp.ln hp.ns) fun v w' _ hN => ?_
 obtain ⟨a1, c1, hv, ho⟩ := id hN
 refine ExE.mk (d := { N := [p.nodes.length, c1], A := [a1], L := [p.nodes.flatMap ndC] }) ⟨rfl, fun v hv => by cases hv⟩ ⟨hv, rowsNew_one hn ?_ ?_, fun W4 e4 x4 n4 => ?_⟩
 ·simp only [zR, Sy.den, E.i, z_d]; exact ho
 ·simp only [zR]; exact ndC_ones _
 ·have e : (cρ1 p m).push { N := [p.nodes.length, c1], A := [a1], L := [p.nodes.flatMap ndC] } = cρ2 p m c1 a1 := by simp [Env.push]
  rw [e]
  exact k a1 c1 W4 x4 ⟨Nat.le_trans hn x4.size, fun k hk => by rw [e4]; exact (World.ownsRow.lt ho k hk).2⟩
end
theorem mcopy_i (p : PV) (W : Wd) (hp : FitP p W) (hB : Bare p) : CallsI Tryz.prog 43 #[.agg (prC p).toArray] W.all fun v w' => CopyR W.w.heap.size w' v p := by
 have hp := hp.ext W.all_ext
 have hln := hp.ln
 refine vc_mcopy p.vars.length p.vc p.nodes.length p.nc p.flows.length p.fc ⟨p.nm.toArray⟩ p.va p.na p.fa W.all _ ?_
 have hva : ∀ W : Wd, CallsQ Tryz.prog 81 #[.slice p.va p.vars.length p.vc] W (.slice none 0 0) := fun W => by
  rw [hB.1, hB.2.1, hB.2.2.1]; exact clv_nil W
 refine den_new fun m0 W1 _ x1 => den_new fun m1 W2 _ x2 => den_both ?_ ?_
 ·have y2 := ext_trans x1 x2
  refine den_grow fun W3 x3 => den_call_q (fun _ _ => hva W3) ⟨0, 0, none, rfl, fun W4 x4 => ?_⟩
  have y4 := ext_trans y2 (ext_trans x3 x4)
  simp only [zP]
  refine den_both ?_ ?_
  ·refine den_grow fun W5 x5 => cp82 p [m0, m1] W.all.w.heap.size W5 (hp.ext (ext_trans y4 x5)) (ext_trans y4 x5).size fun a1 c1 W6 x6 r6 => den_both ?_ ?_
   ·refine den_grow fun W7 x7 => cp83 p [m0, m1] W.all.w.heap.size c1 a1 W7 (hp.ext (ext_trans (ext_trans y4 x5) (ext_trans x6 x7))) (r6.ext x7) fun a2 c2 W8 x8 h2 => den_grow fun W9 x9 => den_new fun m2 W10 _ x10 => ?_
    exact cp15 p [m0, m1, m2] W.all.w.heap.size c1 c2 a1 a2 W10 hB hln h2
   ·refine den_grow fun W7 x7 => den_new fun m2 W8 _ x8 => den_grow fun W9 x9 => cp83 p [m0, m1, m2] W.all.w.heap.size c1 a1 W9 (hp.ext (ext_trans (ext_trans (ext_trans y4 x5) (ext_trans x6 x7)) (ext_trans x8 x9))) (r6.ext (ext_trans x7 (ext_trans x8 x9))) fun a2 c2 W10 x10 h2 => ?_
    exact cp15 p [m0, m1, m2] W.all.w.heap.size c1 c2 a1 a2 W10 hB hln h2
  ·refine den_grow fun W5 x5 => den_new fun m2 W6 _ x6 => den_grow fun W7 x7 => cp82 p [m0, m1, m2] W.all.w.heap.size W7 (hp.ext (ext_trans (ext_trans y4 x5) (ext_trans x6 x7))) (ext_trans (ext_trans y4 x5) (ext_trans x6 x7)).size fun a1 c1 W8 x8 r8 => den_grow fun W9 x9 => cp83 p [m0, m1, m2] W.all.w.heap.size c1 a1 W9 (hp.ext (ext_trans (ext_trans (ext_trans y4 x5) (ext_trans x6 x7)) (ext_trans x8 x9))) (r8.ext x9) fun a2 c2 W10 x10 h2 => ?_
   exact cp15 p [m0, m1, m2] W.all.w.heap.size c1 c2 a1 a2 W10 hB hln h2
 ·have y2 := ext_trans x1 x2
  refine den_grow fun W3 x3 => den_new fun m2 W3' _ x3' => den_grow fun W3'' x3'' => den_call_q (fun _ _ => hva W3'') ⟨0, 0, none, rfl, fun W4 x4 => ?_⟩
  have y4 := ext_trans (ext_trans y2 (ext_trans x3 x3')) (ext_trans x3'' x4)
  simp only [zP]
  refine den_grow fun W5 x5 => cp82 p [m0, m1, m2] W.all.w.heap.size W5 (hp.ext (ext_trans y4 x5)) (ext_trans y4 x5).size fun a1 c1 W6 x6 r6 => den_grow fun W7 x7 => cp83 p [m0, m1, m2] W.all.w.heap.size c1 a1 W7 (hp.ext (ext_trans (ext_trans y4 x5) (ext_trans x6 x7))) (r6.ext x7) fun a2 c2 W8 x8 h2 => ?_
  exact cp15 p [m0, m1, m2] W.all.w.heap.size c1 c2 a1 a2 W8 hB hln h2
end Go.Proofs.YtkpjmlnhhggenaaGreatDoor
end
section
/- What is left to show of functions, as the walk that the kernel computes finds it (written by wip/vc2.py). -/
namespace Go.Proofs.YtkpjmlnhhggenaaGreatDoor
open Go Go.RowKit Go.SF
set_option maxRecDepth 100000
@[reducible] def dd12_0_0 : Blk := ⟨3, 25, [(.str (.tl [97])), (.int .u8 (.il 1)), (.int .i64 (.il (-1))), (.int .i64 (.il (-1))), (.int .u8 (.il 0)), (.str (.tl [])), (.str (.tl [])), (.str (.tl [])), (.bool (.bl false)), .nils, .nils, (.str (.tl [98])), (.int .u8 (.il 3)), (.int .i64 (.il (-1))), (.int .i64 (.il (-1))), (.int .u8 (.il 0)), (.str (.tl [])), (.str (.tl [])), (.str (.tl [])), (.bool (.bl false)), .nils, .nils, (.str (.tl [99])), (.int .u8 (.il 2)), (.int .i64 (.il (-1))), (.int .i64 (.il (-1))), (.int .u8 (.il 0)), (.str (.tl [])), (.str (.tl [])), (.str (.tl [])), (.bool (.bl false)), .nils, .nils]⟩
@[reducible] def dd12_0_1 : Blk := ⟨4, 33, [(.int .i64 (.il 0)), (.int .i64 (.il 1)), (.str (.tl [])), (.bool (.bl false)), (.int .i64 (.il 1)), (.int .i64 (.il 2)), (.str (.tl [])), (.bool (.bl false))]⟩
@[reducible] def dd12_0_2 : Sy := (.agg [(.str (.tv 0)), (.slc 0 (.nv 0) (.nv 1)), (.slc 1 (.nv 2) (.nv 3)), (.slc 2 (.nv 4) (.nv 5))])
@[reducible] def dd12_0_3 : RowS := ⟨(.slc 6 (.bin .add (.nv 10) (.il 1)) (.nv 12)), (.bin .add (.nv 10) (.il 1)), 33, 4, [(.l 6)]⟩
@[reducible] def t_lawake_1 : Tree := (.ret (.bool (.bl false)) [] [] [⟨(.slc 1 (.nv 2) (.nv 3)), (.nv 2), 25, 11, [(.l 0)]⟩, ⟨(.slc 2 (.nv 4) (.nv 5)), (.nv 4), 33, 4, [(.l 1)]⟩])
@[reducible] def t_lawake_2 : Tree := (.ret (.bool (.bin .ieq (.iv 3) (.il 23))) [] [] [dd12_0_3, ⟨(.slc 4 (.nv 8) (.nv 9)), (.nv 8), 25, 11, [(.l 5)]⟩, ⟨(.slc 1 (.nv 2) (.nv 3)), (.nv 2), 25, 11, [(.l 2)]⟩, ⟨(.slc 2 (.nv 4) (.nv 5)), (.nv 4), 33, 4, [(.l 1)]⟩])
@[reducible] def t_lawake_3 : Tree := (.call 12 [.nils, (.agg [(.str (.tv 1)), (.slc 3 (.nv 6) (.nv 7)), (.slc 4 (.nv 8) (.nv 9)), (.slc 6 (.bin .add (.nv 10) (.il 1)) (.nv 12))])] [] [dd12_0_3, ⟨(.slc 4 (.nv 8) (.nv 9)), (.nv 8), 25, 11, [(.l 5)]⟩, ⟨(.slc 1 (.nv 2) (.nv 3)), (.nv 2), 25, 11, [(.l 2)]⟩, ⟨(.slc 2 (.nv 4) (.nv 5)), (.nv 4), 33, 4, [(.l 1)]⟩] [] (.int .i64 (.iv 3)) kk0 t_lawake_2)
@[reducible] def t_lawake_4 : Tree := (.ret (.bool (.bl false)) [] [] [dd12_0_3, ⟨(.slc 4 (.nv 8) (.nv 9)), (.nv 8), 25, 11, [(.l 5)]⟩, ⟨(.slc 1 (.nv 2) (.nv 3)), (.nv 2), 25, 11, [(.l 2)]⟩, ⟨(.slc 2 (.nv 4) (.nv 5)), (.nv 4), 33, 4, [(.l 1)]⟩])
@[reducible] def t_lawake_5 : Tree := (.call 12 [.nils, dd12_0_2] [] [dd12_0_3, ⟨(.slc 4 (.nv 8) (.nv 9)), (.nv 8), 25, 11, [(.l 5)]⟩, ⟨(.slc 1 (.nv 2) (.nv 3)), (.nv 2), 25, 11, [(.l 2)]⟩, ⟨(.slc 2 (.nv 4) (.nv 5)), (.nv 4), 33, 4, [(.l 1)]⟩] [] (.int .i64 (.iv 2)) kk0 (.br (.bin .ieq (.iv 2) (.il 22)) t_lawake_3 t_lawake_4))
@[reducible] def t_lawake_6 : Tree := (.call 12 [.nils, (.agg [(.str (.tl [112])), .nils, (.slb 6 0 2 2), (.slb 7 0 1 1)])] [⟨7, 33, [(.int .i64 (.il 0)), (.int .i64 (.il 1)), (.str (.tl [])), (.bool (.bl false))]⟩, ⟨6, 25, [(.str (.tl [97])), (.int .u8 (.il 1)), (.int .i64 (.il (-1))), (.int .i64 (.il (-1))), (.int .u8 (.il 0)), (.str (.tl [])), (.str (.tl [])), (.str (.tl [])), (.bool (.bl false)), .nils, .nils, (.str (.tl [98])), (.int .u8 (.il 3)), (.int .i64 (.il (-1))), (.int .i64 (.il (-1))), (.int .u8 (.il 0)), (.str (.tl [])), (.str (.tl [])), (.str (.tl [])), (.bool (.bl false)), .nils, .nils]⟩] [dd12_0_3, ⟨(.slc 4 (.nv 8) (.nv 9)), (.nv 8), 25, 11, [(.l 5)]⟩, ⟨(.slc 1 (.nv 2) (.nv 3)), (.nv 2), 25, 11, [(.l 2)]⟩, ⟨(.slc 2 (.nv 4) (.nv 5)), (.nv 4), 33, 4, [(.l 1)]⟩] [] (.int .i64 (.iv 1)) kk0 (.br (.bin .ieq (.iv 1) (.il 4)) t_lawake_5 t_lawake_4))
@[reducible] def t_lawake_7 : Tree := (.call 12 [.nils, (.agg [(.str (.tl [112])), .nils, (.slb 3 0 3 3), (.slb 4 0 2 2)])] [dd12_0_1, dd12_0_0] [dd12_0_3, ⟨(.slc 4 (.nv 8) (.nv 9)), (.nv 8), 25, 11, [(.l 5)]⟩, ⟨(.slc 1 (.nv 2) (.nv 3)), (.nv 2), 25, 11, [(.l 2)]⟩, ⟨(.slc 2 (.nv 4) (.nv 5)), (.nv 4), 33, 4, [(.l 1)]⟩] [] (.int .i64 (.iv 0)) kk0 (.br (.bin .ieq (.iv 0) (.il 0)) t_lawake_6 t_lawake_4))
@[reducible] def t_lawake_8 : Tree := (.new (.chk (.bin .le (.bin .add (.nv 10) (.il 1)) (.il 3518437208883)) (.app (.bin .add (.nv 10) (.il 1)) (.wr (.chk (.sm 6) (.chk (.bin .lt (.il 1) (.bin .add (.nv 10) (.il 1))) (.rset [(.l 4), (.s (.int .i64 (.il 1))), (.s (.int .i64 (.il 2))), (.s (.str (.tl []))), (.s (.bool (.bl true)))] (.il 1) 2 4 [(.str (.tl [49, 32, 43, 32, 49]))] t_lawake_7)))))))
@[reducible] def t_lawake_9 : Tree := (.new (.wr (.chk (.sm 4) (.chk (.bin .lt (.il 1) (.nv 8)) (.rset [(.l 3)] (.il 1) 1 11 [(.int .u8 (.il 7))] t_lawake_8)))))
@[reducible] def t_lawake_10 : Tree := (.callr 43 [(.agg [(.str (.tl [112])), .nils, (.slb 3 0 3 3), (.slb 4 0 2 2)])] [dd12_0_1, dd12_0_0] [⟨(.slc 1 (.nv 2) (.nv 3)), (.nv 2), 25, 11, [(.l 2)]⟩, ⟨(.slc 2 (.nv 4) (.nv 5)), (.nv 4), 33, 4, [(.l 1)]⟩] [] (.agg [(.str (.tv 1)), (.slc 3 (.nv 6) (.nv 7)), (.slc 4 (.nv 8) (.nv 9)), (.slc 5 (.nv 10) (.nv 11))]) [⟨(.slc 4 (.nv 8) (.nv 9)), (.nv 8), 25, 11, [(.l 3)]⟩, ⟨(.slc 5 (.nv 10) (.nv 11)), (.nv 10), 33, 4, [(.l 4)]⟩] ⟨0, 6, 0, 1, 0, 3, 0, 2⟩ t_lawake_9)
@[reducible] def t_lawake_11 : Tree := (.chk (.sm 1) (.chk (.bin .le (.il 0) (.il 1)) (.chk (.bin .lt (.il 1) (.nv 2)) (.rset [(.l 0)] (.il 1) 0 11 [(.str (.tl [98])), (.int .u8 (.il 4)), (.int .i64 (.il (-1))), (.int .i64 (.il (-1))), (.int .u8 (.il 0)), (.str (.tl [])), (.str (.tl [49])), (.str (.tl [120])), (.bool (.bl false)), .nils, .nils] t_lawake_10))))
@[reducible] def t_lawake : Tree :=
(.new (.new (.new (.wr (.wr (.wr (.new (.new (.new (.wr (.new (.new (.new (.wr (.callr 43 [(.agg [(.str (.tl [112])), .nils, (.slb 3 0 3 3), (.slb 4 0 2 2)])] [dd12_0_1, dd12_0_0] [] [] dd12_0_2 [⟨(.slc 1 (.nv 2) (.nv 3)), (.nv 2), 25, 11, [(.l 0)]⟩, ⟨(.slc 2 (.nv 4) (.nv 5)), (.nv 4), 33, 4, [(.l 1)]⟩] ⟨0, 6, 0, 1, 0, 3, 0, 2⟩ (.new (.wr (.br (.un .not (.bin .ieq (.nv 2) (.il 3))) t_lawake_1 t_lawake_11))))))))))))))))))
theorem x_lawake : xfn Tryz.prog { kc with rws := [(43, [], [(2, 25, 11), (3, 33, 4)])] } Tryz.f14 [] [] [] ⟨0, 0, 0, 0, 0, 0, 0, 0⟩ = some t_lawake := by kernel_rfl
theorem vc_lawake  (W : Wd) (R : Ending → World → Prop) (h : t_lawake.den Tryz.prog W.w.heap.size R [] {  } W) : CallsE Tryz.prog 14 #[] W R :=
 fn_calls Tryz.func14 _ _ {  } _ x_lawake (fun v hv => by cases hv) h
end Go.Proofs.YtkpjmlnhhggenaaGreatDoor
end
section
/- awake: the examples of law16 are as they say. -/
namespace Go.Proofs.YtkpjmlnhhggenaaGreatDoor
open Go Go.RowKit Go.SF
theorem fit_bare {p : PV} {W : Wd} (hB : Bare p) (ln : p.nodes.length ≤ 1000000) (lf : p.flows.length ≤ 1000000) (hk : ∀ v ∈ p.nodes, 0 ≤ v.n.kd ∧ v.n.kd < 256)
  (hn : SlI W p.na p.nodes.length p.nc 11 (p.nodes.flatMap ndC)) (hf : SlI W p.fa p.flows.length p.fc 4 (p.flows.flatMap flC)) : FitP p W := by
 obtain ⟨b1, b2, b3, b4⟩ := hB
 refine ⟨by rw [b2]; exact Nat.zero_le _, ln, lf, fun x hx => (by rw [b2] at hx; cases hx), fun v hv => ?_, by rw [b1, b2, b3]; exact SlAt.nil _ _ _, hn, hf⟩
 obtain ⟨c1, c2, c3, c4, c5, c6⟩ := b4 v hv
 exact ⟨(hk v hv).1, (hk v hv).2, by rw [c2]; exact Nat.zero_le _, by rw [c5]; exact Nat.zero_le _, fun x hx => (by rw [c2] at hx; cases hx), by rw [c1, c2, c3]; exact SlAt.nil _ _ _, by rw [c4, c5, c6]; exact SlAt.nil _ _ _⟩
def aN (nm : Md.Bs) (kd : Int) (txt set : Md.Bs) : NV := ⟨⟨nm, kd, -1, -1, 0, [], txt, set, false, [], []⟩, none, 0, none, 0⟩
def aF (i j : Int) (c : Md.Bs) (e : Bool) : Md.Fl := ⟨i, j, c, e⟩
def aP (ns : List NV) (fs : List Md.Fl) (a : Option Addr) (c : Nat) (a' : Option Addr) (c' : Nat) : PV := ⟨[112], [], none, 0, ns, a, c, fs, a', c'⟩
abbrev nsA : List NV := [aN [97] 1 [] [], aN [98] 3 [] [], aN [99] 2 [] []]
abbrev nsQ : List NV := [aN [97] 1 [] [], aN [98] 3 [] []]
abbrev nsR : List NV := [aN [97] 1 [] [], aN [98] 4 [49] [120], aN [99] 2 [] []]
abbrev nsS : List NV := [aN [97] 1 [] [], aN [98] 7 [] [], aN [99] 2 [] []]
abbrev fsA : List Md.Fl := [aF 0 1 [] false, aF 1 2 [] false]
abbrev fsQ : List Md.Fl := [aF 0 1 [] false]
abbrev fsS : List Md.Fl := [aF 0 1 [] false, aF 1 2 [49, 32, 43, 32, 49] false, aF 1 2 [] true]
def aPr (ns : List NV) (fs : List Md.Fl) : Md.Pr := ⟨[112], [], ns.map (·.n), fs⟩
theorem ckA : Vd.check [] (aPr nsA fsA) = 0 := by decide +kernel
theorem ckQ : Vd.check [] (aPr nsQ fsQ) = 4 := by decide +kernel
theorem ckR : Vd.check [] (aPr nsR fsA) = 22 := by decide +kernel
theorem ckS : Vd.check [] (aPr nsS fsS) = 23 := by decide +kernel
theorem bareNs {ns : List NV} (h : ns = nsA ∨ ns = nsQ ∨ ns = nsR ∨ ns = nsS) : ∀ v ∈ ns, (v.va = none ∧ v.n.vars = [] ∧ v.vc = 0 ∧ v.ba = none ∧ v.n.back = [] ∧ v.bc = 0) ∧ 0 ≤ v.n.kd ∧ v.n.kd < 256 := by
 intro v hv
 rcases h with rfl | rfl | rfl | rfl <;> simp only [List.mem_cons, List.not_mem_nil, or_false] at hv
 ·rcases hv with rfl | rfl | rfl <;> exact ⟨⟨rfl, rfl, rfl, rfl, rfl, rfl⟩, by decide, by decide⟩
 ·rcases hv with rfl | rfl <;> exact ⟨⟨rfl, rfl, rfl, rfl, rfl, rfl⟩, by decide, by decide⟩
 ·rcases hv with rfl | rfl | rfl <;> exact ⟨⟨rfl, rfl, rfl, rfl, rfl, rfl⟩, by decide, by decide⟩
 ·rcases hv with rfl | rfl | rfl <;> exact ⟨⟨rfl, rfl, rfl, rfl, rfl, rfl⟩, by decide, by decide⟩
theorem bareP {ns : List NV} (h : ns = nsA ∨ ns = nsQ ∨ ns = nsR ∨ ns = nsS) (fs : List Md.Fl) (a : Option Addr) (c : Nat) (a' : Option Addr) (c' : Nat) : Bare (aP ns fs a c a' c') := ⟨rfl, rfl, rfl, fun v hv => (bareNs h v hv).1⟩
theorem fitA {ns : List NV} (h : ns = nsA ∨ ns = nsQ ∨ ns = nsR ∨ ns = nsS) {fs : List Md.Fl} (hf : fs.length ≤ 3) {a : Option Addr} {c : Nat} {a' : Option Addr} {c' : Nat} {W : Wd} (h1 : SlW W.w a ns.length c 11 (ns.flatMap ndC)) (h2 : SlW W.w a' fs.length c' 4 (fs.flatMap flC)) : FitP (aP ns fs a c a' c') W.all :=
 fit_bare (bareP h fs a c a' c') (by show ns.length ≤ 1000000; rcases h with rfl | rfl | rfl | rfl <;> decide) (by show fs.length ≤ 1000000; omega) (fun v hv => (bareNs h v hv).2) h1.all h2.all
theorem ck_q {ns : List NV} (h : ns = nsA ∨ ns = nsQ ∨ ns = nsR ∨ ns = nsS) {fs : List Md.Fl} (hf : fs.length ≤ 3) {a : Option Addr} {c : Nat} {a' : Option Addr} {c' : Nat} {W : Wd} {e : Int} (he : Vd.check [] (aPr ns fs) = e) (h1 : SlW W.w a ns.length c 11 (ns.flatMap ndC)) (h2 : SlW W.w a' fs.length c' 4 (fs.flatMap flC))
  (hG : Glob W) (hT : GlobT W) (hM : GlobM W) : CallsQ Tryz.prog 12 #[.slice none 0 0, .agg #[.string ⟨#[112]⟩, .slice none 0 0, .slice a ns.length c, .slice a' fs.length c']] W (.int .i64 e) := by
 have := vcheck_q [] none 0 (aP ns fs a c a' c') W.all (Nat.zero_le _) (SlAt.nil _ _ _) (fun q hq => by cases hq) (fitA h hf h1 h2) (hG.ext W.all_ext) (hT.ext W.all_ext) (hM.ext W.all_ext)
 rw [← he]
 exact this
theorem own_w {w : World} {n0 : Nat} {e : TypeId} {sz : Nat} {a : Option Addr} {n c k : Nat} {xs : List Value} (h : w.ownsRow n0 e sz (.slice a n c) k xs) : SlW w a n c sz xs := (owns_sl h).mono fun _ _ => trivial
theorem rowsNew_two {n0 n : Nat} {ρ : Env} {ks : List Nat} {r q : RowS} {w : World} (h0 : n0 ≤ n) (h : w.ownsRow n r.e r.sz (r.v.den ρ) (r.n.i ρ).toNat (conts ρ r.xs)) (h1 : ∀ u ∈ conts ρ r.xs, u.oneCell' = true)
  (g : w.ownsRow n q.e q.sz (q.v.den ρ) (q.n.i ρ).toNat (conts ρ q.xs)) (g1 : ∀ u ∈ conts ρ q.xs, u.oneCell' = true) (h2 : ∀ k, ownB ρ r = some k → ownB ρ q ≠ some k) : RowsNew n0 n ks ρ [r, q] w := by
 have a := rowsNew_one (ks := ks) h0 h h1
 have b := rowsNew_one (ks := ks) h0 g g1
 refine ⟨fun x hx => ?_, fun x hx => ?_, ?_⟩
 ·rcases List.mem_cons.1 hx with rfl | hx
  ·exact a.at_ _ (List.mem_singleton.2 rfl)
  ·exact b.at_ x hx
 ·rcases List.mem_cons.1 hx with rfl | hx
  ·exact a.new _ (List.mem_singleton.2 rfl)
  ·exact b.new x hx
 ·refine List.pairwise_cons.2 ⟨fun x hx => ?_, List.pairwise_singleton _ _⟩
  obtain rfl := List.mem_singleton.1 hx
  exact h2
set_option maxRecDepth 100000 in
theorem awake_q (W : Wd) (hG : Glob W) (hT : GlobT W) (hM : GlobM W) : CallsQ Tryz.prog 14 #[] W (.bool true) := by
 have hG := hG.ext W.all_ext
 have hT := hT.ext W.all_ext
 have hM := hM.ext W.all_ext
 refine vc_lawake W.all _ ?_
 refine den_new fun m0 W1 _ x1 => den_new fun m1 W2 _ x2 => den_new fun m2 W3 _ x3 => den_wr fun W4 x4 => den_wr fun W5 x5 => den_wr fun W6 x6 => den_new fun m3 W7 _ x7 => den_new fun m4 W8 _ x8 => den_new fun m5 W9 _ x9 => den_wr fun W10 x10 => den_new fun m6 W11 _ x11 => den_new fun m7 W12 _ x12 => den_new fun m8 W13 _ x13 => den_wr fun W14 x14 => ?_
 have y14 := ext_trans (ext_trans (ext_trans (ext_trans x1 x2) (ext_trans x3 x4)) (ext_trans (ext_trans x5 x6) (ext_trans x7 x8))) (ext_trans (ext_trans (ext_trans x9 x10) (ext_trans x11 x12)) (ext_trans x13 x14))
 clear x1 x2 x3 x4 x5 x6 x7 x8 x9 x10 x11 x12 x13 x14
 simp only [zP]
 refine den_callr_i (R' := fun v w' => CopyR W14.w.heap.size w' v (aP nsA fsA (some ⟨m3, 0, none⟩) 3 (some ⟨m4, 0, none⟩) 2)) (fun hb _ => ?_) fun v w' _ hN => ?_
 ·have h4 := hb _ (List.mem_cons_self ..)
  have h3 := hb _ (List.mem_cons_of_mem _ (List.mem_cons_self ..))
  exact mcopy_i (aP nsA fsA (some ⟨m3, 0, none⟩) 3 (some ⟨m4, 0, none⟩) 2) W14.all (fitA (.inl rfl) (by decide) (blk_sl h3 rfl) (blk_sl h4 rfl)) (bareP (.inl rfl) ..)
 obtain ⟨a1, c1, a2, c2, hv, o1, o2, o3⟩ := hN
 refine ExE.mk (d := { N := [0, 0, 3, c1, 2, c2], T := [⟨#[112]⟩], A := [none, a1, a2], L := [nsA.flatMap ndC, fsA.flatMap flC] }) ⟨rfl, fun v hv => by cases hv⟩ ⟨hv, rowsNew_two y14.size ?_ ?_ ?_ ?_ o3, fun W15 e15 x15 n15 => ?_⟩
 ·simp only [zR, Sy.den, E.i, z_d]; exact o1
 ·simp only [zR]; exact ndC_ones nsA
 ·simp only [zR, Sy.den, E.i, z_d]; exact o2
 ·simp only [zR]; exact flC_ones fsA
 have y15 := ext_trans y14 x15
 simp only [zP]
 refine den_new fun m9 W16 _ x16 => den_wr fun W17 x17 => den_br_f rfl (den_chk (by simp only [E.b, gd]; exact owns_some o1 (show 0 < 3 by decide)) (den_chk rfl (den_chk rfl (den_rset fun W18 x18 => ?_))))
 have y18 := ext_trans (ext_trans y15 x16) (ext_trans x17 x18)
 simp only [zP]
 refine den_callr_i (R' := fun v w' => CopyR W18.w.heap.size w' v (aP nsA fsA (some ⟨m3, 0, none⟩) 3 (some ⟨m4, 0, none⟩) 2)) (fun hb _ => ?_) fun v w' _ hN => ?_
 ·have h4 := hb _ (List.mem_cons_self ..)
  have h3 := hb _ (List.mem_cons_of_mem _ (List.mem_cons_self ..))
  exact mcopy_i (aP nsA fsA (some ⟨m3, 0, none⟩) 3 (some ⟨m4, 0, none⟩) 2) W18.all (fitA (.inl rfl) (by decide) (blk_sl h3 rfl) (blk_sl h4 rfl)) (bareP (.inl rfl) ..)
 obtain ⟨a3, c3, a4, c4, hv, p1, p2, p3⟩ := hN
 refine ExE.mk (d := { N := [0, 0, 3, c3, 2, c4], T := [⟨#[112]⟩], A := [none, a3, a4], L := [nsA.flatMap ndC, fsA.flatMap flC] }) ⟨rfl, fun v hv => by cases hv⟩ ⟨hv, rowsNew_two y18.size ?_ ?_ ?_ ?_ p3, fun W19 e19 x19 n19 => ?_⟩
 ·simp only [zR, Sy.den, E.i, z_d]; exact p1
 ·simp only [zR]; exact ndC_ones nsA
 ·simp only [zR, Sy.den, E.i, z_d]; exact p2
 ·simp only [zR]; exact flC_ones fsA
 have y19 := ext_trans y18 x19
 simp only [zP]
 refine den_new fun m10 W20 _ x20 => den_wr fun W21 x21 => den_chk (by simp only [E.b, gd]; exact owns_some p1 (show 0 < 3 by decide)) (den_chk rfl (den_rset fun W22 x22 => den_new fun m11 W23 _ x23 => den_chk (chk_le (by simp only [zE]; decide)) (den_app fun a5 c5 W24 h5 x24 => den_wr fun W25 x25 => ?_)))
 have y25 := ext_trans (ext_trans (ext_trans y19 (ext_trans x20 x21)) (ext_trans x22 x23)) (ext_trans x24 x25)
 simp only [zP]
 refine den_chk (by simp only [E.b, gd]; exact h5 (by simp only [zE]; decide)) (den_chk rfl (den_rset fun W26 x26 => ?_))
 have y26 := ext_trans y25 x26
 simp only [zP]
 refine den_call_q (fun hb hr => ?_) ⟨0, rfl, fun W27 x27 => den_br_t rfl ?_⟩
 ·have h4 := hb _ (List.mem_cons_self ..)
  have h3 := hb _ (List.mem_cons_of_mem _ (List.mem_cons_self ..))
  exact ck_q (ns := nsA) (fs := fsA) (.inl rfl) (by decide) ckA (blk_sl h3 rfl) (blk_sl h4 rfl) (hG.ext y26) (hT.ext y26) (hM.ext y26)
 have y27 := ext_trans y26 x27
 simp only [zP]
 refine den_call_q (fun hb hr => ?_) ⟨4, rfl, fun W28 x28 => den_br_t rfl ?_⟩
 ·have h4 := hb _ (List.mem_cons_self ..)
  have h3 := hb _ (List.mem_cons_of_mem _ (List.mem_cons_self ..))
  exact ck_q (ns := nsQ) (fs := fsQ) (.inr (.inl rfl)) (by decide) ckQ (blk_sl h3 rfl) (blk_sl h4 rfl) (hG.ext y27) (hT.ext y27) (hM.ext y27)
 have y28 := ext_trans y27 x28
 simp only [zP]
 refine den_call_q (fun hb hr => ?_) ⟨22, rfl, fun W29 x29 => den_br_t rfl ?_⟩
 ·have r3 := (hr _ (List.mem_cons_of_mem _ (List.mem_cons_of_mem _ (List.mem_cons_self ..)))).1
  have r4 := (hr _ (List.mem_cons_of_mem _ (List.mem_cons_of_mem _ (List.mem_cons_of_mem _ (List.mem_cons_self ..))))).1
  simp only [zR, Sy.den, E.i, z_d] at r3 r4
  exact ck_q (ns := nsR) (fs := fsA) (.inr (.inr (.inl rfl))) (by decide) ckR (own_w r3) (own_w r4) (hG.ext y28) (hT.ext y28) (hM.ext y28)
 have y29 := ext_trans y28 x29
 simp only [zP]
 refine den_call_q (fun hb hr => ?_) ⟨23, rfl, fun W30 x30 => den_ret fun _ _ _ => ⟨_, rfl, rfl⟩⟩
 have r1 := (hr _ (List.mem_cons_self ..)).1
 have r2 := (hr _ (List.mem_cons_of_mem _ (List.mem_cons_self ..))).1
 simp only [zR, Sy.den, E.i, z_d] at r1 r2
 exact ck_q (ns := nsS) (fs := fsS) (.inr (.inr (.inr rfl))) (by decide) ckS (own_w r2) (own_w r1) (hG.ext y29) (hT.ext y29) (hM.ext y29)
end Go.Proofs.YtkpjmlnhhggenaaGreatDoor
end
section
/- What a process that may be is like: plain laws over Vd.check. No program in sight. -/
namespace Vd
open Go Md
structure All (defs : List Pr) (p : Pr) (fr tt : List Int) : Prop where
 pr : proc p = 0
 pl : places p = true
 wy : ways p = some (fr, tt)
 bg : begins p = true
 lk : linked p fr tt = true
 gt : gates p fr tt = true
 ls : links p = true
 sy : firstN (says defs p) (List.range p.nodes.length) = 0
 cd : firstN (cond p) p.flows = 0
theorem all_of {defs : List Pr} {p : Pr} (h : check defs p = 0) : ∃ fr tt, All defs p fr tt := by
 unfold check at h
 by_cases h1 : proc p = 0
 ·rw [if_neg (fun h => h h1)] at h
  unfold checkN at h
  by_cases h2 : places p = false
  ·rw [if_pos h2] at h; cases h
  ·rw [if_neg h2] at h
   cases hw : ways p with
   | none => rw [hw] at h; cases h
   | some w =>
    obtain ⟨fr, tt⟩ := w
    rw [hw] at h
    have h : askN defs p (fr, tt) = 0 := h
    unfold askN at h
    by_cases h3 : begins p = false
    ·simp only [if_pos h3] at h; cases h
    simp only [if_neg h3] at h
    by_cases h4 : linked p fr tt = false
    ·simp only [if_pos h4] at h; cases h
    simp only [if_neg h4] at h
    by_cases h5 : gates p fr tt = false
    ·simp only [if_pos h5] at h; cases h
    simp only [if_neg h5] at h
    by_cases h6 : links p = false
    ·simp only [if_pos h6] at h; cases h
    simp only [if_neg h6] at h
    by_cases h7 : firstN (says defs p) (List.range p.nodes.length) = 0
    ·rw [if_neg (fun h => h h7)] at h
     exact ⟨fr, tt, h1, by simpa using h2, hw, by simpa using h3, by simpa using h4, by simpa using h5, by simpa using h6, h7, h⟩
    ·rw [if_pos h7] at h; exact absurd h h7
 ·rw [if_pos h1] at h; exact absurd h h1
theorem waysN_ok {p : Pr} : ∀ {l : List Fl} {f t r}, waysN p l f t = some r → ∀ x ∈ l, okFlow p x = true
 | [], _, _, _, _, x, hx => by cases hx
 | y :: l, f, t, r, h, x, hx => by
  rw [waysN] at h
  split at h
  ·rename_i h1
   rcases List.mem_cons.1 hx with e | e
   ·subst e; exact h1
   ·exact waysN_ok h x e
  ·contradiction
theorem whole_flow {defs : List Pr} {p : Pr} {fr tt : List Int} (h : All defs p fr tt) {x : Fl} (hx : x ∈ p.flows) : (0 ≤ x.frm ∧ x.frm < p.nodes.length) ∧ (0 ≤ x.to ∧ x.to < p.nodes.length) ∧ (nd p x.frm.toNat).inn = (nd p x.to.toNat).inn := by
 have h1 := waysN_in h.wy x hx
 have h2 := flow_ge ((fine_of h.pr).fl x hx)
 have h3 := waysN_ok h.wy x hx
 unfold okFlow at h3
 simp only [Bool.and_eq_true, Bool.not_eq_true', Bool.or_eq_false_iff, beq_eq_false_iff_ne, Bool.not_eq_false', beq_iff_eq] at h3
 exact ⟨⟨h2.1, h1.1⟩, ⟨h2.2, h1.2⟩, h3.2.2.1.1.1.1⟩
end Vd
end
section
/- What is left to show of functions, as the walk that the kernel computes finds it (written by wip/vc2.py). -/
namespace Go.Proofs.YtkpjmlnhhggenaaGreatDoor
open Go Go.RowKit Go.SF
set_option maxRecDepth 100000
@[reducible] def dd13_0_0 : Sy := (.agg [(.str (.tv 0)), (.slc 0 (.nv 0) (.nv 1)), (.slc 1 (.nv 2) (.nv 3)), (.slc 2 (.nv 4) (.nv 5))])
@[reducible] def dd13_0_1 : Sy := (.agg [(.str (.tv 0)), (.slc 1 (.nv 2) (.nv 3)), (.slc 2 (.nv 4) (.nv 5)), (.slc 3 (.nv 6) (.nv 7))])
@[reducible] def t_llarge_1 : Tree := (.frz [⟨1, 25, [(.str (.tv 1)), (.int .u8 (.iv 1)), (.int .i64 (.iv 2)), (.int .i64 (.iv 3)), (.int .u8 (.iv 4)), (.str (.tv 2)), (.str (.tv 3)), (.str (.tv 4)), (.bool (.bv 0)), (.slc 3 (.nv 6) (.nv 7)), (.slc 4 (.nv 8) (.nv 9))]⟩] (.again 0 [(.int .i64 (.un (.wrap .i64) (.bin .add (.iv 0) (.il 1))))] []))
@[reducible] def t_llarge_2 : Tree := (.new (.wr (.br (.bin .bor (.bin .bor (.bin .lt (.il 600) (.un (.wrap .i64) (.bin .add (.un (.wrap .i64) (.bin .add (.un (.wrap .i64) (.bin .add (.un .len (.tv 1)) (.un .len (.tv 2)))) (.un .len (.tv 3)))) (.un .len (.tv 4))))) (.bin .lt (.il 50) (.nv 6))) (.bin .lt (.il 50) (.nv 8))) (.ret (.bool (.bl true)) [] [] []) t_llarge_1)))
@[reducible] def t_llarge_3 : Tree := (.chk (.sm 1) (.chk (.bin .le (.il 0) (.iv 0)) (.look 25 (.elt 1 (.iv 0) 11 0) (.agg [(.str (.tv 1)), (.int .u8 (.iv 1)), (.int .i64 (.iv 2)), (.int .i64 (.iv 3)), (.int .u8 (.iv 4)), (.str (.tv 2)), (.str (.tv 3)), (.str (.tv 4)), (.bool (.bv 0)), (.slc 3 (.nv 6) (.nv 7)), (.slc 4 (.nv 8) (.nv 9))]) kk4 t_llarge_2)))
@[reducible] def t_llarge_4 : Tree := (.br (.bin .lt (.il 300) (.un .len (.tv 1))) (.ret (.bool (.bl true)) [] [] []) (.again 1 [(.int .i64 (.un (.wrap .i64) (.bin .add (.iv 1) (.il 1))))] []))
@[reducible] def t_llarge_5 : Tree := (.chk (.sm 2) (.chk (.bin .le (.il 0) (.iv 1)) (.look 9 (.elt 2 (.iv 1) 4 2) (.str (.tv 1)) kk5 t_llarge_4)))
@[reducible] def t_llarge_6 : Tree := (.loop [(.int .i64 (.il 0))] [] [(.int .i64 (.iv 1))] [] kk0 (.br (.bin .lt (.iv 1) (.nv 4)) t_llarge_5 (.ret (.bool (.bl false)) [] [] [])))
@[reducible] def t_llarge_7 : Tree := (.loop [(.int .i64 (.il 0))] [] [(.int .i64 (.iv 0))] [] kk0 (.br (.bin .lt (.iv 0) (.nv 2)) t_llarge_3 t_llarge_6))
@[reducible] def t_llarge : Tree :=
(.new (.br (.bin .bor (.bin .bor (.bin .bor (.bin .lt (.il 60) (.nv 2)) (.bin .lt (.il 120) (.nv 4))) (.bin .lt (.il 50) (.nv 0))) (.bin .lt (.il 200) (.un .len (.tv 0)))) (.ret (.bool (.bl true)) [] [] []) t_llarge_7))
theorem x_llarge : xfn Tryz.prog { kc with loops := [⟨4, [.tm 3]⟩, ⟨10, [.tm 5]⟩] } Tryz.f16 [dd13_0_0] [] [] kk11 = some t_llarge := by kernel_rfl
theorem vc_llarge (n0 n1 n2 n3 n4 n5 : Nat) (t0 : ByteArray) (a0 a1 a2 : Option Addr) (W : Wd) (R : Ending → World → Prop) (h : t_llarge.den Tryz.prog W.w.heap.size R [] { N := [n0, n1, n2, n3, n4, n5], T := [t0], A := [a0, a1, a2] } W) : CallsE Tryz.prog 16 #[.agg #[.string t0, .slice a0 n0 n1, .slice a1 n2 n3, .slice a2 n4 n5]] W R :=
 fn_calls Tryz.func16 _ _ { N := [n0, n1, n2, n3, n4, n5], T := [t0], A := [a0, a1, a2] } _ x_llarge (fun v hv => by cases hv) h
@[reducible] def t_lmany_1 : Tree := (.br (.bv 0) (.ret (.bool (.bl true)) [] [] []) (.again 0 [(.int .i64 (.un (.wrap .i64) (.bin .add (.iv 0) (.il 1))))] []))
@[reducible] def t_lmany_2 : Tree := (.call 16 [dd13_0_1] [] [] [] (.bool (.bv 0)) kk1 t_lmany_1)
@[reducible] def t_lmany_3 : Tree := (.chk (.sm 0) (.chk (.bin .le (.il 0) (.iv 0)) (.look 31 (.elt 0 (.iv 0) 4 0) dd13_0_1 kk11 t_lmany_2)))
@[reducible] def t_lmany_4 : Tree := (.loop [(.int .i64 (.il 0))] [] [(.int .i64 (.iv 0))] [] kk0 (.br (.bin .lt (.iv 0) (.nv 0)) t_lmany_3 (.ret (.bool (.bl false)) [] [] [])))
@[reducible] def t_lmany : Tree :=
(.br (.bin .lt (.il 20) (.nv 0)) (.ret (.bool (.bl true)) [] [] []) t_lmany_4)
theorem x_lmany : xfn Tryz.prog { kc with loops := [⟨4, [.tm 3]⟩] } Tryz.f15 [(.slc 0 (.nv 0) (.nv 1))] [] [] kk2 = some t_lmany := by kernel_rfl
theorem vc_lmany (n0 n1 : Nat) (a0 : Option Addr) (W : Wd) (R : Ending → World → Prop) (h : t_lmany.den Tryz.prog W.w.heap.size R [] { N := [n0, n1], A := [a0] } W) : CallsE Tryz.prog 15 #[.slice a0 n0 n1] W R :=
 fn_calls Tryz.func15 _ _ { N := [n0, n1], A := [a0] } _ x_lmany (fun v hv => by cases hv) h
@[reducible] def t_lout : Tree :=
(.new (.new (.ret (.bool (.bin .bor (.bin .bor (.bin .bor (.bin .lt (.iv 0) (.il 0)) (.bin .le (.nv 2) (.iv 0))) (.bin .lt (.iv 1) (.il 0))) (.bin .le (.nv 2) (.iv 1)))) [] [] [])))
theorem x_lout : xfn Tryz.prog kc Tryz.f20 [dd13_0_0, (.agg [(.int .i64 (.iv 0)), (.int .i64 (.iv 1)), (.str (.tv 1)), (.bool (.bv 0))])] [] [] ⟨2, 6, 1, 2, 0, 3, 0, 0⟩ = some t_lout := by kernel_rfl
theorem vc_lout (i0 i1 : Int) (n0 n1 n2 n3 n4 n5 : Nat) (b0 : Bool) (t0 t1 : ByteArray) (a0 a1 a2 : Option Addr) (W : Wd) (R : Ending → World → Prop) (h : t_lout.den Tryz.prog W.w.heap.size R [] { I := [i0, i1], N := [n0, n1, n2, n3, n4, n5], B := [b0], T := [t0, t1], A := [a0, a1, a2] } W) : CallsE Tryz.prog 20 #[.agg #[.string t0, .slice a0 n0 n1, .slice a1 n2 n3, .slice a2 n4 n5], .agg #[.int .i64 i0, .int .i64 i1, .string t1, .bool b0]] W R :=
 fn_calls Tryz.func20 _ _ { I := [i0, i1], N := [n0, n1, n2, n3, n4, n5], B := [b0], T := [t0, t1], A := [a0, a1, a2] } _ x_lout (fun v hv => by cases hv) h
end Go.Proofs.YtkpjmlnhhggenaaGreatDoor
end
section
/- The walks of law16's own small functions: large, many, out, and the document's Vars. -/
namespace Go.Proofs.YtkpjmlnhhggenaaGreatDoor
open Go Go.RowKit Go.SF
structure RawN (v : NV) (W : Wd) : Prop where
 k0 : 0 ≤ v.n.kd
 k1 : v.n.kd < 256
 fv : ∀ x ∈ v.n.vars, fitV x
 vs : SlI W v.va v.n.vars.length v.vc 4 (v.n.vars.flatMap varC)
 bs : SlI W v.ba v.n.back.length v.bc 1 (strs v.n.back)
structure RawP (p : PV) (W : Wd) : Prop where
 fv : ∀ x ∈ p.vars, fitV x
 fn : ∀ v ∈ p.nodes, RawN v W
 vs : SlI W p.va p.vars.length p.vc 4 (p.vars.flatMap varC)
 ns : SlI W p.na p.nodes.length p.nc 11 (p.nodes.flatMap ndC)
 fs : SlI W p.fa p.flows.length p.fc 4 (p.flows.flatMap flC)
theorem RawN.ext {v : NV} {W W' : Wd} (h : RawN v W) (x : Ext W W') : RawN v W' := ⟨h.k0, h.k1, h.fv, h.vs.ext x, h.bs.ext x⟩
theorem RawP.ext {p : PV} {W W' : Wd} (h : RawP p W) (x : Ext W W') : RawP p W' := ⟨h.fv, fun v hv => (h.fn v hv).ext x, h.vs.ext x, h.ns.ext x, h.fs.ext x⟩
abbrev SmallN (v : NV) : Prop := v.n.vars.length ≤ 50 ∧ v.n.back.length ≤ 50
structure SmallP (p : PV) : Prop where
 n : p.nodes.length ≤ 60
 f : p.flows.length ≤ 120
 v : p.vars.length ≤ 50
 l : ∀ v ∈ p.nodes, SmallN v
theorem fit_small {p : PV} {W : Wd} (h : RawP p W) (s : SmallP p) : FitP p W :=
 ⟨Nat.le_trans s.v (by decide), Nat.le_trans s.n (by decide), Nat.le_trans s.f (by decide), h.fv,
  fun v hv => ⟨(h.fn v hv).k0, (h.fn v hv).k1, Nat.le_trans (s.l v hv).1 (by decide), Nat.le_trans (s.l v hv).2 (by decide), (h.fn v hv).fv, (h.fn v hv).vs, (h.fn v hv).bs⟩, h.vs, h.ns, h.fs⟩
set_option maxRecDepth 100000 in
theorem large_i (p : PV) (W : Wd) (hp : RawP p W) : CallsI Tryz.prog 16 #[.agg (prC p).toArray] W.all fun v w' => ∃ b : Bool, v = .bool b ∧ (b = false → SmallP p) := by
 have hp := hp.ext W.all_ext
 refine vc_llarge p.vars.length p.vc p.nodes.length p.nc p.flows.length p.fc ⟨p.nm.toArray⟩ p.va p.na p.fa W.all _ ?_
 refine den_new fun m W1 _ x1 => den_br (fun c1 => den_ret fun _ _ _ => ⟨_, rfl, true, rfl, fun h => by cases h⟩) fun c1 => ?_
 have d1 : ¬ 60 < p.nodes.length ∧ ¬ 120 < p.flows.length ∧ ¬ 50 < p.vars.length := by
  simp only [zE, Bool.or_eq_false_iff, ltB_false] at c1
  omega
 refine den_loop (fun j vs ls _ => ∃ i : Nat, vs = [.int .i64 (i : Nat)] ∧ ls = [] ∧ i ≤ p.nodes.length ∧ j = p.nodes.length - i ∧ ∀ v ∈ p.nodes.take i, SmallN v) p.nodes.length ⟨0, by simp [Sy.dens, Sy.den, E.i, E.b, E.t, gd, Env.push, z_a, z_b, z_c, z_d], rfl, Nat.zero_le _, rfl, by simp⟩ ?_
 rintro j vs ls W2 x2 ⟨i, rfl, rfl, hi, rfl, hs⟩
 have y2 := ext_trans x1 x2
 refine ⟨(i : Int), rfl, rfl, fun _ => den_br (fun c2 => ?_) fun c2 => ?_⟩
 ·simp only [zE, ltB_true] at c2
  have hil : i < p.nodes.length := by omega
  have hx : p.nodes[i]? = some p.nodes[i] := List.getElem?_eq_getElem hil
  have hts : p.nodes.take (i + 1) = p.nodes.take i ++ [p.nodes[i]] := List.take_succ_eq_append_getElem hil
  generalize p.nodes[i] = v at hx hts
  refine den_chk ?_ (den_chk ?_ (den_look ⟨v.n.kd, v.n.inn, v.n.on, v.n.ev, v.n.vars.length, v.vc, v.n.back.length, v.bc, v.n.brk, ⟨v.n.nm.toArray⟩, ⟨v.n.key.toArray⟩, ⟨v.n.txt.toArray⟩, ⟨v.n.set.toArray⟩, v.va, v.ba, fun W5 x5 => ?_, ?_⟩))
  ·simp only [E.b, gd, Env.push]; exact SlI.some_of hp.ns (by omega)
  ·simp only [zE]; exact leB_t (by omega)
  ·have := sl_look (P := Tryz.prog) ndC_len (by decide) hp.ns nd_aggT nd_sizeT hx (ext_trans y2 x5)
   simp only [zE, Nat.add_zero] at this ⊢
   exact this
  simp only [zP]
  refine den_new fun m1 W3 _ x3 => den_wr fun W4 x4 => den_br (fun c3 => den_ret fun _ _ _ => ⟨_, rfl, true, rfl, fun h => by cases h⟩) fun c3 => ?_
  have d3 : SmallN v := by
   simp only [zE, Bool.or_eq_false_iff, ltB_false] at c3
   exact ⟨by omega, by omega⟩
  refine den_frz fun W6 _ x6 _ _ => den_again ⟨p.nodes.length - (i + 1), by omega, i + 1, ?_, rfl, by omega, rfl, ?_⟩
  ·simp only [zE]; rw [w64i (by omega) (by omega)]; rfl
  ·intro u hu
   rw [hts] at hu
   rcases List.mem_append.1 hu with h | h
   ·exact hs u h
   ·obtain rfl := List.mem_singleton.1 h; exact d3
 ·simp only [zE, ltB_false] at c2
  rw [List.take_of_length_le (by omega)] at hs
  refine den_loop (fun j vs ls _ => ∃ i : Nat, vs = [.int .i64 (i : Nat)] ∧ ls = [] ∧ i ≤ p.flows.length ∧ j = p.flows.length - i) p.flows.length ⟨0, by simp [Sy.dens, Sy.den, E.i, E.b, E.t, gd, Env.push, z_a, z_b, z_c, z_d], rfl, Nat.zero_le _, rfl⟩ ?_
  rintro j vs ls W3 x3 ⟨k, rfl, rfl, hk, rfl⟩
  have y3 := ext_trans y2 x3
  refine ⟨(k : Int), rfl, rfl, fun _ => den_br (fun c3 => ?_) fun c3 => den_ret fun _ _ _ => ⟨_, rfl, false, rfl, fun _ => ⟨by omega, by omega, by omega, hs⟩⟩⟩
  simp only [zE, ltB_true] at c3
  have hkl : k < p.flows.length := by omega
  have hx : p.flows[k]? = some p.flows[k] := List.getElem?_eq_getElem hkl
  generalize p.flows[k] = f at hx
  refine den_chk ?_ (den_chk ?_ (den_look ⟨⟨f.cond.toArray⟩, fun W5 x5 => ?_, ?_⟩))
  ·simp only [E.b, gd, Env.push]; exact SlI.some_of hp.fs (by omega)
  ·simp only [zE]; exact leB_t (by omega)
  ·have := sl_look_f (P := Tryz.prog) flC_len hp.fs str_aggT (k := 2) hx (by decide) (u := strB f.cond) rfl (ext_trans y3 x5)
   simp only [zE] at this ⊢
   exact this
  simp only [zP]
  refine den_br (fun c4 => den_ret fun _ _ _ => ⟨_, rfl, true, rfl, fun h => by cases h⟩) fun c4 => den_again ⟨p.flows.length - (k + 1), by omega, k + 1, ?_, rfl, by omega, rfl⟩
  simp only [zE]; rw [w64i (by omega) (by omega)]; rfl
set_option maxRecDepth 100000 in
theorem many_i (defs : List PV) (da : Option Addr) (dc : Nat) (W : Wd) (hD : SlI W da defs.length dc 4 (defs.flatMap prC)) (hF : ∀ q ∈ defs, RawP q W) :
  CallsI Tryz.prog 15 #[.slice da defs.length dc] W.all fun v w' => ∃ b : Bool, v = .bool b ∧ (b = false → defs.length ≤ 20 ∧ ∀ q ∈ defs, SmallP q) := by
 have hD := hD.ext W.all_ext
 have hF : ∀ q ∈ defs, RawP q W.all := fun q hq => (hF q hq).ext W.all_ext
 refine vc_lmany defs.length dc da W.all _ ?_
 refine den_br (fun c1 => den_ret fun _ _ _ => ⟨_, rfl, true, rfl, fun h => by cases h⟩) fun c1 => ?_
 simp only [zE, ltB_false] at c1
 refine den_loop (fun j vs ls _ => ∃ i : Nat, vs = [.int .i64 (i : Nat)] ∧ ls = [] ∧ i ≤ defs.length ∧ j = defs.length - i ∧ ∀ q ∈ defs.take i, SmallP q) defs.length ⟨0, by simp [Sy.dens, Sy.den, E.i, E.b, E.t, gd, Env.push, z_a, z_b, z_c, z_d], rfl, Nat.zero_le _, rfl, by simp⟩ ?_
 rintro j vs ls W2 x2 ⟨i, rfl, rfl, hi, rfl, hs⟩
 refine ⟨(i : Int), rfl, rfl, fun _ => den_br (fun c2 => ?_) fun c2 => den_ret fun _ _ _ => ⟨_, rfl, false, rfl, fun _ => ⟨by omega, ?_⟩⟩⟩
 ·simp only [zE, ltB_true] at c2
  have hil : i < defs.length := by omega
  have hx : defs[i]? = some defs[i] := List.getElem?_eq_getElem hil
  have hq := hF _ (List.getElem_mem hil)
  have hts : defs.take (i + 1) = defs.take i ++ [defs[i]] := List.take_succ_eq_append_getElem hil
  generalize defs[i] = q at hx hq hts
  refine den_chk ?_ (den_chk ?_ (den_look ⟨q.vars.length, q.vc, q.nodes.length, q.nc, q.flows.length, q.fc, ⟨q.nm.toArray⟩, q.va, q.na, q.fa, fun W3 x3 => ?_, ?_⟩))
  ·simp only [E.b, gd, Env.push]; exact SlI.some_of hD (by omega)
  ·simp only [zE]; exact leB_t (by omega)
  ·have := sl_look (P := Tryz.prog) prC_len (by decide) hD pr_aggT pr_sizeT hx (ext_trans x2 x3)
   simp only [zE, Nat.add_zero] at this ⊢
   exact this
  simp only [zP]
  refine den_call_i (fun _ _ => large_i q W2 (hq.ext x2)) fun v w' _ ⟨b, hv, hb⟩ => ⟨b, hv, fun W3 _ x3 _ => den_br (fun c3 => den_ret fun _ _ _ => ⟨_, rfl, true, rfl, fun h => by cases h⟩) fun c3 => ?_⟩
  have c3 : b = false := c3
  refine den_again ⟨defs.length - (i + 1), by omega, i + 1, ?_, rfl, by omega, rfl, ?_⟩
  ·simp only [zE]; rw [w64i (by omega) (by omega)]; rfl
  ·intro u hu
   rw [hts] at hu
   rcases List.mem_append.1 hu with h | h
   ·exact hs u h
   ·obtain rfl := List.mem_singleton.1 h; exact hb c3
 ·simp only [zE, ltB_false] at c2
  rw [List.take_of_length_le (by omega)] at hs
  exact hs
def outB (n : Nat) (f : Md.Fl) : Bool := ((decide (f.frm < 0) || decide ((n : Int) ≤ f.frm)) || decide (f.to < 0)) || decide ((n : Int) ≤ f.to)
theorem out_q (p : PV) (f : Md.Fl) (W : Wd) : CallsQ Tryz.prog 20 #[.agg (prC p).toArray, .agg (flC f).toArray] W (.bool (outB p.nodes.length f)) := by
 refine vc_lout f.frm f.to p.vars.length p.vc p.nodes.length p.nc p.flows.length p.fc f.els ⟨p.nm.toArray⟩ ⟨f.cond.toArray⟩ p.va p.na p.fa W.all _ ?_
 exact den_new fun m W1 _ x1 => den_new fun m2 W2 _ x2 => den_ret fun _ _ _ => ⟨_, rfl, rfl⟩
end Go.Proofs.YtkpjmlnhhggenaaGreatDoor
end
section
/- Frames of law16's statements: processes that are handed in. Printed by wip/gen_vlopen.py. -/
namespace Go.Proofs.YtkpjmlnhhggenaaGreatDoor
open Go Go.RowKit Go.SF Go.ChangeShapes Go.WideShapes Go.Deep
set_option maxRecDepth 100000
section
variable {H : Type} {enc : TypeId × Value → H} {w : World} {base : Nat}
theorem cell_spot {a : Addr} {v : Value} (h : w.cell? a = some v) : a = ⟨a.block, a.off, none⟩ ∧ a.block < w.heap.size := by
 unfold World.cell? at h
 split at h
 ·rename_i c t fr hb
  split at h
  ·cases h
  ·rename_i hs
   obtain ⟨b, o, s⟩ := a
   cases s with
   | none => exact ⟨rfl, (Array.getElem?_eq_some_iff.1 hb).1⟩
   | some _ => simp at hs
 ·cases h
theorem ba_back (s : ByteArray) : (⟨s.data.toList.toArray⟩ : ByteArray) = s := by simp
theorem trod_list {α : Type} {f : α → List Value} {sz : Nat} (hf : ∀ x, (f x).length = sz) (hz : 0 < sz) {Q : α → Prop} {P : Program} {e t : TypeId} (ht : P.underlying t = some (.slice e)) (hc : P.cellsOf e = sz) {m : Nat} {cs : List Value} {x : DataW H × List MemPlace}
  (h : DataW.trod enc P w 0 (fun _ => true) true m t cs = some x) (hD : ∀ n cs x, DataW.trod enc P w 0 (fun _ => true) true n e cs = some x → ∃ y, cs = f y ∧ Q y) :
  ∃ (a : Option Addr) (c : Nat) (l : List α), cs = [.slice a l.length c] ∧ SlW w a l.length c sz (l.flatMap f) ∧ ∀ y ∈ l, Q y := by
 rcases DataW.trod_slice ht h with ⟨e5, _⟩ | ⟨a, len, cap, elems, rest, n', hn', e5, d5, _, hlc, _, hel, hx, hrest, _⟩
 ·exact ⟨none, 0, [], e5, SlAt.nil _ _ _, fun y hy => by cases hy⟩
 ·rw [hc] at hx hrest
  have step : ∀ i, i < len → ∃ y, w.cells? 0 (a.add (i * sz)) sz = some (f y) ∧ Q y := fun i hi => by
   have h4 := hx i hi
   have h5 : i < elems.length := by omega
   rw [List.getElem?_eq_getElem h5] at h4
   obtain ⟨cs', h6, h7⟩ := Option.bind_eq_some_iff.1 h4
   obtain ⟨y, rfl, hy⟩ := hD _ _ _ h7
   exact ⟨y, h6, hy⟩
  have grow : ∀ k, k ≤ len → ∃ l : List α, l.length = k ∧ (∀ y ∈ l, Q y) ∧ ∀ (j : Nat) u, (l.flatMap f)[j]? = some u → w.cell? (a.add j) = some u := by
   intro k
   induction k with
   | zero => intro _; exact ⟨[], rfl, (fun y hy => by cases hy), fun j u hu => by simp at hu⟩
   | succ k ihk =>
    intro hk
    obtain ⟨l, l1, l2, l3⟩ := ihk (by omega)
    obtain ⟨y, c1, c2⟩ := step k (by omega)
    obtain ⟨_, _, c5⟩ := World.cells?_some c1
    have hfl := flat_len hf l
    refine ⟨l ++ [y], by simp [l1], fun z hz => (List.mem_append.1 hz).elim (l2 z) (fun e => by obtain rfl := List.mem_singleton.1 e; exact c2), fun j u hu => ?_⟩
    rw [List.flatMap_append, List.flatMap_cons, List.flatMap_nil, List.append_nil] at hu
    rcases Nat.lt_or_ge j (k * sz) with hj | hj
    ·exact l3 j u (by rwa [List.getElem?_append_left (by rw [hfl, l1]; exact hj)] at hu)
    ·rw [List.getElem?_append_right (by rw [hfl, l1]; exact hj), hfl, l1] at hu
     have hj6 : j - k * sz < sz := by have := (List.getElem?_eq_some_iff.1 hu).1; rwa [hf] at this
     have := c5 (j - k * sz) hj6
     rw [Deep.add_add, show k * sz + (j - k * sz) = j from by omega] at this
     rw [this]; exact hu
  obtain ⟨l, l1, l2, l3⟩ := grow len (Nat.le_refl _)
  refine ⟨some a, cap, l, by rw [l1]; exact e5, ⟨flat_len hf l, by omega, ?_⟩, l2⟩
  rcases Nat.eq_zero_or_pos cap with hc0 | hc0
  ·exact .inl ⟨trivial, by omega, hc0⟩
  ·right
   have first : ∃ cs', w.cells? 0 (a.add (0 * sz)) sz = some cs' := by
    rcases Nat.eq_zero_or_pos len with hl0 | hl0
    ·obtain ⟨hr1, hr2⟩ := hrest rfl
     have h4 := hr2 0 (by omega)
     rw [List.getElem?_eq_getElem (by omega)] at h4
     obtain ⟨cs', h6, _⟩ := Option.bind_eq_some_iff.1 h4
     exact ⟨cs', by rw [hl0] at h6; exact h6⟩
    ·obtain ⟨cs', h6, _⟩ := step 0 hl0
     exact ⟨_, h6⟩
   obtain ⟨cs', h6⟩ := first
   obtain ⟨_, h7, h8⟩ := World.cells?_some h6
   have h9 := h8 0 hz
   rw [List.getElem?_eq_getElem (by omega), Deep.add_add] at h9
   have ha : a.add (0 * sz + 0) = a := by rw [Nat.zero_mul]; rfl
   rw [ha] at h9
   obtain ⟨s1, s2⟩ := cell_spot h9
   refine ⟨a.block, a.off, congrArg some s1, trivial, s2, fun j u hu => ?_⟩
   have := l3 j u hu
   rw [s1, add_none] at this
   exact this
theorem c_i : Tryz.prog.cellsOf 3 = 1 := by kernel_rfl
theorem c_u8 : Tryz.prog.cellsOf 5 = 1 := by kernel_rfl
theorem c_i64 : Tryz.prog.cellsOf 2 = 1 := by kernel_rfl
theorem c_str : Tryz.prog.cellsOf 9 = 1 := by kernel_rfl
theorem c_b : Tryz.prog.cellsOf 4 = 1 := by kernel_rfl
theorem c_val : Tryz.prog.cellsOf 39 = 3 := by kernel_rfl
theorem c_var : Tryz.prog.cellsOf 41 = 4 := by kernel_rfl
theorem c_lv : Tryz.prog.cellsOf 22 = 1 := by kernel_rfl
theorem c_ls : Tryz.prog.cellsOf 23 = 1 := by kernel_rfl
theorem c_ln : Tryz.prog.cellsOf 28 = 1 := by kernel_rfl
theorem c_lf : Tryz.prog.cellsOf 29 = 1 := by kernel_rfl
theorem c_node : Tryz.prog.cellsOf 25 = 11 := by kernel_rfl
theorem c_flow : Tryz.prog.cellsOf 33 = 4 := by kernel_rfl
theorem c_proc : Tryz.prog.cellsOf 31 = 4 := by kernel_rfl
theorem str1_len (s : Md.Bs) : ([strB s] : List Value).length = 1 := rfl
theorem text_open {m : Nat} {cs : List Value} {x : DataW H × List MemPlace} (h : DataW.trod enc Tryz.prog w 0 (fun _ => true) true m 9 cs = some x) : ∃ s : Md.Bs, cs = [strB s] ∧ True := by
 obtain ⟨t, e, _, _⟩ := DataW.trod_string Tryz.underlying9 h
 exact ⟨t.data.toList, by simp only [strB, ba_back, e], trivial⟩
theorem val_open {m : Nat} {cs : List Value} {x : DataW H × List MemPlace} (h : DataW.trod enc Tryz.prog w 0 (fun _ => true) true m 39 cs = some x) : ∃ (k n : Int) (t : ByteArray), cs = [.int .u8 k, .int .i64 n, .string t] ∧ t.size ≤ maxLen := by
 obtain ⟨xs, n, rfl, rfl, hl, hxl, hf⟩ := DataW.trod_struct Tryz.underlying39 h
 rw [c_val] at hl
 have hxl : xs.length = 3 := hxl
 match cs, hl, xs, hxl with
 | [c0, c1, c2], _, [x0, x1, x2], _ =>
  have h0 : DataW.trod enc Tryz.prog w 0 (fun _ => true) true n 5 ((([c0, c1, c2] : List Value).drop 0).take (Tryz.prog.cellsOf 5)) = some x0 := hf 0 _ rfl
  rw [c_u8] at h0
  have h0 : DataW.trod enc Tryz.prog w 0 (fun _ => true) true n 5 [c0] = some x0 := h0
  have h1 : DataW.trod enc Tryz.prog w 0 (fun _ => true) true n 2 ((([c0, c1, c2] : List Value).drop 1).take (Tryz.prog.cellsOf 2)) = some x1 := hf 1 _ rfl
  rw [c_i64] at h1
  have h1 : DataW.trod enc Tryz.prog w 0 (fun _ => true) true n 2 [c1] = some x1 := h1
  have h2 : DataW.trod enc Tryz.prog w 0 (fun _ => true) true n 9 ((([c0, c1, c2] : List Value).drop 2).take (Tryz.prog.cellsOf 9)) = some x2 := hf 2 _ rfl
  rw [c_str] at h2
  have h2 : DataW.trod enc Tryz.prog w 0 (fun _ => true) true n 9 [c2] = some x2 := h2
  obtain ⟨v0, e0, _, w0⟩ := DataW.trod_int Tryz.underlying5 h0
  obtain ⟨v1, e1, _, w1⟩ := DataW.trod_int Tryz.underlying2 h1
  obtain ⟨v2, e2, _, w2⟩ := DataW.trod_string Tryz.underlying9 h2
  simp only [List.cons.injEq, and_true] at e0 e1 e2
  subst e0 e1 e2
  exact ⟨v0, v1, v2, rfl, w2⟩
theorem var_open {m : Nat} {cs : List Value} {x : DataW H × List MemPlace} (h : DataW.trod enc Tryz.prog w 0 (fun _ => true) true m 41 cs = some x) : ∃ v : Md.Var, cs = varC v ∧ fitV v := by
 obtain ⟨xs, n, rfl, rfl, hl, hxl, hf⟩ := DataW.trod_struct Tryz.underlying41 h
 rw [c_var] at hl
 have hxl : xs.length = 2 := hxl
 match cs, hl, xs, hxl with
 | [c0, c1, c2, c3], _, [x0, x1], _ =>
  have h0 : DataW.trod enc Tryz.prog w 0 (fun _ => true) true n 9 ((([c0, c1, c2, c3] : List Value).drop 0).take (Tryz.prog.cellsOf 9)) = some x0 := hf 0 _ rfl
  rw [c_str] at h0
  have h0 : DataW.trod enc Tryz.prog w 0 (fun _ => true) true n 9 [c0] = some x0 := h0
  have h1 : DataW.trod enc Tryz.prog w 0 (fun _ => true) true n 39 ((([c0, c1, c2, c3] : List Value).drop 1).take (Tryz.prog.cellsOf 39)) = some x1 := hf 1 _ rfl
  rw [c_val] at h1
  have h1 : DataW.trod enc Tryz.prog w 0 (fun _ => true) true n 39 [c1, c2, c3] = some x1 := h1
  obtain ⟨v0, e0, _, w0⟩ := DataW.trod_string Tryz.underlying9 h0
  obtain ⟨vk, vn, vt, e1, wt⟩ := val_open h1
  simp only [List.cons.injEq, and_true] at e0 e1
  obtain ⟨rfl, rfl, rfl⟩ := e1
  subst e0
  exact ⟨⟨v0.data.toList, vk, vn, vt.data.toList⟩, by simp only [varC, ba_back], by
  have h9 : vt.data.toList.length = vt.size := Array.length_toList ..
  unfold fitV; show vt.data.toList.length ≤ _; rw [h9]; exact Nat.le_trans wt (by decide)⟩
theorem flow_open {m : Nat} {cs : List Value} {x : DataW H × List MemPlace} (h : DataW.trod enc Tryz.prog w 0 (fun _ => true) true m 33 cs = some x) : ∃ y : Md.Fl, cs = flC y ∧ True := by
 obtain ⟨xs, n, rfl, rfl, hl, hxl, hf⟩ := DataW.trod_struct Tryz.underlying33 h
 rw [c_flow] at hl
 have hxl : xs.length = 4 := hxl
 match cs, hl, xs, hxl with
 | [c0, c1, c2, c3], _, [x0, x1, x2, x3], _ =>
  have h0 : DataW.trod enc Tryz.prog w 0 (fun _ => true) true n 3 ((([c0, c1, c2, c3] : List Value).drop 0).take (Tryz.prog.cellsOf 3)) = some x0 := hf 0 _ rfl
  rw [c_i] at h0
  have h0 : DataW.trod enc Tryz.prog w 0 (fun _ => true) true n 3 [c0] = some x0 := h0
  have h1 : DataW.trod enc Tryz.prog w 0 (fun _ => true) true n 3 ((([c0, c1, c2, c3] : List Value).drop 1).take (Tryz.prog.cellsOf 3)) = some x1 := hf 1 _ rfl
  rw [c_i] at h1
  have h1 : DataW.trod enc Tryz.prog w 0 (fun _ => true) true n 3 [c1] = some x1 := h1
  have h2 : DataW.trod enc Tryz.prog w 0 (fun _ => true) true n 9 ((([c0, c1, c2, c3] : List Value).drop 2).take (Tryz.prog.cellsOf 9)) = some x2 := hf 2 _ rfl
  rw [c_str] at h2
  have h2 : DataW.trod enc Tryz.prog w 0 (fun _ => true) true n 9 [c2] = some x2 := h2
  have h3 : DataW.trod enc Tryz.prog w 0 (fun _ => true) true n 4 ((([c0, c1, c2, c3] : List Value).drop 3).take (Tryz.prog.cellsOf 4)) = some x3 := hf 3 _ rfl
  rw [c_b] at h3
  have h3 : DataW.trod enc Tryz.prog w 0 (fun _ => true) true n 4 [c3] = some x3 := h3
  obtain ⟨v0, e0, _, w0⟩ := DataW.trod_int Tryz.underlying3 h0
  obtain ⟨v1, e1, _, w1⟩ := DataW.trod_int Tryz.underlying3 h1
  obtain ⟨v2, e2, _, w2⟩ := DataW.trod_string Tryz.underlying9 h2
  obtain ⟨v3, e3, _⟩ := DataW.trod_bool Tryz.underlying4 h3
  simp only [List.cons.injEq, and_true] at e0 e1 e2 e3
  subst e0 e1 e2 e3
  exact ⟨⟨v0, v1, v2.data.toList, v3⟩, by simp only [flC, strB, ba_back], trivial⟩
theorem node_open {m : Nat} {cs : List Value} {x : DataW H × List MemPlace} (h : DataW.trod enc Tryz.prog w 0 (fun _ => true) true m 25 cs = some x) : ∃ y : NV, cs = ndC y ∧ RawN y (Wd.of w).all := by
 obtain ⟨xs, n, rfl, rfl, hl, hxl, hf⟩ := DataW.trod_struct Tryz.underlying25 h
 rw [c_node] at hl
 have hxl : xs.length = 11 := hxl
 match cs, hl, xs, hxl with
 | [c0, c1, c2, c3, c4, c5, c6, c7, c8, c9, c10], _, [x0, x1, x2, x3, x4, x5, x6, x7, x8, x9, x10], _ =>
  have h0 : DataW.trod enc Tryz.prog w 0 (fun _ => true) true n 9 ((([c0, c1, c2, c3, c4, c5, c6, c7, c8, c9, c10] : List Value).drop 0).take (Tryz.prog.cellsOf 9)) = some x0 := hf 0 _ rfl
  rw [c_str] at h0
  have h0 : DataW.trod enc Tryz.prog w 0 (fun _ => true) true n 9 [c0] = some x0 := h0
  have h1 : DataW.trod enc Tryz.prog w 0 (fun _ => true) true n 5 ((([c0, c1, c2, c3, c4, c5, c6, c7, c8, c9, c10] : List Value).drop 1).take (Tryz.prog.cellsOf 5)) = some x1 := hf 1 _ rfl
  rw [c_u8] at h1
  have h1 : DataW.trod enc Tryz.prog w 0 (fun _ => true) true n 5 [c1] = some x1 := h1
  have h2 : DataW.trod enc Tryz.prog w 0 (fun _ => true) true n 3 ((([c0, c1, c2, c3, c4, c5, c6, c7, c8, c9, c10] : List Value).drop 2).take (Tryz.prog.cellsOf 3)) = some x2 := hf 2 _ rfl
  rw [c_i] at h2
  have h2 : DataW.trod enc Tryz.prog w 0 (fun _ => true) true n 3 [c2] = some x2 := h2
  have h3 : DataW.trod enc Tryz.prog w 0 (fun _ => true) true n 3 ((([c0, c1, c2, c3, c4, c5, c6, c7, c8, c9, c10] : List Value).drop 3).take (Tryz.prog.cellsOf 3)) = some x3 := hf 3 _ rfl
  rw [c_i] at h3
  have h3 : DataW.trod enc Tryz.prog w 0 (fun _ => true) true n 3 [c3] = some x3 := h3
  have h4 : DataW.trod enc Tryz.prog w 0 (fun _ => true) true n 5 ((([c0, c1, c2, c3, c4, c5, c6, c7, c8, c9, c10] : List Value).drop 4).take (Tryz.prog.cellsOf 5)) = some x4 := hf 4 _ rfl
  rw [c_u8] at h4
  have h4 : DataW.trod enc Tryz.prog w 0 (fun _ => true) true n 5 [c4] = some x4 := h4
  have h5 : DataW.trod enc Tryz.prog w 0 (fun _ => true) true n 9 ((([c0, c1, c2, c3, c4, c5, c6, c7, c8, c9, c10] : List Value).drop 5).take (Tryz.prog.cellsOf 9)) = some x5 := hf 5 _ rfl
  rw [c_str] at h5
  have h5 : DataW.trod enc Tryz.prog w 0 (fun _ => true) true n 9 [c5] = some x5 := h5
  have h6 : DataW.trod enc Tryz.prog w 0 (fun _ => true) true n 9 ((([c0, c1, c2, c3, c4, c5, c6, c7, c8, c9, c10] : List Value).drop 6).take (Tryz.prog.cellsOf 9)) = some x6 := hf 6 _ rfl
  rw [c_str] at h6
  have h6 : DataW.trod enc Tryz.prog w 0 (fun _ => true) true n 9 [c6] = some x6 := h6
  have h7 : DataW.trod enc Tryz.prog w 0 (fun _ => true) true n 9 ((([c0, c1, c2, c3, c4, c5, c6, c7, c8, c9, c10] : List Value).drop 7).take (Tryz.prog.cellsOf 9)) = some x7 := hf 7 _ rfl
  rw [c_str] at h7
  have h7 : DataW.trod enc Tryz.prog w 0 (fun _ => true) true n 9 [c7] = some x7 := h7
  have h8 : DataW.trod enc Tryz.prog w 0 (fun _ => true) true n 4 ((([c0, c1, c2, c3, c4, c5, c6, c7, c8, c9, c10] : List Value).drop 8).take (Tryz.prog.cellsOf 4)) = some x8 := hf 8 _ rfl
  rw [c_b] at h8
  have h8 : DataW.trod enc Tryz.prog w 0 (fun _ => true) true n 4 [c8] = some x8 := h8
  have h9 : DataW.trod enc Tryz.prog w 0 (fun _ => true) true n 22 ((([c0, c1, c2, c3, c4, c5, c6, c7, c8, c9, c10] : List Value).drop 9).take (Tryz.prog.cellsOf 22)) = some x9 := hf 9 _ rfl
  rw [c_lv] at h9
  have h9 : DataW.trod enc Tryz.prog w 0 (fun _ => true) true n 22 [c9] = some x9 := h9
  have h10 : DataW.trod enc Tryz.prog w 0 (fun _ => true) true n 23 ((([c0, c1, c2, c3, c4, c5, c6, c7, c8, c9, c10] : List Value).drop 10).take (Tryz.prog.cellsOf 23)) = some x10 := hf 10 _ rfl
  rw [c_ls] at h10
  have h10 : DataW.trod enc Tryz.prog w 0 (fun _ => true) true n 23 [c10] = some x10 := h10
  obtain ⟨v0, e0, _, w0⟩ := DataW.trod_string Tryz.underlying9 h0
  obtain ⟨v1, e1, _, w1⟩ := DataW.trod_int Tryz.underlying5 h1
  obtain ⟨v2, e2, _, w2⟩ := DataW.trod_int Tryz.underlying3 h2
  obtain ⟨v3, e3, _, w3⟩ := DataW.trod_int Tryz.underlying3 h3
  obtain ⟨v4, e4, _, w4⟩ := DataW.trod_int Tryz.underlying5 h4
  obtain ⟨v5, e5, _, w5⟩ := DataW.trod_string Tryz.underlying9 h5
  obtain ⟨v6, e6, _, w6⟩ := DataW.trod_string Tryz.underlying9 h6
  obtain ⟨v7, e7, _, w7⟩ := DataW.trod_string Tryz.underlying9 h7
  obtain ⟨v8, e8, _⟩ := DataW.trod_bool Tryz.underlying4 h8
  obtain ⟨a9, k9, l9, e9, s9, q9⟩ := trod_list varC_len (by decide) Tryz.underlying22 c_var h9 (fun _ _ _ h => var_open h)
  obtain ⟨a10, k10, l10, e10, s10, q10⟩ := trod_list str1_len (by decide) Tryz.underlying23 c_str h10 (fun _ _ _ h => text_open h)
  simp only [List.cons.injEq, and_true] at e0 e1 e2 e3 e4 e5 e6 e7 e8 e9 e10
  subst e0 e1 e2 e3 e4 e5 e6 e7 e8 e9 e10
  have hb := bounds_u8 w1
  exact ⟨⟨⟨v0.data.toList, v1, v2, v3, v4, v5.data.toList, v6.data.toList, v7.data.toList, v8, l9, l10⟩, a9, k9, a10, k10⟩, by simp only [ndC, strB, ba_back], hb.1, by have := hb.2; show v1 < 256; omega, q9, SlW.all (W := Wd.of w) s9, SlW.all (W := Wd.of w) s10⟩
theorem proc_open {m : Nat} {cs : List Value} {x : DataW H × List MemPlace} (h : DataW.trod enc Tryz.prog w 0 (fun _ => true) true m 31 cs = some x) : ∃ y : PV, cs = prC y ∧ RawP y (Wd.of w).all := by
 obtain ⟨xs, n, rfl, rfl, hl, hxl, hf⟩ := DataW.trod_struct Tryz.underlying31 h
 rw [c_proc] at hl
 have hxl : xs.length = 4 := hxl
 match cs, hl, xs, hxl with
 | [c0, c1, c2, c3], _, [x0, x1, x2, x3], _ =>
  have h0 : DataW.trod enc Tryz.prog w 0 (fun _ => true) true n 9 ((([c0, c1, c2, c3] : List Value).drop 0).take (Tryz.prog.cellsOf 9)) = some x0 := hf 0 _ rfl
  rw [c_str] at h0
  have h0 : DataW.trod enc Tryz.prog w 0 (fun _ => true) true n 9 [c0] = some x0 := h0
  have h1 : DataW.trod enc Tryz.prog w 0 (fun _ => true) true n 22 ((([c0, c1, c2, c3] : List Value).drop 1).take (Tryz.prog.cellsOf 22)) = some x1 := hf 1 _ rfl
  rw [c_lv] at h1
  have h1 : DataW.trod enc Tryz.prog w 0 (fun _ => true) true n 22 [c1] = some x1 := h1
  have h2 : DataW.trod enc Tryz.prog w 0 (fun _ => true) true n 28 ((([c0, c1, c2, c3] : List Value).drop 2).take (Tryz.prog.cellsOf 28)) = some x2 := hf 2 _ rfl
  rw [c_ln] at h2
  have h2 : DataW.trod enc Tryz.prog w 0 (fun _ => true) true n 28 [c2] = some x2 := h2
  have h3 : DataW.trod enc Tryz.prog w 0 (fun _ => true) true n 29 ((([c0, c1, c2, c3] : List Value).drop 3).take (Tryz.prog.cellsOf 29)) = some x3 := hf 3 _ rfl
  rw [c_lf] at h3
  have h3 : DataW.trod enc Tryz.prog w 0 (fun _ => true) true n 29 [c3] = some x3 := h3
  obtain ⟨v0, e0, _, w0⟩ := DataW.trod_string Tryz.underlying9 h0
  obtain ⟨a1, k1, l1, e1, s1, q1⟩ := trod_list varC_len (by decide) Tryz.underlying22 c_var h1 (fun _ _ _ h => var_open h)
  obtain ⟨a2, k2, l2, e2, s2, q2⟩ := trod_list ndC_len (by decide) Tryz.underlying28 c_node h2 (fun _ _ _ h => node_open h)
  obtain ⟨a3, k3, l3, e3, s3, q3⟩ := trod_list flC_len (by decide) Tryz.underlying29 c_flow h3 (fun _ _ _ h => flow_open h)
  simp only [List.cons.injEq, and_true] at e0 e1 e2 e3
  subst e0 e1 e2 e3
  exact ⟨⟨v0.data.toList, l1, a1, k1, l2, a2, k2, l3, a3, k3⟩, by simp only [prC, strB, ba_back], q1, q2, SlW.all (W := Wd.of w) s1, SlW.all (W := Wd.of w) s2, SlW.all (W := Wd.of w) s3⟩
theorem proc_arg {v : Value} (hv : Value.okWide Tryz.prog w .any base 31 v) {d : DataW H} {ps : List MemPlace} (h : DataW.Trod enc Tryz.prog w 0 (fun _ => true) true 31 v d ps) : ∃ y : PV, v = .agg (prC y).toArray ∧ RawP y (Wd.of w).all := by
 unfold Value.okWide at hv
 rw [Tryz.underlying31] at hv
 obtain ⟨cs, rfl, _, _⟩ := hv
 obtain ⟨m, hm⟩ := h
 obtain ⟨y, hy, r⟩ := proc_open hm
 have hy : cs.toList = _ := hy
 exact ⟨y, by rw [← Array.toArray_toList (xs := cs), hy], r⟩
theorem procs_arg {v : Value} (hv : Value.okWide Tryz.prog w .any base 44 v) {d : DataW H} {ps : List MemPlace} (h : DataW.Trod enc Tryz.prog w 0 (fun _ => true) true 44 v d ps) : ∃ (a : Option Addr) (c : Nat) (l : List PV), v = .slice a l.length c ∧ SlI (Wd.of w).all a l.length c 4 (l.flatMap prC) ∧ ∀ q ∈ l, RawP q (Wd.of w).all := by
 have hs := hv
 unfold Value.okWide at hs
 rw [Tryz.underlying44] at hs
 obtain ⟨m, hm⟩ := h
 have hm' : DataW.trod enc Tryz.prog w 0 (fun _ => true) true m 44 [v] = some (d, ps) := by
  obtain ⟨a, n, c, rfl⟩ := okWide_slice Tryz.underlying44 hv
  exact hm
 obtain ⟨a, c, l, e, s, q⟩ := trod_list prC_len (by decide) Tryz.underlying44 c_proc hm' (fun _ _ _ h => proc_open h)
 have e : v = .slice a l.length c := by injection e
 exact ⟨a, c, l, e, SlW.all (W := Wd.of w) s, q⟩
end
end Go.Proofs.YtkpjmlnhhggenaaGreatDoor
end
section
/- Frames of statements: what slices and laid variables hold when the call begins, in SF's terms. -/
namespace Go.Proofs.YtkpjmlnhhggenaaGreatDoor
open Go Go.RowKit Go.SF Go.ChangeShapes Go.WideShapes Go.Deep
section
variable {H : Type} {enc : TypeId × Value → H} {P : Program} {w : World} {base : Nat} {sp : Nat → Bool} {held : Bool}
theorem cells_of_strs {fuel : Nat} {t e : TypeId} {n : Nat} {cs : List Value} {zs : List (List UInt8)} {p : List MemPlace}
  (ht : P.underlying t = some (.array n e)) (he : P.underlying e = some .string) (hce : P.cellsOf e = 1) (hct : P.cellsOf t = n)
  (h : DataW.trod enc P w base sp held fuel t cs = some (.agg (zs.map fun z => .lit (.string z)), p)) : cs = zs.map fun z => Value.string ⟨z.toArray⟩ := by
 cases fuel with
 | zero => simp [DataW.trod] at h
 | succ fuel =>
  simp only [DataW.trod, ht, hce, hct, Nat.mul_one] at h
  split at h
  ·rename_i hl
   obtain ⟨xs, hm, hx⟩ := Option.map_eq_some_iff.1 h
   have hxs : xs.map (·.1) = zs.map fun z => (DataW.lit (.string z) : DataW H) := by
    have := congrArg Prod.fst hx
    simpa using this
   have hxl : xs.length = n := by simpa using Lib.mapM_length hm
   have hzl : zs.length = n := by
    have := congrArg List.length hxs
    simp at this
    omega
   apply List.ext_getElem?
   intro i
   by_cases hi : i < n
   ·obtain ⟨b, hb, hf⟩ := Lib.mapM_at hm i i (by simp [hi])
    obtain ⟨z, hc, rfl, _⟩ := DataW.trod_string he hf
    have h1 : cs[i]? = some (.string z) := by
     have := congrArg (·[0]?) hc
     simpa [List.getElem?_take, List.getElem?_drop] using this
    have h2 : (xs.map (·.1))[i]? = some (DataW.lit (.string z.data.toList) : DataW H) := by simp [hb]
    rw [hxs] at h2
    simp only [List.getElem?_map, Option.map_eq_some_iff, DataW.lit.injEq, Lit.string.injEq] at h2
    obtain ⟨z', hz', rfl⟩ := h2
    simp [h1, hz']
   ·rw [List.getElem?_eq_none (by omega), List.getElem?_eq_none (by simp; omega)]
  ·cases h
theorem laid_block {P : Program} {W : World} {g : Nat} {cs : Array Value} {name : String} {d : DataW Unit} {rest : List (String × DataW Unit)} (hg : P.globalNamed name = some g) (h : laidMet P ((name, d) :: rest) W) (hv : W.var? P name = some cs) (h0 : 0 < cs.size) : ∃ ty, W.heap[g]? = some (.cells cs ty) := by
 obtain ⟨ps, ⟨g', t', cs', fuel, p, q, hg', ht', hvar, hd, _, rfl⟩, _, hrows⟩ := h
 obtain rfl := Option.some.inj (hg.symm.trans hg')
 obtain rfl := Option.some.inj (hv.symm.trans hvar)
 obtain ⟨⟨c, ty, hc⟩, _⟩ := hrows g 0 (by
  refine List.mem_append_left _ (List.mem_append_left _ ?_)
  simp only [MemPlace.row, List.mem_map, List.mem_range]
  exact ⟨0, h0, by simp⟩)
 refine ⟨ty, ?_⟩
 simp only [World.var?, hg, Option.bind_some, hc, Option.some.injEq] at hv
 rw [hc, hv]
theorem strs_of_head {P : Program} {W : World} {name : String} {zs : List (List UInt8)} {rest : List (String × DataW Unit)} {g : Nat} {t e : TypeId} {n : Nat}
  (hg : P.globalNamed name = some g) (hty : (P.globals[g]?).map (·.type) = some t) (ht : P.underlying t = some (.array n e)) (he : P.underlying e = some .string) (hce : P.cellsOf e = 1) (hct : P.cellsOf t = n)
  (h : laidMet P ((name, .agg (zs.map fun z => .lit (.string z))) :: rest) W) (h0 : 0 < zs.length) : ∃ ty, W.heap[g]? = some (.cells (zs.map fun z => Value.string ⟨z.toArray⟩).toArray ty) := by
 have hv : W.var? P name = some (zs.map fun z => Value.string ⟨z.toArray⟩).toArray := by
  obtain ⟨ps, ⟨g', t', cs, fuel, p, q, hg', ht', hvar, hd, _, _⟩, _⟩ := id h
  obtain rfl := Option.some.inj (hg.symm.trans hg')
  obtain rfl := Option.some.inj (hty.symm.trans ht')
  rw [hvar, ← cells_of_strs ht he hce hct hd]
 exact laid_block hg h hv (by simpa using h0)
theorem iface_of_trod {H : Type} {enc : TypeId × Value → H} {P : Program} {w : World} {base : Nat} {sp : Nat → Bool} {fuel : Nat} {t : TypeId} {ms : Array (String × TypeId)} {cs : List Value} {nm : String} {d : DataW H} {p : List MemPlace}
  (ht : P.underlying t = some (.interface ms)) (h : DataW.trod enc P w base sp false fuel t cs = some (.iface nm d, p)) : ∃ u v, cs = [.iface u v] := by
 cases fuel with
 | zero => simp [DataW.trod] at h
 | succ n =>
  unfold DataW.trod at h
  rw [ht] at h
  split at h <;> simp_all
theorem iface_of_head {P : Program} {W : World} {name nm : String} {d : DataW Unit} {rest : List (String × DataW Unit)} {g : Nat} {t : TypeId} {ms : Array (String × TypeId)}
  (hg : P.globalNamed name = some g) (hty : (P.globals[g]?).map (·.type) = some t) (ht : P.underlying t = some (.interface ms)) (h : laidMet P ((name, .iface nm d) :: rest) W) : ∃ tp p, W.var? P name = some #[.iface tp p] := by
 obtain ⟨ps, ⟨g', t', cs, fuel, p, q, hg', ht', hvar, hd, _, _⟩, _⟩ := id h
 obtain rfl := Option.some.inj (hg.symm.trans hg')
 obtain rfl := Option.some.inj (hty.symm.trans ht')
 obtain ⟨u, v, hc⟩ := iface_of_trod ht hd
 refine ⟨u, v, ?_⟩
 rw [hvar]
 cases cs
 simpa using hc
theorem var_lt {P : Program} {W : World} {name : String} {g : Nat} {cs : Array Value} (hg : P.globalNamed name = some g) (h : W.var? P name = some cs) : g < W.heap.size := by
 unfold World.var? at h
 rw [hg, Option.bind_some] at h
 rcases Nat.lt_or_ge g W.heap.size with h' | h'
 ·exact h'
 ·rw [Array.getElem?_eq_none h'] at h; cases h
theorem cell_lt {W : World} {g o : Nat} {v : Value} (h : W.cell? ⟨g, o, none⟩ = some v) : g < W.heap.size := by
 unfold World.cell? at h
 rcases Nat.lt_or_ge g W.heap.size with h' | h'
 ·exact h'
 ·simp [Array.getElem?_eq_none h'] at h
end
end Go.Proofs.YtkpjmlnhhggenaaGreatDoor
end
section
/- Frames of statements: laid tables of numbers, of slices. -/
namespace Go.Proofs.YtkpjmlnhhggenaaGreatDoor
open Go Go.RowKit Go.SF Go.ChangeShapes Go.WideShapes Go.Deep
section
variable {H : Type} {enc : TypeId × Value → H} {P : Program} {w : World} {base : Nat} {sp : Nat → Bool} {held : Bool}
theorem cells_of_arr {fuel : Nat} {t e : TypeId} {n : Nat} {cs : List Value} {ds : List (DataW H)} {p : List MemPlace}
  (ht : P.underlying t = some (.array n e)) (hce : P.cellsOf e = 1) (hct : P.cellsOf t = n)
  (h : DataW.trod enc P w base sp held fuel t cs = some (.agg ds, p)) : cs.length = n ∧ ds.length = n ∧ ∀ i, i < n → ∃ v x m, cs[i]? = some v ∧ ds[i]? = some x.1 ∧ DataW.trod enc P w base sp held m e [v] = some x := by
 cases fuel with
 | zero => simp [DataW.trod] at h
 | succ fuel =>
  simp only [DataW.trod, ht, hce, hct, Nat.mul_one] at h
  split at h
  ·rename_i hl
   obtain ⟨xs, hm, hx⟩ := Option.map_eq_some_iff.1 h
   have hxs : xs.map (·.1) = ds := by
    have := congrArg Prod.fst hx
    simpa using this
   have hxl : xs.length = n := by simpa using Lib.mapM_length hm
   refine ⟨hl, by rw [← hxs]; simp [hxl], fun i hi => ?_⟩
   obtain ⟨b, hb, hf⟩ := Lib.mapM_at hm i i (by simp [hi])
   have hv : cs[i]? = some cs[i] := List.getElem?_eq_getElem (by omega)
   refine ⟨cs[i], b, fuel, hv, by rw [← hxs, List.getElem?_map, hb]; rfl, ?_⟩
   have h1 : (cs.drop i).take 1 = [cs[i]] := by rw [List.drop_eq_getElem_cons (by omega)]; rfl
   rw [h1] at hf
   exact hf
  ·cases h
theorem cells_of_ints {fuel : Nat} {t e : TypeId} {n : Nat} {k : IntKind} {cs : List Value} {zs : List Int} {p : List MemPlace}
  (ht : P.underlying t = some (.array n e)) (he : P.underlying e = some (.int k)) (hce : P.cellsOf e = 1) (hct : P.cellsOf t = n)
  (h : DataW.trod enc P w base sp held fuel t cs = some (.agg (zs.map fun z => .lit (.int k z)), p)) : cs = zs.map fun z => Value.int k z := by
 obtain ⟨h1, h2, h3⟩ := cells_of_arr ht hce hct h
 apply List.ext_getElem?
 intro i
 simp only [List.length_map] at h2
 by_cases hi : i < n
 ·obtain ⟨v, x, m, hv, hd, hx⟩ := h3 i hi
  obtain ⟨z, e1, rfl, _⟩ := DataW.trod_int he hx
  obtain rfl : v = .int k z := by simpa using e1
  rw [hv]
  rw [List.getElem?_map, Option.map_eq_some_iff] at hd
  obtain ⟨z', hz', e2⟩ := hd
  simp only [DataW.lit.injEq, Lit.int.injEq, true_and] at e2
  subst e2
  simp [hz']
 ·rw [List.getElem?_eq_none (by omega), List.getElem?_eq_none (by simp; omega)]
theorem ints_of_head {W : World} {name : String} {k : IntKind} {zs : List Int} {rest : List (String × DataW Unit)} {g : Nat} {t e : TypeId} {n : Nat}
  (hg : P.globalNamed name = some g) (hty : (P.globals[g]?).map (·.type) = some t) (ht : P.underlying t = some (.array n e)) (he : P.underlying e = some (.int k)) (hce : P.cellsOf e = 1) (hct : P.cellsOf t = n)
  (h : laidMet P ((name, .agg (zs.map fun z => .lit (.int k z))) :: rest) W) (h0 : 0 < zs.length) : ∃ ty, W.heap[g]? = some (.cells (zs.map fun z => Value.int k z).toArray ty) := by
 have hv : W.var? P name = some (zs.map fun z => Value.int k z).toArray := by
  obtain ⟨ps, ⟨g', t', cs, fuel, p, q, hg', ht', hvar, hd, _, _⟩, _⟩ := id h
  obtain rfl := Option.some.inj (hg.symm.trans hg')
  obtain rfl := Option.some.inj (hty.symm.trans ht')
  rw [hvar, ← cells_of_ints ht he hce hct hd]
 exact laid_block hg h hv (by simpa using h0)
theorem cell_spot' {a : Addr} {v : Value} (h : w.cell? a = some v) : a = ⟨a.block, a.off, none⟩ ∧ a.block < w.heap.size := by
 unfold World.cell? at h
 split at h
 ·rename_i c t fr hb
  split at h
  ·cases h
  ·rename_i hs
   obtain ⟨b, o, s⟩ := a
   cases s with
   | none => exact ⟨rfl, (Array.getElem?_eq_some_iff.1 hb).1⟩
   | some _ => simp at hs
 ·cases h
def slD {α : Type} (g : α → DataW H) : List α → DataW H
 | [] => .nil
 | x :: l => .slice ((x :: l).map g) []
theorem slice_lit {α : Type} [Inhabited α] {f : α → List Value} {g : α → DataW H} {sz : Nat} (hf : ∀ x, (f x).length = sz) (hz : 0 < sz) {e t : TypeId} (ht : P.underlying t = some (.slice e)) (hc : P.cellsOf e = sz)
  (hD : ∀ n cs x y, DataW.trod enc P w 0 sp held n e cs = some x → x.1 = g y → cs = f y) {m : Nat} {v : Value} {l : List α} {x : DataW H × List MemPlace}
  (h : DataW.trod enc P w 0 sp held m t [v] = some x) (hx : x.1 = slD g l) : ∃ (a : Option Addr) (c : Nat), v = .slice a l.length c ∧ SlW w a l.length c sz (l.flatMap f) := by
 rcases DataW.trod_slice ht h with ⟨e5, rfl⟩ | ⟨a, len, cap, elems, rest, n', hn', e5, d5, _, hlc, _, hel, hxs, hrest, _⟩
 ·have e5 : v = .slice none 0 0 := by injection e5
  subst e5
  cases l with
  | nil => exact ⟨none, 0, rfl, SlAt.nil _ _ _⟩
  | cons y l => cases hx
 ·have e5 : v = .slice (some a) len cap := by injection e5
  subst e5
  rw [d5] at hx
  cases l with
  | nil => cases hx
  | cons y l =>
   have hm : elems.map (·.1) = (y :: l).map g := by
    simp only [slD, DataW.slice.injEq] at hx
    exact hx.1
   generalize hL : (y :: l) = L at *
   have hlen : len = L.length := by
    have := congrArg List.length hm
    simp only [List.length_map] at this
    omega
   subst hlen
   rw [hc] at hxs
   have cell : ∀ i, i < L.length → ∃ z, L[i]? = some z ∧ ∀ j, j < sz → w.cell? (a.add (i * sz + j)) = (f z)[j]? := fun i hi => by
    have h4 := hxs i hi
    have h5 : i < elems.length := by omega
    rw [List.getElem?_eq_getElem h5] at h4
    obtain ⟨cs', h6, h7⟩ := Option.bind_eq_some_iff.1 h4
    have h8 : (elems.map (·.1))[i]? = some elems[i].1 := by rw [List.getElem?_map, List.getElem?_eq_getElem h5]; rfl
    rw [hm, List.getElem?_map, List.getElem?_eq_getElem hi] at h8
    have h9 := hD n' cs' elems[i] L[i] h7 (Option.some.inj h8).symm
    subst h9
    obtain ⟨_, _, h10⟩ := World.cells?_some h6
    exact ⟨L[i], List.getElem?_eq_getElem hi, fun j hj => by rw [← Deep.add_add]; exact h10 j hj⟩
   have hpos : 0 < L.length := by rw [← hL]; simp
   obtain ⟨z0, hz0, hc0⟩ := cell 0 hpos
   have hc1 := hc0 0 hz
   have ha : a.add (0 * sz + 0) = a := by simp [Addr.add]
   rw [ha, List.getElem?_eq_getElem (by rw [hf]; exact hz)] at hc1
   obtain ⟨s1, s2⟩ := cell_spot' hc1
   refine ⟨some a, cap, rfl, flat_len hf L, hlc, .inr ⟨a.block, a.off, congrArg some s1, trivial, s2, fun j u hu => ?_⟩⟩
   have hj : j < L.length * sz := by
    have := (List.getElem?_eq_some_iff.1 hu).1
    rw [flat_len hf] at this; exact this
   have hi : j / sz < L.length := (Nat.div_lt_iff_lt_mul hz).2 hj
   have hr : j % sz < sz := Nat.mod_lt _ hz
   have hjj : j / sz * sz + j % sz = j := by rw [Nat.mul_comm]; exact Nat.div_add_mod j sz
   obtain ⟨z, hz1, hz2⟩ := cell _ hi
   have h11 := hz2 _ hr
   have h12 := flat_get hf (j % sz) hz1 hr
   rw [hjj] at h11 h12
   rw [hu] at h12
   rw [s1, add_none, ← h12] at h11
   exact h11
end
end Go.Proofs.YtkpjmlnhhggenaaGreatDoor
end
section
/- Small general lemmas of mine, over any program. -/
namespace Go.Own
open Go Go.RowKit
def Up (w w' : World) : Prop := Below w.heap.size w w'
theorem Up.refl (w : World) : Up w w := Below.refl _ _
theorem Up.of {w w' : World} (h : Below w.heap.size w w') : Up w w' := h
theorem Up.out {w w' : World} (h : Up w w') : Below w.heap.size w w' := h
theorem Up.size {w w' : World} (h : Up w w') : w.heap.size ≤ w'.heap.size := Below.size h
theorem Up.trans {a b c : World} (h : Up a b) (k : Up b c) : Up a c := Below.trans h (Below.mono k h.size)
theorem Up.alloc {a w : World} (h : Up a w) (o : Obj) : Up a (w.alloc o) := Below.alloc h h.size o
theorem Up.drew {a w : World} (h : Up a w) : Up a w.drew := Below.drew h
theorem Up.drewN {a w : World} (h : Up a w) (n : Nat) : Up a (w.drewN n) := ⟨h.out.os, h.out.tape, h.out.output, h.out.size, h.out.block⟩
theorem Up.cell {w w' : World} (h : Up w w') {b o : Nat} (hp : b < w.heap.size) : w'.cell? ⟨b, o, none⟩ = w.cell? ⟨b, o, none⟩ := Below.cell (p := ⟨b, o, none⟩) h hp
theorem Up.frozen {w w' : World} (h : Up w w') {b o : Nat} (hp : b < w.heap.size) : w'.frozen? ⟨b, o, none⟩ = w.frozen? ⟨b, o, none⟩ := Below.frozen (p := ⟨b, o, none⟩) h hp
theorem Up.block {a w : World} (h : Up a w) {n : Nat} (hn : w.heap.size = n) : a.heap.size ≤ n := hn ▸ h.size
theorem Up.cells {W w1 : World} (h : Up W w1) : (∀ b o, b < W.heap.size → w1.cell? ⟨b, o, none⟩ = W.cell? ⟨b, o, none⟩) ∧ (∀ b o, b < W.heap.size → w1.frozen? ⟨b, o, none⟩ = W.frozen? ⟨b, o, none⟩) :=
 ⟨fun _ _ hb => h.cell hb, fun _ _ hb => h.frozen hb⟩
theorem Up.same {w w' : World} (h : w = w') : Up w w' := h ▸ Up.refl w
end Go.Own
end
section
/- The laws of layer 16: the laid variables, in the terms of the walks; ValidWhole, joined with what is handed in. -/
namespace Go.Proofs.YtkpjmlnhhggenaaGreatDoor
open Go Go.RowKit Go.SF Go.Own Go.ChangeShapes
def validLaid : List (String × DataW Unit) := Rows.validWholeRow.laid
theorem gSigns : Tryz.prog.globalNamed "callboard/lex.signs" = some 3 := by kernel_rfl
theorem gSorts : Tryz.prog.globalNamed "callboard/typed.sorts" = some 1 := by kernel_rfl
theorem gArgs : Tryz.prog.globalNamed "callboard/typed.args" = some 4 := by kernel_rfl
theorem gRes : Tryz.prog.globalNamed "callboard/model.reserved" = some 0 := by kernel_rfl
theorem gEv : Tryz.prog.globalNamed "callboard/model.events" = some 2 := by kernel_rfl
theorem glob_of {W : World} (h : laidMetH Tryz.prog validLaid W) (sh : W.ShapedOpen Tryz.prog) : Glob (Wd.of W).all := by
 have h' : laidMet Tryz.prog validLaid W := h
 have t4 := h'.tail.tail.tail.tail
 have eR := iface_of_head gR (t := 182) (by kernel_rfl) Tryz.underlying182 t4
 have eS := iface_of_head gS (t := 182) (by kernel_rfl) Tryz.underlying182 t4.tail
 have eG := strs_of_head (zs := Lx.signs) gSigns (by kernel_rfl) Tryz.underlying179 Tryz.underlying9 (by kernel_rfl) (by kernel_rfl) t4.tail.tail (by decide)
 obtain ⟨m, hm⟩ := Go.Proofs.cell_of_shapedOpen_int (g := 7) (zero := #[.int .i64 0]) (t := 3) sh (of_decide_eq_true (by kernel_rfl)) (by kernel_rfl) rfl (by kernel_rfl) (by kernel_rfl) Tryz.underlying3
 obtain ⟨ty, hty⟩ := eG
 obtain ⟨tpS, pS, hS⟩ := eS
 obtain ⟨tpR, pR, hR⟩ := eR
 exact ⟨⟨ty, hty⟩, (Array.getElem?_eq_some_iff.1 hty).1, ⟨tpS, pS, hS⟩, var_lt gS hS, ⟨tpR, pR, hR⟩, var_lt gR hR, ⟨m, hm⟩, cell_lt hm⟩
instance : Inhabited (Int × Int) := ⟨(0, 0)⟩
def sortD (s : Int × Int) : DataW Unit := .agg [.lit (.int .u8 s.1), .lit (.int .u8 s.2)]
theorem sortD_agg : Rows.laid_callboard_typed_sorts = DataW.agg (Tx.sortTab.map (slD sortD)) := by kernel_rfl
set_option maxRecDepth 100000 in
theorem sort_lit {enc : TypeId × Value → Unit} {W : World} {sp : Nat → Bool} {held : Bool} (n : Nat) (cs : List Value) (x : DataW Unit × List MemPlace) (y : Int × Int) (h : DataW.trod enc Tryz.prog W 0 sp held n 150 cs = some x) (hx : x.1 = sortD y) : cs = sortC y := by
 obtain ⟨xs, n, rfl, rfl, hl, hxl, hf⟩ := DataW.trod_struct Tryz.underlying150 h
 rw [show Tryz.prog.cellsOf 150 = 2 from by kernel_rfl] at hl
 have hxl : xs.length = 2 := hxl
 match cs, hl, xs, hxl with
 | [c0, c1], _, [x0, x1], _ =>
  have h0 : DataW.trod enc Tryz.prog W 0 sp held n 5 ((([c0, c1] : List Value).drop 0).take (Tryz.prog.cellsOf 5)) = some x0 := hf 0 _ rfl
  rw [c_u8] at h0
  have h0 : DataW.trod enc Tryz.prog W 0 sp held n 5 [c0] = some x0 := h0
  have h1 : DataW.trod enc Tryz.prog W 0 sp held n 5 ((([c0, c1] : List Value).drop 1).take (Tryz.prog.cellsOf 5)) = some x1 := hf 1 _ rfl
  rw [c_u8] at h1
  have h1 : DataW.trod enc Tryz.prog W 0 sp held n 5 [c1] = some x1 := h1
  obtain ⟨a, e0, d0, _⟩ := DataW.trod_int Tryz.underlying5 h0
  obtain ⟨b, e1, d1, _⟩ := DataW.trod_int Tryz.underlying5 h1
  obtain rfl : c0 = .int .u8 a := by injection e0
  obtain rfl : c1 = .int .u8 b := by injection e1
  rw [d0, d1] at hx
  simp only [sortD, z_e, z_f, DataW.agg.injEq, List.cons.injEq, DataW.lit.injEq, Lit.int.injEq, true_and, and_true] at hx
  rw [hx.1, hx.2]; rfl
set_option maxRecDepth 100000 in
theorem globT_of {W : World} (h : laidMetH Tryz.prog validLaid W) : GlobT (Wd.of W).all := by
 have h' : laidMet Tryz.prog validLaid W := h
 have t7 := h'.tail.tail.tail.tail.tail.tail.tail.tail.tail
 have t7' : laidMet Tryz.prog (("callboard/typed.sorts", DataW.agg (Tx.sortTab.map (slD sortD))) :: validLaid.tail.tail.tail.tail.tail.tail.tail.tail.tail.tail) W := by rw [← sortD_agg]; exact t7
 obtain ⟨ty1, h1⟩ := ints_of_head (zs := Tx.argTab) (k := .i64) gArgs (t := 189) (by kernel_rfl) Tryz.underlying189 Tryz.underlying3 (by kernel_rfl) (by kernel_rfl) t7.tail (by decide)
 refine And.elim (fun x y => (⟨⟨ty1, h1⟩, (Array.getElem?_eq_some_iff.1 h1).1, x, y⟩ : GlobT (Wd.of W).all)) ?_
 obtain ⟨ps, ⟨g', t', cs, fuel, p, q, hg', ht', hvar, hd, _, _⟩, _⟩ := id t7'
 obtain rfl := Option.some.inj (gSorts.symm.trans hg')
 obtain rfl : 148 = t' := Option.some.inj ((show (Tryz.prog.globals[1]?).map (·.type) = some 148 by kernel_rfl).symm.trans ht')
 obtain ⟨k1, k2, k3⟩ := cells_of_arr Tryz.underlying148 (by kernel_rfl) (by kernel_rfl) hd
 have sl : ∀ i, i < 17 → ∃ (s : Option Addr × Nat), cs.toList[i]? = some (.slice s.1 (Tx.sortTab.getD i []).length s.2) ∧ SlW W s.1 (Tx.sortTab.getD i []).length s.2 2 ((Tx.sortTab.getD i []).flatMap sortC) := fun i hi => by
  obtain ⟨v, x, m, hv, hx, ht⟩ := k3 i hi
  have hi' : i < Tx.sortTab.length := hi
  rw [List.getElem?_map, List.getElem?_eq_getElem hi', Option.map_some] at hx
  have hx := (Option.some.inj hx).symm
  rw [show Tx.sortTab[i] = Tx.sortTab.getD i [] from by rw [List.getD_eq_getElem?_getD, List.getElem?_eq_getElem hi']; rfl] at hx
  obtain ⟨a, c, rfl, hs⟩ := slice_lit (f := sortC) (g := sortD) (sz := 2) (fun _ => rfl) (by decide) Tryz.underlying147 (by kernel_rfl) sort_lit ht hx
  exact ⟨(a, c), hv, hs⟩
 obtain ⟨X, hX⟩ := Go.Deep.choose_lt sl
 have hlt : 1 < W.heap.size := var_lt gSorts hvar
 obtain ⟨ty, hb⟩ := laid_block gSorts t7' hvar (by rw [← Array.length_toList, k1]; decide)
 have gx : ∀ i, i < 17 → ((List.range 17).map X).getD i (none, 0) = X i := fun i hi => by
  rw [List.getD_eq_getElem?_getD, List.getElem?_map, List.getElem?_range hi]; rfl
 refine ⟨⟨(List.range 17).map X, ty, by simp, ?_, fun i hi => ?_⟩, hlt⟩
 ·have e : cs = ((List.range 17).map fun i => Value.slice (((List.range 17).map X).getD i (none, 0)).1 (Tx.sortTab.getD i []).length (((List.range 17).map X).getD i (none, 0)).2).toArray := by
   apply Array.ext'
   apply List.ext_getElem?
   intro i
   by_cases hi : i < 17
   ·rw [(hX i hi).1, List.getElem?_map, List.getElem?_range hi, Option.map_some, gx i hi]
   ·rw [List.getElem?_eq_none (by rw [k1]; omega), List.getElem?_eq_none (by simp; omega)]
  rw [← e]; exact hb
 ·rw [gx i hi]; exact (hX i hi).2.all
def evD (s : Int) : DataW Unit := .lit (.int .u8 s)
theorem evD_agg : Rows.laid_callboard_model_events = DataW.agg (Md.evTab.map (slD evD)) := by kernel_rfl
set_option maxRecDepth 100000 in
theorem ev_lit {enc : TypeId × Value → Unit} {W : World} {sp : Nat → Bool} {held : Bool} (n : Nat) (cs : List Value) (x : DataW Unit × List MemPlace) (y : Int) (h : DataW.trod enc Tryz.prog W 0 sp held n 5 cs = some x) (hx : x.1 = evD y) : cs = [Value.int .u8 y] := by
 obtain ⟨a, e0, d0, _⟩ := DataW.trod_int Tryz.underlying5 h
 rw [d0] at hx
 simp only [evD, DataW.lit.injEq, Lit.int.injEq, true_and] at hx
 rw [e0, hx]
set_option maxRecDepth 100000 in
theorem globM_of {W : World} (h : laidMetH Tryz.prog validLaid W) : GlobM (Wd.of W).all := by
 have h' : laidMet Tryz.prog validLaid W := h
 have t7 := h'.tail.tail.tail.tail.tail.tail.tail
 obtain ⟨ty1, h1⟩ := strs_of_head (zs := Md.reserved) gRes (by kernel_rfl) Tryz.underlying94 Tryz.underlying9 (by kernel_rfl) (by kernel_rfl) t7 (by decide)
 have t8 := t7.tail
 have t8' : laidMet Tryz.prog (("callboard/model.events", DataW.agg (Md.evTab.map (slD evD))) :: validLaid.tail.tail.tail.tail.tail.tail.tail.tail.tail) W := by rw [← evD_agg]; exact t8
 refine And.elim (fun x y => (⟨⟨ty1, h1⟩, (Array.getElem?_eq_some_iff.1 h1).1, x, y⟩ : GlobM (Wd.of W).all)) ?_
 obtain ⟨ps, ⟨g', t', cs, fuel, p, q, hg', ht', hvar, hd, _, _⟩, _⟩ := id t8'
 obtain rfl := Option.some.inj (gEv.symm.trans hg')
 obtain rfl : 162 = t' := Option.some.inj ((show (Tryz.prog.globals[2]?).map (·.type) = some 162 by kernel_rfl).symm.trans ht')
 obtain ⟨k1, k2, k3⟩ := cells_of_arr Tryz.underlying162 (by kernel_rfl) (by kernel_rfl) hd
 have sl : ∀ i, i < 16 → ∃ (s : Option Addr × Nat), cs.toList[i]? = some (.slice s.1 (Md.evTab.getD i []).length s.2) ∧ SlW W s.1 (Md.evTab.getD i []).length s.2 1 ((Md.evTab.getD i []).flatMap fun t => [Value.int .u8 t]) := fun i hi => by
  obtain ⟨v, x, m, hv, hx, ht⟩ := k3 i hi
  have hi' : i < Md.evTab.length := hi
  rw [List.getElem?_map, List.getElem?_eq_getElem hi', Option.map_some] at hx
  have hx := (Option.some.inj hx).symm
  rw [show Md.evTab[i] = Md.evTab.getD i [] from by rw [List.getD_eq_getElem?_getD, List.getElem?_eq_getElem hi']; rfl] at hx
  obtain ⟨a, c, rfl, hs⟩ := slice_lit (f := fun t : Int => [Value.int .u8 t]) (g := evD) (sz := 1) (fun _ => rfl) (by decide) Tryz.underlying77 (by kernel_rfl) ev_lit ht hx
  exact ⟨(a, c), hv, hs⟩
 obtain ⟨X, hX⟩ := Go.Deep.choose_lt sl
 have hlt : 2 < W.heap.size := var_lt gEv hvar
 obtain ⟨ty, hb⟩ := laid_block gEv t8' hvar (by rw [← Array.length_toList, k1]; decide)
 have gx : ∀ i, i < 16 → ((List.range 16).map X).getD i (none, 0) = X i := fun i hi => by
  rw [List.getD_eq_getElem?_getD, List.getElem?_map, List.getElem?_range hi]; rfl
 refine ⟨⟨(List.range 16).map X, ty, by simp, ?_, fun i hi => ?_⟩, hlt⟩
 ·have e : cs = ((List.range 16).map fun i => Value.slice (((List.range 16).map X).getD i (none, 0)).1 (Md.evTab.getD i []).length (((List.range 16).map X).getD i (none, 0)).2).toArray := by
   apply Array.ext'
   apply List.ext_getElem?
   intro i
   by_cases hi : i < 16
   ·rw [(hX i hi).1, List.getElem?_map, List.getElem?_range hi, Option.map_some, gx i hi]
   ·rw [List.getElem?_eq_none (by rw [k1]; omega), List.getElem?_eq_none (by simp; omega)]
  rw [← e]; exact hb
 ·rw [gx i hi]; exact (hX i hi).2.all
end Go.Proofs.YtkpjmlnhhggenaaGreatDoor
end
section
/- Each expression of a process that may be has its type: plain laws. No program in sight. -/
namespace Md
open Go
theorem nameAt_all : ∀ {i : Nat} {l : Bs}, nameAt i l = true → ∀ b ∈ l, low b = true ∨ more b = true
 | _, [], _, b, hb => by cases hb
 | i, c :: l, h, b, hb => by
  simp only [nameAt, Bool.and_eq_true, Bool.or_eq_true] at h
  rcases List.mem_cons.1 hb with e | e
  ·subst e; exact h.1.imp id fun x => x.2
  ·exact nameAt_all h.2 b e
theorem name_cons {s : Bs} (h : name s = true) : ∃ c r, s = c :: r ∧ low c = true ∧ (∀ b ∈ s, low b = true ∨ more b = true) ∧ s.length ≤ 12 ∧ ¬ s = [121, 101, 115] ∧ ¬ s = [110, 111] ∧ ¬ s = [108, 101, 110] := by
 unfold name at h
 simp only [Bool.and_eq_true, Bool.not_eq_true', Bool.or_eq_false_iff, decide_eq_false_iff_not] at h
 obtain ⟨⟨h1, h2⟩, h3, h4⟩ := h
 cases s with
 | nil => simp at h1
 | cons c r =>
  refine ⟨c, r, rfl, ?_, nameAt_all h4, by omega, ?_, ?_, ?_⟩
  ·simp only [nameAt, Bool.and_eq_true, Bool.or_eq_true, decide_eq_true_eq] at h4
   rcases h4.1 with h5 | ⟨h5, _⟩
   ·exact h5
   ·exact absurd h5 (Nat.lt_irrefl 0)
  ·intro e; rw [e] at h3; exact absurd h3 (by decide)
  ·intro e; rw [e] at h3; exact absurd h3 (by decide)
  ·intro e; rw [e] at h3; exact absurd h3 (by decide)
end Md
namespace Px
open Go
theorem low_letter {c : UInt8} (h : Md.low c = true) : Lx.letter c = true := h
theorem some_behind {c : UInt8} (h : Md.low c = true ∨ Md.more c = true) : Lx.behind c = true := by
 unfold Md.low Md.more at h
 unfold Lx.behind Lx.digit Lx.letter
 simp only [Bool.and_eq_true, Bool.or_eq_true, decide_eq_true_eq, beq_iff_eq] at h ⊢
 rcases h with h | h | h
 ·exact .inl (.inr h)
 ·exact .inl (.inl h)
 ·exact .inr h
theorem run_all {p : UInt8 → Bool} : ∀ {l : Lx.Bs}, (∀ b ∈ l, p b = true) → Lx.run p l = l.length
 | [], _ => rfl
 | c :: l, h => by
  rw [Lx.run_cons_t (h c (List.mem_cons_self ..)), run_all fun b hb => h b (List.mem_cons_of_mem _ hb)]; rfl
theorem lex_name {s : Lx.Bs} (h : Md.name s = true) : Lx.lex s = ([⟨2, s⟩], 0) := by
 obtain ⟨c, r, rfl, h1, h2, h3, _⟩ := Md.name_cons h
 have hl : Lx.letter c = true := low_letter h1
 have hd : Lx.digit c = false := by
  unfold Lx.letter at hl
  unfold Lx.digit
  simp only [Bool.and_eq_true, decide_eq_true_eq, Bool.and_eq_false_iff, decide_eq_false_iff_not] at hl ⊢
  omega
 have h32 : (c == 32) = false := by
  rw [beq_eq_false_iff_ne]
  intro e
  subst e
  exact absurd hl (by decide)
 have hr : Lx.run Lx.behind (c :: r) = (c :: r).length := run_all fun b hb => some_behind (h2 b hb)
 have hf : Lx.first (c :: r) = (⟨2, c :: r⟩, (c :: r).length) := by
  simp only [Lx.first, hd, hl, hr, Bool.false_eq_true, if_false, if_true, List.take_length]
 have ht : Lx.trim (c :: r) = c :: r := by unfold Lx.trim; rw [List.dropWhile_cons, h32]; rfl
 have hm : Lx.may 2 (c :: r) = true := by
  unfold Lx.may
  rw [if_neg (by decide), if_pos rfl]
  unfold Lx.wordOk
  show (Lx.letter c && ((Lx.run Lx.behind (c :: r) == (c :: r).length) && decide ((c :: r).length ≤ 12))) = true
  rw [hl, hr, decide_eq_true h3, beq_self_eq_true]; rfl
 unfold Lx.lex
 rw [if_neg (by omega), ht]
 have hx : Lx.lexT ((c :: r).length + 1) (c :: r) = some [⟨2, c :: r⟩] := by
  rw [Lx.lexT, hf]
  show (if (c :: r).length = 0 || !(Lx.may 2 (c :: r)) then Option.none else (Lx.lexT (c :: r).length (Lx.trim ((c :: r).drop (c :: r).length))).map (⟨2, c :: r⟩ :: ·)) = _
  rw [hm, if_neg (by simp), List.drop_length]
  rfl
 rw [hx]
theorem parse_name {s : Lx.Bs} (h : Md.name s = true) : parse s = (name s, 0) := by
 obtain ⟨_, _, _, _, _, _, n1, n2, n3⟩ := Md.name_cons h
 have h1 : one 4 [⟨2, s⟩] = some (name s, []) := by
  unfold one
  show (if (2 : Int) = 4 then _ else if (2 : Int) = 1 then _ else if (2 : Int) = 3 then _ else if s = [121, 101, 115] then _ else if s = [110, 111] then _ else if s = [108, 101, 110] then _ else some (name s, [])) = _
  rw [if_neg (by decide), if_neg (by decide), if_neg (by decide), if_neg n1, if_neg n2, if_neg n3]
 have h2 : two 5 1 [⟨2, s⟩] = some (name s, []) := by
  unfold two
  rw [h1]
  rfl
 have h3 : whole [⟨2, s⟩] = some (name s) := by
  unfold whole
  show (match two 5 1 [⟨2, s⟩] with | some (e, []) => some e | _ => Option.none) = _
  rw [h2]
 unfold parse
 rw [lex_name h]
 simp only [h3, if_true]
 rw [if_neg (by simp [name, deep, deeps])]
end Px
namespace Tx
open Go Px
theorem sortTab_in : ∀ l ∈ sortTab, ∀ s ∈ l, 1 ≤ s.2 ∧ s.2 ≤ 3 := by decide
theorem sorted_in {o : Int} {sides : List Int} (h : (sorted o sides).2 = 0) : 1 ≤ (sorted o sides).1 ∧ (sorted o sides).1 ≤ 3 := by
 unfold sorted at h ⊢
 cases hf : (sortsOf o).find? fun s => sides.all (· == s.1) with
 | none => rw [hf] at h; cases h
 | some s =>
  have h1 := List.mem_of_find?_eq_some hf
  unfold sortsOf at h1
  rw [List.getD_eq_getElem?_getD] at h1
  cases hg : sortTab[o.toNat]? with
  | none => rw [hg] at h1; cases h1
  | some l => rw [hg] at h1; exact sortTab_in l (List.mem_of_getElem? hg) s h1
theorem typed_in {vars : List Var} : ∀ {e : Ex}, (typed vars e).2 = 0 → 1 ≤ (typed vars e).1 ∧ (typed vars e).1 ≤ 3
 | .mk op k n t nm l, h => by
  unfold typed at h ⊢
  split
  ·rename_i h1
   rw [if_pos h1] at h
   obtain ⟨a, b, c⟩ := known_ok h
   rw [c]; exact ⟨a, b⟩
  ·rename_i h1
   rw [if_neg h1] at h
   split
   ·rename_i h2
    rw [if_pos h2] at h
    unfold named at h ⊢
    cases hf : vars.find? fun v => v.name == nm with
    | none => rw [hf] at h; cases h
    | some v =>
     rw [hf] at h
     obtain ⟨a, b, c⟩ := known_ok h
     show 1 ≤ (known v.k).1 ∧ (known v.k).1 ≤ 3
     rw [c]; exact ⟨a, b⟩
   ·rename_i h2
    rw [if_neg h2] at h
    cases ht : typeds vars l with
    | error f =>
     rw [ht] at h
     exact absurd h (typeds_ne ht)
    | ok sides =>
     rw [ht] at h
     exact sorted_in h
theorem type_in {vars : List Var} {e : Ex} (h : (type vars e).2 = 0) : 1 ≤ (type vars e).1 ∧ (type vars e).1 ≤ 3 := by
 unfold type at h ⊢
 split
 ·rename_i h1; rw [if_pos h1] at h; exact typed_in h
 ·rename_i h1; rw [if_neg h1] at h; cases h
def ofS (vars : List Var) (s : Lx.Bs) : Int := if (parse s).2 = 0 then (if (type vars (parse s).1).2 = 0 then (type vars (parse s).1).1 else 0) else 0
theorem check_of {s : Lx.Bs} {vars : List Var} {k : Int} (h : check s vars k = 0) : ofS vars s = k ∧ 1 ≤ k ∧ k ≤ 3 := by
 unfold check at h
 unfold ofS
 by_cases h1 : (parse s).2 = 0
 ·rw [if_pos h1] at h ⊢
  by_cases h2 : (type vars (parse s).1).2 = 0 ∧ (type vars (parse s).1).1 ≠ k
  ·rw [if_pos h2] at h; cases h
  ·rw [if_neg h2] at h
   rw [if_pos h]
   have h3 : (type vars (parse s).1).1 = k := Decidable.not_not.1 fun h4 => h2 ⟨h, h4⟩
   have := type_in h
   rw [h3] at this
   exact ⟨h3, this⟩
 ·rw [if_neg h1] at h; exact absurd h h1
theorem of_name {s : Lx.Bs} {vars : List Var} (hs : Md.name s = true) (h1 : 1 ≤ Vd.named vars s) (h3 : Vd.named vars s ≤ 3) : ofS vars s = Vd.named vars s := by
 unfold ofS
 rw [parse_name hs, if_pos rfl]
 have hw : whole 16 (name s) = true := by
  unfold name whole
  simp [show argN 2 = 0 from by decide]
 have ht : type vars (name s) = named vars s := by
  unfold type
  rw [hw, if_pos rfl]
  unfold name typed
  rw [if_neg (by decide), if_pos rfl]
 unfold Vd.named at h1 h3 ⊢
 show (if (type vars (name s)).2 = 0 then (type vars (name s)).1 else 0) = _
 rw [ht]
 unfold named
 cases hf : vars.find? fun v => v.name == s with
 | none => rw [hf] at h1; exact absurd h1 (by decide)
 | some v =>
  rw [hf] at h1 h3
  have hk : known v.k = (v.k, 0) := by
   unfold known
   rw [if_neg (by show ¬ (v.k < 1 ∨ 3 < v.k); have h1 : 1 ≤ v.k := h1; have h3 : v.k ≤ 3 := h3; omega)]
  show (if (known v.k).2 = 0 then (known v.k).1 else 0) = v.k
  rw [hk, if_pos rfl]
end Tx
namespace Vd
open Go Md
theorem firstN_range {e : Nat → Int} {n : Nat} (h : firstN e (List.range n) = 0) {i : Nat} (hi : i < n) : e i = 0 := firstN_all h i (List.mem_range.2 hi)
theorem node_set {n : Nd} (h : node n = 0) (hk : n.kd = 4) : name n.set = true := by
 unfold node at h
 split at h
 ·exact absurd h (by decide)
 ·split at h
  ·rename_i h1
   simp only [Bool.and_eq_true] at h1
   have h2 := h1.1
   have h4 : o4 n = true := by
    unfold o8 o7 o6 o5 at h2
    simp only [hk] at h2
    simp [show scope 4 = false from by decide] at h2
    exact h2.2
   unfold o4 at h4
   rw [hk] at h4
   simp at h4
   exact h4.1
  ·exact absurd h (by decide)
theorem told_node {defs : List Pr} {p : Pr} {fr tt : List Int} (h : All defs p fr tt) {i : Nat} {n : Nd} (hn : p.nodes[i]? = some n) :
  (n.ev = 2 → Tx.ofS (seen p i) n.txt = 1) ∧ (¬ n.ev = 2 → n.ev = 3 ∨ n.kd = 12 → Tx.ofS (seen p i) n.txt = 2) ∧
   (¬ n.ev = 2 → ¬ (n.ev = 3 ∨ n.kd = 12) → n.kd = 4 → ¬ Tx.ofS (seen p i) n.txt = 0 ∧ Tx.ofS (seen p i) n.set = Tx.ofS (seen p i) n.txt) := by
 have hi : i < p.nodes.length := (List.getElem?_eq_some_iff.1 hn).1
 have h1 := firstN_range h.sy hi
 have hd : nd p i = n := by unfold nd; rw [List.getD_eq_getElem?_getD, hn]; rfl
 unfold says saysN at h1
 rw [hd] at h1
 refine ⟨fun h2 => ?_, fun h2 h3 => ?_, fun h2 h3 h4 => ?_⟩
 ·rw [h2] at h1
  exact (Tx.check_of h1).1
 ·rw [if_neg (by simpa using h2), if_pos (by simpa using h3)] at h1
  exact (Tx.check_of h1).1
 ·rw [if_neg (by simpa using h2), if_neg (by simpa using h3), if_pos (by simpa using h4)] at h1
  split at h1
  ·exact absurd h1 (by decide)
  ·obtain ⟨k1, k2, k3⟩ := Tx.check_of h1
   have hs := node_set ((fine_of h.pr).nd n (List.mem_of_getElem? hn)) h4
   rw [k1, Tx.of_name hs k2 k3]
   exact ⟨by omega, rfl⟩
theorem told_flow {defs : List Pr} {p : Pr} {fr tt : List Int} (h : All defs p fr tt) {x : Fl} (hx : x ∈ p.flows) (hc : ¬ x.cond = []) : Tx.ofS (seen p x.frm) x.cond = 2 := by
 have h1 := firstN_all h.cd x hx
 unfold cond at h1
 rw [if_neg (by simpa using hc)] at h1
 exact (Tx.check_of h1).1
theorem unl_all {α : Type} {nm : α → Bs} {is : α → Bool} : ∀ {l pre : List α}, unl nm is pre l = true → ∀ x ∈ l, is x = true
 | [], _, _, x, hx => by cases hx
 | y :: l, pre, h, x, hx => by
  simp only [unl, Bool.and_eq_true] at h
  rcases List.mem_cons.1 hx with e | e
  ·subst e; exact h.1
  ·exact unl_all h.2.2 x e
theorem vars_may {l : List Var} (h : vars l = 0) {v : Var} (hv : v ∈ l) : Va.may ⟨v.k, v.n, ⟨v.t.toArray⟩⟩ = true := by
 unfold vars at h
 split at h
 ·exact absurd h (by decide)
 ·split at h
  ·rename_i h1
   have := unl_all h1 v hv
   unfold varOk at this
   simp only [Bool.and_eq_true] at this
   exact this.2.1
  ·exact absurd h (by decide)
theorem proc_vars {p : Pr} (h : proc p = 0) : vars p.vars = 0 := by
 unfold proc at h
 split at h
 ·exact absurd h (by decide)
 ·split at h
  ·exact absurd h (by decide)
  ·split at h
   ·contradiction
   ·rename_i h3; exact Decidable.not_not.1 h3
end Vd
end
section
/- What is left to show of functions, as the walk that the kernel computes finds it (written by wip/vc2.py). -/
namespace Go.Proofs.YtkpjmlnhhggenaaGreatDoor
open Go Go.RowKit Go.SF
set_option maxRecDepth 100000
@[reducible] def dd14_0_0 : Sy := (.agg [(.int .u8 (.iv 1)), (.int .u8 (.iv 2)), (.int .i64 (.iv 3)), (.str (.tv 2)), (.str (.tv 3)), (.slc 3 (.nv 6) (.nv 7))])
@[reducible] def dd14_0_1 : Blk := ⟨0, 31, [(.str (.tv 1)), (.slc 0 (.nv 0) (.nv 1)), (.slc 1 (.nv 2) (.nv 3)), (.slc 2 (.nv 4) (.nv 5))]⟩
@[reducible] def dd14_0_2 : Blk := ⟨0, 31, [(.str (.tv 0)), (.slc 1 (.nv 2) (.nv 3)), (.slc 2 (.nv 4) (.nv 5)), (.slc 3 (.nv 6) (.nv 7))]⟩
@[reducible] def dd14_0_3 : Sy := (.agg [(.str (.tv 0)), (.slc 1 (.nv 2) (.nv 3)), (.slc 2 (.nv 4) (.nv 5)), (.slc 3 (.nv 6) (.nv 7))])
@[reducible] def t_lof_1 : Tree := (.grow (.br (.un .not (.bin .ieq (.iv 6) (.il 0))) (.ret (.int .u8 (.il 0)) [] [] []) (.ret (.int .u8 (.iv 5)) [] [] [])))
@[reducible] def t_lof_2 : Tree := (.callq 24 [dd14_0_0, (.slc 4 (.nv 8) (.nv 9))] [] [] (.tup [(.int .u8 (.iv 5)), (.int .i64 (.iv 6))]) kk6 t_lof_1)
@[reducible] def t_lof_3 : Tree := (.grow (.call 18 [(.agg [(.str (.tv 1)), (.slc 0 (.nv 0) (.nv 1)), (.slc 1 (.nv 2) (.nv 3)), (.slc 2 (.nv 4) (.nv 5))]), (.int .i64 (.iv 0))] [] [] [] (.slc 4 (.nv 8) (.nv 9)) kk2 t_lof_2))
@[reducible] def t_lof_4 : Tree := (.new (.wr (.br (.un .not (.bin .ieq (.iv 4) (.il 0))) (.ret (.int .u8 (.il 0)) [] [] []) t_lof_3)))
@[reducible] def t_lof : Tree :=
(.call 23 [(.str (.tv 0))] [] [] [] (.tup [dd14_0_0, (.int .i64 (.iv 4))]) ⟨4, 2, 0, 2, 0, 1, 0, 0⟩ t_lof_4)
theorem x_lof : xfn Tryz.prog kc Tryz.f22 [(.str (.tv 0)), (.int .i64 (.iv 0)), (.ptr 0 0)] [] [dd14_0_1] ⟨1, 6, 0, 2, 0, 3, 1, 0⟩ = some t_lof := by kernel_rfl
theorem vc_lof (i0 : Int) (n0 n1 n2 n3 n4 n5 : Nat) (t0 t1 : ByteArray) (a0 a1 a2 : Option Addr) (m0 : Nat) (W : Wd) (R : Ending → World → Prop) (hm0 : W.w.heap[m0]? = some (.cells #[.string t1, .slice a0 n0 n1, .slice a1 n2 n3, .slice a2 n4 n5] 31)) (Im0 : W.I m0) (h : t_lof.den Tryz.prog W.w.heap.size R [] { I := [i0], N := [n0, n1, n2, n3, n4, n5], T := [t0, t1], A := [a0, a1, a2], M := [m0] } W) : CallsE Tryz.prog 22 #[.string t0, .int .i64 i0, .pointer (some ⟨m0, 0, none⟩)] W R :=
 fn_calls_ro Tryz.func22 _ _ [dd14_0_1] { I := [i0], N := [n0, n1, n2, n3, n4, n5], T := [t0, t1], A := [a0, a1, a2], M := [m0] } _ x_lof (fun v hv => by cases hv) (fun b hb => by simp only [List.mem_cons, List.not_mem_nil, or_false] at hb; rcases hb with rfl <;> (first | exact hm0)) (fun b hb => by simp only [List.mem_cons, List.not_mem_nil, or_false] at hb; rcases hb with rfl <;> (first | exact Im0)) h
@[reducible] def t_ltold_1 : Tree := (.call 14 [] [] [] [] (.bool (.bv 3)) kk1 (.ret (.bool (.bv 3)) [] [] []))
@[reducible] def t_ltold_2 : Tree := (.frz [⟨1, 25, [(.str (.tv 1)), (.int .u8 (.iv 2)), (.int .i64 (.iv 3)), (.int .i64 (.iv 4)), (.int .u8 (.iv 5)), (.str (.tv 2)), (.str (.tv 3)), (.str (.tv 4)), (.bool (.bv 3)), (.slc 4 (.nv 8) (.nv 9)), (.slc 5 (.nv 10) (.nv 11))]⟩] (.again 0 [(.int .i64 (.un (.wrap .i64) (.bin .add (.iv 1) (.il 1))))] []))
@[reducible] def t_ltold_3 : Tree := (.call 22 [(.str (.tv 3)), (.int .i64 (.iv 1)), (.ptr 0 0)] [dd14_0_2] [] [] (.int .u8 (.iv 6)) kk0 (.br (.un .not (.bin .ieq (.iv 6) (.il 1))) (.ret (.bool (.bl false)) [] [] []) t_ltold_2))
@[reducible] def t_ltold_4 : Tree := (.call 22 [(.str (.tv 3)), (.int .i64 (.iv 1)), (.ptr 0 0)] [dd14_0_2] [] [] (.int .u8 (.iv 6)) kk0 (.br (.un .not (.bin .ieq (.iv 6) (.il 2))) (.ret (.bool (.bl false)) [] [] []) t_ltold_2))
@[reducible] def t_ltold_5 : Tree := (.call 22 [(.str (.tv 4)), (.int .i64 (.iv 1)), (.ptr 0 0)] [dd14_0_2] [] [] (.int .u8 (.iv 7)) kk0 (.br (.un .not (.bin .ieq (.iv 6) (.iv 7))) (.ret (.bool (.bl false)) [] [] []) t_ltold_2))
@[reducible] def t_ltold_6 : Tree := (.call 22 [(.str (.tv 3)), (.int .i64 (.iv 1)), (.ptr 0 0)] [dd14_0_2] [] [] (.int .u8 (.iv 6)) kk0 (.br (.un .not (.bin .ieq (.iv 6) (.il 0))) t_ltold_5 (.ret (.bool (.bl false)) [] [] [])))
@[reducible] def t_ltold_7 : Tree := (.br (.bin .bor (.bin .ieq (.iv 5) (.il 3)) (.bin .ieq (.iv 2) (.il 12))) t_ltold_4 (.br (.bin .ieq (.iv 2) (.il 4)) t_ltold_6 t_ltold_2))
@[reducible] def t_ltold_8 : Tree := (.chk (.sm 2) (.chk (.bin .le (.il 0) (.iv 1)) (.look 25 (.elt 2 (.iv 1) 11 0) (.agg [(.str (.tv 1)), (.int .u8 (.iv 2)), (.int .i64 (.iv 3)), (.int .i64 (.iv 4)), (.int .u8 (.iv 5)), (.str (.tv 2)), (.str (.tv 3)), (.str (.tv 4)), (.bool (.bv 3)), (.slc 4 (.nv 8) (.nv 9)), (.slc 5 (.nv 10) (.nv 11))]) kk4 (.new (.wr (.br (.bin .ieq (.iv 5) (.il 2)) t_ltold_3 t_ltold_7))))))
@[reducible] def t_ltold_9 : Tree := (.grow (.br (.un .not (.bin .ieq (.iv 6) (.il 2))) (.ret (.bool (.bl false)) [] [] []) (.again 1 [(.int .i64 (.un (.wrap .i64) (.bin .add (.iv 2) (.il 1))))] [])))
@[reducible] def t_ltold_10 : Tree := (.callq 22 [(.str (.tv 3)), (.int .i64 (.iv 5)), (.ptr 0 0)] [dd14_0_2] [] (.int .u8 (.iv 6)) kk0 t_ltold_9)
@[reducible] def t_ltold_11 : Tree := (.look 9 (.elt 3 (.iv 2) 4 2) (.str (.tv 3)) kk5 (.look 3 (.elt 3 (.iv 2) 4 0) (.int .i64 (.iv 5)) kk0 t_ltold_10))
@[reducible] def t_ltold_12 : Tree := (.br (.un .not (.bin .teq (.tv 2) (.tl []))) t_ltold_11 (.grow (.again 1 [(.int .i64 (.un (.wrap .i64) (.bin .add (.iv 2) (.il 1))))] [])))
@[reducible] def t_ltold_13 : Tree := (.br (.un .not (.bv 4)) (.look 9 (.elt 3 (.iv 2) 4 2) (.str (.tv 2)) kk5 t_ltold_12) (.grow (.ret (.bool (.bl false)) [] [] [])))
@[reducible] def t_ltold_14 : Tree := (.callq 20 [dd14_0_3, (.agg [(.int .i64 (.iv 3)), (.int .i64 (.iv 4)), (.str (.tv 1)), (.bool (.bv 3))])] [] [] (.bool (.bv 4)) kk1 t_ltold_13)
@[reducible] def t_ltold_15 : Tree := (.chk (.sm 3) (.chk (.bin .le (.il 0) (.iv 2)) (.look 33 (.elt 3 (.iv 2) 4 0) (.agg [(.int .i64 (.iv 3)), (.int .i64 (.iv 4)), (.str (.tv 1)), (.bool (.bv 3))]) kk9 t_ltold_14)))
@[reducible] def t_ltold_16 : Tree := (.br (.un .not (.bv 3)) (.ret (.bool (.bl false)) [] [] []) (.again 2 [(.int .i64 (.un (.wrap .i64) (.bin .add (.iv 3) (.il 1))))] []))
@[reducible] def t_ltold_17 : Tree := (.call 25 [(.agg [(.int .u8 (.iv 4)), (.int .i64 (.iv 5)), (.str (.tv 1))])] [] [] [] (.bool (.bv 3)) kk1 t_ltold_16)
@[reducible] def t_ltold_18 : Tree := (.chk (.sm 1) (.chk (.bin .le (.il 0) (.iv 3)) (.look 39 (.elt 1 (.iv 3) 4 1) (.agg [(.int .u8 (.iv 4)), (.int .i64 (.iv 5)), (.str (.tv 1))]) ⟨2, 0, 0, 1, 0, 0, 0, 0⟩ t_ltold_17)))
@[reducible] def t_ltold_19 : Tree := (.loop [(.int .i64 (.il 0))] [] [(.int .i64 (.iv 3))] [] kk0 (.br (.bin .lt (.iv 3) (.nv 2)) t_ltold_18 (.ret (.bool (.bl true)) [] [] [])))
@[reducible] def t_ltold_20 : Tree := (.loop [(.int .i64 (.il 0))] [] [(.int .i64 (.iv 2))] [] kk0 (.br (.bin .lt (.iv 2) (.nv 6)) t_ltold_15 t_ltold_19))
@[reducible] def t_ltold_21 : Tree := (.loop [(.int .i64 (.il 0))] [] [(.int .i64 (.iv 1))] [] kk0 (.br (.bin .lt (.iv 1) (.nv 4)) t_ltold_8 t_ltold_20))
@[reducible] def t_ltold_22 : Tree := (.call 12 [(.slc 0 (.nv 0) (.nv 1)), dd14_0_3] [] [] [] (.int .i64 (.iv 0)) kk0 (.br (.un .not (.bin .ieq (.iv 0) (.il 0))) (.ret (.bool (.bl true)) [] [] []) t_ltold_21))
@[reducible] def t_ltold_23 : Tree := (.call 14 [] [] [] [] (.bool (.bv 2)) kk1 (.br (.un .not (.bv 2)) t_ltold_1 t_ltold_22))
@[reducible] def t_ltold_24 : Tree := (.call 14 [] [] [] [] (.bool (.bv 2)) kk1 (.ret (.bool (.bv 2)) [] [] []))
@[reducible] def t_ltold_25 : Tree := (.call 16 [dd14_0_3] [] [] [] (.bool (.bv 1)) kk1 (.br (.un .not (.bv 1)) t_ltold_23 t_ltold_24))
@[reducible] def t_ltold_26 : Tree := (.call 14 [] [] [] [] (.bool (.bv 1)) kk1 (.ret (.bool (.bv 1)) [] [] []))
@[reducible] def t_ltold : Tree :=
(.new (.call 15 [(.slc 0 (.nv 0) (.nv 1))] [] [] [] (.bool (.bv 0)) kk1 (.br (.un .not (.bv 0)) t_ltold_25 t_ltold_26)))
theorem x_ltold : xfn Tryz.prog { kc with loops := [⟨7, [.tm 6]⟩, ⟨21, [.tm 9]⟩, ⟨26, [.tm 10]⟩] } Tryz.f5 [(.slc 0 (.nv 0) (.nv 1)), dd14_0_3] [] [] ⟨0, 8, 0, 1, 0, 4, 0, 0⟩ = some t_ltold := by kernel_rfl
theorem vc_ltold (n0 n1 n2 n3 n4 n5 n6 n7 : Nat) (t0 : ByteArray) (a0 a1 a2 a3 : Option Addr) (W : Wd) (R : Ending → World → Prop) (h : t_ltold.den Tryz.prog W.w.heap.size R [] { N := [n0, n1, n2, n3, n4, n5, n6, n7], T := [t0], A := [a0, a1, a2, a3] } W) : CallsE Tryz.prog 5 #[.slice a0 n0 n1, .agg #[.string t0, .slice a1 n2 n3, .slice a2 n4 n5, .slice a3 n6 n7]] W R :=
 fn_calls Tryz.func5 _ _ { N := [n0, n1, n2, n3, n4, n5, n6, n7], T := [t0], A := [a0, a1, a2, a3] } _ x_ltold (fun v hv => by cases hv) h
end Go.Proofs.YtkpjmlnhhggenaaGreatDoor
end
section
/- The walk of ValidTold. -/
namespace Go.Proofs.YtkpjmlnhhggenaaGreatDoor
open Go Go.RowKit Go.SF
theorem i64_agg' : aggT Tryz.prog 3 = some false := by kernel_rfl
theorem val_aggT : aggT Tryz.prog 39 = some true := by kernel_rfl
theorem val_sizeT : sizeT Tryz.prog 39 = some 3 := by kernel_rfl
theorem sl_look_m {P : Program} {α : Type} {f : α → List Value} {sz : Nat} (hf : ∀ x, (f x).length = sz) (h0 : 0 < sz) {W : Wd} {a : Option Addr} {n c : Nat} {l : List α} (h : SlI W a n c sz (l.flatMap f)) {t : TypeId} {m : Nat} (hA : aggT P t = some true) (hS : sizeT P t = some m) {i k : Nat} {x : α} (hx : l[i]? = some x) {vs : List Value} (hl : vs.length = m) (hk : k + m ≤ sz) (hu : ((f x).drop k).take m = vs)
  {W' : Wd} (hW : Ext W W') : (Instr.loadAt t (.pointer (some ((a.getD default).add (i * sz + k))))).run P W'.w = .ok (.agg vs.toArray) W'.w := by
 obtain ⟨h1, h2, h3⟩ := h.ext hW
 have hll := flat_len hf l
 rcases h3 with ⟨_, rfl, rfl⟩ | ⟨b, o, rfl, hI, hb, hc⟩
 ·exfalso
  have hi := (List.getElem?_eq_some_iff.1 hx).1
  rw [hll] at h1
  have := Nat.eq_of_mul_eq_mul_right h0 h1
  omega
 ·refine look_agg hA hS hl fun j u hj => ?_
  have hjm : j < m := by rw [← hl]; exact (List.getElem?_eq_some_iff.1 hj).1
  have hu2 : (f x)[k + j]? = some u := by
   rw [← hu, List.getElem?_take, if_pos hjm, List.getElem?_drop] at hj
   exact hj
  have := hc (i * sz + (k + j)) u (by rw [flat_get hf (k + j) hx (by omega)]; exact hu2)
  simp only [Option.getD_some]
  rw [add_none, add_none, show o + (i * sz + k) + j = o + (i * sz + (k + j)) from by omega]
  exact this
theorem of_q (p : PV) (s : Md.Bs) (n : Int) (m : Nat) (W : Wd) (hm : W.w.heap[m]? = some (.cells (prC p).toArray 31)) (hp : FitP p W) (hsl : (Vd.seen p.pr n).length ≤ 1000000) (hG : Glob W) (hT : GlobT W) :
  CallsQ Tryz.prog 22 #[.string ⟨s.toArray⟩, .int .i64 n, .pointer (some ⟨m, 0, none⟩)] W (.int .u8 (Tx.ofS (Vd.seen p.pr n) s)) := by
 refine vc_lof n p.vars.length p.vc p.nodes.length p.nc p.flows.length p.fc ⟨s.toArray⟩ ⟨p.nm.toArray⟩ p.va p.na p.fa m W.all _ hm (Array.getElem?_eq_some_iff.1 hm).1 ?_
 have hq := fun V h => parse_i' ⟨s.toArray⟩ V h
 simp only [show (⟨s.toArray⟩ : ByteArray).data.toList = s from by simp] at hq
 have ht := parse_thinT s
 refine den_call_i (fun _ _ => hq W.all (hG.ext W.all_ext)) fun v w' _ ⟨op', k', n', t', nm', al', len', cl', hv, hX⟩ => ⟨op', k', n', (Px.parse s).2, len', cl', t', nm', al', hv, fun W2 e2 y2 n2 => ?_⟩
 have hX2 := ExAt.i hX e2 n2
 simp only [zP]
 refine den_new fun m1 W3 _ x3 => den_wr fun W4 x4 => den_br (fun c => den_ret fun _ _ _ => ⟨_, rfl, ?_⟩) fun c => ?_
 ·have c : ¬ (Px.parse s).2 = 0 := by simpa [Sy.dens, Sy.den, E.i, E.b, E.t, gd, Env.push, z_a, z_b, z_c, z_d] using c
  rw [Tx.ofS, if_neg c]; rfl
 ·have c : (Px.parse s).2 = 0 := by simpa [Sy.dens, Sy.den, E.i, E.b, E.t, gd, Env.push, z_a, z_b, z_c, z_d] using c
  have y4 := ext_trans x3 x4
  have z4 := ext_trans W.all_ext (ext_trans y2 y4)
  refine den_grow fun W5 x5 => den_call_i (fun _ _ => seen_i p n W5 (hp.ext (ext_trans z4 x5))) fun u w' _ ⟨a6, c6, hu, hsa⟩ => ⟨_, c6, a6, hu, fun W6 e6 x6 n6 => ?_⟩
  have hss := hsa.stay e6 n6
  simp only [zP]
  have z6 := ext_trans (ext_trans z4 x5) x6
  refine den_callq ⟨(Tx.type (Vd.seen p.pr n) (Px.parse s).1).1, (Tx.type (Vd.seen p.pr n) (Px.parse s).1).2, ⟨fun W7 x7 _ _ => tType_q (Px.parse s).1 _ (Vd.seen p.pr n) a6 _ W7 ht.1 hsl (hX2.ext (ext_trans y4 (ext_trans x5 (ext_trans x6 x7)))) (hss.ext x7) (hT.ext (ext_trans z6 x7)), ?_⟩⟩
  simp only [zP]
  refine den_grow fun W8 x8 => den_br (fun c2 => den_ret fun _ _ _ => ⟨_, rfl, ?_⟩) fun c2 => den_ret fun _ _ _ => ⟨_, rfl, ?_⟩
  ·have c2 : ¬ (Tx.type (Vd.seen p.pr n) (Px.parse s).1).2 = 0 := by simpa [Sy.dens, Sy.den, E.i, E.b, E.t, gd, Env.push, z_a, z_b, z_c, z_d] using c2
   rw [Tx.ofS, if_pos c, if_neg c2]; rfl
  ·have c2 : (Tx.type (Vd.seen p.pr n) (Px.parse s).1).2 = 0 := by simpa [Sy.dens, Sy.den, E.i, E.b, E.t, gd, Env.push, z_a, z_b, z_c, z_d] using c2
   rw [Tx.ofS, if_pos c, if_pos c2]; rfl
set_option maxRecDepth 100000 in
set_option maxHeartbeats 1000000 in
theorem told_q (defs : List PV) (da : Option Addr) (dc : Nat) (p : PV) (W : Wd) (hD : SlI W da defs.length dc 4 (defs.flatMap prC)) (hF : ∀ q ∈ defs, RawP q W) (hp : RawP p W) (hG : Glob W) (hT : GlobT W) (hM : GlobM W) :
  CallsQ Tryz.prog 5 #[.slice da defs.length dc, .agg (prC p).toArray] W (.bool true) := by
 have hD := hD.ext W.all_ext
 have hF : ∀ q ∈ defs, RawP q W.all := fun q hq => (hF q hq).ext W.all_ext
 have hp := hp.ext W.all_ext
 have hG := hG.ext W.all_ext
 have hT := hT.ext W.all_ext
 have hM := hM.ext W.all_ext
 refine vc_ltold defs.length dc p.vars.length p.vc p.nodes.length p.nc p.flows.length p.fc ⟨p.nm.toArray⟩ da p.va p.na p.fa W.all _ ?_
 refine den_new fun m W1 _ x1 => den_call_i (fun _ _ => many_i defs da dc W1 (hD.ext x1) fun q hq => (hF q hq).ext x1) fun v w' _ ⟨b, hv, hb⟩ => ⟨b, hv, fun W2 _ x2 _ => ?_⟩
 have y2 := ext_trans x1 x2
 simp only [zP]
 refine den_br (fun c1 => ?_) fun c1 => den_call_q (fun _ _ => awake_q W2 (hG.ext y2) (hT.ext y2) (hM.ext y2)) ⟨true, rfl, fun W3 _ => den_ret fun _ _ _ => ⟨_, rfl, rfl⟩⟩
 have c1 : b = false := by simpa [Sy.dens, Sy.den, E.i, E.b, E.t, gd, Env.push, z_a, z_b, z_c, z_d] using c1
 refine den_call_i (fun _ _ => large_i p W2 (hp.ext y2)) fun v w' _ ⟨b1, hv, hb1⟩ => ⟨b1, hv, fun W3 _ x3 _ => ?_⟩
 have y3 := ext_trans y2 x3
 simp only [zP]
 refine den_br (fun c2 => ?_) fun c2 => den_call_q (fun _ _ => awake_q W3 (hG.ext y3) (hT.ext y3) (hM.ext y3)) ⟨true, rfl, fun W4 _ => den_ret fun _ _ _ => ⟨_, rfl, rfl⟩⟩
 have c2 : b1 = false := by simpa [Sy.dens, Sy.den, E.i, E.b, E.t, gd, Env.push, z_a, z_b, z_c, z_d] using c2
 refine den_call_q (fun _ _ => awake_q W3 (hG.ext y3) (hT.ext y3) (hM.ext y3)) ⟨true, rfl, fun W4 x4 => den_br_f rfl ?_⟩
 have y4 := ext_trans y3 x4
 simp only [zP]
 have hf := fit_small hp (hb1 c2)
 have hS := hb1 c2
 have hfd : ∀ q ∈ defs, FitP q W.all := fun q hq => fit_small (hF q hq) ((hb c1).2 q hq)
 have hdl := (hb c1).1
 refine den_call_q (fun _ _ => vcheck_q defs da dc p W4 (by omega) (hD.ext y4) (fun q hq => (hfd q hq).ext y4) (hf.ext y4) (hG.ext y4) (hT.ext y4) (hM.ext y4)) ⟨Vd.check (defs.map PV.pr) p.pr, rfl, fun W5 x5 => ?_⟩
 have y5 := ext_trans y4 x5
 simp only [zP]
 refine den_br (fun _ => den_ret fun _ _ _ => ⟨_, rfl, rfl⟩) fun c3 => ?_
 have hC : Vd.check (defs.map PV.pr) p.pr = 0 := by simpa [Sy.dens, Sy.den, E.i, E.b, E.t, gd, Env.push, z_a, z_b, z_c, z_d] using c3
 obtain ⟨fr, tt, hA⟩ := Vd.all_of hC
 have hln := hS.n
 have hlf := hS.f
 have hlv := hS.v
 have hsl : ∀ n : Int, (Vd.seen p.pr n).length ≤ 1000000 := fun n => Vd.seen_len (Vd.fine_of hA.pr) n
 refine den_loop (fun j vs ls _ => ∃ i : Nat, vs = [.int .i64 (i : Nat)] ∧ ls = [] ∧ i ≤ p.nodes.length ∧ j = p.nodes.length - i) p.nodes.length ⟨0, by simp [Sy.dens, Sy.den, E.i, E.b, E.t, gd, Env.push, z_a, z_b, z_c, z_d], rfl, Nat.zero_le _, rfl⟩ ?_
 rintro j vs ls V2 x6 ⟨i, rfl, rfl, hi, rfl⟩
 have y3 := ext_trans y5 x6
 clear y5 y4 y2 x1 x2 x3 x4 x5 x6
 refine ⟨(i : Int), rfl, rfl, fun _ => den_br (fun c2 => ?_) fun c2 => ?_⟩
 ·simp only [zE, ltB_true] at c2
  have hil : i < p.nodes.length := by omega
  have hx : p.nodes[i]? = some p.nodes[i] := List.getElem?_eq_getElem hil
  generalize p.nodes[i] = v at hx
  have hxp : p.pr.nodes[i]? = some v.n := by unfold PV.pr; simp only [List.getElem?_map, hx, Option.map_some]
  obtain ⟨w1, w2, w3⟩ := Vd.told_node hA hxp
  refine den_chk ?_ (den_chk ?_ (den_look ⟨v.n.kd, v.n.inn, v.n.on, v.n.ev, v.n.vars.length, v.vc, v.n.back.length, v.bc, v.n.brk, ⟨v.n.nm.toArray⟩, ⟨v.n.key.toArray⟩, ⟨v.n.txt.toArray⟩, ⟨v.n.set.toArray⟩, v.va, v.ba, fun W5 x5 => ?_, ?_⟩))
  ·simp only [E.b, gd, Env.push]; exact SlI.some_of hp.ns (by omega)
  ·simp only [zE]; exact leB_t (by omega)
  ·have := sl_look (P := Tryz.prog) ndC_len (by decide) hp.ns nd_aggT nd_sizeT hx (ext_trans y3 x5)
   simp only [zE, Nat.add_zero] at this ⊢
   exact this
  simp only [zP]
  refine den_new fun m1 W3 _ x3 => den_wr fun W4 x4 => ?_
  have y4 := ext_trans y3 (ext_trans x3 x4)
  simp only [zP]
  refine den_br (fun c3 => ?_) fun c3 => den_br (fun c4 => ?_) fun c4 => den_br (fun c5 => ?_) fun c5 => ?_
  ·have c3 : v.n.ev = 2 := by simpa [Sy.dens, Sy.den, E.i, E.b, E.t, gd, Env.push, z_a, z_b, z_c, z_d] using c3
   refine den_call_q (fun hb _ => of_q p v.n.txt (i : Int) m W4 (hb _ (List.mem_cons_self ..)) (hf.ext y4) (hsl _) (hG.ext y4) (hT.ext y4)) ⟨1, by rw [w1 c3]; rfl, fun W5 x5 => den_br_f rfl (den_frz fun V4 _ z4 _ _ => den_again ⟨p.nodes.length - (i + 1), by omega, i + 1, ?_, rfl, by omega, rfl⟩)⟩
   simp only [zE]; rw [w64i (by omega) (by omega)]; rfl
  ·have c3 : ¬ v.n.ev = 2 := by simpa [Sy.dens, Sy.den, E.i, E.b, E.t, gd, Env.push, z_a, z_b, z_c, z_d] using c3
   have c4 : v.n.ev = 3 ∨ v.n.kd = 12 := by simpa [Sy.dens, Sy.den, E.i, E.b, E.t, gd, Env.push, z_a, z_b, z_c, z_d] using c4
   refine den_call_q (fun hb _ => of_q p v.n.txt (i : Int) m W4 (hb _ (List.mem_cons_self ..)) (hf.ext y4) (hsl _) (hG.ext y4) (hT.ext y4)) ⟨2, by rw [w2 c3 c4]; rfl, fun W5 x5 => den_br_f rfl (den_frz fun V4 _ z4 _ _ => den_again ⟨p.nodes.length - (i + 1), by omega, i + 1, ?_, rfl, by omega, rfl⟩)⟩
   simp only [zE]; rw [w64i (by omega) (by omega)]; rfl
  ·have c3 : ¬ v.n.ev = 2 := by simpa [Sy.dens, Sy.den, E.i, E.b, E.t, gd, Env.push, z_a, z_b, z_c, z_d] using c3
   have c4 : ¬ (v.n.ev = 3 ∨ v.n.kd = 12) := by simpa [Sy.dens, Sy.den, E.i, E.b, E.t, gd, Env.push, z_a, z_b, z_c, z_d] using c4
   have c5 : v.n.kd = 4 := by simpa [Sy.dens, Sy.den, E.i, E.b, E.t, gd, Env.push, z_a, z_b, z_c, z_d] using c5
   obtain ⟨q1, q2⟩ := w3 c3 c4 c5
   refine den_call_q (fun hb _ => of_q p v.n.txt (i : Int) m W4 (hb _ (List.mem_cons_self ..)) (hf.ext y4) (hsl _) (hG.ext y4) (hT.ext y4)) ⟨Tx.ofS (Vd.seen p.pr (i : Int)) v.n.txt, rfl, fun W5 x5 => den_br_t (by simp only [zE, Bool.not_eq_true', beq_eq_false_iff_ne]; exact q1) ?_⟩
   have y5 := ext_trans y4 x5
   simp only [zP]
   refine den_call_q (fun hb _ => of_q p v.n.set (i : Int) m W5 (hb _ (List.mem_cons_self ..)) (hf.ext y5) (hsl _) (hG.ext y5) (hT.ext y5)) ⟨Tx.ofS (Vd.seen p.pr (i : Int)) v.n.txt, by rw [q2]; rfl, fun W6 x6 => den_br_f (by simp [Sy.dens, Sy.den, E.i, E.b, E.t, gd, Env.push, z_a, z_b, z_c, z_d]) (den_frz fun V4 _ z4 _ _ => den_again ⟨p.nodes.length - (i + 1), by omega, i + 1, ?_, rfl, by omega, rfl⟩)⟩
   simp only [zE]; rw [w64i (by omega) (by omega)]; rfl
  ·refine den_frz fun V4 _ z4 _ _ => den_again ⟨p.nodes.length - (i + 1), by omega, i + 1, ?_, rfl, by omega, rfl⟩
   simp only [zE]; rw [w64i (by omega) (by omega)]; rfl
 ·refine den_loop (fun j vs ls _ => ∃ i : Nat, vs = [.int .i64 (i : Nat)] ∧ ls = [] ∧ i ≤ p.flows.length ∧ j = p.flows.length - i) p.flows.length ⟨0, by simp [Sy.dens, Sy.den, E.i, E.b, E.t, gd, Env.push, z_a, z_b, z_c, z_d], rfl, Nat.zero_le _, rfl⟩ ?_
  rintro j vs ls V3 x7 ⟨k, rfl, rfl, hk, rfl⟩
  have y4 := ext_trans y3 x7
  refine ⟨(k : Int), rfl, rfl, fun _ => den_br (fun d3 => ?_) fun d3 => ?_⟩
  ·simp only [zE, ltB_true] at d3
   have hkl : k < p.flows.length := by omega
   have hx : p.flows[k]? = some p.flows[k] := List.getElem?_eq_getElem hkl
   have hmem : p.flows[k] ∈ p.pr.flows := List.getElem_mem hkl
   generalize p.flows[k] = f at hx hmem
   obtain ⟨⟨f1, f2⟩, ⟨f3, f4⟩, f5⟩ := Vd.whole_flow hA hmem
   have hto := Vd.told_flow hA hmem
   rw [pr_len] at f2 f4
   refine den_chk ?_ (den_chk ?_ (den_look ⟨f.frm, f.to, f.els, ⟨f.cond.toArray⟩, fun W6 x6 => ?_, ?_⟩))
   ·simp only [E.b, gd, Env.push]; exact SlI.some_of hp.fs (by omega)
   ·simp only [zE]; exact leB_t (by omega)
   ·have := sl_look (P := Tryz.prog) flC_len (by decide) hp.fs fl_aggT fl_sizeT hx (ext_trans y4 x6)
    simp only [zE, Nat.add_zero] at this ⊢
    exact this
   simp only [zP]
   have ho : outB p.nodes.length f = false := by
    unfold outB
    rw [decide_eq_false (by omega), decide_eq_false (by omega), decide_eq_false (by omega), decide_eq_false (by omega)]; rfl
   refine den_callq ⟨false, ⟨fun U1 u1 _ _ => by rw [← ho]; exact out_q p f U1, ?_⟩⟩
   simp only [zP]
   refine den_br_t rfl (den_look ⟨⟨f.cond.toArray⟩, fun W6 x6 => ?_, ?_⟩)
   ·have := sl_look_f (P := Tryz.prog) flC_len hp.fs str_aggT (k := 2) hx (by decide) (u := strB f.cond) rfl (ext_trans y4 x6)
    simp only [zE] at this ⊢
    exact this
   simp only [zP]
   refine den_br (fun d4 => ?_) fun d4 => den_grow fun W6 x6 => den_again ⟨p.flows.length - (k + 1), by omega, k + 1, ?_, rfl, by omega, rfl⟩
   ·have d4 : (!(f.cond == [])) = true := d4
    have d4 : ¬ f.cond = [] := by simpa using d4
    refine den_look ⟨⟨f.cond.toArray⟩, fun W6 x6 => ?_, ?_⟩
    ·have := sl_look_f (P := Tryz.prog) flC_len hp.fs str_aggT (k := 2) hx (by decide) (u := strB f.cond) rfl (ext_trans y4 x6)
     simp only [zE] at this ⊢
     exact this
    simp only [zP]
    refine den_look ⟨f.frm, fun W6 x6 => ?_, ?_⟩
    ·have := sl_look_f (P := Tryz.prog) flC_len hp.fs i64_agg' (k := 0) hx (by decide) (u := .int .i64 f.frm) rfl (ext_trans y4 x6)
     simp only [zE] at this ⊢
     exact this
    simp only [zP]
    refine den_callq ⟨2, ⟨fun U1 u1 hb _ => ?_, ?_⟩⟩
    ·have y6 := ext_trans y4 u1
     have := of_q p f.cond f.frm m U1 (hb _ (List.mem_cons_self ..)) (hf.ext y6) (hsl _) (hG.ext y6) (hT.ext y6)
     rw [hto d4] at this
     exact this
    simp only [zP]
    refine den_grow fun W6 x6 => den_br_f rfl (den_again ⟨p.flows.length - (k + 1), by omega, k + 1, ?_, rfl, by omega, rfl⟩)
    simp only [zE]; rw [w64i (by omega) (by omega)]; rfl
   ·simp only [zE]; rw [w64i (by omega) (by omega)]; rfl
  ·refine den_loop (fun j vs ls _ => ∃ i : Nat, vs = [.int .i64 (i : Nat)] ∧ ls = [] ∧ i ≤ p.vars.length ∧ j = p.vars.length - i) p.vars.length ⟨0, by simp [Sy.dens, Sy.den, E.i, E.b, E.t, gd, Env.push, z_a, z_b, z_c, z_d], rfl, Nat.zero_le _, rfl⟩ ?_
   rintro j vs ls V4 x8 ⟨q, rfl, rfl, hq, rfl⟩
   have y5 := ext_trans y4 x8
   refine ⟨(q : Int), rfl, rfl, fun _ => den_br (fun d4 => ?_) fun d4 => den_ret fun _ _ _ => ⟨_, rfl, rfl⟩⟩
   simp only [zE, ltB_true] at d4
   have hql : q < p.vars.length := by omega
   have hx : p.vars[q]? = some p.vars[q] := List.getElem?_eq_getElem hql
   have hfv := hp.fv _ (List.getElem_mem hql)
   have hmay := Vd.vars_may (Vd.proc_vars hA.pr) (show p.vars[q] ∈ p.pr.vars from List.getElem_mem hql)
   generalize p.vars[q] = x at hx hfv hmay
   refine den_chk ?_ (den_chk ?_ (den_look ⟨x.k, x.n, ⟨x.t.toArray⟩, fun W6 x6 => ?_, ?_⟩))
   ·simp only [E.b, gd, Env.push]; exact SlI.some_of hp.vs (by omega)
   ·simp only [zE]; exact leB_t (by omega)
   ·have := sl_look_m (P := Tryz.prog) varC_len (by decide) hp.vs val_aggT val_sizeT (k := 1) (m := 3) hx (vs := [.int .u8 x.k, .int .i64 x.n, .string ⟨x.t.toArray⟩]) rfl (by decide) rfl (ext_trans y5 x6)
    simp only [zE] at this ⊢
    exact this
   simp only [zP]
   have hmq := Vs.may_q x.k x.n ⟨x.t.toArray⟩ (by have h := hfv; unfold fitV at h; simpa [ByteArray.size] using h) V4
   rw [hmay] at hmq
   refine den_call_q (fun _ _ => hmq) ⟨true, rfl, fun W6 x6 => den_br_f rfl (den_again ⟨p.vars.length - (q + 1), by omega, q + 1, ?_, rfl, by omega, rfl⟩)⟩
   simp only [zE]; rw [w64i (by omega) (by omega)]; rfl
end Go.Proofs.YtkpjmlnhhggenaaGreatDoor
end
section
/- ValidTold's walk, joined with what is handed in. -/
namespace Go.Proofs.YtkpjmlnhhggenaaGreatDoor
open Go Go.RowKit Go.SF Go.Own
theorem validTold_walk (a : Option Addr) (c : Nat) (l : List PV) (p : PV) (W : World) (hd : SlI (Wd.of W).all a l.length c 4 (l.flatMap prC) ∧ ∀ q ∈ l, RawP q (Wd.of W).all) (hp : RawP p (Wd.of W).all) (hL : laidMetH Tryz.prog validLaid W) (sh : W.ShapedOpen Tryz.prog) :
  Calls Tryz.prog 5 #[.slice a l.length c, .agg (prC p).toArray] W fun e w' => e = .returned (.bool true) ∧ Up W w' :=
 (told_q l a c p (Wd.of W).all hd.1 hd.2 hp (glob_of hL sh) (globT_of hL) (globM_of hL)).out
end Go.Proofs.YtkpjmlnhhggenaaGreatDoor
end
section
/- The statement ValidTold of callboardlaw16: for every input the law returns true, and each argument reads afterwards as it read before. No condition. -/
namespace Go.Proofs.YtkpjmlnhhggenaaGreatDoor.validTold
open Go.ChangeShapes Go.WideShapes Go.ChangeAt Go.RowKit Go.Own
open Go.ChangeMaps (open_string shut_string)
theorem own : ownKnob Tryz.prog.godebug = none := by kernel_rfl
theorem laidOut : laidOutB Tryz.prog = true := by kernel_rfl
noncomputable abbrev start (os : Os) : World := World.laidAll Tryz.prog os Rows.validToldRow.laid
theorem laid_met (os : Os) : laidMetH Tryz.prog Rows.validToldRow.laid ((start os).forCall (fun _ _ => 0) ⟨#[], #[.slice none 0 0, .agg #[.string ByteArray.empty, .slice none 0 0, .slice none 0 0, .slice none 0 0]], []⟩).memory := by rw [MakeChecks.laidMetH_plain _ _ _ (by kernel_rfl)]; exact laidMet_laidAll _ (by kernel_rfl) (by kernel_rfl)
theorem reads (os : Os) {H : Type} (enc : TypeId × Value → H) : ∃ places, DataW.whole enc Tryz.prog ((start os).forCall (fun _ _ => 0) ⟨#[], #[.slice none 0 0, .agg #[.string ByteArray.empty, .slice none 0 0, .slice none 0 0, .slice none 0 0]], []⟩).memory Tryz.f5.params.toList Rows.validToldSpec.vars false (#[.slice none 0 0, .agg #[.string ByteArray.empty, .slice none 0 0, .slice none 0 0, .slice none 0 0]] : Array Value).toList 8 = some ([.nil, .agg [.lit (.string []), .nil, .nil, .nil]], [], places) := ⟨[], by kernel_rfl⟩
set_option maxRecDepth 100000 in
theorem lifted (os : Os) (started : os.Started) (H : Type) (enc : TypeId × Value → H) (F : Stop.Interp) :
  ReturnsInHanded {} Tryz.checked os 5 .any ((OpenSpec.ofChange Rows.validToldSpec).preRow enc Tryz.prog Tryz.f5 Rows.validToldRow.domain false Rows.validToldRow.laid) (((OpenSpec.ofChange Rows.validToldSpec).at F).post enc Tryz.prog Tryz.f5 false true false false) := by
 obtain ⟨places, hx⟩ := reads os enc
 refine returnsInHanded_of_row (C := Tryz.checked) (s := OpenSpec.ofChange Rows.validToldSpec) own started (by kernel_rfl) Tryz.func5
  (witness_row_atRef (enc := enc) (C := Tryz.checked) false (start os) #[.slice none 0 0, .agg #[.string ByteArray.empty, .slice none 0 0, .slice none 0 0, .slice none 0 0]] (World.laidAll_os _ _ _) (by kernel_rfl) (by kernel_rfl) (by kernel_rfl)
   (OpenSpec.preRow_of_cond 8 hx (by kernel_rfl) (fun k hk => by cases hk) (by kernel_rfl) (laid_met os))) ?_
 intro W base args ds gs before hval0 hW hcnd _ hsz0 hL hSh _
 have hval : ∀ (j : Nat) t v, Tryz.f5.params[j]? = some t → args[j]? = some v → Value.okWide Tryz.prog W .any base t v := hval0
 have hW' := hW
 obtain ⟨p, q, hA0, hV, rfl, hfz, hnd⟩ := hW
 have hA : DataW.TrodAll enc Tryz.prog W 0 (fun _ => true) true Tryz.f5.params.toList args.toList ds p := hA0
 have hsz : (DataW.weightsEach Tryz.prog (Tryz.f5.params.toList ++ Rows.validToldSpec.plain.varTypes Tryz.prog) (ds ++ gs)).all (· ≤ reachBytes) = true := hsz0
 rw [Tryz.params5] at hA hval hsz
 obtain ⟨v0, vs0, d0, ds0, p0, q0, hargs, rfl, rfl, h0, r0⟩ := trodAll_cons hA
 obtain ⟨v1, vs1, d1, ds1, p1, q1, rfl, rfl, rfl, h1, r1⟩ := trodAll_cons r0
 obtain ⟨rfl, rfl, rfl⟩ := trodAll_nil r1
 obtain rfl : args = #[v0, v1] := by cases args; simp_all
 obtain ⟨rfl, rfl⟩ := trodVars_none hV
 have q0' := h0
 have lt0 : ∀ x ∈ p0, x.block < W.heap.size := by obtain ⟨m, hm⟩ := q0'; exact DataW.trod_lt m _ _ _ hm
 obtain ⟨a0, c0, l0, rfl, s0⟩ := procs_arg (hval 0 44 v0 rfl rfl) h0
 have q1' := h1
 have lt1 : ∀ x ∈ p1, x.block < W.heap.size := by obtain ⟨m, hm⟩ := q1'; exact DataW.trod_lt m _ _ _ hm
 obtain ⟨y1, rfl, f1⟩ := proc_arg (hval 1 31 v1 rfl rfl) h1
 clear hA0 hval0 hsz0
 refine (validTold_walk a0 c0 l0 y1 W s0 f1 hL hSh).mono fun e W' ⟨he, bel⟩ => ?_
 subst he
 exact ⟨_, rfl, _, _, _, [], _, [], hW', trodAll_mk1 (shut_bool Tryz.underlying4 _), (trodAll_cons_mk (Below.trod laidOut (by kernel_rfl) (of_decide_eq_true (by kernel_rfl)) q0' bel lt0) (trodAll_cons_mk (Below.trod laidOut (by kernel_rfl) (of_decide_eq_true (by kernel_rfl)) q1' bel lt1) trodAll_mk0)), rfl, bel.out.frame _, fun h => by cases h⟩
theorem said : Rows.ValidToldSaid :=
 OpenClaim.holds_of_cond 5 Tryz.f5 rfl rfl rfl rfl rfl rfl rfl ⟨rfl, rfl, rfl, rfl, rfl⟩ rfl rfl rfl rfl rfl (by kernel_rfl) Tryz.func5 (by kernel_rfl)
  (of_decide_eq_true (by kernel_rfl)) (by unfold Func.isWrapper; first | (rw [if_pos (by decide +kernel)]; kernel_rfl) | (rw [if_neg (by decide +kernel)]; exact ⟨rfl, rfl⟩))
  (fun os started H enc _ F => by rw [OpenClaim.pre_eq_preRow]; exact lifted os started H enc F)
theorem plain (f : FuncId) (fn : Func) (hf : Tryz.pinned.checked.prog.funcNamed "callboard/callboardlaw16.ValidTold" = some f) (hfn : Tryz.pinned.checked.prog.funcs[f]? = some fn) :
  true = Tryz.pinned.checked.prog.looks [] ∧ ∀ (j : Nat) t, fn.params[j]? = some t → Tryz.pinned.checked.prog.wantsStandIn t = false := by
 obtain rfl : f = 5 := Option.some.inj ((show Tryz.prog.funcNamed "callboard/callboardlaw16.ValidTold" = some 5 by kernel_rfl).symm.trans hf) |>.symm
 obtain rfl : fn = Tryz.f5 := (Option.some.inj (Tryz.func5.symm.trans hfn)).symm
 refine ⟨by kernel_rfl, fun j t ht => ?_⟩
 rw [Tryz.params5] at ht
 have hm : t ∈ ([44, 31] : List TypeId) := by simpa using Array.mem_of_getElem? ht
 have hall : (([44, 31] : List TypeId).all fun u => !Tryz.prog.wantsStandIn u) = true := by kernel_rfl
 exact (show Tryz.prog.wantsStandIn t = false by simpa using List.all_eq_true.1 hall t hm)
theorem proved : Rows.ValidToldCardSaid :=
 Claim7.holds_tied_plain_at .later [] _ _ _ _ said (fun _ h => by cases h) (by kernel_rfl) (fun _ h => by cases h) validTold_row_tie rfl ⟨rfl, rfl⟩ (by kernel_rfl) rfl plain (by kernel_rfl)
#print axioms proved
end Go.Proofs.YtkpjmlnhhggenaaGreatDoor.validTold
end
