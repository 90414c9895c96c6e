/- parse.Names: the walk (written by wip/gen_pxnames.py). -/
import Derived.Test.YtckgdgkkmhochaaGreatDoorPxTree
import Derived.Test.YtckgdgkkmhochaaGreatDoorSlSorted
import Derived.Test.YtckgdgkkmhochaaGreatDoorVcNames
namespace Px
open Go
mutual
/-- how many trees are in a tree -/
def nodes : Ex → Nat
  | .mk _ _ _ _ _ l => nodess l + 1
def nodess : List Ex → Nat
  | [] => 0
  | e :: l => nodes e + nodess l
end
mutual
theorem names_nodes : ∀ e : Ex, (names e).length ≤ nodes e
  | .mk o k n t nm l => by
    have h1 : (names (.mk o k n t nm l)).length ≤ (if o = 2 then 1 else 0) + (namess l).length := names_len (.mk o k n t nm l)
    have h2 := namess_nodes l
    simp only [nodes]
    by_cases h : o = 2
    · rw [if_pos h] at h1; omega
    · rw [if_neg h] at h1; omega
theorem namess_nodes : ∀ l : List Ex, (namess l).length ≤ nodess l
  | [] => by simp [namess, nodess]
  | e :: l => by
    have h1 := names_nodes e
    have h2 := namess_nodes l
    simp only [namess, nodess, List.length_append]
    omega
end
theorem len_nodes (l : List Ex) : l.length ≤ nodess l := by
  induction l with
  | nil => simp
  | cons a l ih =>
    have : 1 ≤ nodes a := by cases a; simp [nodes]
    simp only [nodess, List.length_cons]; omega
theorem namess_take (l : List Ex) (i : Nat) : nodess (l.take i) ≤ nodess l := by
  induction l generalizing i with
  | nil => simp
  | cons a l ih =>
    cases i with
    | zero => simp [nodess]
    | succ i => have := ih i; simp only [List.take_succ_cons, nodess]; omega
theorem nodes_mem {l : List Ex} {e : Ex} (h : e ∈ l) : nodes e ≤ nodess l := by
  induction l with
  | nil => cases h
  | cons a l ih =>
    simp only [nodess]
    rcases List.mem_cons.1 h with rfl | h
    · omega
    · have := ih h; omega
theorem namess_app (l m : List Ex) : namess (l ++ m) = namess l ++ namess m := by
  induction l with
  | nil => rfl
  | cons a l ih => simp only [List.cons_append, namess, ih, List.append_assoc]
theorem namess_snoc {l : List Ex} {i : Nat} (h : i < l.length) : namess (l.take i) ++ names l[i] = namess (l.take (i + 1)) := by
  rw [List.take_succ_eq_append_getElem h, namess_app]; simp [namess]
end Px
namespace Go.Proofs.YtckgdgkkmhochaaGreatDoor
open Go Go.RowKit Go.SF
set_option linter.unusedSimpArgs false
set_option linter.unusedVariables false
theorem row_slice {w : World} {n0 : Nat} {e : TypeId} {v : Value} {n : Nat} {xs : List Value} (h : w.ownsRow n0 e 1 v n xs) : ∃ a c, v = .slice a n c := by
  rcases h.2 with ⟨rfl, rfl⟩ | ⟨g, cap, cur, rfl, _⟩
  · exact ⟨none, 0, rfl⟩
  · exact ⟨_, cap, rfl⟩
theorem strs_row {w : World} {n0 : Nat} {e : TypeId} {v : Value} {zs : List Lx.Bs} (h : w.ownsRow n0 e 1 v zs.length (zs.map strB)) : StrsB w.heap.size w v zs := by
  rcases h.2 with ⟨rfl, h0⟩ | ⟨g, cap, cur, rfl, _, hg, r1, r2, r3, r4⟩
  · exact .inl ⟨rfl, List.eq_nil_of_length_eq_zero h0⟩
  · refine .inr ⟨g, 0, cap, rfl, (Array.getElem?_eq_some_iff.1 hg).1, fun j hj => ?_⟩
    rw [Nat.zero_add, h.cellAt j (by omega)]
    simp [strB, List.getElem?_eq_getElem hj]
def NamesOk (d : Nat) : Prop := ∀ (x : Px.Ex) (vs : List Value) (W : Wd), Px.deep x ≤ d → Px.nodes x ≤ 1000000 → ExI W x vs →
  CallsI Tryz.prog 12 #[.agg vs.toArray] W.all fun v w' => ∃ a c, v = .slice a (Px.names x).length c ∧ SlAt w' (fun b => W.w.heap.size ≤ b) a (Px.names x).length c 1 ((Px.names x).map strB)
set_option maxRecDepth 100000 in
theorem names_ok : ∀ d : Nat, NamesOk d := by
  intro d
  induction d with
  | zero => intro x vs W hd; have := Px.deep_pos x; omega
  | succ d ih =>
    intro x vs W hd hnd hx
    obtain ⟨op, k, nn, t, nm, args⟩ := x
    have hx := hx.ext W.all_ext
    simp only [ExI, ExAt] at hx
    obtain ⟨a, c, ls, rfl, hS, hE⟩ := hx
    simp only [Px.deep] at hd
    have hln := Px.len_nodes args
    have hnd' : Px.nodess args + 1 ≤ 1000000 := hnd
    refine vc_pNames op k nn args.length c ⟨t.toArray⟩ ⟨nm.toArray⟩ a W.all _ ?_
    refine den_new fun m0 W1 _ x1 => den_br (fun c0 => ?_) fun c0 => ?_
    · have c0 : op = 2 := by simpa [Sy.dens, Sy.den, E.i, E.b, E.t, gd, Env.push, List.cons_append, List.nil_append, List.append_nil, Int.toNat_natCast] using c0
      refine den_new fun m1 V1 _ z1 => den_app fun a1 c1 V2 ha1 z2 => ?_
      have y2 := ext_trans (ext_trans x1 z1) z2
      refine den_loop (fun k vs ls _ => ∃ (i : Nat) (zs : List Lx.Bs) (a' : Option Addr) (c' : Nat), vs = [.int .i64 (i : Nat), .slice a' zs.length c'] ∧ ls = [zs.map strB] ∧ zs = [nm] ++ Px.namess (args.take i) ∧ i ≤ args.length ∧ k = args.length - i) args.length ⟨0, [nm], a1, c1, rfl, rfl, by simp [Px.namess], Nat.zero_le _, rfl⟩ ?_
      rintro k vs ls' W2 x2 ⟨i, zs, a', c', rfl, rfl, hzs, hi, rfl⟩
      have x2' := ext_trans y2 x2
      refine ⟨(i : Int), zs.length, c', a', zs.map strB, rfl, (by simp [rowConts, conts, Seg.den, gd, Env.push]), fun hrow => ?_⟩
      simp only [Env.push, List.cons_append, List.nil_append, List.append_nil]
      have hzl : zs.length ≤ 1000000 := by
        have h1 := Px.namess_take args i
        have h2 := Px.namess_nodes (args.take i)
        rw [hzs, List.length_append]
        simp only [Px.nodes] at hnd
        simp only [List.length_cons, List.length_nil]
        omega
      refine den_br (fun c1 => ?_) fun c1 => ?_
      · simp only [Sy.dens, Sy.den, E.i, E.b, E.t, gd, Env.push, List.cons_append, List.nil_append, List.append_nil, Int.toNat_natCast, ltB_true] at c1
        have hil : i < args.length := by omega
        have hx : args[i]? = some args[i] := List.getElem?_eq_getElem hil
        obtain ⟨us, hu, hg⟩ := exs_get hE hx
        have hu2 : ExI W.all args[i] us := hu
        obtain ⟨op', k', nn', t', nm', al', len', cl', rfl⟩ := hu.shape
        refine den_chk ?_ (den_chk ?_ (den_look ⟨op', k', nn', len', cl', t', nm', al', fun W3 x3 => ?_, ?_⟩))
        · simp only [E.b, gd, Env.push]; exact SlI.some_of hS (by omega)
        · simp only [Sy.dens, Sy.den, E.i, E.b, E.t, gd, Env.push, List.cons_append, List.nil_append, List.append_nil, Int.toNat_natCast]; exact leB_t (by omega)
        · have := sl_look_at (W := W.all) hS ex_agg ex_size rfl (by decide) hg (ext_trans x2' x3)
          simp only [Sy.dens, Sy.den, E.i, E.b, E.t, gd, Env.push, List.cons_append, List.nil_append, List.append_nil, Int.toNat_natCast] at this ⊢
          exact this
        · simp only [Env.push, List.cons_append, List.nil_append, List.append_nil]
          have hde := Px.deep_mem (List.getElem_mem hil)
          have hno := Px.nodes_mem (List.getElem_mem hil)
          refine den_new fun m3 W3 _ x3 => den_wr fun W4 x4 => ?_
          have y4 := ext_trans (ext_trans x2' x3) x4
          have hq := ih args[i] _ W4 (by omega) (by simp only [Px.nodes] at hnd; omega) (hu2.ext y4)
          refine den_call_i (fun _ _ => hq) fun v w' _ ⟨a5, c5, hv, hA⟩ => ⟨(Px.names args[i]).length, c5, a5, hv, fun W5 e5 x5 n5 => ?_⟩
          have hA5 : SlI W5 a5 (Px.names args[i]).length c5 1 ((Px.names args[i]).map strB) := hA.stay e5 n5
          simp only [Env.push, List.cons_append, List.nil_append, List.append_nil]
          have hnl := Px.names_nodes args[i]
          refine den_chk ?_ (den_cells ((Px.names args[i]).map strB) (by simp [Sy.dens, Sy.den, E.i, E.b, E.t, gd, Env.push, List.cons_append, List.nil_append, List.append_nil, Int.toNat_natCast]) (by simp [strB, Value.oneCell']) ?_ ?_ (den_app fun a6 c6 W6 ha6 x6 => den_frz fun W7 _ x7 _ _ => den_again ⟨args.length - (i + 1), by omega, i + 1, zs ++ Px.names args[i], a6, c6, ?_, ?_, ?_, by omega, rfl⟩))
          · simp only [Sy.dens, Sy.den, E.i, E.b, E.t, gd, Env.push, List.cons_append, List.nil_append, List.append_nil, Int.toNat_natCast]; exact leB_t (by simp only [Px.nodes] at hnd; omega)
          · intro h0
            have h0 : a5 = none := h0
            obtain ⟨_, _, ⟨_, z1, z2⟩ | ⟨b, o, e, _⟩⟩ := hA5
            · simp only [Sy.dens, Sy.den, E.i, E.b, E.t, gd, Env.push, List.cons_append, List.nil_append, List.append_nil, Int.toNat_natCast]; omega
            · rw [h0] at e; cases e
          · intro ad had W' xW j u hj
            have had : a5 = some ad := had
            obtain ⟨_, _, ⟨_, z1, z2⟩ | ⟨b, o, e, _, _, hc⟩⟩ := hA5.ext xW
            · rw [List.eq_nil_of_length_eq_zero z1] at hj; simp at hj
            · rw [had] at e
              obtain rfl := Option.some.inj e
              rw [add_none]; exact hc j u hj
          · simp only [Sy.dens, Sy.den, E.i, E.b, E.t, gd, Env.push, List.cons_append, List.nil_append, List.append_nil, Int.toNat_natCast]
            rw [w64i (by omega) (by omega), List.length_append]; rfl
          · simp [rowConts, conts, Seg.den, gd, Env.push]
          · rw [hzs, List.append_assoc, Px.namess_snoc hil]; try rfl
      · simp only [Sy.dens, Sy.den, E.i, E.b, E.t, gd, Env.push, List.cons_append, List.nil_append, List.append_nil, Int.toNat_natCast, ltB_false] at c1
        have hie : i = args.length := by omega
        have hzs : zs = [nm] ++ Px.namess args := by rw [hzs, hie, List.take_length]
        have hvq := values_i a' zs.length c' W2
        refine den_call_i (fun _ _ => hvq) fun v w' _ ⟨hv, hm⟩ => ⟨v, (by rw [hv]; rfl), rfl, fun W3 e3 x3 n3 => ?_⟩
        subst e3 hv
        simp only [Env.push, List.cons_append, List.nil_append, List.append_nil]
        refine den_callr_i (R' := fun v w' => w'.ownsRow W3.w.heap.size 9 1 v zs.length ((Px.sortB zs).map strB)) (fun _ hr => ?_) fun v w' _ hrow => ?_
        · have hr1 := (hr _ (List.mem_cons_self ..)).1
          simp only [conts, List.flatMap_cons, List.flatMap_nil, Seg.den, Sy.dens, Sy.den, E.i, E.b, E.t, gd, Env.push, List.cons_append, List.nil_append, List.append_nil, Int.toNat_natCast, List.append_nil] at hr1
          have hcell : W3.w.cell? ⟨W2.w.heap.size, 0, none⟩ = some (.slice a' zs.length c') := by simp [World.cell?, hm]
          exact sorted_i W2.w.heap.size _ zs (by omega) W3 hcell (Array.getElem?_eq_some_iff.1 hm).1 (strs_row (by simpa using hr1))
        obtain ⟨a4, c4, hv4⟩ := row_slice hrow
        refine ⟨zs.length, c4, a4, (Px.sortB zs).map strB, hv4, ?_, fun W4 e4 x4 n4 => ?_⟩
        · refine rowsNew_one (ext_trans x2' x3).size ?_ ?_
          · simp only [conts, List.flatMap_cons, List.flatMap_nil, Seg.den, Sy.dens, Sy.den, E.i, E.b, E.t, gd, Env.push, List.cons_append, List.nil_append, List.append_nil, Int.toNat_natCast, List.append_nil]
            rw [← hv4]
            simpa using hrow
          · simp [conts, Seg.den, gd, Env.push, strB, Value.oneCell']
        subst e4
        simp only [Env.push, List.cons_append, List.nil_append, List.append_nil]
        have hsl : (Px.sortB zs).length = zs.length := Px.len_sort zs
        refine den_callr fun _ hr => ?_
        have hr1 := (hr _ (List.mem_cons_self ..)).1
        simp only [conts, List.flatMap_cons, List.flatMap_nil, Seg.den, Sy.dens, Sy.den, E.i, E.b, E.t, gd, Env.push, List.cons_append, List.nil_append, List.append_nil, Int.toNat_natCast, List.append_nil] at hr1
        have hr1 : W4.w.ownsRow W.w.heap.size 9 1 (.slice a4 zs.length c4) (Px.sortB zs).length ((Px.sortB zs).map strB) := by
          rw [hsl]
          exact hr1
        refine CallsE.mono (compact_e W4 _ _ (Px.sortB zs) _ hr1 (by omega) fun k hk => List.mem_filterMap.2 ⟨_, List.mem_singleton.2 rfl, hk⟩) fun e w5 _ ⟨u, he, ⟨a5, c5, hu⟩, hob, ho⟩ => ?_
        subst he hu
        refine ⟨(Px.once (Px.sortB zs)).length, c5, a5, (Px.once (Px.sortB zs)).map strB, rfl, ?_, fun W5 e5 x5 n5 => den_ret fun _ _ hrw => ?_⟩
        · refine ⟨fun q hq => ?_, fun q hq k hk => .inr ?_, List.pairwise_singleton _ _⟩
          · obtain rfl := List.mem_singleton.1 hq
            refine ⟨?_, ?_⟩
            · simp only [conts, List.flatMap_cons, List.flatMap_nil, Seg.den, Sy.dens, Sy.den, E.i, E.b, E.t, gd, Env.push, List.cons_append, List.nil_append, List.append_nil, Int.toNat_natCast, List.append_nil]
              exact ho
            · simp [conts, Seg.den, gd, Env.push, strB, Value.oneCell']
          · obtain rfl := List.mem_singleton.1 hq
            have hk : (Value.slice a5 (Px.once (Px.sortB zs)).length c5).ownBlock = some k := hk
            rw [hob] at hk
            exact List.mem_filterMap.2 ⟨_, List.mem_singleton.2 rfl, hk⟩
        · have hr5 := (hrw _ (List.mem_cons_self ..)).1
          simp only [conts, List.flatMap_cons, List.flatMap_nil, Seg.den, Sy.dens, Sy.den, E.i, E.b, E.t, gd, Env.push, List.cons_append, List.nil_append, List.append_nil, Int.toNat_natCast, List.append_nil] at hr5
          have hnm : Px.names (.mk op k nn t nm args) = Px.once (Px.sortB zs) := by simp only [Px.names, c0, if_true, if_false, hzs]
          rw [hnm]
          exact ⟨_, rfl, a5, c5, rfl, owns_sl hr5⟩
    · have c0 : ¬ op = 2 := by simpa [Sy.dens, Sy.den, E.i, E.b, E.t, gd, Env.push, List.cons_append, List.nil_append, List.append_nil, Int.toNat_natCast] using c0
      refine den_loop (fun k vs ls _ => ∃ (i : Nat) (zs : List Lx.Bs) (a' : Option Addr) (c' : Nat), vs = [.int .i64 (i : Nat), .slice a' zs.length c'] ∧ ls = [zs.map strB] ∧ zs = [] ++ Px.namess (args.take i) ∧ i ≤ args.length ∧ k = args.length - i) args.length ⟨0, [], none, 0, rfl, rfl, by simp [Px.namess], Nat.zero_le _, rfl⟩ ?_
      rintro k vs ls' W2 x2 ⟨i, zs, a', c', rfl, rfl, hzs, hi, rfl⟩
      have x2' := ext_trans x1 x2
      refine ⟨(i : Int), zs.length, c', a', zs.map strB, rfl, (by simp [rowConts, conts, Seg.den, gd, Env.push]), fun hrow => ?_⟩
      simp only [Env.push, List.cons_append, List.nil_append, List.append_nil]
      have hzl : zs.length ≤ 1000000 := by
        have h1 := Px.namess_take args i
        have h2 := Px.namess_nodes (args.take i)
        rw [hzs, List.length_append]
        simp only [Px.nodes] at hnd
        simp only [List.length_cons, List.length_nil]
        omega
      refine den_br (fun c1 => ?_) fun c1 => ?_
      · simp only [Sy.dens, Sy.den, E.i, E.b, E.t, gd, Env.push, List.cons_append, List.nil_append, List.append_nil, Int.toNat_natCast, ltB_true] at c1
        have hil : i < args.length := by omega
        have hx : args[i]? = some args[i] := List.getElem?_eq_getElem hil
        obtain ⟨us, hu, hg⟩ := exs_get hE hx
        have hu2 : ExI W.all args[i] us := hu
        obtain ⟨op', k', nn', t', nm', al', len', cl', rfl⟩ := hu.shape
        refine den_chk ?_ (den_chk ?_ (den_look ⟨op', k', nn', len', cl', t', nm', al', fun W3 x3 => ?_, ?_⟩))
        · simp only [E.b, gd, Env.push]; exact SlI.some_of hS (by omega)
        · simp only [Sy.dens, Sy.den, E.i, E.b, E.t, gd, Env.push, List.cons_append, List.nil_append, List.append_nil, Int.toNat_natCast]; exact leB_t (by omega)
        · have := sl_look_at (W := W.all) hS ex_agg ex_size rfl (by decide) hg (ext_trans x2' x3)
          simp only [Sy.dens, Sy.den, E.i, E.b, E.t, gd, Env.push, List.cons_append, List.nil_append, List.append_nil, Int.toNat_natCast] at this ⊢
          exact this
        · simp only [Env.push, List.cons_append, List.nil_append, List.append_nil]
          have hde := Px.deep_mem (List.getElem_mem hil)
          have hno := Px.nodes_mem (List.getElem_mem hil)
          refine den_new fun m3 W3 _ x3 => den_wr fun W4 x4 => ?_
          have y4 := ext_trans (ext_trans x2' x3) x4
          have hq := ih args[i] _ W4 (by omega) (by simp only [Px.nodes] at hnd; omega) (hu2.ext y4)
          refine den_call_i (fun _ _ => hq) fun v w' _ ⟨a5, c5, hv, hA⟩ => ⟨(Px.names args[i]).length, c5, a5, hv, fun W5 e5 x5 n5 => ?_⟩
          have hA5 : SlI W5 a5 (Px.names args[i]).length c5 1 ((Px.names args[i]).map strB) := hA.stay e5 n5
          simp only [Env.push, List.cons_append, List.nil_append, List.append_nil]
          have hnl := Px.names_nodes args[i]
          refine den_chk ?_ (den_cells ((Px.names args[i]).map strB) (by simp [Sy.dens, Sy.den, E.i, E.b, E.t, gd, Env.push, List.cons_append, List.nil_append, List.append_nil, Int.toNat_natCast]) (by simp [strB, Value.oneCell']) ?_ ?_ (den_app fun a6 c6 W6 ha6 x6 => den_frz fun W7 _ x7 _ _ => den_again ⟨args.length - (i + 1), by omega, i + 1, zs ++ Px.names args[i], a6, c6, ?_, ?_, ?_, by omega, rfl⟩))
          · simp only [Sy.dens, Sy.den, E.i, E.b, E.t, gd, Env.push, List.cons_append, List.nil_append, List.append_nil, Int.toNat_natCast]; exact leB_t (by simp only [Px.nodes] at hnd; omega)
          · intro h0
            have h0 : a5 = none := h0
            obtain ⟨_, _, ⟨_, z1, z2⟩ | ⟨b, o, e, _⟩⟩ := hA5
            · simp only [Sy.dens, Sy.den, E.i, E.b, E.t, gd, Env.push, List.cons_append, List.nil_append, List.append_nil, Int.toNat_natCast]; omega
            · rw [h0] at e; cases e
          · intro ad had W' xW j u hj
            have had : a5 = some ad := had
            obtain ⟨_, _, ⟨_, z1, z2⟩ | ⟨b, o, e, _, _, hc⟩⟩ := hA5.ext xW
            · rw [List.eq_nil_of_length_eq_zero z1] at hj; simp at hj
            · rw [had] at e
              obtain rfl := Option.some.inj e
              rw [add_none]; exact hc j u hj
          · simp only [Sy.dens, Sy.den, E.i, E.b, E.t, gd, Env.push, List.cons_append, List.nil_append, List.append_nil, Int.toNat_natCast]
            rw [w64i (by omega) (by omega), List.length_append]; rfl
          · simp [rowConts, conts, Seg.den, gd, Env.push]
          · rw [hzs, List.append_assoc, Px.namess_snoc hil]; try rfl
      · simp only [Sy.dens, Sy.den, E.i, E.b, E.t, gd, Env.push, List.cons_append, List.nil_append, List.append_nil, Int.toNat_natCast, ltB_false] at c1
        have hie : i = args.length := by omega
        have hzs : zs = [] ++ Px.namess args := by rw [hzs, hie, List.take_length]
        have hvq := values_i a' zs.length c' W2
        refine den_call_i (fun _ _ => hvq) fun v w' _ ⟨hv, hm⟩ => ⟨v, (by rw [hv]; rfl), rfl, fun W3 e3 x3 n3 => ?_⟩
        subst e3 hv
        simp only [Env.push, List.cons_append, List.nil_append, List.append_nil]
        refine den_callr_i (R' := fun v w' => w'.ownsRow W3.w.heap.size 9 1 v zs.length ((Px.sortB zs).map strB)) (fun _ hr => ?_) fun v w' _ hrow => ?_
        · have hr1 := (hr _ (List.mem_cons_self ..)).1
          simp only [conts, List.flatMap_cons, List.flatMap_nil, Seg.den, Sy.dens, Sy.den, E.i, E.b, E.t, gd, Env.push, List.cons_append, List.nil_append, List.append_nil, Int.toNat_natCast, List.append_nil] at hr1
          have hcell : W3.w.cell? ⟨W2.w.heap.size, 0, none⟩ = some (.slice a' zs.length c') := by simp [World.cell?, hm]
          exact sorted_i W2.w.heap.size _ zs (by omega) W3 hcell (Array.getElem?_eq_some_iff.1 hm).1 (strs_row (by simpa using hr1))
        obtain ⟨a4, c4, hv4⟩ := row_slice hrow
        refine ⟨zs.length, c4, a4, (Px.sortB zs).map strB, hv4, ?_, fun W4 e4 x4 n4 => ?_⟩
        · refine rowsNew_one (ext_trans x2' x3).size ?_ ?_
          · simp only [conts, List.flatMap_cons, List.flatMap_nil, Seg.den, Sy.dens, Sy.den, E.i, E.b, E.t, gd, Env.push, List.cons_append, List.nil_append, List.append_nil, Int.toNat_natCast, List.append_nil]
            rw [← hv4]
            simpa using hrow
          · simp [conts, Seg.den, gd, Env.push, strB, Value.oneCell']
        subst e4
        simp only [Env.push, List.cons_append, List.nil_append, List.append_nil]
        have hsl : (Px.sortB zs).length = zs.length := Px.len_sort zs
        refine den_callr fun _ hr => ?_
        have hr1 := (hr _ (List.mem_cons_self ..)).1
        simp only [conts, List.flatMap_cons, List.flatMap_nil, Seg.den, Sy.dens, Sy.den, E.i, E.b, E.t, gd, Env.push, List.cons_append, List.nil_append, List.append_nil, Int.toNat_natCast, List.append_nil] at hr1
        have hr1 : W4.w.ownsRow W.w.heap.size 9 1 (.slice a4 zs.length c4) (Px.sortB zs).length ((Px.sortB zs).map strB) := by
          rw [hsl]
          exact hr1
        refine CallsE.mono (compact_e W4 _ _ (Px.sortB zs) _ hr1 (by omega) fun k hk => List.mem_filterMap.2 ⟨_, List.mem_singleton.2 rfl, hk⟩) fun e w5 _ ⟨u, he, ⟨a5, c5, hu⟩, hob, ho⟩ => ?_
        subst he hu
        refine ⟨(Px.once (Px.sortB zs)).length, c5, a5, (Px.once (Px.sortB zs)).map strB, rfl, ?_, fun W5 e5 x5 n5 => den_ret fun _ _ hrw => ?_⟩
        · refine ⟨fun q hq => ?_, fun q hq k hk => .inr ?_, List.pairwise_singleton _ _⟩
          · obtain rfl := List.mem_singleton.1 hq
            refine ⟨?_, ?_⟩
            · simp only [conts, List.flatMap_cons, List.flatMap_nil, Seg.den, Sy.dens, Sy.den, E.i, E.b, E.t, gd, Env.push, List.cons_append, List.nil_append, List.append_nil, Int.toNat_natCast, List.append_nil]
              exact ho
            · simp [conts, Seg.den, gd, Env.push, strB, Value.oneCell']
          · obtain rfl := List.mem_singleton.1 hq
            have hk : (Value.slice a5 (Px.once (Px.sortB zs)).length c5).ownBlock = some k := hk
            rw [hob] at hk
            exact List.mem_filterMap.2 ⟨_, List.mem_singleton.2 rfl, hk⟩
        · have hr5 := (hrw _ (List.mem_cons_self ..)).1
          simp only [conts, List.flatMap_cons, List.flatMap_nil, Seg.den, Sy.dens, Sy.den, E.i, E.b, E.t, gd, Env.push, List.cons_append, List.nil_append, List.append_nil, Int.toNat_natCast, List.append_nil] at hr5
          have hnm : Px.names (.mk op k nn t nm args) = Px.once (Px.sortB zs) := by simp only [Px.names, c0, if_true, if_false, hzs]
          rw [hnm]
          exact ⟨_, rfl, a5, c5, rfl, owns_sl hr5⟩
end Go.Proofs.YtckgdgkkmhochaaGreatDoor
