/- The document's Names: the walk (written by wip/gen_pxtrd.py). -/
import Derived.Test.YtckgdgkkmhochaaGreatDoorPxTrC
set_option linter.unusedVariables false
namespace Px
open Go
theorem bless_eq : ∀ (x y : List UInt8), Op.bytesLess x y = decide (x < y)
  | [], [] => by simp [Op.bytesLess]
  | [], _ :: _ => by simp [Op.bytesLess]
  | _ :: _, [] => by simp [Op.bytesLess]
  | a :: x, b :: y => by
    have ih := bless_eq x y
    simp only [Op.bytesLess, ih, List.cons_lt_cons_iff]
    by_cases h1 : a < b
    · simp [h1]
    · by_cases h2 : a = b
      · subst h2; simp [h1]
      · simp [h1, h2]
/-- a name put in its place -/
theorem ins_rises {zs : List Lx.Bs} {s : Lx.Bs} {q : Nat} (hr : Rises zs) (hq : q ≤ zs.length) (hlt : ∀ x ∈ zs.take q, x < s) (hge : ∀ x, zs[q]? = some x → ¬ x < s ∧ ¬ x = s) : Rises (zs.take q ++ [s] ++ zs.drop q) := by
  have hsp : Rises (zs.take q ++ zs.drop q) := by rw [List.take_append_drop]; exact hr
  obtain ⟨h1, h2, h3⟩ := List.pairwise_append.1 hsp
  have hbig : ∀ y ∈ zs.drop q, s < y := by
    intro y hy
    rcases Nat.lt_or_ge q zs.length with hl | hl
    · rw [List.drop_eq_getElem_cons hl] at hy h2
      obtain ⟨k1, k2⟩ := hge zs[q] (List.getElem?_eq_getElem hl)
      have hs : s < zs[q] := Std.lt_of_le_of_ne (List.not_lt.1 k1) fun e => k2 e.symm
      rcases List.mem_cons.1 hy with rfl | hy
      · exact hs
      · exact List.lt_trans hs ((List.pairwise_cons.1 h2).1 y hy)
    · rw [List.drop_eq_nil_of_le hl] at hy; cases hy
  refine List.pairwise_append.2 ⟨List.pairwise_append.2 ⟨h1, List.pairwise_singleton _ _, fun x hx y hy => ?_⟩, h2, fun x hx y hy => ?_⟩
  · rw [List.mem_singleton.1 hy]; exact hlt x hx
  · rcases List.mem_append.1 hx with hx | hx
    · exact h3 x hx y hy
    · rw [List.mem_singleton.1 hx]; exact hbig y hy
theorem ins_len {zs : List Lx.Bs} {s : Lx.Bs} {q : Nat} (hq : q ≤ zs.length) : (zs.take q ++ [s] ++ zs.drop q).length = zs.length + 1 := by
  simp only [List.length_append, List.length_take, List.length_drop, List.length_singleton]; omega
theorem ins_mem {zs : List Lx.Bs} {s : Lx.Bs} {q : Nat} {x : Lx.Bs} {A B : Prop} {M : List Lx.Bs} (h : x ∈ zs ↔ A ∨ B ∨ x ∈ M) : x ∈ zs.take q ++ [s] ++ zs.drop q ↔ A ∨ B ∨ x ∈ M ++ [s] := by
  have hs : x ∈ zs ↔ x ∈ zs.take q ∨ x ∈ zs.drop q := by rw [← List.mem_append, List.take_append_drop]
  rw [hs] at h
  simp only [List.mem_append, List.mem_singleton]
  constructor
  · rintro ((h1 | h1) | h1)
    · rcases h.1 (.inl h1) with k | k | k
      · exact .inl k
      · exact .inr (.inl k)
      · exact .inr (.inr (.inl k))
    · exact .inr (.inr (.inr h1))
    · rcases h.1 (.inr h1) with k | k | k
      · exact .inl k
      · exact .inr (.inl k)
      · exact .inr (.inr (.inl k))
  · rintro (h1 | h1 | h1 | h1)
    · exact (h.2 (.inl h1)).elim (fun k => .inl (.inl k)) .inr
    · exact (h.2 (.inr (.inl h1))).elim (fun k => .inl (.inl k)) .inr
    · exact (h.2 (.inr (.inr h1))).elim (fun k => .inl (.inl k)) .inr
    · exact .inl (.inr h1)
end Px
namespace Go.Proofs.YtckgdgkkmhochaaGreatDoor
open Go Go.RowKit Go.SF
set_option linter.unusedSimpArgs false
theorem subA_none {a : Option Addr} {lo c z : Nat} (h : subA a lo c z = none) : a = none := by
  unfold subA at h
  split at h
  · exact h
  · simpa using h
theorem chk_le {a b : E} {ρ : Env} (h : a.i ρ ≤ b.i ρ) : (E.bin .le a b).b ρ = true := leB_t h
theorem tlt_ba (a b : Lx.Bs) : Op.bytesLess (⟨a.toArray⟩ : ByteArray).data.toList (⟨b.toArray⟩ : ByteArray).data.toList = decide (a < b) := by rw [← Px.bless_eq]
theorem str_lookT {W : Wd} {a : Option Addr} {n c : Nat} {l : List Lx.Bs} (h : SlI W a n c 1 (l.map strB)) {i : Nat} {s : Lx.Bs} (hx : l[i]? = some s) {W' : Wd} (hW : Ext W W') :
    (Instr.loadAt 9 (.pointer (some ((a.getD default).add (i * 1 + 0))))).run Tryz.prog W'.w = .ok (.string ⟨s.toArray⟩) W'.w := by
  have e : l.map strB = l.flatMap fun s => [strB s] := by
    clear h hx
    induction l with
    | nil => rfl
    | cons b l ih => rw [List.map_cons, List.flatMap_cons, ih]; rfl
  rw [e] at h
  exact sl_look_f (f := fun s => [strB s]) (sz := 1) (fun _ => rfl) h str_aggT hx (by decide) rfl hW
theorem row_lookT {w : World} {n0 : Nat} {e : TypeId} {zs : List Lx.Bs} {a : Option Addr} {c : Nat} (h : w.ownsRow n0 e 1 (.slice a zs.length c) zs.length (zs.map strB)) {i : Nat} {s : Lx.Bs} (hx : zs[i]? = some s) :
    (Instr.loadAt 9 (.pointer (some ((a.getD default).add (i * 1 + 0))))).run Tryz.prog w = .ok (.string ⟨s.toArray⟩) w := by
  have h1 : SlI (Wd.of w).all a zs.length c 1 (zs.map strB) := SlW.all (W := Wd.of w) ((owns_sl h).mono fun _ _ => trivial)
  exact str_lookT h1 hx (W' := (Wd.of w).all) (Ext.refl _)
/-- the cells of a piece of a row -/
theorem sub_cells {w : World} {n0 : Nat} {e : TypeId} {zs : List Lx.Bs} {a : Option Addr} {c : Nat} (h : w.ownsRow n0 e 1 (.slice a zs.length c) zs.length (zs.map strB)) (lo hi : Nat) (h1 : lo ≤ hi) (h2 : hi ≤ zs.length) {ad : Addr} (had : subA a lo c 1 = some ad)
    {j : Nat} {u : Value} (hj : (((zs.take hi).drop lo).map strB)[j]? = some u) : w.cell? (ad.add j) = some u := by
  have hj2 : (zs.map strB)[lo + j]? = some u := by
    rw [List.getElem?_map, List.getElem?_drop, List.getElem?_take] at hj
    rw [List.getElem?_map]
    split at hj
    · exact hj
    · simp at hj
  obtain ⟨h3, _⟩ := List.getElem?_eq_some_iff.1 hj2
  rw [List.length_map] at h3
  rcases h.2 with ⟨ev, h0⟩ | ⟨g, cap, cur, ev, _, hg, hcap, _⟩
  · omega
  · simp only [Value.slice.injEq] at ev
    obtain ⟨rfl, _, rfl⟩ := ev
    have hc := (owns_sl h).2.2
    rcases hc with ⟨_, k, _⟩ | ⟨b, o, eb, _, _, hc⟩
    · omega
    · have eb := Option.some.inj eb
      injection eb with e1 e2
      subst e1 e2
      have := hc _ u hj2
      unfold subA at had
      split at had
      · rename_i hcl; omega
      · simp only [Option.map_some, Option.some.injEq] at had
        rw [← had, add_none, add_none, show 0 + lo * 1 + j = 0 + (lo + j) from by omega]
        exact this
def RNames (d : Nat) : Prop := ∀ (x : Px.Ex) (vs : List Value) (W : Wd), Px.deep x ≤ d → Px.nodes x ≤ 1000000 → ExI W x vs →
  CallsI Tryz.prog 13 #[.agg vs.toArray] W.all fun v w' => ∃ a c, v = .slice a (Px.names x).length c ∧ SlAt w' (fun b => W.w.heap.size ≤ b) a (Px.names x).length c 1 ((Px.names x).map strB)
set_option maxRecDepth 100000 in
set_option maxHeartbeats 2000000 in
theorem rnames_ok : ∀ d : Nat, RNames d := by
  intro d
  induction d with
  | zero => intro x vs W hd; have := Px.deep_pos x; omega
  | succ d ih =>
    intro x vs W hd hnd hx
    obtain ⟨op, k0, nn, t, nm, args⟩ := x
    have hx := hx.ext W.all_ext
    simp only [ExI, ExAt] at hx
    obtain ⟨a, c, ls, rfl, hS, hE⟩ := hx
    simp only [Px.deep] at hd
    have hln := Px.len_nodes args
    have hnd' : Px.nodess args + 1 ≤ 1000000 := hnd
    refine vc_rNames op k0 nn args.length c ⟨t.toArray⟩ ⟨nm.toArray⟩ a W.all _ ?_
    refine den_new fun m0 W1 _ x1 => den_br (fun c0 => ?_) fun c0 => ?_
    · have c0 : op = 2 := by simpa [Sy.dens, Sy.den, E.i, E.b, E.t, gd, Env.push, List.cons_append, List.nil_append, List.append_nil, Int.toNat_natCast] using c0
      refine den_app fun a1 c1 V1 _ z1 => den_app fun a2 c2 V2 _ z2 => ?_
      have y2 := ext_trans (ext_trans x1 z1) z2
      refine den_loop (fun k vs ls _ => ∃ (i : Nat) (zs : List Lx.Bs) (a' : Option Addr) (c' : Nat), vs = [.int .i64 (i : Nat), .slice a' zs.length c'] ∧ ls = [zs.map strB] ∧ Px.Rises zs ∧ (∀ x, x ∈ zs ↔ x ∈ ([nm] : List Lx.Bs) ∨ x ∈ Px.namess (args.take i)) ∧ zs.length ≤ 1 + (Px.namess (args.take i)).length ∧ i ≤ args.length ∧ k = args.length - i) args.length ⟨0, [nm], a2, c2, rfl, rfl, List.pairwise_singleton _ _, fun x => by simp [Px.namess], by simp, Nat.zero_le _, rfl⟩ ?_
      rintro k vs ls' W2 x2 ⟨i, zs, a', c', rfl, rfl, hri, hmem, hzl, hi, rfl⟩
      have x2' := ext_trans y2 x2
      refine ⟨(i : Int), zs.length, c', a', zs.map strB, rfl, (by simp [rowConts, conts, Seg.den, gd, Env.push]), fun hrow => ?_⟩
      simp only [Env.push, List.cons_append, List.nil_append, List.append_nil]
      have hk1 := Px.namess_take args i
      have hk2 := Px.namess_nodes (args.take i)
      refine den_br (fun c1 => ?_) fun c1 => ?_
      · simp only [Sy.dens, Sy.den, E.i, E.b, E.t, gd, Env.push, List.cons_append, List.nil_append, List.append_nil, Int.toNat_natCast, ltB_true] at c1
        have hil : i < args.length := by omega
        have hx : args[i]? = some args[i] := List.getElem?_eq_getElem hil
        obtain ⟨us, hu, hg⟩ := exs_get hE hx
        have hu2 : ExI W.all args[i] us := hu
        obtain ⟨op', k', nn', t', nm', al', len', cl', rfl⟩ := hu.shape
        refine den_chk ?_ (den_chk ?_ (den_look ⟨op', k', nn', len', cl', t', nm', al', fun W3 x3 => ?_, ?_⟩))
        · simp only [E.b, gd, Env.push]; exact SlI.some_of hS (by omega)
        · simp only [Sy.dens, Sy.den, E.i, E.b, E.t, gd, Env.push, List.cons_append, List.nil_append, List.append_nil, Int.toNat_natCast]; exact leB_t (by omega)
        · have := sl_look_at (W := W.all) hS ex_agg ex_size rfl (by decide) hg (ext_trans x2' x3)
          simp only [Sy.dens, Sy.den, E.i, E.b, E.t, gd, Env.push, List.cons_append, List.nil_append, List.append_nil, Int.toNat_natCast] at this ⊢
          exact this
        · simp only [Env.push, List.cons_append, List.nil_append, List.append_nil]
          have hde := Px.deep_mem (List.getElem_mem hil)
          have hno := Px.nodes_mem (List.getElem_mem hil)
          have hq := ih args[i] _ W2 (by omega) (by omega) (hu2.ext x2')
          refine den_call_i (fun _ _ => hq) fun v w' _ ⟨a5, c5, hv, hA⟩ => ⟨(Px.names args[i]).length, c5, a5, hv, fun W5 e5 x5 n5 => ?_⟩
          have hM : SlI W5 a5 (Px.names args[i]).length c5 1 ((Px.names args[i]).map strB) := hA.stay e5 n5
          simp only [Env.push, List.cons_append, List.nil_append, List.append_nil]
          have hnl := Px.names_nodes args[i]
          have hsn := Px.namess_snoc hil
          refine den_loop (fun k vs ls _ => ∃ (m : Nat) (zs : List Lx.Bs) (a' : Option Addr) (c' : Nat), vs = [.int .i64 (m : Nat), .slice a' zs.length c'] ∧ ls = [zs.map strB] ∧ Px.Rises zs ∧ (∀ x, x ∈ zs ↔ x ∈ ([nm] : List Lx.Bs) ∨ x ∈ Px.namess (args.take i) ∨ x ∈ (Px.names args[i]).take m) ∧ zs.length ≤ 1 + (Px.namess (args.take i)).length + m ∧ m ≤ (Px.names args[i]).length ∧ k = (Px.names args[i]).length - m) (Px.names args[i]).length ⟨0, zs, a', c', rfl, (by simp [rowConts, conts, Seg.den, gd, Env.push]), hri, fun x => by rw [hmem]; simp, by omega, Nat.zero_le _, rfl⟩ ?_
          clear hri hmem hzl hrow
          rintro k vs ls' V1 z1 ⟨m, zs, a', c', rfl, rfl, hri, hmem, hzl, hm, rfl⟩
          refine ⟨(m : Int), zs.length, c', a', zs.map strB, rfl, (by simp [rowConts, conts, Seg.den, gd, Env.push]), fun hrow => ?_⟩
          simp only [Env.push, List.cons_append, List.nil_append, List.append_nil]
          have hrz := (hrow _ (List.mem_cons_self ..)).1
          simp only [conts, List.flatMap_cons, List.flatMap_nil, Seg.den, Sy.dens, Sy.den, E.i, E.b, E.t, gd, Env.push, List.cons_append, List.nil_append, List.append_nil, Int.toNat_natCast, List.append_nil] at hrz
          have hnil : a' = none → zs.length = 0 ∧ c' = 0 := fun h0 => by
            rcases hrz.2 with ⟨e, _⟩ | ⟨g, cap, cur, e, _⟩
            · simp only [Value.slice.injEq] at e; exact ⟨e.2.1, e.2.2⟩
            · simp only [Value.slice.injEq] at e; rw [h0] at e; cases e.1
          have hcap : zs.length ≤ c' := by
            rcases hrz.2 with ⟨e, _⟩ | ⟨g, cap, cur, e, _, _, h, _⟩
            · simp only [Value.slice.injEq] at e; omega
            · simp only [Value.slice.injEq] at e; (try simp only [Int.toNat_natCast] at h); omega
          refine den_br (fun c2 => ?_) fun c2 => ?_
          · simp only [Sy.dens, Sy.den, E.i, E.b, E.t, gd, Env.push, List.cons_append, List.nil_append, List.append_nil, Int.toNat_natCast, ltB_true] at c2
            have hml : m < (Px.names args[i]).length := by omega
            have hgm : (Px.names args[i])[m]? = some (Px.names args[i])[m] := List.getElem?_eq_getElem hml
            have htk : (Px.names args[i]).take (m + 1) = (Px.names args[i]).take m ++ [(Px.names args[i])[m]] := List.take_succ_eq_append_getElem hml
            generalize hs : (Px.names args[i])[m] = s at hgm htk
            have lk : ∀ V, Ext V1 V → _ := fun V xV => str_lookT hM hgm (ext_trans z1 xV)
            refine den_loop (fun j vs ls _ => ∃ q : Nat, vs = [.int .i64 (q : Nat)] ∧ ls = [] ∧ q ≤ zs.length ∧ j = zs.length - q ∧ ∀ x ∈ zs.take q, x < s) zs.length ⟨0, rfl, rfl, Nat.zero_le _, rfl, fun x h => by simp at h⟩ ?_
            rintro j vs ls' V2 z2 ⟨q, rfl, rfl, hq', rfl, hlt⟩
            refine ⟨(q : Int), rfl, rfl, fun _ => ?_⟩
            refine den_chk ?_ (den_chk ?_ (den_chk ?_ (den_br (fun c3 => ?_) fun c3 => ?_)))
            · simp only [Sy.dens, Sy.den, E.i, E.b, E.t, gd, Env.push, List.cons_append, List.nil_append, List.append_nil, Int.toNat_natCast, Bool.or_eq_true, Bool.not_eq_true']
              by_cases h : q < zs.length
              · right
                cases ha : a' with
                | none => have := hnil ha; omega
                | some _ => rfl
              · left; exact decide_eq_false (by omega)
            · simp only [Sy.dens, Sy.den, E.i, E.b, E.t, gd, Env.push, List.cons_append, List.nil_append, List.append_nil, Int.toNat_natCast, Bool.or_eq_true]; exact .inr (leB_t (by omega))
            · simp only [Sy.dens, Sy.den, E.i, E.b, E.t, gd, Env.push, List.cons_append, List.nil_append, List.append_nil, Int.toNat_natCast, Bool.or_eq_true, Bool.not_eq_true']
              by_cases h : q < zs.length
              · exact .inr (ltB_t (by omega))
              · left; exact decide_eq_false (by omega)
            · simp only [Sy.dens, Sy.den, E.i, E.b, E.t, gd, Env.push, List.cons_append, List.nil_append, List.append_nil, Int.toNat_natCast, ltB_true] at c3
              have hql : q < zs.length := by omega
              have hgq : zs[q]? = some zs[q] := List.getElem?_eq_getElem hql
              refine den_rlook ⟨⟨zs[q].toArray⟩, fun w hw => ?_, den_chk ?_ (den_chk ?_ (den_look ⟨⟨s.toArray⟩, fun V xV => ?_, den_grow fun V3 z3 => den_br (fun c4 => den_again ⟨zs.length - (q + 1), by omega, q + 1, ?_, rfl, by omega, rfl, ?_⟩) fun c4 => den_rlook ⟨⟨zs[q].toArray⟩, fun w hw => ?_, den_look ⟨⟨s.toArray⟩, fun V xV => ?_, den_grow fun V4 z4 => den_br (fun c5 => den_again ⟨(Px.names args[i]).length - (m + 1), by omega, m + 1, zs, a', c', ?_, (by simp [rowConts, conts, Seg.den, gd, Env.push]), hri, ?_, by omega, by omega, rfl⟩) fun c5 => ?_⟩⟩⟩))⟩
              · have h1 := hw.1
                simp only [conts, List.flatMap_cons, List.flatMap_nil, Seg.den, Sy.dens, Sy.den, E.i, E.b, E.t, gd, Env.push, List.cons_append, List.nil_append, List.append_nil, Int.toNat_natCast, List.append_nil, Int.toNat_natCast] at h1
                have := row_lookT h1 hgq
                simp only [Sy.dens, Sy.den, E.i, E.b, E.t, gd, Env.push, List.cons_append, List.nil_append, List.append_nil, Int.toNat_natCast] at this ⊢
                exact this
              · simp only [E.b, gd, Env.push]; exact SlI.some_of hM (by omega)
              · simp only [Sy.dens, Sy.den, E.i, E.b, E.t, gd, Env.push, List.cons_append, List.nil_append, List.append_nil, Int.toNat_natCast]; exact leB_t (by omega)
              · have := lk V (ext_trans z2 xV)
                simp only [Sy.dens, Sy.den, E.i, E.b, E.t, gd, Env.push, List.cons_append, List.nil_append, List.append_nil, Int.toNat_natCast] at this ⊢
                exact this
              · simp only [Sy.dens, Sy.den, E.i, E.b, E.t, gd, Env.push, List.cons_append, List.nil_append, List.append_nil, Int.toNat_natCast]
                rw [w64i (by omega) (by omega)]; rfl
              · simp only [Sy.dens, Sy.den, E.i, E.b, E.t, gd, Env.push, List.cons_append, List.nil_append, List.append_nil, Int.toNat_natCast, tlt_ba, Px.bless_eq, decide_eq_true_eq] at c4
                intro x hx
                rw [List.take_succ_eq_append_getElem hql] at hx
                rcases List.mem_append.1 hx with hx | hx
                · exact hlt x hx
                · rw [List.mem_singleton.1 hx]; exact c4
              · have h1 := hw.1
                simp only [conts, List.flatMap_cons, List.flatMap_nil, Seg.den, Sy.dens, Sy.den, E.i, E.b, E.t, gd, Env.push, List.cons_append, List.nil_append, List.append_nil, Int.toNat_natCast, List.append_nil, Int.toNat_natCast] at h1
                have := row_lookT h1 hgq
                simp only [Sy.dens, Sy.den, E.i, E.b, E.t, gd, Env.push, List.cons_append, List.nil_append, List.append_nil, Int.toNat_natCast] at this ⊢
                exact this
              · have := lk V (ext_trans (ext_trans z2 z3) xV)
                simp only [Sy.dens, Sy.den, E.i, E.b, E.t, gd, Env.push, List.cons_append, List.nil_append, List.append_nil, Int.toNat_natCast] at this ⊢
                exact this
              · simp only [Sy.dens, Sy.den, E.i, E.b, E.t, gd, Env.push, List.cons_append, List.nil_append, List.append_nil, Int.toNat_natCast]
                rw [w64i (by omega) (by omega)]; rfl
              · simp only [Sy.dens, Sy.den, E.i, E.b, E.t, gd, Env.push, List.cons_append, List.nil_append, List.append_nil, Int.toNat_natCast, teq_ba, beq_iff_eq] at c5
                intro x
                rw [hmem, htk]
                constructor
                · rintro (h | h | h)
                  · exact .inl h
                  · exact .inr (.inl h)
                  · exact .inr (.inr (List.mem_append.2 (.inl h)))
                · rintro (h | h | h)
                  · exact .inl h
                  · exact .inr (.inl h)
                  · rcases List.mem_append.1 h with h | h
                    · exact .inr (.inr h)
                    · exact (hmem x).1 (by rw [List.mem_singleton.1 h, ← c5]; exact List.getElem_mem hql)
              · simp only [Sy.dens, Sy.den, E.i, E.b, E.t, gd, Env.push, List.cons_append, List.nil_append, List.append_nil, Int.toNat_natCast, tlt_ba, Px.bless_eq, decide_eq_false_iff_not] at c4
                simp only [Sy.dens, Sy.den, E.i, E.b, E.t, gd, Env.push, List.cons_append, List.nil_append, List.append_nil, Int.toNat_natCast, teq_ba, beq_eq_false_iff_ne, ne_eq] at c5
                have hge : ∀ x, zs[q]? = some x → ¬ x < s ∧ ¬ x = s := fun x hx => by
                  rw [hgq] at hx
                  obtain rfl := Option.some.inj hx
                  exact ⟨c4, c5⟩
                refine den_chk ?_ (den_sub (den_look ⟨⟨s.toArray⟩, fun V xV => ?_, ?_⟩))
                · simp only [Sy.dens, Sy.den, E.i, E.b, E.t, gd, Env.push, List.cons_append, List.nil_append, List.append_nil, Int.toNat_natCast]; exact leB_t (by omega)
                · have := lk V (ext_trans (ext_trans (ext_trans z2 z3) z4) xV)
                  simp only [Sy.dens, Sy.den, E.i, E.b, E.t, gd, Env.push, List.cons_append, List.nil_append, List.append_nil, Int.toNat_natCast] at this ⊢
                  exact this
                repeat' (first
                  | (with_reducible refine den_both ?_ ?_)
                  | (with_reducible refine den_grow fun _ _ => ?_)
                  | (with_reducible refine den_app fun _ _ _ _ _ => ?_)
                  | (with_reducible refine den_sub ?_)
                  | (with_reducible refine den_chk (chk_le ?_) ?_))
                all_goals try (with_reducible show @LE.le Int _ _ _; simp only [Sy.dens, Sy.den, E.i, E.b, E.t, gd, Env.push, List.cons_append, List.nil_append, List.append_nil, Int.toNat_natCast]; first | omega | (simp only [Int.toNat_natCast, Int.toNat_zero]; omega))
                all_goals refine den_cells_r ((zs.take q).map strB) (by
                    simp only [Env.push, List.cons_append, List.nil_append, List.append_nil]
                    simp only [Sy.dens, Sy.den, E.i, E.b, E.t, gd, Env.push, List.cons_append, List.nil_append, List.append_nil, Int.toNat_natCast, List.length_map, List.length_take]
                    (try simp only [Int.toNat_natCast, Int.toNat_zero])
                    omega) (fun u hu => by obtain ⟨x, _, rfl⟩ := List.mem_map.1 hu; rfl) (fun hn0 => by
                    simp only [Sy.dens, Sy.den, E.i, E.b, E.t, gd, Env.push, List.cons_append, List.nil_append, List.append_nil, Int.toNat_natCast, Int.toNat_natCast, Int.toNat_zero] at hn0
                    have h0 : a' = none := subA_none hn0
                    obtain ⟨k1, k2⟩ := hnil h0
                    simp only [Sy.dens, Sy.den, E.i, E.b, E.t, gd, Env.push, List.cons_append, List.nil_append, List.append_nil, Int.toNat_natCast]
                    (try simp only [Int.toNat_natCast, Int.toNat_zero])
                    omega) (fun ad had W' xW hrw j u hj => by
                    have hr1 := (hrw ⟨.slc 6 (.nv 10) (.nv 11), .nv 10, 9, 1, [.l 1]⟩ (by simp)).1
                    simp only [conts, List.flatMap_cons, List.flatMap_nil, Seg.den, Sy.dens, Sy.den, E.i, E.b, E.t, gd, Env.push, List.cons_append, List.nil_append, List.append_nil, Int.toNat_natCast, List.append_nil, Int.toNat_natCast] at hr1
                    simp only [Sy.dens, Sy.den, E.i, E.b, E.t, gd, Env.push, List.cons_append, List.nil_append, List.append_nil, Int.toNat_natCast, Int.toNat_natCast, Int.toNat_zero] at had
                    exact sub_cells hr1 0 q (Nat.zero_le _) hq' had (by simpa using hj)) ?_
                repeat' (first
                  | (with_reducible refine den_both ?_ ?_)
                  | (with_reducible refine den_grow fun _ _ => ?_)
                  | (with_reducible refine den_app fun _ _ _ _ _ => ?_)
                  | (with_reducible refine den_sub ?_)
                  | (with_reducible refine den_chk (chk_le ?_) ?_))
                all_goals try (with_reducible show @LE.le Int _ _ _; simp only [Sy.dens, Sy.den, E.i, E.b, E.t, gd, Env.push, List.cons_append, List.nil_append, List.append_nil, Int.toNat_natCast]; first | omega | (simp only [Int.toNat_natCast, Int.toNat_zero]; omega))
                all_goals refine den_cells_r ((zs.drop q).map strB) (by
                    simp only [Env.push, List.cons_append, List.nil_append, List.append_nil]
                    simp only [Sy.dens, Sy.den, E.i, E.b, E.t, gd, Env.push, List.cons_append, List.nil_append, List.append_nil, Int.toNat_natCast, List.length_map, List.length_drop]
                    (try simp only [Int.toNat_natCast, Int.toNat_zero])
                    omega) (fun u hu => by obtain ⟨x, _, rfl⟩ := List.mem_map.1 hu; rfl) (fun hn0 => by
                    simp only [Sy.dens, Sy.den, E.i, E.b, E.t, gd, Env.push, List.cons_append, List.nil_append, List.append_nil, Int.toNat_natCast, Int.toNat_natCast, Int.toNat_zero] at hn0
                    have h0 : a' = none := subA_none hn0
                    obtain ⟨k1, k2⟩ := hnil h0
                    simp only [Sy.dens, Sy.den, E.i, E.b, E.t, gd, Env.push, List.cons_append, List.nil_append, List.append_nil, Int.toNat_natCast]
                    (try simp only [Int.toNat_natCast, Int.toNat_zero])
                    omega) (fun ad had W' xW hrw j u hj => by
                    have hr1 := (hrw ⟨.slc 6 (.nv 10) (.nv 11), .nv 10, 9, 1, [.l 1]⟩ (by simp)).1
                    simp only [conts, List.flatMap_cons, List.flatMap_nil, Seg.den, Sy.dens, Sy.den, E.i, E.b, E.t, gd, Env.push, List.cons_append, List.nil_append, List.append_nil, Int.toNat_natCast, List.append_nil, Int.toNat_natCast] at hr1
                    simp only [Sy.dens, Sy.den, E.i, E.b, E.t, gd, Env.push, List.cons_append, List.nil_append, List.append_nil, Int.toNat_natCast, Int.toNat_natCast, Int.toNat_zero] at had
                    exact sub_cells hr1 q zs.length hq' (Nat.le_refl _) had (by simpa using hj)) ?_
                all_goals refine den_app fun a9 c9 _ _ _ => ?_
                all_goals
                  refine den_again ⟨(Px.names args[i]).length - (m + 1), by omega, m + 1, zs.take q ++ [s] ++ zs.drop q, a9, c9, ?_, ?_, Px.ins_rises hri hq' hlt hge, ?_, ?_, by omega, rfl⟩
                  · rw [Px.ins_len hq']
                    simp only [Sy.dens, Sy.den, E.i, E.b, E.t, gd, Env.push, List.cons_append, List.nil_append, List.append_nil, Int.toNat_natCast, Int.toNat_natCast, Int.toNat_zero]
                    rw [w64i (by omega) (by omega)]
                    simp only [List.cons.injEq, Value.slice.injEq, and_true, true_and]
                    refine ⟨rfl, ?_⟩
                    omega
                  · simp [rowConts, conts, Seg.den, gd, Env.push, Sy.den, E.t, strB]
                  · intro x
                    rw [htk]
                    exact Px.ins_mem (hmem x)
                  · rw [Px.ins_len hq']; omega
            · simp only [Sy.dens, Sy.den, E.i, E.b, E.t, gd, Env.push, List.cons_append, List.nil_append, List.append_nil, Int.toNat_natCast, ltB_false] at c3
              have hge : ∀ x, zs[q]? = some x → ¬ x < s ∧ ¬ x = s := fun x hx => by
                rw [List.getElem?_eq_none (by omega)] at hx; cases hx
              refine den_grow fun V3 z3 => den_grow fun V4 z4 => den_chk ?_ (den_chk ?_ (den_sub (den_chk ?_ (den_chk ?_ (den_look ⟨⟨s.toArray⟩, fun V xV => ?_, ?_⟩)))))
              · simp only [Sy.dens, Sy.den, E.i, E.b, E.t, gd, Env.push, List.cons_append, List.nil_append, List.append_nil, Int.toNat_natCast]; exact leB_t (by omega)
              · simp only [Sy.dens, Sy.den, E.i, E.b, E.t, gd, Env.push, List.cons_append, List.nil_append, List.append_nil, Int.toNat_natCast]; exact leB_t (by omega)
              · simp only [E.b, gd, Env.push]; exact SlI.some_of hM (by omega)
              · simp only [Sy.dens, Sy.den, E.i, E.b, E.t, gd, Env.push, List.cons_append, List.nil_append, List.append_nil, Int.toNat_natCast]; exact leB_t (by omega)
              · have := lk V (ext_trans (ext_trans (ext_trans z2 z3) z4) xV)
                simp only [Sy.dens, Sy.den, E.i, E.b, E.t, gd, Env.push, List.cons_append, List.nil_append, List.append_nil, Int.toNat_natCast] at this ⊢
                exact this
              repeat' (first
                | (with_reducible refine den_both ?_ ?_)
                | (with_reducible refine den_grow fun _ _ => ?_)
                | (with_reducible refine den_app fun _ _ _ _ _ => ?_)
                | (with_reducible refine den_sub ?_)
                | (with_reducible refine den_chk (chk_le ?_) ?_))
              all_goals try (with_reducible show @LE.le Int _ _ _; simp only [Sy.dens, Sy.den, E.i, E.b, E.t, gd, Env.push, List.cons_append, List.nil_append, List.append_nil, Int.toNat_natCast]; first | omega | (simp only [Int.toNat_natCast, Int.toNat_zero]; omega))
              all_goals refine den_cells_r ((zs.take q).map strB) (by
                  simp only [Env.push, List.cons_append, List.nil_append, List.append_nil]
                  simp only [Sy.dens, Sy.den, E.i, E.b, E.t, gd, Env.push, List.cons_append, List.nil_append, List.append_nil, Int.toNat_natCast, List.length_map, List.length_take]
                  (try simp only [Int.toNat_natCast, Int.toNat_zero])
                  omega) (fun u hu => by obtain ⟨x, _, rfl⟩ := List.mem_map.1 hu; rfl) (fun hn0 => by
                  simp only [Sy.dens, Sy.den, E.i, E.b, E.t, gd, Env.push, List.cons_append, List.nil_append, List.append_nil, Int.toNat_natCast, Int.toNat_natCast, Int.toNat_zero] at hn0
                  have h0 : a' = none := subA_none hn0
                  obtain ⟨k1, k2⟩ := hnil h0
                  simp only [Sy.dens, Sy.den, E.i, E.b, E.t, gd, Env.push, List.cons_append, List.nil_append, List.append_nil, Int.toNat_natCast]
                  (try simp only [Int.toNat_natCast, Int.toNat_zero])
                  omega) (fun ad had W' xW hrw j u hj => by
                  have hr1 := (hrw ⟨.slc 6 (.nv 10) (.nv 11), .nv 10, 9, 1, [.l 1]⟩ (by simp)).1
                  simp only [conts, List.flatMap_cons, List.flatMap_nil, Seg.den, Sy.dens, Sy.den, E.i, E.b, E.t, gd, Env.push, List.cons_append, List.nil_append, List.append_nil, Int.toNat_natCast, List.append_nil, Int.toNat_natCast] at hr1
                  simp only [Sy.dens, Sy.den, E.i, E.b, E.t, gd, Env.push, List.cons_append, List.nil_append, List.append_nil, Int.toNat_natCast, Int.toNat_natCast, Int.toNat_zero] at had
                  exact sub_cells hr1 0 q (Nat.zero_le _) hq' had (by simpa using hj)) ?_
              repeat' (first
                | (with_reducible refine den_both ?_ ?_)
                | (with_reducible refine den_grow fun _ _ => ?_)
                | (with_reducible refine den_app fun _ _ _ _ _ => ?_)
                | (with_reducible refine den_sub ?_)
                | (with_reducible refine den_chk (chk_le ?_) ?_))
              all_goals try (with_reducible show @LE.le Int _ _ _; simp only [Sy.dens, Sy.den, E.i, E.b, E.t, gd, Env.push, List.cons_append, List.nil_append, List.append_nil, Int.toNat_natCast]; first | omega | (simp only [Int.toNat_natCast, Int.toNat_zero]; omega))
              all_goals refine den_cells_r ((zs.drop q).map strB) (by
                  simp only [Env.push, List.cons_append, List.nil_append, List.append_nil]
                  simp only [Sy.dens, Sy.den, E.i, E.b, E.t, gd, Env.push, List.cons_append, List.nil_append, List.append_nil, Int.toNat_natCast, List.length_map, List.length_drop]
                  (try simp only [Int.toNat_natCast, Int.toNat_zero])
                  omega) (fun u hu => by obtain ⟨x, _, rfl⟩ := List.mem_map.1 hu; rfl) (fun hn0 => by
                  simp only [Sy.dens, Sy.den, E.i, E.b, E.t, gd, Env.push, List.cons_append, List.nil_append, List.append_nil, Int.toNat_natCast, Int.toNat_natCast, Int.toNat_zero] at hn0
                  have h0 : a' = none := subA_none hn0
                  obtain ⟨k1, k2⟩ := hnil h0
                  simp only [Sy.dens, Sy.den, E.i, E.b, E.t, gd, Env.push, List.cons_append, List.nil_append, List.append_nil, Int.toNat_natCast]
                  (try simp only [Int.toNat_natCast, Int.toNat_zero])
                  omega) (fun ad had W' xW hrw j u hj => by
                  have hr1 := (hrw ⟨.slc 6 (.nv 10) (.nv 11), .nv 10, 9, 1, [.l 1]⟩ (by simp)).1
                  simp only [conts, List.flatMap_cons, List.flatMap_nil, Seg.den, Sy.dens, Sy.den, E.i, E.b, E.t, gd, Env.push, List.cons_append, List.nil_append, List.append_nil, Int.toNat_natCast, List.append_nil, Int.toNat_natCast] at hr1
                  simp only [Sy.dens, Sy.den, E.i, E.b, E.t, gd, Env.push, List.cons_append, List.nil_append, List.append_nil, Int.toNat_natCast, Int.toNat_natCast, Int.toNat_zero] at had
                  exact sub_cells hr1 q zs.length hq' (Nat.le_refl _) had (by simpa using hj)) ?_
              all_goals refine den_app fun a9 c9 _ _ _ => ?_
              all_goals
                refine den_again ⟨(Px.names args[i]).length - (m + 1), by omega, m + 1, zs.take q ++ [s] ++ zs.drop q, a9, c9, ?_, ?_, Px.ins_rises hri hq' hlt hge, ?_, ?_, by omega, rfl⟩
                · rw [Px.ins_len hq']
                  simp only [Sy.dens, Sy.den, E.i, E.b, E.t, gd, Env.push, List.cons_append, List.nil_append, List.append_nil, Int.toNat_natCast, Int.toNat_natCast, Int.toNat_zero]
                  rw [w64i (by omega) (by omega)]
                  simp only [List.cons.injEq, Value.slice.injEq, and_true, true_and]
                  refine ⟨rfl, ?_⟩
                  omega
                · simp [rowConts, conts, Seg.den, gd, Env.push, Sy.den, E.t, strB]
                · intro x
                  rw [htk]
                  exact Px.ins_mem (hmem x)
                · rw [Px.ins_len hq']; omega
          · simp only [Sy.dens, Sy.den, E.i, E.b, E.t, gd, Env.push, List.cons_append, List.nil_append, List.append_nil, Int.toNat_natCast, ltB_false] at c2
            have hme : m = (Px.names args[i]).length := by omega
            refine den_again ⟨args.length - (i + 1), by omega, i + 1, zs, a', c', ?_, (by simp [rowConts, conts, Seg.den, gd, Env.push]), hri, fun x => ?_, ?_, by omega, rfl⟩
            · simp only [Sy.dens, Sy.den, E.i, E.b, E.t, gd, Env.push, List.cons_append, List.nil_append, List.append_nil, Int.toNat_natCast]
              rw [w64i (by omega) (by omega)]; rfl
            · rw [hmem, hme, List.take_length, ← hsn, List.mem_append]
            · rw [← hsn, List.length_append]; omega
      · simp only [Sy.dens, Sy.den, E.i, E.b, E.t, gd, Env.push, List.cons_append, List.nil_append, List.append_nil, Int.toNat_natCast, ltB_false] at c1
        have hie : i = args.length := by omega
        rw [hie, List.take_length] at hmem
        refine den_ret fun _ _ hrw => ?_
        have hr5 := (hrw _ (List.mem_cons_self ..)).1
        simp only [conts, List.flatMap_cons, List.flatMap_nil, Seg.den, Sy.dens, Sy.den, E.i, E.b, E.t, gd, Env.push, List.cons_append, List.nil_append, List.append_nil, Int.toNat_natCast, List.append_nil] at hr5
        have hnm : Px.names (.mk op k0 nn t nm args) = zs := Px.rises_eq (Px.names_rises _) hri fun x => by
          rw [hmem, Px.mem_names]
          simp only [Px.opOf, Px.nmOf, Px.Ex.args]
          simp [c0]
        rw [hnm]
        exact ⟨_, rfl, a', c', rfl, owns_sl hr5⟩
    · have c0 : ¬ op = 2 := by simpa [Sy.dens, Sy.den, E.i, E.b, E.t, gd, Env.push, List.cons_append, List.nil_append, List.append_nil, Int.toNat_natCast] using c0
      refine den_loop (fun k vs ls _ => ∃ (i : Nat) (zs : List Lx.Bs) (a' : Option Addr) (c' : Nat), vs = [.int .i64 (i : Nat), .slice a' zs.length c'] ∧ ls = [zs.map strB] ∧ Px.Rises zs ∧ (∀ x, x ∈ zs ↔ x ∈ ([] : List Lx.Bs) ∨ x ∈ Px.namess (args.take i)) ∧ zs.length ≤ 1 + (Px.namess (args.take i)).length ∧ i ≤ args.length ∧ k = args.length - i) args.length ⟨0, [], none, 0, rfl, rfl, List.Pairwise.nil, fun x => by simp [Px.namess], by simp, Nat.zero_le _, rfl⟩ ?_
      rintro k vs ls' W2 x2 ⟨i, zs, a', c', rfl, rfl, hri, hmem, hzl, hi, rfl⟩
      have x2' := ext_trans x1 x2
      refine ⟨(i : Int), zs.length, c', a', zs.map strB, rfl, (by simp [rowConts, conts, Seg.den, gd, Env.push]), fun hrow => ?_⟩
      simp only [Env.push, List.cons_append, List.nil_append, List.append_nil]
      have hk1 := Px.namess_take args i
      have hk2 := Px.namess_nodes (args.take i)
      refine den_br (fun c1 => ?_) fun c1 => ?_
      · simp only [Sy.dens, Sy.den, E.i, E.b, E.t, gd, Env.push, List.cons_append, List.nil_append, List.append_nil, Int.toNat_natCast, ltB_true] at c1
        have hil : i < args.length := by omega
        have hx : args[i]? = some args[i] := List.getElem?_eq_getElem hil
        obtain ⟨us, hu, hg⟩ := exs_get hE hx
        have hu2 : ExI W.all args[i] us := hu
        obtain ⟨op', k', nn', t', nm', al', len', cl', rfl⟩ := hu.shape
        refine den_chk ?_ (den_chk ?_ (den_look ⟨op', k', nn', len', cl', t', nm', al', fun W3 x3 => ?_, ?_⟩))
        · simp only [E.b, gd, Env.push]; exact SlI.some_of hS (by omega)
        · simp only [Sy.dens, Sy.den, E.i, E.b, E.t, gd, Env.push, List.cons_append, List.nil_append, List.append_nil, Int.toNat_natCast]; exact leB_t (by omega)
        · have := sl_look_at (W := W.all) hS ex_agg ex_size rfl (by decide) hg (ext_trans x2' x3)
          simp only [Sy.dens, Sy.den, E.i, E.b, E.t, gd, Env.push, List.cons_append, List.nil_append, List.append_nil, Int.toNat_natCast] at this ⊢
          exact this
        · simp only [Env.push, List.cons_append, List.nil_append, List.append_nil]
          have hde := Px.deep_mem (List.getElem_mem hil)
          have hno := Px.nodes_mem (List.getElem_mem hil)
          have hq := ih args[i] _ W2 (by omega) (by omega) (hu2.ext x2')
          refine den_call_i (fun _ _ => hq) fun v w' _ ⟨a5, c5, hv, hA⟩ => ⟨(Px.names args[i]).length, c5, a5, hv, fun W5 e5 x5 n5 => ?_⟩
          have hM : SlI W5 a5 (Px.names args[i]).length c5 1 ((Px.names args[i]).map strB) := hA.stay e5 n5
          simp only [Env.push, List.cons_append, List.nil_append, List.append_nil]
          have hnl := Px.names_nodes args[i]
          have hsn := Px.namess_snoc hil
          refine den_loop (fun k vs ls _ => ∃ (m : Nat) (zs : List Lx.Bs) (a' : Option Addr) (c' : Nat), vs = [.int .i64 (m : Nat), .slice a' zs.length c'] ∧ ls = [zs.map strB] ∧ Px.Rises zs ∧ (∀ x, x ∈ zs ↔ x ∈ ([] : List Lx.Bs) ∨ x ∈ Px.namess (args.take i) ∨ x ∈ (Px.names args[i]).take m) ∧ zs.length ≤ 1 + (Px.namess (args.take i)).length + m ∧ m ≤ (Px.names args[i]).length ∧ k = (Px.names args[i]).length - m) (Px.names args[i]).length ⟨0, zs, a', c', rfl, (by simp [rowConts, conts, Seg.den, gd, Env.push]), hri, fun x => by rw [hmem]; simp, by omega, Nat.zero_le _, rfl⟩ ?_
          clear hri hmem hzl hrow
          rintro k vs ls' V1 z1 ⟨m, zs, a', c', rfl, rfl, hri, hmem, hzl, hm, rfl⟩
          refine ⟨(m : Int), zs.length, c', a', zs.map strB, rfl, (by simp [rowConts, conts, Seg.den, gd, Env.push]), fun hrow => ?_⟩
          simp only [Env.push, List.cons_append, List.nil_append, List.append_nil]
          have hrz := (hrow _ (List.mem_cons_self ..)).1
          simp only [conts, List.flatMap_cons, List.flatMap_nil, Seg.den, Sy.dens, Sy.den, E.i, E.b, E.t, gd, Env.push, List.cons_append, List.nil_append, List.append_nil, Int.toNat_natCast, List.append_nil] at hrz
          have hnil : a' = none → zs.length = 0 ∧ c' = 0 := fun h0 => by
            rcases hrz.2 with ⟨e, _⟩ | ⟨g, cap, cur, e, _⟩
            · simp only [Value.slice.injEq] at e; exact ⟨e.2.1, e.2.2⟩
            · simp only [Value.slice.injEq] at e; rw [h0] at e; cases e.1
          have hcap : zs.length ≤ c' := by
            rcases hrz.2 with ⟨e, _⟩ | ⟨g, cap, cur, e, _, _, h, _⟩
            · simp only [Value.slice.injEq] at e; omega
            · simp only [Value.slice.injEq] at e; (try simp only [Int.toNat_natCast] at h); omega
          refine den_br (fun c2 => ?_) fun c2 => ?_
          · simp only [Sy.dens, Sy.den, E.i, E.b, E.t, gd, Env.push, List.cons_append, List.nil_append, List.append_nil, Int.toNat_natCast, ltB_true] at c2
            have hml : m < (Px.names args[i]).length := by omega
            have hgm : (Px.names args[i])[m]? = some (Px.names args[i])[m] := List.getElem?_eq_getElem hml
            have htk : (Px.names args[i]).take (m + 1) = (Px.names args[i]).take m ++ [(Px.names args[i])[m]] := List.take_succ_eq_append_getElem hml
            generalize hs : (Px.names args[i])[m] = s at hgm htk
            have lk : ∀ V, Ext V1 V → _ := fun V xV => str_lookT hM hgm (ext_trans z1 xV)
            refine den_loop (fun j vs ls _ => ∃ q : Nat, vs = [.int .i64 (q : Nat)] ∧ ls = [] ∧ q ≤ zs.length ∧ j = zs.length - q ∧ ∀ x ∈ zs.take q, x < s) zs.length ⟨0, rfl, rfl, Nat.zero_le _, rfl, fun x h => by simp at h⟩ ?_
            rintro j vs ls' V2 z2 ⟨q, rfl, rfl, hq', rfl, hlt⟩
            refine ⟨(q : Int), rfl, rfl, fun _ => ?_⟩
            refine den_chk ?_ (den_chk ?_ (den_chk ?_ (den_br (fun c3 => ?_) fun c3 => ?_)))
            · simp only [Sy.dens, Sy.den, E.i, E.b, E.t, gd, Env.push, List.cons_append, List.nil_append, List.append_nil, Int.toNat_natCast, Bool.or_eq_true, Bool.not_eq_true']
              by_cases h : q < zs.length
              · right
                cases ha : a' with
                | none => have := hnil ha; omega
                | some _ => rfl
              · left; exact decide_eq_false (by omega)
            · simp only [Sy.dens, Sy.den, E.i, E.b, E.t, gd, Env.push, List.cons_append, List.nil_append, List.append_nil, Int.toNat_natCast, Bool.or_eq_true]; exact .inr (leB_t (by omega))
            · simp only [Sy.dens, Sy.den, E.i, E.b, E.t, gd, Env.push, List.cons_append, List.nil_append, List.append_nil, Int.toNat_natCast, Bool.or_eq_true, Bool.not_eq_true']
              by_cases h : q < zs.length
              · exact .inr (ltB_t (by omega))
              · left; exact decide_eq_false (by omega)
            · simp only [Sy.dens, Sy.den, E.i, E.b, E.t, gd, Env.push, List.cons_append, List.nil_append, List.append_nil, Int.toNat_natCast, ltB_true] at c3
              have hql : q < zs.length := by omega
              have hgq : zs[q]? = some zs[q] := List.getElem?_eq_getElem hql
              refine den_rlook ⟨⟨zs[q].toArray⟩, fun w hw => ?_, den_chk ?_ (den_chk ?_ (den_look ⟨⟨s.toArray⟩, fun V xV => ?_, den_grow fun V3 z3 => den_br (fun c4 => den_again ⟨zs.length - (q + 1), by omega, q + 1, ?_, rfl, by omega, rfl, ?_⟩) fun c4 => den_rlook ⟨⟨zs[q].toArray⟩, fun w hw => ?_, den_look ⟨⟨s.toArray⟩, fun V xV => ?_, den_grow fun V4 z4 => den_br (fun c5 => den_again ⟨(Px.names args[i]).length - (m + 1), by omega, m + 1, zs, a', c', ?_, (by simp [rowConts, conts, Seg.den, gd, Env.push]), hri, ?_, by omega, by omega, rfl⟩) fun c5 => ?_⟩⟩⟩))⟩
              · have h1 := hw.1
                simp only [conts, List.flatMap_cons, List.flatMap_nil, Seg.den, Sy.dens, Sy.den, E.i, E.b, E.t, gd, Env.push, List.cons_append, List.nil_append, List.append_nil, Int.toNat_natCast, List.append_nil, Int.toNat_natCast] at h1
                have := row_lookT h1 hgq
                simp only [Sy.dens, Sy.den, E.i, E.b, E.t, gd, Env.push, List.cons_append, List.nil_append, List.append_nil, Int.toNat_natCast] at this ⊢
                exact this
              · simp only [E.b, gd, Env.push]; exact SlI.some_of hM (by omega)
              · simp only [Sy.dens, Sy.den, E.i, E.b, E.t, gd, Env.push, List.cons_append, List.nil_append, List.append_nil, Int.toNat_natCast]; exact leB_t (by omega)
              · have := lk V (ext_trans z2 xV)
                simp only [Sy.dens, Sy.den, E.i, E.b, E.t, gd, Env.push, List.cons_append, List.nil_append, List.append_nil, Int.toNat_natCast] at this ⊢
                exact this
              · simp only [Sy.dens, Sy.den, E.i, E.b, E.t, gd, Env.push, List.cons_append, List.nil_append, List.append_nil, Int.toNat_natCast]
                rw [w64i (by omega) (by omega)]; rfl
              · simp only [Sy.dens, Sy.den, E.i, E.b, E.t, gd, Env.push, List.cons_append, List.nil_append, List.append_nil, Int.toNat_natCast, tlt_ba, Px.bless_eq, decide_eq_true_eq] at c4
                intro x hx
                rw [List.take_succ_eq_append_getElem hql] at hx
                rcases List.mem_append.1 hx with hx | hx
                · exact hlt x hx
                · rw [List.mem_singleton.1 hx]; exact c4
              · have h1 := hw.1
                simp only [conts, List.flatMap_cons, List.flatMap_nil, Seg.den, Sy.dens, Sy.den, E.i, E.b, E.t, gd, Env.push, List.cons_append, List.nil_append, List.append_nil, Int.toNat_natCast, List.append_nil, Int.toNat_natCast] at h1
                have := row_lookT h1 hgq
                simp only [Sy.dens, Sy.den, E.i, E.b, E.t, gd, Env.push, List.cons_append, List.nil_append, List.append_nil, Int.toNat_natCast] at this ⊢
                exact this
              · have := lk V (ext_trans (ext_trans z2 z3) xV)
                simp only [Sy.dens, Sy.den, E.i, E.b, E.t, gd, Env.push, List.cons_append, List.nil_append, List.append_nil, Int.toNat_natCast] at this ⊢
                exact this
              · simp only [Sy.dens, Sy.den, E.i, E.b, E.t, gd, Env.push, List.cons_append, List.nil_append, List.append_nil, Int.toNat_natCast]
                rw [w64i (by omega) (by omega)]; rfl
              · simp only [Sy.dens, Sy.den, E.i, E.b, E.t, gd, Env.push, List.cons_append, List.nil_append, List.append_nil, Int.toNat_natCast, teq_ba, beq_iff_eq] at c5
                intro x
                rw [hmem, htk]
                constructor
                · rintro (h | h | h)
                  · exact .inl h
                  · exact .inr (.inl h)
                  · exact .inr (.inr (List.mem_append.2 (.inl h)))
                · rintro (h | h | h)
                  · exact .inl h
                  · exact .inr (.inl h)
                  · rcases List.mem_append.1 h with h | h
                    · exact .inr (.inr h)
                    · exact (hmem x).1 (by rw [List.mem_singleton.1 h, ← c5]; exact List.getElem_mem hql)
              · simp only [Sy.dens, Sy.den, E.i, E.b, E.t, gd, Env.push, List.cons_append, List.nil_append, List.append_nil, Int.toNat_natCast, tlt_ba, Px.bless_eq, decide_eq_false_iff_not] at c4
                simp only [Sy.dens, Sy.den, E.i, E.b, E.t, gd, Env.push, List.cons_append, List.nil_append, List.append_nil, Int.toNat_natCast, teq_ba, beq_eq_false_iff_ne, ne_eq] at c5
                have hge : ∀ x, zs[q]? = some x → ¬ x < s ∧ ¬ x = s := fun x hx => by
                  rw [hgq] at hx
                  obtain rfl := Option.some.inj hx
                  exact ⟨c4, c5⟩
                refine den_chk ?_ (den_sub (den_look ⟨⟨s.toArray⟩, fun V xV => ?_, ?_⟩))
                · simp only [Sy.dens, Sy.den, E.i, E.b, E.t, gd, Env.push, List.cons_append, List.nil_append, List.append_nil, Int.toNat_natCast]; exact leB_t (by omega)
                · have := lk V (ext_trans (ext_trans (ext_trans z2 z3) z4) xV)
                  simp only [Sy.dens, Sy.den, E.i, E.b, E.t, gd, Env.push, List.cons_append, List.nil_append, List.append_nil, Int.toNat_natCast] at this ⊢
                  exact this
                repeat' (first
                  | (with_reducible refine den_both ?_ ?_)
                  | (with_reducible refine den_grow fun _ _ => ?_)
                  | (with_reducible refine den_app fun _ _ _ _ _ => ?_)
                  | (with_reducible refine den_sub ?_)
                  | (with_reducible refine den_chk (chk_le ?_) ?_))
                all_goals try (with_reducible show @LE.le Int _ _ _; simp only [Sy.dens, Sy.den, E.i, E.b, E.t, gd, Env.push, List.cons_append, List.nil_append, List.append_nil, Int.toNat_natCast]; first | omega | (simp only [Int.toNat_natCast, Int.toNat_zero]; omega))
                all_goals refine den_cells_r ((zs.take q).map strB) (by
                    simp only [Env.push, List.cons_append, List.nil_append, List.append_nil]
                    simp only [Sy.dens, Sy.den, E.i, E.b, E.t, gd, Env.push, List.cons_append, List.nil_append, List.append_nil, Int.toNat_natCast, List.length_map, List.length_take]
                    (try simp only [Int.toNat_natCast, Int.toNat_zero])
                    omega) (fun u hu => by obtain ⟨x, _, rfl⟩ := List.mem_map.1 hu; rfl) (fun hn0 => by
                    simp only [Sy.dens, Sy.den, E.i, E.b, E.t, gd, Env.push, List.cons_append, List.nil_append, List.append_nil, Int.toNat_natCast, Int.toNat_natCast, Int.toNat_zero] at hn0
                    have h0 : a' = none := subA_none hn0
                    obtain ⟨k1, k2⟩ := hnil h0
                    simp only [Sy.dens, Sy.den, E.i, E.b, E.t, gd, Env.push, List.cons_append, List.nil_append, List.append_nil, Int.toNat_natCast]
                    (try simp only [Int.toNat_natCast, Int.toNat_zero])
                    omega) (fun ad had W' xW hrw j u hj => by
                    have hr1 := (hrw ⟨.slc 4 (.nv 8) (.nv 9), .nv 8, 9, 1, [.l 1]⟩ (by simp)).1
                    simp only [conts, List.flatMap_cons, List.flatMap_nil, Seg.den, Sy.dens, Sy.den, E.i, E.b, E.t, gd, Env.push, List.cons_append, List.nil_append, List.append_nil, Int.toNat_natCast, List.append_nil, Int.toNat_natCast] at hr1
                    simp only [Sy.dens, Sy.den, E.i, E.b, E.t, gd, Env.push, List.cons_append, List.nil_append, List.append_nil, Int.toNat_natCast, Int.toNat_natCast, Int.toNat_zero] at had
                    exact sub_cells hr1 0 q (Nat.zero_le _) hq' had (by simpa using hj)) ?_
                repeat' (first
                  | (with_reducible refine den_both ?_ ?_)
                  | (with_reducible refine den_grow fun _ _ => ?_)
                  | (with_reducible refine den_app fun _ _ _ _ _ => ?_)
                  | (with_reducible refine den_sub ?_)
                  | (with_reducible refine den_chk (chk_le ?_) ?_))
                all_goals try (with_reducible show @LE.le Int _ _ _; simp only [Sy.dens, Sy.den, E.i, E.b, E.t, gd, Env.push, List.cons_append, List.nil_append, List.append_nil, Int.toNat_natCast]; first | omega | (simp only [Int.toNat_natCast, Int.toNat_zero]; omega))
                all_goals refine den_cells_r ((zs.drop q).map strB) (by
                    simp only [Env.push, List.cons_append, List.nil_append, List.append_nil]
                    simp only [Sy.dens, Sy.den, E.i, E.b, E.t, gd, Env.push, List.cons_append, List.nil_append, List.append_nil, Int.toNat_natCast, List.length_map, List.length_drop]
                    (try simp only [Int.toNat_natCast, Int.toNat_zero])
                    omega) (fun u hu => by obtain ⟨x, _, rfl⟩ := List.mem_map.1 hu; rfl) (fun hn0 => by
                    simp only [Sy.dens, Sy.den, E.i, E.b, E.t, gd, Env.push, List.cons_append, List.nil_append, List.append_nil, Int.toNat_natCast, Int.toNat_natCast, Int.toNat_zero] at hn0
                    have h0 : a' = none := subA_none hn0
                    obtain ⟨k1, k2⟩ := hnil h0
                    simp only [Sy.dens, Sy.den, E.i, E.b, E.t, gd, Env.push, List.cons_append, List.nil_append, List.append_nil, Int.toNat_natCast]
                    (try simp only [Int.toNat_natCast, Int.toNat_zero])
                    omega) (fun ad had W' xW hrw j u hj => by
                    have hr1 := (hrw ⟨.slc 4 (.nv 8) (.nv 9), .nv 8, 9, 1, [.l 1]⟩ (by simp)).1
                    simp only [conts, List.flatMap_cons, List.flatMap_nil, Seg.den, Sy.dens, Sy.den, E.i, E.b, E.t, gd, Env.push, List.cons_append, List.nil_append, List.append_nil, Int.toNat_natCast, List.append_nil, Int.toNat_natCast] at hr1
                    simp only [Sy.dens, Sy.den, E.i, E.b, E.t, gd, Env.push, List.cons_append, List.nil_append, List.append_nil, Int.toNat_natCast, Int.toNat_natCast, Int.toNat_zero] at had
                    exact sub_cells hr1 q zs.length hq' (Nat.le_refl _) had (by simpa using hj)) ?_
                all_goals refine den_app fun a9 c9 _ _ _ => ?_
                all_goals
                  refine den_again ⟨(Px.names args[i]).length - (m + 1), by omega, m + 1, zs.take q ++ [s] ++ zs.drop q, a9, c9, ?_, ?_, Px.ins_rises hri hq' hlt hge, ?_, ?_, by omega, rfl⟩
                  · rw [Px.ins_len hq']
                    simp only [Sy.dens, Sy.den, E.i, E.b, E.t, gd, Env.push, List.cons_append, List.nil_append, List.append_nil, Int.toNat_natCast, Int.toNat_natCast, Int.toNat_zero]
                    rw [w64i (by omega) (by omega)]
                    simp only [List.cons.injEq, Value.slice.injEq, and_true, true_and]
                    refine ⟨rfl, ?_⟩
                    omega
                  · simp [rowConts, conts, Seg.den, gd, Env.push, Sy.den, E.t, strB]
                  · intro x
                    rw [htk]
                    exact Px.ins_mem (hmem x)
                  · rw [Px.ins_len hq']; omega
            · simp only [Sy.dens, Sy.den, E.i, E.b, E.t, gd, Env.push, List.cons_append, List.nil_append, List.append_nil, Int.toNat_natCast, ltB_false] at c3
              have hge : ∀ x, zs[q]? = some x → ¬ x < s ∧ ¬ x = s := fun x hx => by
                rw [List.getElem?_eq_none (by omega)] at hx; cases hx
              refine den_grow fun V3 z3 => den_grow fun V4 z4 => den_chk ?_ (den_chk ?_ (den_sub (den_chk ?_ (den_chk ?_ (den_look ⟨⟨s.toArray⟩, fun V xV => ?_, ?_⟩)))))
              · simp only [Sy.dens, Sy.den, E.i, E.b, E.t, gd, Env.push, List.cons_append, List.nil_append, List.append_nil, Int.toNat_natCast]; exact leB_t (by omega)
              · simp only [Sy.dens, Sy.den, E.i, E.b, E.t, gd, Env.push, List.cons_append, List.nil_append, List.append_nil, Int.toNat_natCast]; exact leB_t (by omega)
              · simp only [E.b, gd, Env.push]; exact SlI.some_of hM (by omega)
              · simp only [Sy.dens, Sy.den, E.i, E.b, E.t, gd, Env.push, List.cons_append, List.nil_append, List.append_nil, Int.toNat_natCast]; exact leB_t (by omega)
              · have := lk V (ext_trans (ext_trans (ext_trans z2 z3) z4) xV)
                simp only [Sy.dens, Sy.den, E.i, E.b, E.t, gd, Env.push, List.cons_append, List.nil_append, List.append_nil, Int.toNat_natCast] at this ⊢
                exact this
              repeat' (first
                | (with_reducible refine den_both ?_ ?_)
                | (with_reducible refine den_grow fun _ _ => ?_)
                | (with_reducible refine den_app fun _ _ _ _ _ => ?_)
                | (with_reducible refine den_sub ?_)
                | (with_reducible refine den_chk (chk_le ?_) ?_))
              all_goals try (with_reducible show @LE.le Int _ _ _; simp only [Sy.dens, Sy.den, E.i, E.b, E.t, gd, Env.push, List.cons_append, List.nil_append, List.append_nil, Int.toNat_natCast]; first | omega | (simp only [Int.toNat_natCast, Int.toNat_zero]; omega))
              all_goals refine den_cells_r ((zs.take q).map strB) (by
                  simp only [Env.push, List.cons_append, List.nil_append, List.append_nil]
                  simp only [Sy.dens, Sy.den, E.i, E.b, E.t, gd, Env.push, List.cons_append, List.nil_append, List.append_nil, Int.toNat_natCast, List.length_map, List.length_take]
                  (try simp only [Int.toNat_natCast, Int.toNat_zero])
                  omega) (fun u hu => by obtain ⟨x, _, rfl⟩ := List.mem_map.1 hu; rfl) (fun hn0 => by
                  simp only [Sy.dens, Sy.den, E.i, E.b, E.t, gd, Env.push, List.cons_append, List.nil_append, List.append_nil, Int.toNat_natCast, Int.toNat_natCast, Int.toNat_zero] at hn0
                  have h0 : a' = none := subA_none hn0
                  obtain ⟨k1, k2⟩ := hnil h0
                  simp only [Sy.dens, Sy.den, E.i, E.b, E.t, gd, Env.push, List.cons_append, List.nil_append, List.append_nil, Int.toNat_natCast]
                  (try simp only [Int.toNat_natCast, Int.toNat_zero])
                  omega) (fun ad had W' xW hrw j u hj => by
                  have hr1 := (hrw ⟨.slc 4 (.nv 8) (.nv 9), .nv 8, 9, 1, [.l 1]⟩ (by simp)).1
                  simp only [conts, List.flatMap_cons, List.flatMap_nil, Seg.den, Sy.dens, Sy.den, E.i, E.b, E.t, gd, Env.push, List.cons_append, List.nil_append, List.append_nil, Int.toNat_natCast, List.append_nil, Int.toNat_natCast] at hr1
                  simp only [Sy.dens, Sy.den, E.i, E.b, E.t, gd, Env.push, List.cons_append, List.nil_append, List.append_nil, Int.toNat_natCast, Int.toNat_natCast, Int.toNat_zero] at had
                  exact sub_cells hr1 0 q (Nat.zero_le _) hq' had (by simpa using hj)) ?_
              repeat' (first
                | (with_reducible refine den_both ?_ ?_)
                | (with_reducible refine den_grow fun _ _ => ?_)
                | (with_reducible refine den_app fun _ _ _ _ _ => ?_)
                | (with_reducible refine den_sub ?_)
                | (with_reducible refine den_chk (chk_le ?_) ?_))
              all_goals try (with_reducible show @LE.le Int _ _ _; simp only [Sy.dens, Sy.den, E.i, E.b, E.t, gd, Env.push, List.cons_append, List.nil_append, List.append_nil, Int.toNat_natCast]; first | omega | (simp only [Int.toNat_natCast, Int.toNat_zero]; omega))
              all_goals refine den_cells_r ((zs.drop q).map strB) (by
                  simp only [Env.push, List.cons_append, List.nil_append, List.append_nil]
                  simp only [Sy.dens, Sy.den, E.i, E.b, E.t, gd, Env.push, List.cons_append, List.nil_append, List.append_nil, Int.toNat_natCast, List.length_map, List.length_drop]
                  (try simp only [Int.toNat_natCast, Int.toNat_zero])
                  omega) (fun u hu => by obtain ⟨x, _, rfl⟩ := List.mem_map.1 hu; rfl) (fun hn0 => by
                  simp only [Sy.dens, Sy.den, E.i, E.b, E.t, gd, Env.push, List.cons_append, List.nil_append, List.append_nil, Int.toNat_natCast, Int.toNat_natCast, Int.toNat_zero] at hn0
                  have h0 : a' = none := subA_none hn0
                  obtain ⟨k1, k2⟩ := hnil h0
                  simp only [Sy.dens, Sy.den, E.i, E.b, E.t, gd, Env.push, List.cons_append, List.nil_append, List.append_nil, Int.toNat_natCast]
                  (try simp only [Int.toNat_natCast, Int.toNat_zero])
                  omega) (fun ad had W' xW hrw j u hj => by
                  have hr1 := (hrw ⟨.slc 4 (.nv 8) (.nv 9), .nv 8, 9, 1, [.l 1]⟩ (by simp)).1
                  simp only [conts, List.flatMap_cons, List.flatMap_nil, Seg.den, Sy.dens, Sy.den, E.i, E.b, E.t, gd, Env.push, List.cons_append, List.nil_append, List.append_nil, Int.toNat_natCast, List.append_nil, Int.toNat_natCast] at hr1
                  simp only [Sy.dens, Sy.den, E.i, E.b, E.t, gd, Env.push, List.cons_append, List.nil_append, List.append_nil, Int.toNat_natCast, Int.toNat_natCast, Int.toNat_zero] at had
                  exact sub_cells hr1 q zs.length hq' (Nat.le_refl _) had (by simpa using hj)) ?_
              all_goals refine den_app fun a9 c9 _ _ _ => ?_
              all_goals
                refine den_again ⟨(Px.names args[i]).length - (m + 1), by omega, m + 1, zs.take q ++ [s] ++ zs.drop q, a9, c9, ?_, ?_, Px.ins_rises hri hq' hlt hge, ?_, ?_, by omega, rfl⟩
                · rw [Px.ins_len hq']
                  simp only [Sy.dens, Sy.den, E.i, E.b, E.t, gd, Env.push, List.cons_append, List.nil_append, List.append_nil, Int.toNat_natCast, Int.toNat_natCast, Int.toNat_zero]
                  rw [w64i (by omega) (by omega)]
                  simp only [List.cons.injEq, Value.slice.injEq, and_true, true_and]
                  refine ⟨rfl, ?_⟩
                  omega
                · simp [rowConts, conts, Seg.den, gd, Env.push, Sy.den, E.t, strB]
                · intro x
                  rw [htk]
                  exact Px.ins_mem (hmem x)
                · rw [Px.ins_len hq']; omega
          · simp only [Sy.dens, Sy.den, E.i, E.b, E.t, gd, Env.push, List.cons_append, List.nil_append, List.append_nil, Int.toNat_natCast, ltB_false] at c2
            have hme : m = (Px.names args[i]).length := by omega
            refine den_again ⟨args.length - (i + 1), by omega, i + 1, zs, a', c', ?_, (by simp [rowConts, conts, Seg.den, gd, Env.push]), hri, fun x => ?_, ?_, by omega, rfl⟩
            · simp only [Sy.dens, Sy.den, E.i, E.b, E.t, gd, Env.push, List.cons_append, List.nil_append, List.append_nil, Int.toNat_natCast]
              rw [w64i (by omega) (by omega)]; rfl
            · rw [hmem, hme, List.take_length, ← hsn, List.mem_append]
            · rw [← hsn, List.length_append]; omega
      · simp only [Sy.dens, Sy.den, E.i, E.b, E.t, gd, Env.push, List.cons_append, List.nil_append, List.append_nil, Int.toNat_natCast, ltB_false] at c1
        have hie : i = args.length := by omega
        rw [hie, List.take_length] at hmem
        refine den_ret fun _ _ hrw => ?_
        have hr5 := (hrw _ (List.mem_cons_self ..)).1
        simp only [conts, List.flatMap_cons, List.flatMap_nil, Seg.den, Sy.dens, Sy.den, E.i, E.b, E.t, gd, Env.push, List.cons_append, List.nil_append, List.append_nil, Int.toNat_natCast, List.append_nil] at hr5
        have hnm : Px.names (.mk op k0 nn t nm args) = zs := Px.rises_eq (Px.names_rises _) hri fun x => by
          rw [hmem, Px.mem_names]
          simp only [Px.opOf, Px.nmOf, Px.Ex.args]
          simp [c0]
        rw [hnm]
        exact ⟨_, rfl, a', c', rfl, owns_sl hr5⟩
end Go.Proofs.YtckgdgkkmhochaaGreatDoor
namespace Px
open Go
mutual
theorem nodes_szT : ∀ (e : Ex) (n : Nat), Tx.sz e n < n → nodes e = Tx.sz e n
  | .mk op k m t nm l, n, h => by
    simp only [Tx.sz] at h ⊢
    simp only [nodes]
    have := nodess_szT l 1 n h
    omega
theorem nodess_szT : ∀ (l : List Ex) (w n : Nat), Tx.szs l w n < n → w + nodess l = Tx.szs l w n
  | [], w, n, h => by simp [Tx.szs, nodess]
  | e :: l, w, n, h => by
    simp only [Tx.szs] at h ⊢
    split at h
    · rename_i hc
      rw [if_pos hc]
      have h1 := Tx.szs_ge l (w + Tx.sz e (n - w)) n
      have h2 := nodes_szT e (n - w) (by omega)
      have h3 := nodess_szT l _ n h
      simp only [nodess]
      omega
    · omega
end
theorem large_nodes' {e : Ex} (h : Tx.large e = false) : nodes e ≤ 300 := by
  unfold Tx.large at h
  have h : Tx.sz e 300 < 300 := by simpa using h
  have := nodes_szT e 300 h
  omega
end Px
namespace Go.Proofs.YtckgdgkkmhochaaGreatDoor
open Go Go.RowKit Go.SF
set_option linter.unusedSimpArgs false
set_option linter.unusedVariables false
def PSame (n : Nat) : Prop := ∀ (x y : Px.Ex) (vs us : List Value) (W : Wd), Px.deep x ≤ n → Px.thin x = true → ExI W x vs → ExI W y us → CallsQ Tryz.prog 16 #[.agg vs.toArray, .agg us.toArray] W (.bool (Px.same x y))
theorem psames_q (n : Nat) (ih : PSame n) (args args' : List Px.Ex) (a a' : Option Addr) (c c' : Nat) (ls ls' : List Value) (W : Wd) (hl1000 : args.length ≤ 1000) (hd : Px.deeps args ≤ n) (hth : Px.thins args = true) (hS : SlI W a args.length c 6 ls) (hE : ExsAt W.w W.I args ls) (hS' : SlI W a' args'.length c' 6 ls') (hE' : ExsAt W.w W.I args' ls') :
    CallsQ Tryz.prog 37 #[.slice a args.length c, .slice a' args'.length c', .func (.func 16) #[] #[]] W (.bool (Px.sames args args')) := by
  refine vc_psamef args.length c args'.length c' a a' W.all _ ?_
  refine den_br (fun c0 => den_ret fun _ _ _ => ⟨_, rfl, ?_⟩) fun c0 => ?_
  · have c0 : ¬ ((args.length : Nat) : Int) = ((args'.length : Nat) : Int) := by simpa [Sy.dens, Sy.den, E.i, E.b, E.t, gd, Env.push, List.cons_append, List.nil_append, List.append_nil, Int.toNat_natCast] using c0
    have : Px.sames args args' = false := by
      cases h : Px.sames args args'
      · rfl
      · exact absurd (by rw [Px.sames_len h]) c0
    rw [this]; rfl
  · have c0 : ((args.length : Nat) : Int) = ((args'.length : Nat) : Int) := by simpa [Sy.dens, Sy.den, E.i, E.b, E.t, gd, Env.push, List.cons_append, List.nil_append, List.append_nil, Int.toNat_natCast] using c0
    have hl : args.length = args'.length := by omega
    refine den_loop (fun j vs ls _ => ∃ i : Nat, vs = [.int .i64 (i : Nat)] ∧ ls = [] ∧ i ≤ args.length ∧ j = args.length - i ∧ Px.sames args args' = Px.sames (args.drop i) (args'.drop i)) args.length ⟨0, rfl, rfl, Nat.zero_le _, rfl, rfl⟩ ?_
    rintro j vs ls'' W3 x3 ⟨i, rfl, rfl, hi, rfl, hs⟩
    have x3' : Ext W W3 := ext_trans W.all_ext x3
    refine ⟨(i : Int), rfl, rfl, fun _ => den_br (fun c1 => ?_) fun c1 => den_ret fun _ _ _ => ⟨_, rfl, ?_⟩⟩
    · simp only [Sy.dens, Sy.den, E.i, E.b, E.t, gd, Env.push, List.cons_append, List.nil_append, List.append_nil, Int.toNat_natCast, ltB_true] at c1
      have hil : i < args.length := by omega
      have hil' : i < args'.length := by omega
      have hg := List.getElem?_eq_getElem hil
      have hg' := List.getElem?_eq_getElem hil'
      obtain ⟨us, hu, hgu⟩ := exs_get hE hg
      obtain ⟨us', hu', hgu'⟩ := exs_get hE' hg'
      obtain ⟨o1, k1, n1, t1, m1, al1, len1, cl1, rfl⟩ := hu.shape
      obtain ⟨o2, k2, n2, t2, m2, al2, len2, cl2, rfl⟩ := hu'.shape
      have hdm := Px.deep_mem (List.getElem_mem hil)
      refine den_chk ?_ (den_chk ?_ (den_look ⟨o1, k1, n1, len1, cl1, t1, m1, al1, fun W4 x4 => ?_, ?_⟩))
      · simp only [E.b, gd, Env.push]; exact SlI.some_of hS (by omega)
      · simp only [Sy.dens, Sy.den, E.i, E.b, E.t, gd, Env.push, List.cons_append, List.nil_append, List.append_nil, Int.toNat_natCast]; exact leB_t (by omega)
      · have := sl_look_at (W := W) hS ex_agg ex_size rfl (by decide) hgu (ext_trans x3' x4)
        simp only [Sy.dens, Sy.den, E.i, E.b, E.t, gd, Env.push, List.cons_append, List.nil_append, List.append_nil, Int.toNat_natCast] at this ⊢
        exact this
      · simp only [Env.push, List.cons_append, List.nil_append, List.append_nil]
        refine den_new fun _ W4 _ x4 => den_wr fun W5 x5 => ?_
        have x5' := ext_trans (ext_trans x3' x4) x5
        refine den_chk ?_ (den_chk ?_ (den_look ⟨o2, k2, n2, len2, cl2, t2, m2, al2, fun W6 x6 => ?_, ?_⟩))
        · simp only [E.b, gd, Env.push]; exact SlI.some_of hS' (by omega)
        · simp only [Sy.dens, Sy.den, E.i, E.b, E.t, gd, Env.push, List.cons_append, List.nil_append, List.append_nil, Int.toNat_natCast]; exact ltB_t (by omega)
        · have := sl_look_at (W := W) hS' ex_agg ex_size rfl (by decide) hgu' (ext_trans x5' x6)
          simp only [Sy.dens, Sy.den, E.i, E.b, E.t, gd, Env.push, List.cons_append, List.nil_append, List.append_nil, Int.toNat_natCast] at this ⊢
          exact this
        · simp only [Env.push, List.cons_append, List.nil_append, List.append_nil]
          refine den_new fun _ W6 _ x6 => den_wr fun W7 x7 => ?_
          have x7' := ext_trans (ext_trans x5' x6) x7
          have hq := ih args[i] args'[i] _ _ W7 (by omega) (Px.thin_mem hth (List.getElem_mem hil)) (ExI.ext (W := W) hu x7') (ExI.ext (W := W) hu' x7')
          have hs1 : Px.sames args args' = (Px.same args[i] args'[i] && Px.sames (args.drop (i + 1)) (args'.drop (i + 1))) := by
            rw [hs, drop_get hil, drop_get hil']; rfl
          refine den_call_q (fun _ _ => hq) ⟨Px.same args[i] args'[i], rfl, fun W8 x8 => den_br (fun c2 => den_ret fun _ _ _ => ⟨_, rfl, ?_⟩) fun c2 => den_frz fun W9 _ x9 _ _ => den_again ⟨args.length - (i + 1), by omega, i + 1, ?_, rfl, by omega, rfl, ?_⟩⟩
          · have c2 : Px.same args[i] args'[i] = false := by simpa [Sy.dens, Sy.den, E.i, E.b, E.t, gd, Env.push, List.cons_append, List.nil_append, List.append_nil, Int.toNat_natCast] using c2
            rw [hs1, c2]; rfl
          · simp only [Sy.dens, Sy.den, E.i, E.b, E.t, gd, Env.push, List.cons_append, List.nil_append, List.append_nil, Int.toNat_natCast]; rw [w64i (by omega) (by omega)]; rfl
          · have c2 : Px.same args[i] args'[i] = true := by simpa [Sy.dens, Sy.den, E.i, E.b, E.t, gd, Env.push, List.cons_append, List.nil_append, List.append_nil, Int.toNat_natCast] using c2
            rw [hs1, c2, Bool.true_and]
    · simp only [Sy.dens, Sy.den, E.i, E.b, E.t, gd, Env.push, List.cons_append, List.nil_append, List.append_nil, Int.toNat_natCast, ltB_false] at c1
      rw [hs, List.drop_eq_nil_of_le (by omega), List.drop_eq_nil_of_le (by omega)]; rfl
theorem psame_q : ∀ n : Nat, PSame n := by
  intro n
  induction n with
  | zero => intro x y vs us W h; have := Px.deep_pos x; omega
  | succ n ih =>
    intro x y vs us W hd hth hx hy
    obtain ⟨op, k, nn, t, nm, args⟩ := x
    obtain ⟨op', k', nn', t', nm', args'⟩ := y
    have hx := hx.ext W.all_ext
    have hy := hy.ext W.all_ext
    simp only [ExI, ExAt] at hx hy
    obtain ⟨a, c, ls, rfl, hS, hE⟩ := hx
    obtain ⟨a', c', ls', rfl, hS', hE'⟩ := hy
    simp only [Px.deep] at hd
    simp only [Px.thin, Bool.and_eq_true, decide_eq_true_eq] at hth
    refine vc_psame op k nn op' k' nn' args.length c args'.length c' ⟨t.toArray⟩ ⟨nm.toArray⟩ ⟨t'.toArray⟩ ⟨nm'.toArray⟩ a a' W.all _ ?_
    have hsm : Px.same (.mk op k nn t nm args) (.mk op' k' nn' t' nm' args') = ((op == op' && ((k == k' && (nn == nn' && t == t')) && nm == nm')) && Px.sames args args') := rfl
    refine den_new fun m W1 _ x1 => den_new fun m2 W2 _ x2 => den_br (fun c0 => ?_) fun c0 => den_ret fun _ _ _ => ⟨_, rfl, ?_⟩
    · simp only [Sy.dens, Sy.den, E.i, E.b, E.t, gd, Env.push, List.cons_append, List.nil_append, List.append_nil, Int.toNat_natCast, teq_ba] at c0
      have hh : (op == op' && ((k == k' && (nn == nn' && t == t')) && nm == nm')) = true := by
        revert c0
        cases op == op' <;> cases k == k' <;> cases nn == nn' <;> cases t == t' <;> cases nm == nm' <;> simp
      have y2 := ext_trans x1 x2
      have hq := psames_q n ih args args' a a' c c' ls ls' W2 hth.1.1 (by omega) hth.2 (SlI.ext (W := W.all) hS y2) (ExsAt.move (fun b hb _ => ⟨y2.sub b hb, y2.keep b hb⟩) hE) (SlI.ext (W := W.all) hS' y2) (ExsAt.move (fun b hb _ => ⟨y2.sub b hb, y2.keep b hb⟩) hE')
      refine den_call_q (fun _ _ => hq) ⟨Px.sames args args', rfl, fun W3 x3 => den_ret fun _ _ _ => ⟨_, rfl, ?_⟩⟩
      rw [hsm, hh, Bool.true_and]; rfl
    · simp only [Sy.dens, Sy.den, E.i, E.b, E.t, gd, Env.push, List.cons_append, List.nil_append, List.append_nil, Int.toNat_natCast, teq_ba] at c0
      have hh : (op == op' && ((k == k' && (nn == nn' && t == t')) && nm == nm')) = false := by
        revert c0
        cases op == op' <;> cases k == k' <;> cases nn == nn' <;> cases t == t' <;> cases nm == nm' <;> simp
      rw [hsm, hh, Bool.false_and]; rfl
set_option maxRecDepth 100000 in
theorem trees_q (x y : Px.Ex) (vs us : List Value) (W : Wd) (hw : Tx.wide x = true) (hwy : Tx.wide y = true) (hx : ExI W x vs) (hy : ExI W y us) (hG : Glob W) (hT : Vs.Tabs W) :
    CallsQ Tryz.prog 3 #[.agg vs.toArray, .agg us.toArray] W (.bool true) := by
  obtain ⟨op, k, nn, t, nm, al, len, cl, rfl⟩ := hx.shape
  obtain ⟨op', k', nn', t', nm', al', len', cl', rfl⟩ := hy.shape
  have w : ∀ V, Ext W.all V → Ext W V := fun V xV => ext_trans W.all_ext xV
  refine vc_ltrees op k nn op' k' nn' len cl len' cl' t nm t' nm' al al' W.all _ ?_
  refine den_new fun _ W1 _ x1 => den_new fun _ W2 _ x2 => ?_
  have y2 := ext_trans x1 x2
  refine den_call_q (fun _ _ => large_q x _ W2 hw (hx.ext (w _ y2))) ⟨Tx.large x, rfl, fun W3 x3 => ?_⟩
  simp only [Env.push, List.cons_append, List.nil_append, List.append_nil]
  have y3 := ext_trans y2 x3
  refine den_br (fun c1 => ?_) fun c1 => den_ret fun _ _ _ => ⟨_, rfl, rfl⟩
  have c1 : Tx.large x = false := by simpa [Sy.dens, Sy.den, E.i, E.b, E.t, gd, Env.push, List.cons_append, List.nil_append, List.append_nil, Int.toNat_natCast] using c1
  refine den_call_q (fun _ _ => large_q y _ W3 hwy (hy.ext (w _ y3))) ⟨Tx.large y, rfl, fun W4 x4 => ?_⟩
  simp only [Env.push, List.cons_append, List.nil_append, List.append_nil]
  have y4 := ext_trans y3 x4
  refine den_br (fun c2 => den_ret fun _ _ _ => ⟨_, rfl, rfl⟩) fun c2 => ?_
  obtain ⟨hth, hdp⟩ := Tx.large_thin c1 hw
  have hnd : Px.nodes x ≤ 300 := Px.large_nodes' c1
  refine den_call_q (fun _ _ => showT_q x _ W4 hth (hx.ext (w _ y4)) (hG.ext (w _ y4)) (hT.ext (w _ y4))) ⟨(Px.show' x).2, ⟨(Px.show' x).1.toArray⟩, rfl, fun W5 x5 => ?_⟩
  simp only [Env.push, List.cons_append, List.nil_append, List.append_nil]
  have y5 := ext_trans y4 x5
  refine den_call_q (fun _ _ => rShowT_q x _ W5 hth (hx.ext (w _ y5))) ⟨(Px.show' x).2, ⟨(Px.show' x).1.toArray⟩, rfl, fun W6 x6 => ?_⟩
  simp only [Env.push, List.cons_append, List.nil_append, List.append_nil]
  have y6 := ext_trans y5 x6
  have hq := names_ok (Px.deep x) x _ W6 (Nat.le_refl _) (by omega) (hx.ext (w _ y6))
  refine den_call_i (fun _ _ => hq) fun v w' _ ⟨a7, c7, hv, hA⟩ => ⟨(Px.names x).length, c7, a7, hv, fun W7 e7 x7 n7 => ?_⟩
  have hL : SlI W7 a7 (Px.names x).length c7 1 ((Px.names x).map strB) := hA.stay e7 n7
  clear hA e7 n7 hv
  simp only [Env.push, List.cons_append, List.nil_append, List.append_nil]
  have y7 := ext_trans y6 x7
  have hq := rnames_ok (Px.deep x) x _ W7 (Nat.le_refl _) (by omega) (hx.ext (w _ y7))
  refine den_call_i (fun _ _ => hq) fun v w' _ ⟨a8, c8, hv, hA⟩ => ⟨(Px.names x).length, c8, a8, hv, fun W8 e8 x8 n8 => ?_⟩
  have hM : SlI W8 a8 (Px.names x).length c8 1 ((Px.names x).map strB) := hA.stay e8 n8
  clear hA e8 n8 hv
  simp only [Env.push, List.cons_append, List.nil_append, List.append_nil]
  have y8 := ext_trans y7 x8
  have hL := hL.ext x8
  have hnl := Px.names_nodes x
  refine den_callq ⟨Px.may 16 x, fun V xV _ _ => mayT_q x _ V hth (hx.ext (w _ (ext_trans y8 xV))) (hG.ext (w _ (ext_trans y8 xV))), ?_⟩
  simp only [Env.push, List.cons_append, List.nil_append, List.append_nil]
  refine den_callq ⟨Px.may 16 x, fun V xV _ _ => rMayT_q x _ V hth (hx.ext (w _ (ext_trans y8 xV))), ?_⟩
  simp only [Env.push, List.cons_append, List.nil_append, List.append_nil]
  refine den_br (fun _ => ?_) fun c3 => (by exfalso; simp [Sy.dens, Sy.den, E.i, E.b, E.t, gd, Env.push, List.cons_append, List.nil_append, List.append_nil, Int.toNat_natCast] at c3)
  refine den_callq ⟨Px.same x y, fun V xV _ _ => psame_q (Px.deep x) x y _ _ V (Nat.le_refl _) hth (hx.ext (w _ (ext_trans y8 xV))) (hy.ext (w _ (ext_trans y8 xV))), ?_⟩
  simp only [Env.push, List.cons_append, List.nil_append, List.append_nil]
  refine den_callq ⟨Px.same x y, fun V xV _ _ => same_q (Px.deep x) x y _ _ V (Nat.le_refl _) hth (hx.ext (w _ (ext_trans y8 xV))) (hy.ext (w _ (ext_trans y8 xV))), ?_⟩
  simp only [Env.push, List.cons_append, List.nil_append, List.append_nil]
  refine den_br (fun _ => ?_) fun c3 => (by exfalso; simp [Sy.dens, Sy.den, E.i, E.b, E.t, gd, Env.push, List.cons_append, List.nil_append, List.append_nil, Int.toNat_natCast] at c3)
  refine den_callq ⟨Px.same x x, fun V xV _ _ => psame_q (Px.deep x) x x _ _ V (Nat.le_refl _) hth (hx.ext (w _ (ext_trans y8 xV))) (hx.ext (w _ (ext_trans y8 xV))), ?_⟩
  simp only [Env.push, List.cons_append, List.nil_append, List.append_nil]
  refine den_grow fun W9 x9 => den_br (fun c3 => (by exfalso; simp [Sy.dens, Sy.den, E.i, E.b, E.t, gd, Env.push, List.cons_append, List.nil_append, List.append_nil, Int.toNat_natCast, Px.same_refl] at c3)) fun _ => ?_
  refine den_loop (fun j vs ls _ => ∃ i : Nat, vs = [.int .i64 (i : Nat)] ∧ ls = [] ∧ i ≤ (Px.names x).length ∧ j = (Px.names x).length - i) (Px.names x).length ⟨0, rfl, rfl, Nat.zero_le _, rfl⟩ ?_
  rintro j vs ls' W10 x10 ⟨i, rfl, rfl, hi, rfl⟩
  refine ⟨(i : Int), rfl, rfl, fun _ => den_br (fun c4 => ?_) fun c4 => den_ret fun _ _ _ => ⟨_, rfl, rfl⟩⟩
  simp only [Sy.dens, Sy.den, E.i, E.b, E.t, gd, Env.push, List.cons_append, List.nil_append, List.append_nil, Int.toNat_natCast, ltB_true] at c4
  have hil : i < (Px.names x).length := by omega
  have hg : (Px.names x)[i]? = some (Px.names x)[i] := List.getElem?_eq_getElem hil
  refine den_chk ?_ (den_chk ?_ (den_look ⟨⟨(Px.names x)[i].toArray⟩, fun V xV => ?_, den_chk ?_ (den_chk ?_ (den_look ⟨⟨(Px.names x)[i].toArray⟩, fun V xV => ?_, den_grow fun W11 x11 => den_br (fun c5 => ?_) fun c5 => den_again ⟨(Px.names x).length - (i + 1), by omega, i + 1, ?_, rfl, by omega, rfl⟩⟩))⟩))
  · simp only [E.b, gd, Env.push]; exact SlI.some_of hL (by omega)
  · simp only [Sy.dens, Sy.den, E.i, E.b, E.t, gd, Env.push, List.cons_append, List.nil_append, List.append_nil, Int.toNat_natCast]; exact leB_t (by omega)
  · have := str_lookT hL hg (ext_trans (ext_trans x9 x10) xV)
    simp only [Sy.dens, Sy.den, E.i, E.b, E.t, gd, Env.push, List.cons_append, List.nil_append, List.append_nil, Int.toNat_natCast] at this ⊢
    exact this
  · simp only [E.b, gd, Env.push]; exact SlI.some_of hM (by omega)
  · simp only [Sy.dens, Sy.den, E.i, E.b, E.t, gd, Env.push, List.cons_append, List.nil_append, List.append_nil, Int.toNat_natCast]; exact ltB_t (by omega)
  · have := str_lookT hM hg (ext_trans (ext_trans x9 x10) xV)
    simp only [Sy.dens, Sy.den, E.i, E.b, E.t, gd, Env.push, List.cons_append, List.nil_append, List.append_nil, Int.toNat_natCast] at this ⊢
    exact this
  · exfalso
    simp [Sy.dens, Sy.den, E.i, E.b, E.t, gd, Env.push, List.cons_append, List.nil_append, List.append_nil, Int.toNat_natCast] at c5
  · simp only [Sy.dens, Sy.den, E.i, E.b, E.t, gd, Env.push, List.cons_append, List.nil_append, List.append_nil, Int.toNat_natCast]
    rw [w64i (by omega) (by omega)]; rfl
end Go.Proofs.YtckgdgkkmhochaaGreatDoor
