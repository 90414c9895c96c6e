/- slices.SortStableFunc at cells: what changes places. -/
import Derived.Test.YtamnfdmmjjekhaaVrCmp
import Derived.Test.YtamnfdmmjjekhaaVcSort
namespace Go.Proofs.Ytamnfdmmjjekhaa
open Go Go.RowKit Go.SF
set_option linter.unusedSimpArgs false
set_option linter.unusedVariables false
theorem c_agg : aggT Try.prog 39 = some true := by kernel_rfl
theorem c_size : sizeT Try.prog 39 = some 5 := by kernel_rfl
/-- the slice is a row of cells of one's own -/
def Own (w : World) (a : Option Addr) (n c : Nat) (xs : List Vr.Ce) : Prop := w.ownsRow 0 39 5 (.slice a n c) n (xs.flatMap Vr.Ce.enc)
def Free (W : Wd) (a : Option Addr) (n c : Nat) : Prop := ∀ k, (Value.slice a n c).ownBlock = some k → ¬ W.I k
theorem Own.len {w : World} {a : Option Addr} {n c : Nat} {xs : List Vr.Ce} (h : Own w a n c xs) : xs.length = n := by
  have := h.1
  rw [Vr.encs_len] at this; omega
theorem Own.isSome {w : World} {a : Option Addr} {n c : Nat} {xs : List Vr.Ce} (h : Own w a n c xs) (hn : 0 < n) : a.isSome = true := by
  rcases h.2 with ⟨_, z⟩ | ⟨g, cap, cur, hv, _⟩
  · omega
  · injection hv with e1 e2 e3; subst e1; rfl
/-- a call that turns a row of cells -/
def Turns (f : FuncId) (args : Array Value) (W : Wd) (a : Option Addr) (n c : Nat) (S : List Vr.Ce → Prop) : Prop := CallsE Try.prog f args W fun e w' => e = .returned (.tuple #[]) ∧ ∃ xs, S xs ∧ Own w' a n c xs
section
variable {n0 : Nat} {R : Ending → World → Prop} {L : Lv} {W : Wd} {ρ : Env}
theorem den_row {f : FuncId} {args : List Sy} {A N M K K' : Nat} {t : Tree} {a : Option Addr} {n c : Nat} {xs : List Vr.Ce} (S : List Vr.Ce → Prop) (hn0 : n0 ≤ W.w.heap.size) (ha : gd ρ.A A none = a) (hn : gd ρ.N N 0 = n) (hc : gd ρ.N M 0 = c) (hx : gd ρ.L K [] = xs.flatMap Vr.Ce.enc) (hK : ρ.L.length = K') (hA : A < ρ.A.length) (hN : N < ρ.N.length) (hM : M < ρ.N.length)
    (h : ∀ W1 : Wd, W1.w = W.w → Own W1.w a n c xs → Free W1 a n c → Turns f (Sy.dens ρ args).toArray W1 a n c S)
    (k : ∀ xs' W', S xs' → Ext W W' → t.den Try.prog n0 R L (ρ.push { L := [xs'.flatMap Vr.Ce.enc] }) W') :
    (Tree.callr f args [] [⟨.slc A (.nv N) (.nv M), .nv N, 39, 5, [.l K]⟩] [⟨.slc A (.nv N) (.nv M), .nv N, 39, 5, [.l K]⟩] (.tup []) [⟨.slc A (.nv N) (.nv M), .nv N, 39, 5, [.l K']⟩] ⟨0, 0, 0, 0, 0, 0, 0, 1⟩ t).den Try.prog n0 R L ρ W := by
  refine den_callr fun _ hr => ?_
  subst ha hn hc
  have h1 := (hr _ (List.mem_cons_self ..)).1
  have e : conts ρ [Seg.l K] = xs.flatMap Vr.Ce.enc := by simp [conts, Seg.den, hx]
  rw [e] at h1
  simp only [Sy.den, E.i, Int.toNat_natCast] at h1
  have hown : ∀ k, (Value.slice (gd ρ.A A none) (gd ρ.N N 0) (gd ρ.N M 0)).ownBlock = some k → n0 ≤ k ∧ k ∈ rowNos ρ [⟨.slc A (.nv N) (.nv M), .nv N, 39, 5, [.l K]⟩] := fun k hk => by
    have hk2 : ownB ρ ⟨.slc A (.nv N) (.nv M), .nv N, 39, 5, [.l K]⟩ = some k := by
      simp only [ownB, Sy.den, E.i, Int.toNat_natCast]; exact hk
    exact ⟨(World.ownsRow.lt h1 k hk).1, rowNos_mem.2 ⟨_, List.mem_cons_self .., hk2⟩⟩
  have h2 := h (W.but (rowNos ρ [⟨.slc A (.nv N) (.nv M), .nv N, 39, 5, [.l K]⟩])) rfl ⟨h1.1, h1.2.imp id fun ⟨g, cap, cur, a, b, c⟩ => ⟨g, cap, cur, a, Nat.zero_le _, c⟩⟩ fun k hk hI => hI.2 (hown k hk).2
  refine CallsE.mono h2 fun e w' hk hR => ?_
  obtain ⟨rfl, xs', hS, ho⟩ := hR
  have q1 : gd (ρ.push { L := [xs'.flatMap Vr.Ce.enc] }).A A none = gd ρ.A A none := by simp [Env.push, gd_app _ _ _ _ hA]
  have q2 : gd (ρ.push { L := [xs'.flatMap Vr.Ce.enc] }).N N 0 = gd ρ.N N 0 := by simp [Env.push, gd_app _ _ _ _ hN]
  have q3 : gd (ρ.push { L := [xs'.flatMap Vr.Ce.enc] }).N M 0 = gd ρ.N M 0 := by simp [Env.push, gd_app _ _ _ _ hM]
  have q4 : gd (ρ.push { L := [xs'.flatMap Vr.Ce.enc] }).L K' [] = xs'.flatMap Vr.Ce.enc := by subst hK; simp only [Env.push]; exact gd_last _ _ _
  refine ExE.mk (d := { L := [xs'.flatMap Vr.Ce.enc] }) ⟨rfl, fun v hv => by cases hv⟩ ⟨by simp [Sy.den, Sy.dens], ⟨?_, ?_, List.pairwise_singleton _ _⟩, fun W' _ x _ => k xs' W' hS x⟩
  · intro q hq
    obtain rfl := List.mem_singleton.1 hq
    refine ⟨?_, ?_⟩
    · have e3 : conts (ρ.push { L := [xs'.flatMap Vr.Ce.enc] }) [Seg.l K'] = xs'.flatMap Vr.Ce.enc := by simp [conts, Seg.den, q4]
      simp only [Sy.den, E.i, Int.toNat_natCast, q1, q2, q3, e3]
      refine ⟨ho.1, ho.2.imp id fun ⟨g, cap, cur, a, b, c⟩ => ⟨g, cap, cur, a, (hown g (by rw [a]; rfl)).1, c⟩⟩
    · have e3 : conts (ρ.push { L := [xs'.flatMap Vr.Ce.enc] }) [Seg.l K'] = xs'.flatMap Vr.Ce.enc := by simp [conts, Seg.den, q4]
      simp only [e3]
      exact Vr.encs_one xs'
  · intro q hq k hk
    obtain rfl := List.mem_singleton.1 hq
    right
    simp only [ownB, Sy.den, E.i, Int.toNat_natCast, q1, q2, q3] at hk
    exact (hown k hk).2
theorem den_rset_row {K : Nat} {i : E} {vs : List Sy} {t : Tree} {xs : List Vr.Ce} {j : Nat} (y : Vr.Ce) (hx : gd ρ.L K [] = xs.flatMap Vr.Ce.enc) (hi : i.i ρ = (j : Int)) (hj : j < xs.length) (hy : Sy.dens ρ vs = y.enc)
    (h : ∀ W', Ext W W' → t.den Try.prog n0 R L (ρ.push { L := [(xs.set j y).flatMap Vr.Ce.enc] }) W') : (Tree.rset [.l K] i 0 5 vs t).den Try.prog n0 R L ρ W := by
  refine den_rset fun W' x => ?_
  have e : conts ρ [Seg.l K] = xs.flatMap Vr.Ce.enc := by simp [conts, Seg.den, hx]
  rw [e, hi, hy, Int.toNat_natCast, setL_flat Vr.Ce.enc_len y hj]
  exact h W' x
theorem den_rlook_row {A K : Nat} {N M i : E} {res : Sy} {t : Tree} {xs : List Vr.Ce} {j : Nat} (y : Vr.Ce) (hx : gd ρ.L K [] = xs.flatMap Vr.Ce.enc) (hi : i.i ρ = (j : Int)) (hj : xs[j]? = some y) (hres : res.den (ρ.push { I := [y.sc, y.v.k, y.v.n], T := [⟨y.nm.toArray⟩, ⟨y.v.t.toArray⟩] }) = .agg y.enc.toArray)
    (h : t.den Try.prog n0 R L (ρ.push { I := [y.sc, y.v.k, y.v.n], T := [⟨y.nm.toArray⟩, ⟨y.v.t.toArray⟩] }) W) : (Tree.rlook 39 (.elt A i 5 0) res ⟨.slc A N M, N, 39, 5, [.l K]⟩ ⟨3, 0, 0, 2, 0, 0, 0, 0⟩ t).den Try.prog n0 R L ρ W := by
  refine den_rlook (ExE.mk (d := { I := [y.sc, y.v.k, y.v.n], T := [⟨y.nm.toArray⟩, ⟨y.v.t.toArray⟩] }) ⟨rfl, fun v hv => by cases hv⟩ ⟨fun w hw => ?_, h⟩)
  rw [hres]
  have := row_look Vr.Ce.enc_len hw (a := gd ρ.A A none) (n := (N.i ρ).toNat) (c := (M.i ρ).toNat) rfl (l := xs) (by simp [conts, Seg.den, hx]) c_agg c_size hj
  simp only [Sy.den, hi, Int.toNat_natCast]
  exact this
end
/-- slices.swapRangeCmpFunc -/
theorem swr_t (A U M V B : List Vr.Ce) (hUV : U.length = V.length) (hlen : A.length + U.length + M.length + V.length + B.length ≤ 1000000) (ad : Option Addr) (n c : Nat) (W : Wd) (ho : Own W.w ad n c (A ++ U ++ M ++ V ++ B)) (hf : Free W ad n c) (i j k : Int) (hi : i = (A.length : Nat)) (hj : j = (A.length + U.length + M.length : Nat)) (hk : k = (U.length : Nat)) :
    Turns 64 #[.slice ad n c, .int .i64 i, .int .i64 j, .int .i64 k, .func (.func 29) #[] #[]] W ad n c fun xs => xs = A ++ V ++ M ++ U ++ B := by
  have hn := ho.len
  refine vc_swr i j k n c ad _ W _ ho (Vr.encs_one _) hf ?_
  refine den_loop (fun g vs ls _ => ∃ i : Nat, vs = [.int .i64 (i : Int), .slice ad n c] ∧ ls = [(St.sw A U M V B i).flatMap Vr.Ce.enc] ∧ i ≤ U.length ∧ g = U.length - i) U.length ⟨0, rfl, by rw [St.sw_zero]; simp only [rowConts, conts, Seg.den, gd, Env.push, List.map_cons, List.map_nil, List.flatMap_cons, List.flatMap_nil, List.append_nil, List.cons_append, List.nil_append], Nat.zero_le _, rfl⟩ ?_
  rintro g vs ls W1 x1 ⟨m, rfl, rfl, hm, rfl⟩
  refine ⟨(m : Int), n, c, ad, (St.sw A U M V B m).flatMap Vr.Ce.enc, rfl, (by simp [rowConts, conts, Seg.den, gd, Env.push]), fun hrow => ?_⟩
  simp only [Env.push, List.cons_append, List.nil_append, List.append_nil]
  subst hi hj hk
  refine den_br (fun c1 => ?_) fun c1 => ?_
  · simp only [Sy.dens, Sy.den, E.i, E.b, E.t, gd, Env.push, List.cons_append, List.nil_append, List.append_nil, Int.toNat_natCast, ltB_true] at c1
    have hmU : m < U.length := by omega
    obtain ⟨x, y, hx, hy, e1, e2⟩ := St.sw_at (A := A) (M := M) (B := B) hUV hmU
    have hl : (St.sw A U M V B m).length = n := by rw [St.sw_len _ _ _ _ _ _ hUV, ← hn]; simp; omega
    have hl' : n = A.length + U.length + M.length + V.length + B.length := by rw [← hn]; simp; omega
    refine den_chk (chk_le ?_) (den_chk (chk_le ?_) (den_chk (chk_le ?_) (den_chk (chk_le ?_) (den_chk ?_ (den_chk (chk_le ?_) (den_chk (chk_lt ?_) (den_rlook_row y (xs := St.sw A U M V B m) (j := A.length + U.length + M.length + m) rfl ?_ ?_ rfl ?_)))))))
    · simp only [Sy.dens, Sy.den, E.i, E.b, E.t, gd, Env.push, List.cons_append, List.nil_append, List.append_nil, Int.toNat_natCast]; omega
    · simp only [Sy.dens, Sy.den, E.i, E.b, E.t, gd, Env.push, List.cons_append, List.nil_append, List.append_nil, Int.toNat_natCast]; omega
    · simp only [Sy.dens, Sy.den, E.i, E.b, E.t, gd, Env.push, List.cons_append, List.nil_append, List.append_nil, Int.toNat_natCast]; omega
    · simp only [Sy.dens, Sy.den, E.i, E.b, E.t, gd, Env.push, List.cons_append, List.nil_append, List.append_nil, Int.toNat_natCast]; omega
    · simp only [E.b, gd]; exact ho.isSome (by omega)
    · simp only [Sy.dens, Sy.den, E.i, E.b, E.t, gd, Env.push, List.cons_append, List.nil_append, List.append_nil, Int.toNat_natCast]; omega
    · simp only [Sy.dens, Sy.den, E.i, E.b, E.t, gd, Env.push, List.cons_append, List.nil_append, List.append_nil, Int.toNat_natCast]; omega
    · simp only [Sy.dens, Sy.den, E.i, E.b, E.t, gd, Env.push, List.cons_append, List.nil_append, List.append_nil, Int.toNat_natCast]; omega
    · rw [e1]
      exact St.at_snd _ _ _ _ _ (by simp; omega)
    simp only [Env.push, List.cons_append, List.nil_append, List.append_nil]
    refine den_chk (chk_le ?_) (den_chk (chk_lt ?_) (den_rlook_row x (xs := St.sw A U M V B m) (j := A.length + m) rfl ?_ ?_ rfl ?_))
    · simp only [Sy.dens, Sy.den, E.i, E.b, E.t, gd, Env.push, List.cons_append, List.nil_append, List.append_nil, Int.toNat_natCast]; omega
    · simp only [Sy.dens, Sy.den, E.i, E.b, E.t, gd, Env.push, List.cons_append, List.nil_append, List.append_nil, Int.toNat_natCast]; omega
    · simp only [Sy.dens, Sy.den, E.i, E.b, E.t, gd, Env.push, List.cons_append, List.nil_append, List.append_nil, Int.toNat_natCast]; omega
    · rw [e1]
      exact St.at_fst _ _ _ (by simp; omega)
    simp only [Env.push, List.cons_append, List.nil_append, List.append_nil]
    refine den_grow fun W2 x2 => den_rset_row y (xs := St.sw A U M V B m) (j := A.length + m) rfl ?_ (by omega) rfl fun W3 x3 => ?_
    · simp only [Sy.dens, Sy.den, E.i, E.b, E.t, gd, Env.push, List.cons_append, List.nil_append, List.append_nil, Int.toNat_natCast]; omega
    simp only [Env.push, List.cons_append, List.nil_append, List.append_nil]
    refine den_grow fun W4 x4 => den_rset_row x (xs := (St.sw A U M V B m).set (A.length + m) y) (j := A.length + U.length + M.length + m) rfl ?_ (by rw [List.length_set]; omega) rfl fun W5 x5 => ?_
    · simp only [Sy.dens, Sy.den, E.i, E.b, E.t, gd, Env.push, List.cons_append, List.nil_append, List.append_nil, Int.toNat_natCast]; omega
    simp only [Env.push, List.cons_append, List.nil_append, List.append_nil]
    refine den_chk (chk_le ?_) (den_chk (chk_le ?_) (den_again ⟨U.length - (m + 1), by omega, m + 1, ?_, ?_, by omega, rfl⟩))
    · simp only [Sy.dens, Sy.den, E.i, E.b, E.t, gd, Env.push, List.cons_append, List.nil_append, List.append_nil, Int.toNat_natCast]; omega
    · simp only [Sy.dens, Sy.den, E.i, E.b, E.t, gd, Env.push, List.cons_append, List.nil_append, List.append_nil, Int.toNat_natCast]; omega
    · simp only [Sy.dens, Sy.den, E.i, E.b, E.t, gd, Env.push, List.cons_append, List.nil_append, List.append_nil, Int.toNat_natCast]; rfl
    · have := St.swap_at (A ++ V.take m) (U.drop (m + 1) ++ M ++ U.take m) (V.drop (m + 1) ++ B) x y (i := A.length + m) (j := A.length + U.length + M.length + m) (by simp; omega) (by simp; omega)
      rw [← e1, ← e2] at this
      simp only [rowConts, conts, Seg.den, gd, Env.push, List.map_cons, List.map_nil, List.flatMap_cons, List.flatMap_nil, List.append_nil, List.cons_append, List.nil_append, this]
  · simp only [Sy.dens, Sy.den, E.i, E.b, E.t, gd, Env.push, List.cons_append, List.nil_append, List.append_nil, Int.toNat_natCast, ltB_false] at c1
    obtain rfl : m = U.length := by omega
    refine den_ret fun _ _ hr => ⟨rfl, _, rfl, ?_⟩
    have h1 := (hr _ (List.mem_cons_self ..)).1
    rw [St.sw_all _ _ _ _ _ hUV] at h1
    simp only [rowConts, conts, Seg.den, gd, Env.push, List.map_cons, List.map_nil, List.flatMap_cons, List.flatMap_nil, List.append_nil, List.cons_append, List.nil_append, Sy.den, E.i, Int.toNat_natCast] at h1
    exact h1
theorem vs_eq2 {x y x' y' : Int} (h1 : x = x') (h2 : y = y') {s : Value} : [Value.int .i64 x, .int .i64 y, s] = [Value.int .i64 x', .int .i64 y', s] := by rw [h1, h2]
/-- slices.rotateCmpFunc -/
theorem rot_t (A U V B : List Vr.Ce) (hU : U ≠ []) (hV : V ≠ []) (hlen : A.length + U.length + V.length + B.length ≤ 1000000) (ad : Option Addr) (n c : Nat) (W : Wd) (ho : Own W.w ad n c (A ++ U ++ V ++ B)) (hf : Free W ad n c) (i j k : Int) (hi : i = (A.length : Nat)) (hj : j = (A.length + U.length : Nat)) (hk : k = (A.length + U.length + V.length : Nat)) :
    Turns 61 #[.slice ad n c, .int .i64 i, .int .i64 j, .int .i64 k, .func (.func 29) #[] #[]] W ad n c fun xs => xs = A ++ V ++ U ++ B := by
  have hn := ho.len
  refine vc_rot i j k n c ad _ W _ ho (Vr.encs_one _) hf ?_
  subst hi hj hk
  refine den_chk (chk_le ?_) (den_chk (chk_le ?_) (den_chk (chk_le ?_) (den_chk (chk_le ?_) ?_)))
  · simp only [Sy.dens, Sy.den, E.i, E.b, E.t, gd, Env.push, List.cons_append, List.nil_append, List.append_nil, Int.toNat_natCast]; omega
  · simp only [Sy.dens, Sy.den, E.i, E.b, E.t, gd, Env.push, List.cons_append, List.nil_append, List.append_nil, Int.toNat_natCast]; omega
  · simp only [Sy.dens, Sy.den, E.i, E.b, E.t, gd, Env.push, List.cons_append, List.nil_append, List.append_nil, Int.toNat_natCast]; omega
  · simp only [Sy.dens, Sy.den, E.i, E.b, E.t, gd, Env.push, List.cons_append, List.nil_append, List.append_nil, Int.toNat_natCast]; omega
  refine den_loop (fun g vs ls _ => ∃ A' U' V' B' : List Vr.Ce, vs = [.int .i64 (U'.length : Nat), .int .i64 (V'.length : Nat), .slice ad n c] ∧ ls = [(A' ++ U' ++ V' ++ B').flatMap Vr.Ce.enc] ∧ A'.length + U'.length = A.length + U.length ∧ U' ≠ [] ∧ V' ≠ [] ∧ A' ++ V' ++ U' ++ B' = A ++ V ++ U ++ B ∧ g = U'.length + V'.length) (U.length + V.length) ⟨A, U, V, B, ?_, by simp only [rowConts, conts, Seg.den, gd, Env.push, List.map_cons, List.map_nil, List.flatMap_cons, List.flatMap_nil, List.append_nil, List.cons_append, List.nil_append], rfl, hU, hV, rfl, rfl⟩ ?_
  · simp only [Sy.dens, Sy.den, E.i, E.b, E.t, gd, Env.push, List.cons_append, List.nil_append, List.append_nil, Int.toNat_natCast]
    rw [show ((A.length + U.length : Nat) : Int) - (A.length : Nat) = (U.length : Nat) from by omega, show ((A.length + U.length + V.length : Nat) : Int) - (A.length + U.length : Nat) = (V.length : Nat) from by omega]
  rintro g vs ls W1 x1 ⟨A', U', V', B', rfl, rfl, hm, hU', hV', htg, rfl⟩
  refine ⟨(U'.length : Nat), (V'.length : Nat), n, c, ad, (A' ++ U' ++ V' ++ B').flatMap Vr.Ce.enc, rfl, by simp only [rowConts, conts, Seg.den, gd, Env.push, List.map_cons, List.map_nil, List.flatMap_cons, List.flatMap_nil, List.append_nil, List.cons_append, List.nil_append], fun hrow => ?_⟩
  simp only [Env.push, List.cons_append, List.nil_append, List.append_nil]
  have hu : 0 < U'.length := List.length_pos_iff.2 hU'
  have hv : 0 < V'.length := List.length_pos_iff.2 hV'
  have htl := congrArg List.length htg
  simp only [List.length_append] at htl
  have hs : W1.w.heap.size ≥ 0 := Nat.zero_le _
  refine den_br (fun c1 => den_br (fun c2 => ?_) fun c2 => ?_) fun c1 => ?_
  · simp only [Sy.dens, Sy.den, E.i, E.b, E.t, gd, Env.push, List.cons_append, List.nil_append, List.append_nil, Int.toNat_natCast, ltB_true] at c2
    have hlt : V'.length < U'.length := by omega
    refine den_chk (chk_le ?_) (den_chk (chk_le ?_) (den_row (xs := A' ++ U' ++ V' ++ B') (a := ad) (n := n) (c := c) (fun xs => xs = A' ++ V' ++ U'.drop V'.length ++ U'.take V'.length ++ B') hs rfl rfl rfl rfl rfl (Nat.le_of_ble_eq_true rfl) (Nat.le_of_ble_eq_true rfl) (Nat.le_of_ble_eq_true rfl) (fun W2 _ ho2 hf2 => ?_) fun xs' W2 hx2 x2 => ?_))
    · simp only [Sy.dens, Sy.den, E.i, E.b, E.t, gd, Env.push, List.cons_append, List.nil_append, List.append_nil, Int.toNat_natCast]; omega
    · simp only [Sy.dens, Sy.den, E.i, E.b, E.t, gd, Env.push, List.cons_append, List.nil_append, List.append_nil, Int.toNat_natCast]; omega
    · have := swr_t A' (U'.take V'.length) (U'.drop V'.length) V' B' (by simp; omega) (by simp; omega) ad n c W2 (by rw [List.append_assoc A', List.take_append_drop]; exact ho2) hf2 ((A.length + U.length : Nat) - (U'.length : Nat)) (A.length + U.length : Nat) (V'.length : Nat) (by omega) (by simp; omega) (by simp; omega)
      exact this
    · subst hx2
      simp only [Env.push, List.cons_append, List.nil_append, List.append_nil]
      refine den_chk (chk_le ?_) (den_chk (chk_le ?_) (den_again ⟨(U'.length - V'.length) + V'.length, by omega, A' ++ V', U'.drop V'.length, U'.take V'.length, B', ?_, by simp only [rowConts, conts, Seg.den, gd, Env.push, List.map_cons, List.map_nil, List.flatMap_cons, List.flatMap_nil, List.append_nil, List.cons_append, List.nil_append], by simp; omega, ?_, ?_, ?_, by simp; omega⟩))
      · simp only [Sy.dens, Sy.den, E.i, E.b, E.t, gd, Env.push, List.cons_append, List.nil_append, List.append_nil, Int.toNat_natCast]; omega
      · simp only [Sy.dens, Sy.den, E.i, E.b, E.t, gd, Env.push, List.cons_append, List.nil_append, List.append_nil, Int.toNat_natCast]; omega
      · simp only [Sy.dens, Sy.den, E.i, E.b, E.t, gd, Env.push, List.cons_append, List.nil_append, List.append_nil, Int.toNat_natCast]
        exact vs_eq2 (by simp; omega) (by simp; omega)
      · intro h; have := congrArg List.length h; simp only [List.length_take, List.length_drop, List.length_nil] at this; omega
      · intro h; have := congrArg List.length h; simp only [List.length_take, List.length_drop, List.length_nil] at this; omega
      · rw [← htg, List.append_assoc (A' ++ V'), List.take_append_drop]
  · simp only [Sy.dens, Sy.den, E.i, E.b, E.t, gd, Env.push, List.cons_append, List.nil_append, List.append_nil, Int.toNat_natCast, ltB_false] at c1 c2
    have hne : U'.length ≠ V'.length := by intro h; rw [h] at c1; simp at c1
    have hlt : U'.length < V'.length := by omega
    refine den_chk (chk_le ?_) (den_chk (chk_le ?_) (den_chk (chk_le ?_) (den_chk (chk_le ?_) (den_chk (chk_le ?_) (den_chk (chk_le ?_) (den_row (xs := A' ++ U' ++ V' ++ B') (a := ad) (n := n) (c := c) (fun xs => xs = A' ++ V'.drop (V'.length - U'.length) ++ V'.take (V'.length - U'.length) ++ U' ++ B') hs rfl rfl rfl rfl rfl (Nat.le_of_ble_eq_true rfl) (Nat.le_of_ble_eq_true rfl) (Nat.le_of_ble_eq_true rfl) (fun W2 _ ho2 hf2 => ?_) fun xs' W2 hx2 x2 => ?_))))))
    · simp only [Sy.dens, Sy.den, E.i, E.b, E.t, gd, Env.push, List.cons_append, List.nil_append, List.append_nil, Int.toNat_natCast]; omega
    · simp only [Sy.dens, Sy.den, E.i, E.b, E.t, gd, Env.push, List.cons_append, List.nil_append, List.append_nil, Int.toNat_natCast]; omega
    · simp only [Sy.dens, Sy.den, E.i, E.b, E.t, gd, Env.push, List.cons_append, List.nil_append, List.append_nil, Int.toNat_natCast]; omega
    · simp only [Sy.dens, Sy.den, E.i, E.b, E.t, gd, Env.push, List.cons_append, List.nil_append, List.append_nil, Int.toNat_natCast]; omega
    · simp only [Sy.dens, Sy.den, E.i, E.b, E.t, gd, Env.push, List.cons_append, List.nil_append, List.append_nil, Int.toNat_natCast]; omega
    · simp only [Sy.dens, Sy.den, E.i, E.b, E.t, gd, Env.push, List.cons_append, List.nil_append, List.append_nil, Int.toNat_natCast]; omega
    · have := swr_t A' U' (V'.take (V'.length - U'.length)) (V'.drop (V'.length - U'.length)) B' (by simp; omega) (by simp; omega) ad n c W2 (by rw [List.append_assoc (A' ++ U'), List.take_append_drop]; exact ho2) hf2 ((A.length + U.length : Nat) - (U'.length : Nat)) ((A.length + U.length : Nat) + (V'.length : Nat) - (U'.length : Nat)) (U'.length : Nat) (by omega) (by simp; omega) rfl
      exact this
    · subst hx2
      simp only [Env.push, List.cons_append, List.nil_append, List.append_nil]
      refine den_chk (chk_le ?_) (den_chk (chk_le ?_) (den_again ⟨U'.length + (V'.length - U'.length), by omega, A', V'.drop (V'.length - U'.length), V'.take (V'.length - U'.length), U' ++ B', ?_, by simp only [rowConts, conts, Seg.den, gd, Env.push, List.map_cons, List.map_nil, List.flatMap_cons, List.flatMap_nil, List.append_nil, List.cons_append, List.nil_append, List.append_assoc], by simp; omega, ?_, ?_, ?_, by simp; omega⟩))
      · simp only [Sy.dens, Sy.den, E.i, E.b, E.t, gd, Env.push, List.cons_append, List.nil_append, List.append_nil, Int.toNat_natCast]; omega
      · simp only [Sy.dens, Sy.den, E.i, E.b, E.t, gd, Env.push, List.cons_append, List.nil_append, List.append_nil, Int.toNat_natCast]; omega
      · simp only [Sy.dens, Sy.den, E.i, E.b, E.t, gd, Env.push, List.cons_append, List.nil_append, List.append_nil, Int.toNat_natCast]
        exact vs_eq2 (by simp; omega) (by simp; omega)
      · intro h; have := congrArg List.length h; simp only [List.length_take, List.length_drop, List.length_nil] at this; omega
      · intro h; have := congrArg List.length h; simp only [List.length_take, List.length_drop, List.length_nil] at this; omega
      · rw [← htg, List.append_assoc A' (V'.take _), List.take_append_drop]; simp only [List.append_assoc]
  · have he : U'.length = V'.length := by
      have : ((U'.length : Nat) : Int) = (V'.length : Nat) := by simpa [Sy.dens, Sy.den, E.i, E.b, E.t, gd, Env.push, List.cons_append, List.nil_append, List.append_nil, Int.toNat_natCast] using c1
      omega
    refine den_chk (chk_le ?_) (den_chk (chk_le ?_) (den_row (xs := A' ++ U' ++ V' ++ B') (a := ad) (n := n) (c := c) (fun xs => xs = A' ++ V' ++ U' ++ B') hs rfl rfl rfl rfl rfl (Nat.le_of_ble_eq_true rfl) (Nat.le_of_ble_eq_true rfl) (Nat.le_of_ble_eq_true rfl) (fun W2 _ ho2 hf2 => ?_) fun xs' W2 hx2 x2 => ?_))
    · simp only [Sy.dens, Sy.den, E.i, E.b, E.t, gd, Env.push, List.cons_append, List.nil_append, List.append_nil, Int.toNat_natCast]; omega
    · simp only [Sy.dens, Sy.den, E.i, E.b, E.t, gd, Env.push, List.cons_append, List.nil_append, List.append_nil, Int.toNat_natCast]; omega
    · have := swr_t A' U' [] V' B' he (by simp; omega) ad n c W2 (by rw [List.append_nil]; exact ho2) hf2 ((A.length + U.length : Nat) - (U'.length : Nat)) (A.length + U.length : Nat) (U'.length : Nat) (by omega) (by simp; omega) rfl
      simp only [List.append_nil] at this
      exact this
    · subst hx2
      simp only [Env.push, List.cons_append, List.nil_append, List.append_nil]
      refine den_ret fun _ _ hr => ⟨rfl, _, htg, ?_⟩
      have h1 := (hr _ (List.mem_cons_self ..)).1
      simp only [rowConts, conts, Seg.den, gd, Env.push, List.map_cons, List.map_nil, List.flatMap_cons, List.flatMap_nil, List.append_nil, List.cons_append, List.nil_append, Sy.den, E.i, Int.toNat_natCast] at h1
      exact h1
end Go.Proofs.Ytamnfdmmjjekhaa
