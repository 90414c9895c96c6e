/- vars.Env: the walk. -/
import Derived.Test.YtamnfdmmjjekhaaVrSeq
import Derived.Test.YtamnfdmmjjekhaaVrDel
namespace Vr
open Go
def Ce.va (c : Ce) : Va := ⟨c.nm, c.v⟩
def envL (cs : List Ce) (w : List Int) : List Va := w.flatMap fun id => (cs.filter fun x => x.sc == id).map Ce.va
theorem envL_snoc (cs : List Ce) (w : List Int) (id : Int) : envL cs (w ++ [id]) = envL cs w ++ (cs.filter fun x => x.sc == id).map Ce.va := by simp [envL]
theorem envL_len (cs : List Ce) (w : List Int) : (envL cs w).length ≤ w.length * cs.length := by
  unfold envL
  induction w with
  | nil => simp
  | cons a w ih =>
    simp only [List.flatMap_cons, List.length_append, List.length_map, List.length_cons, Nat.succ_mul]
    have := List.length_filter_le (fun x : Ce => x.sc == a) cs
    omega
theorem way_len (its : List It) (sc : Int) : (way its sc).length ≤ its.length := by
  have key : ∀ (f : Nat) (pre : List Int) (id : Int), pre.Nodup → (∀ x ∈ pre, x ∈ its.map (·.id)) → (pre ++ wayF its f pre id).length ≤ its.length := by
    intro f
    induction f with
    | zero => intro pre id hn hi; have := nodup_len hn hi; simpa [wayF] using this
    | succ f ih =>
      intro pre id hn hi
      unfold wayF
      cases hx : its.find? (isId id) with
      | none => have := nodup_len hn hi; simpa using this
      | some x =>
        dsimp only
        split
        · rename_i hk
          have hnd : (pre ++ [id]).Nodup := by
            rw [List.nodup_append]
            exact ⟨hn, by simp, fun a ha b hb e => by obtain rfl := List.mem_singleton.1 hb; exact hk.2 (e ▸ ha)⟩
          have hid : ∀ y ∈ pre ++ [id], y ∈ its.map (·.id) := fun y hy => by
            rcases List.mem_append.1 hy with hy | hy
            · exact hi y hy
            · obtain rfl := List.mem_singleton.1 hy; exact (find_id hx).2
          split
          · have := nodup_len hnd hid; simpa using this
          · have := ih (pre ++ [id]) (nextId its x) hnd hid
            simpa using this
        · have := nodup_len hn hi; simpa using this
  have := key (its.length + 1) [] sc List.nodup_nil (fun x h => by cases h)
  simpa [way] using this
theorem vas_len (l : List Va) : (l.flatMap Va.enc).length = l.length * 4 := by
  induction l with
  | nil => rfl
  | cons x l ih => rw [List.flatMap_cons, List.length_append, Va.enc_len, ih, List.length_cons]; omega
end Vr
namespace Go.Proofs.Ytamnfdmmjjekhaa
open Go Go.RowKit Go.Maps Go.Lib Go.Shelf
attribute [local go_sem] Oper.semAt_some
set_option linter.unusedVariables false
set_option linter.unusedSimpArgs false
theorem infoSet : (Try.prog.info? 49).map (fun i => (i.zero, i.size, i.bytes)) = some (some (.agg #[.string ByteArray.empty, .int .u8 0, .int .i64 0, .string ByteArray.empty]), 4, 48) := by kernel_rfl
theorem ownFrom_kb {β : Type} {p : Nat → Prop} {B : Nat} {w₀ : World} (hp : ∀ k, p k → k < w₀.heap.size) (hB : w₀.heap.size ≤ B) : OwnFrom B (fun (_ : β) W => KB p w₀ W) :=
  fun _ X Y row hs hg hr => hs.grown hg (fun k hk => Nat.lt_of_lt_of_le (hp k hk) hs.size) (fun k e hk => by have := (hr k e).1; have := hp k hk; omega)
theorem four {w W : World} {o0 o1 o2 o3 : Obj} (h : (((w.alloc o0).alloc o1).alloc o2).alloc o3 = W) : W.heap.size = w.heap.size + 4 ∧ Below w.heap.size w W ∧ W.heap[w.heap.size]? = some o0 ∧ W.heap[w.heap.size + 1]? = some o1 ∧ W.heap[w.heap.size + 1 + 1]? = some o2 ∧ W.heap[w.heap.size + 1 + 1 + 1]? = some o3 := by
  subst h
  refine ⟨by simp, ((((Below.refl _ w).alloc (Nat.le_refl _) _).alloc (by simp) _).alloc (by simp; omega) _).alloc (by simp; omega) _, ?_, ?_, ?_, ?_⟩
  · exact heap_old (heap_old (heap_old (new_at _ rfl) _) _) _
  · exact heap_old (heap_old (new_at _ (by simp)) _) _
  · exact heap_old (new_at _ (by simp)) _
  · exact new_at _ (by simp)
/-- a slice of what stood, in a world where these blocks stand -/
theorem sl_kb {w W : World} {p : Nat → Prop} {a : Option Addr} {n c sz : Nat} {L : List Value} (h : SF.SlW w a n c sz L) (hB : Below w.heap.size w W) (hp : ∀ k, k < w.heap.size → p k) : SF.SlAt W p a n c sz L := by
  obtain ⟨h1, h2, h3⟩ := h
  refine ⟨h1, h2, ?_⟩
  rcases h3 with h | ⟨b, o, e, _, hb, hc⟩
  · exact .inl h
  · exact .inr ⟨b, o, e, hp b hb, Nat.lt_of_lt_of_le hb hB.size, fun j u hu => (hB.cell (p := ⟨b, o + j, none⟩) hb).trans (hc j u hu)⟩
theorem cells_new (W : World) (arr : Array Value) (t : TypeId) {j : Nat} {u : Value} (h : arr[j]? = some u) : (W.alloc (.cells arr t)).cell? ((⟨W.heap.size, 0, none⟩ : Addr).add j) = some u := by
  rw [SF.add_none]
  unfold World.cell?
  rw [World.alloc_heap_new]
  simpa using h
theorem appended_kb {W w1 : World} {n₀ B : Nat} {t e : TypeId} {size : Nat} {v v' : Value} {k m : Nat} {xs ys : List Value} {tmp : Obj} {p : Nat → Prop}
    (hv : Boxed W B t v) (hte : t ≠ e) (hrow : W.ownsRow n₀ e size v k xs) (hp : ∀ k, p k → k < n₀ ∧ k ≠ B) (hn₀ : n₀ ≤ W.heap.size)
    (hown' : w1.ownsRow n₀ e size v' m ys) (hgrow : (W.alloc tmp).grownBy w1 v.ownBlock) :
    Boxed w1 B t v ∧ Boxed (w1.setCell ⟨B, 0, none⟩ v') B t v' ∧ (w1.setCell ⟨B, 0, none⟩ v').ownsRow n₀ e size v' m ys ∧ KeepsOthers W (w1.setCell ⟨B, 0, none⟩ v') ∧ KB p W (w1.setCell ⟨B, 0, none⟩ v') := by
  have hv1 : Boxed w1 B t v := (hv.alloc tmp).kept hgrow (hv.not_row hte hrow)
  refine ⟨hv1, hv1.set v', hown'.kept (grownBy_setCell' w1 B v') (.inr (hv1.not_row hte hown').symm), ?_, ?_⟩
  · refine ((KeepsOthers.alloc W tmp).trans (KeepsOthers.of_grownBy hgrow fun j o ej hj => ?_)).trans (KeepsOthers.setCell _ _ _)
    rcases (hrow.alloc tmp).2 with ⟨rfl, _⟩ | ⟨g, cap, cur, rfl, _, hgb, _⟩
    · simp [Value.ownBlock] at ej
    · obtain rfl : g = j := by simpa [Value.ownBlock] using ej
      rw [hgb] at hj; cases hj; rfl
  · have hg := (KB.refl p W).alloc (fun k hk => Nat.lt_of_lt_of_le (hp k hk).1 hn₀) tmp
    have h2 : KB p W w1 := hg.grown hgrow (fun k hk => Nat.lt_of_lt_of_le (hp k hk).1 (by simp; omega)) fun j ej hj => by
      rcases hrow.2 with ⟨rfl, _⟩ | ⟨g, cap, cur, rfl, hb, _, _⟩
      · simp [Value.ownBlock] at ej
      · obtain rfl : g = j := by simpa [Value.ownBlock] using ej
        have := (hp _ hj).1; omega
    exact h2.trans ((KB.refl p w1).grown (grownBy_setCell' w1 B v') (fun k hk => Nat.lt_of_lt_of_le (hp k hk).1 (Nat.le_trans hn₀ h2.size)) (fun k ek hk => by cases ek; exact (hp _ hk).2 rfl))
theorem owns_base {w : World} {b b' : Nat} {e : TypeId} {sz : Nat} {v : Value} {n : Nat} {xs : List Value} (h : w.ownsRow b e sz v n xs) (hb : b' ≤ b) : w.ownsRow b' e sz v n xs :=
  ⟨h.1, h.2.imp id fun ⟨g, cap, cur, a, b, c⟩ => ⟨g, cap, cur, a, by omega, c⟩⟩
theorem kw_alloc {p : Nat → Prop} {W : World} (hp : ∀ k, p k → k < W.heap.size) (o : Obj) : Kw p W (W.alloc o) :=
  ⟨(KB.refl _ W).alloc hp _, KeepsWalks.alloc _ _, fun b cs fr h => Below.heap_alloc _ _ _ (Array.getElem?_eq_some_iff.1 h).1⟩
set_option maxRecDepth 100000 in
set_option maxHeartbeats 4000000 in
theorem env_in (n : Nat) (hn : 6 ≤ n) (S : Vr.StV) (its : List Vr.It) (hl : its.length ≤ 10000) (hups : ∀ x ∈ its, (Lit.int .i64 x.up).wf = true) (cs : List Vr.Ce) (hcl : cs.length ≤ 10000) (sc : Int) (hsc : (Lit.int .i64 sc).wf = true) (w : World)
    (hS : SF.SlW w S.i.a S.i.n S.i.c 8 (its.flatMap Vr.It.enc)) (hC : SF.SlW w S.c.a S.c.n S.c.c 5 (cs.flatMap Vr.Ce.enc)) :
    CallsIn Fence.wide n Try.prog 18 #[S.val, .int .i64 sc] w fun e W' => ∃ v, e = .returned v ∧ W'.ownsRow w.heap.size 49 4 v (Vr.envL cs (Vr.way its sc)).length ((Vr.envL cs (Vr.way its sc)).flatMap Vr.Va.enc) ∧ Below w.heap.size w W' := by
  have h1 : 1 ≤ n := by omega
  obtain ⟨i0, hi, hz0, hz1, hz2⟩ := info_parts infoSet
  have hfW : Fence.wide.fn 34 := trivial
  have hfC : Fence.wide.fn 19 := trivial
  refine callsIn_of_wp_marks Try.func18 rfl trivial ?_ rfl
  simp only [Try.ntmps18, List.size_toArray, List.length_cons, List.length_nil, Nat.reduceAdd, Nat.reduceSub, Array.replicate_succ, Array.replicate_zero, List.push_toArray, List.append_toArray, List.nil_append, List.cons_append]
  have hway := way_in (n - 1) S sc
  unfold Vr.StV.val at hway ⊢
  gi_wp2_with (gi_at_call 34; refine (hway _).mono ?_; rintro e w' ⟨rfl, rfl⟩)
  generalize hW0 : World.alloc (World.alloc (World.alloc (World.alloc w _) _) _) _ = W0
  obtain ⟨hsz, hB0, b0, b1, b2, b3⟩ := four hW0
  have h5 : w.heap.size + 4 ≤ W0.heap.size := by omega
  clear hW0 hway hsz
  obtain ⟨p, hp⟩ : ∃ p : Nat → Prop, p = fun k => k < W0.heap.size ∧ k ≠ w.heap.size + 1 := ⟨_, rfl⟩
  have hpk : ∀ k, k < W0.heap.size → k ≠ w.heap.size + 1 → p k := fun k h1 h2 => by rw [hp]; exact ⟨h1, h2⟩
  have hpl : ∀ k, p k → k < W0.heap.size := fun k hk => by rw [hp] at hk; exact hk.1
  have hpn : ∀ k, p k → k ≠ w.heap.size + 1 := fun k hk => by rw [hp] at hk; exact hk.2
  have hSI : SF.SlAt W0 p S.i.a S.i.n S.i.c 8 (its.flatMap Vr.It.enc) := sl_kb hS hB0 (fun k hk => hpk k (by omega) (by omega))
  have hCC : SF.SlAt W0 p S.c.a S.c.n S.c.c 5 (cs.flatMap Vr.Ce.enc) := sl_kb hC hB0 (fun k hk => hpk k (by omega) (by omega))
  clear hp
  refine wpIn_rangeFunc_ownG rfl h1 (gf := 47) (lb := #[.pointer (some ⟨w.heap.size + 1 + 1 + 1, 0, none⟩), .pointer (some ⟨w.heap.size + 1 + 1, 0, none⟩)]) rfl trivial (enters_of Try.func47 (by kernel_rfl) rfl)
    (way_stops (n - 1) (by omega) S its (by omega) hups sc hsc (w.heap.size + 1 + 1 + 1) (w.heap.size + 1 + 1) p W0 hpl (hpk _ (by omega) (by omega)) (hpk _ (by omega) (by omega)) b3 b2 hSI) (fun h k => h.trans k) (fun W l o o' hl h hc hw => Kw.putObj hpl W l o o' hl h hc hw) (Below.refl _ _) (fun _ => rfl)
    (fun (pre : List Int) W => (∃ v, Boxed W (w.heap.size + 1) 50 v ∧ W.ownsRow W0.heap.size 49 4 v (Vr.envL cs pre).length ((Vr.envL cs pre).flatMap Vr.Va.enc) ∧ True) ∧ KB p W0 W)
    (fun _ _ _ => False)
    (OwnFrom.and (Own.from (holdsRow_own W0.heap.size (w.heap.size + 1) 50 49 4 (fun pre : List Int => (Vr.envL cs pre).length) (fun pre => (Vr.envL cs pre).flatMap Vr.Va.enc) (fun pre v => True)) _) (ownFrom_kb hpl (Nat.le_refl _)))
    (fun _ _ _ _ _ hs _ _ => hs)
    ⟨⟨_, b1, World.ownsRow_nil _ _ _ _, trivial⟩, KB.refl _ _⟩
    (fun x => { tmps := #[.agg #[.int .i64 S.ck, .int .i64 S.nx, .slice S.d.a S.d.n S.d.c, .slice S.i.a S.i.n S.i.c, .slice S.c.a S.c.n S.c.c, .slice S.h.a S.h.n S.h.c], .int .i64 sc, .pointer (some ⟨w.heap.size, 0, none⟩), undef, .slice none 0 0, .pointer (some ⟨w.heap.size + 1, 0, none⟩), .int .i64 x, undef, undef, .agg #[.int .i64 S.ck, .int .i64 S.nx, .slice S.d.a S.d.n S.d.c, .slice S.i.a S.i.n S.i.c, .slice S.c.a S.c.n S.c.c, .slice S.h.a S.h.n S.h.c], .int .i64 sc, .func (.func 47) #[] #[.pointer (some ⟨w.heap.size + 1 + 1 + 1, 0, none⟩), .pointer (some ⟨w.heap.size + 1 + 1, 0, none⟩)], .int .i64 x, undef, undef, undef, undef, undef, undef, undef, undef, undef, undef, undef, undef, undef, undef, undef, undef, undef, undef], defers := [] }) ?assign ?body ?done ?stop
  case assign =>
    intro l x W K hK
    gi_wp2
    exact hK
  case body =>
    rintro l pre x W ⟨⟨v, hv, hrow, _⟩, hB⟩ hlt
    have hc := hv.cell
    have cell : ∀ j v, W0.cell? ⟨w.heap.size, j, none⟩ = some v → W.cell? ⟨w.heap.size, j, none⟩ = some v := fun j v h => (hB.cell (a := ⟨w.heap.size, j, none⟩) (hpk w.heap.size (by omega) (by omega))).trans h
    have s0 := cell 0 (.int .i64 S.ck) (by simp [World.cell?, b0])
    have s1 := cell 1 (.int .i64 S.nx) (by simp [World.cell?, b0])
    have s2 := cell 2 (.slice S.d.a S.d.n S.d.c) (by simp [World.cell?, b0])
    have s3 := cell 3 (.slice S.i.a S.i.n S.i.c) (by simp [World.cell?, b0])
    have s4 := cell 4 (.slice S.c.a S.c.n S.c.c) (by simp [World.cell?, b0])
    have s5 := cell 5 (.slice S.h.a S.h.n S.h.c) (by simp [World.cell?, b0])
    have hcells := cells_r S cs (by omega) x (SF.Wd.of W) (slw_below hCC hB)
    unfold SF.CallsI SF.CallsE SF.Ret NewRow Vr.StV.val at hcells
    have hfl := List.length_filter_le (fun c : Vr.Ce => c.sc == x) cs
    have hsnoc := Vr.envL_snoc cs pre x
    have hpre : (Vr.envL cs pre).length ≤ 100000000 := by
      have := Vr.envL_len cs pre
      have h2 : pre.length * cs.length ≤ 10000 * 10000 := Nat.mul_le_mul (by omega) (by omega)
      omega
    generalize (cs.filter fun c => c.sc == x) = F at hcells hfl hsnoc
    have h1' : 1 ≤ n - 1 - 1 := by omega
    have H1 : Aside _ := hB
    have H2 : Aside _ := hrow
    have H3 : Aside _ := hv
    clear cell hB hrow hv hc
    gi_wp2_with (gi_at_call 19; refine (CallsIn.inRound l (callsIn_wide.2 hcells)).mono ?_; rintro e w2 ⟨hk, v2, rfl, a2, c2, rfl, ho⟩)
    have hb2 : Below W.heap.size W w2 := SF.Keeps.below hk
    have hB2 : KB p W w2 := KB.of_below hb2 (fun k hk => Nat.lt_of_lt_of_le (hpl k hk) H1.out.size)
    clear s0 s1 s2 s3 s4 s5 hk
    gi_loopg [17] (F.length) (fun g vi wr => ∃ i : Nat, vi = .int .i64 i ∧ g + i = F.length ∧ Aside (∃ v, Boxed wr (w.heap.size + 1) 50 v ∧ wr.ownsRow W0.heap.size 49 4 v ((Vr.envL cs pre).length + i) ((Vr.envL cs pre ++ (F.take i).map Vr.Ce.va).flatMap Vr.Va.enc)) ∧ Aside (KeepsOthers W wr) ∧ Aside (Kw p W wr) ∧ Aside (KT 39 w2 wr) ∧ W.heap.size ≤ wr.heap.size)
    case atStart =>
      refine ⟨0, rfl, rfl, ⟨v, ?_, ?_⟩, keepsOthers_below hb2, ⟨hB2, ⟨hb2.size, fun k o hk _ => (hb2.block k (Array.getElem?_eq_some_iff.1 hk).1).trans hk⟩, KT.below hb2⟩, KT.refl _ _, hb2.size⟩
      · exact (hb2.block _ (Array.getElem?_eq_some_iff.1 H3.out).1).trans H3.out
      · simp only [List.take_zero, List.map_nil, List.append_nil, Nat.add_zero]
        exact World.ownsRow.kept H2.out (grownBy_below (World.grownBy.refl W none) hb2) (if h : v.ownBlock = none then .inl h else .inr h)
    case round =>
      obtain ⟨i, rfl, hg, ⟨v', hv', hrow'⟩, hko, hkw, hkt, hsz⟩ := hrel
      have hl2 : F.length ≤ 10000 := by omega
      by_cases hlt2 : i < F.length
      · have hy : F[i]? = some F[i] := List.getElem?_eq_getElem hlt2
        have hts : F.take (i + 1) = F.take i ++ [F[i]] := List.take_succ_eq_append_getElem hlt2
        generalize F[i] = y at hy hts
        obtain ⟨g, rfl, hgc⟩ : ∃ g, a2 = some ⟨g, 0, none⟩ ∧ ∀ j u, y.enc[j]? = some u → wr.cell? ⟨g, i * 5 + j, none⟩ = some u := by
          have hsl := (SF.owns_sl ho).2.2
          rcases ho.2 with ⟨e, z⟩ | ⟨g, cap, cur, e, _, hgb, _⟩
          · omega
          · injection e with e1 e2 e3
            refine ⟨g, e1, fun j u hu => ?_⟩
            rcases hsl with ⟨_, z, _⟩ | ⟨b, o, eb, _, _, hcs⟩
            · omega
            · rw [e1] at eb
              obtain ⟨rfl, rfl⟩ : g = b ∧ 0 = o := by simpa using eb
              have hj : j < 5 := (List.getElem?_eq_some_iff.1 hu).1
              have h1 := hcs (i * 5 + j) u (by rw [SF.flat_get Vr.Ce.enc_len j hy hj]; exact hu)
              rw [Nat.zero_add] at h1
              rw [← h1]
              unfold World.cell?
              rw [hkt.out _ _ _ hgb]
        have g0 : wr.cell? ⟨g, i * 5, none⟩ = some (.int .i64 y.sc) := hgc 0 (.int .i64 y.sc) rfl
        have g1 := hgc 1 (.string ⟨y.nm.toArray⟩) rfl
        have g2 := hgc 2 (.int .u8 y.v.k) rfl
        have g3 := hgc 3 (.int .i64 y.v.n) rfl
        have g4 := hgc 4 (.string ⟨y.v.t.toArray⟩) rfl
        have H4 : Aside _ := hko
        clear hgc
        gi_upto_region 7 with fail
        have hrowV := hrow'.alloc (.cells #[.int .i64 y.sc, .string ⟨y.nm.toArray⟩, .int .u8 y.v.k, .int .i64 y.v.n, .string ⟨y.v.t.toArray⟩] 39)
        have hvV := hv'.alloc (.cells #[.int .i64 y.sc, .string ⟨y.nm.toArray⟩, .int .u8 y.v.k, .int .i64 y.v.n, .string ⟨y.v.t.toArray⟩] 39)
        have hbV := new_at (w := wr) (.cells #[.int .i64 y.sc, .string ⟨y.nm.toArray⟩, .int .u8 y.v.k, .int .i64 y.v.n, .string ⟨y.v.t.toArray⟩] 39) rfl
        have hpr : ∀ k, p k → k < wr.heap.size := fun k hk => by have := hpl k hk; have := H1.out.size; omega
        have hkV := kw_alloc hpr (.cells #[.int .i64 y.sc, .string ⟨y.nm.toArray⟩, .int .u8 y.v.k, .int .i64 y.v.n, .string ⟨y.v.t.toArray⟩] 39)
        have hBV : Below wr.heap.size wr (wr.alloc (.cells #[.int .i64 y.sc, .string ⟨y.nm.toArray⟩, .int .u8 y.v.k, .int .i64 y.v.n, .string ⟨y.v.t.toArray⟩] 39)) := (Below.refl _ _).alloc (Nat.le_refl _) _
        have hszV : wr.heap.size < (wr.alloc (.cells #[.int .i64 y.sc, .string ⟨y.nm.toArray⟩, .int .u8 y.v.k, .int .i64 y.v.n, .string ⟨y.v.t.toArray⟩] 39)).heap.size := by simp
        generalize wr.alloc (.cells #[.int .i64 y.sc, .string ⟨y.nm.toArray⟩, .int .u8 y.v.k, .int .i64 y.v.n, .string ⟨y.v.t.toArray⟩] 39) = V at hrowV hvV hbV hkV hBV hszV ⊢
        have cv := hvV.cell
        have e1 : V.cell? ⟨wr.heap.size, 1, none⟩ = some (.string ⟨y.nm.toArray⟩) := by simp [World.cell?, hbV]
        have e2 : V.cell? ⟨wr.heap.size, 2, none⟩ = some (.int .u8 y.v.k) := by simp [World.cell?, hbV]
        have e3 : V.cell? ⟨wr.heap.size, 3, none⟩ = some (.int .i64 y.v.n) := by simp [World.cell?, hbV]
        have e4 : V.cell? ⟨wr.heap.size, 4, none⟩ = some (.string ⟨y.v.t.toArray⟩) := by simp [World.cell?, hbV]
        have hnV : W0.heap.size ≤ V.heap.size := by have := H1.out.size; omega
        clear g0 g1 g2 g3 g4 hrow' hv'
        gi_upto_region 8 with (gi_at_builtin; refine wpListIn_append_own _ rfl _ _ 50 rfl W0.heap.size 49 i0 (.agg #[.string ByteArray.empty, .int .u8 0, .int .i64 0, .string ByteArray.empty]) 4 48 Try.underlying50 hi hz0 hz1 hz2 rfl (by decide) _ _ _ rfl (hrowV.alloc _) ⟨V.heap.size, 0, none⟩ 1 1 [.string ⟨y.nm.toArray⟩, .int .u8 y.v.k, .int .i64 y.v.n, .string ⟨y.v.t.toArray⟩] rfl rfl (fun j u hu => cells_new V _ _ (by simpa using hu)) (by simp [Value.oneCell']) (by unfold maxLen; omega) (by omega) (by simp; omega) ?_; intro v3 w3 hown' hgrow _; obtain ⟨g', cap', rfl⟩ := ownsRow_succ hown'; obtain ⟨hv1, hv2, hr2, hk2, hb2'⟩ := appended_kb (p := p) hvV (by decide) hrowV (fun k hk => ⟨hpl k hk, hpn k hk⟩) hnV hown' hgrow; have hc1 := hv1.cell; have hf1 := hv1.frozen; have hit := items_appended (it := 54) (B := w.heap.size + 1) (v' := .slice (some ⟨g', 0, none⟩) ((Vr.envL cs pre).length + i + 1) cap') hvV hrowV hgrow (by decide) (by decide); have hit2 := items_appended (it := 39) (B := w.heap.size + 1) (v' := .slice (some ⟨g', 0, none⟩) ((Vr.envL cs pre).length + i + 1) cap') hvV hrowV hgrow (by decide) (by decide))
        generalize w3.setCell ⟨w.heap.size + 1, 0, none⟩ (.slice (some ⟨g', 0, none⟩) ((Vr.envL cs pre).length + i + 1) cap') = W3 at hv2 hr2 hk2 hb2' hit hit2 ⊢
        have hkw3 : Kw p V W3 := ⟨hb2', keepsOthers_walks hk2, hit⟩
        have G1 : Aside (∃ v, Boxed W3 (w.heap.size + 1) 50 v ∧ W3.ownsRow W0.heap.size 49 4 v ((Vr.envL cs pre).length + (i + 1)) ((Vr.envL cs pre ++ (F.take (i + 1)).map Vr.Ce.va).flatMap Vr.Va.enc)) := by
          refine ⟨_, hv2, ?_⟩
          rw [hts]
          simp only [List.map_append, List.map_cons, List.map_nil, List.flatMap_append, List.flatMap_cons, List.flatMap_nil, List.append_nil] at hr2 ⊢
          rw [← List.append_assoc]
          exact hr2
        have G2 : Aside (KeepsOthers W W3) := H4.out.trans ((keepsOthers_below hBV).trans hk2)
        have G3 : Aside (Kw p W W3) := hkw.out.trans (hkV.trans hkw3)
        have G4 : Aside (KT 39 w2 W3) := hkt.out.trans ((KT.below hBV).trans hit2)
        have G5 : W.heap.size ≤ W3.heap.size := G2.out.size
        clear hv2 hr2 hk2 hb2' hit hit2 hkw3 hc1 hf1 hv1 hown' hgrow hkt hkw hkV hBV hvV hrowV cv e1 e2 e3 e4
        gi_wp2
        go_roundg (gk - 1)
        case rel => exact ⟨i + 1, by simp, by omega, G1, G2, G3, G4, G5⟩
        case measure => omega
      · obtain rfl : i = F.length := by omega
        gi_wp2
        refine ⟨hko.out.from _, hkw.out, ⟨v', hv', ?_, trivial⟩, H1.out.trans hkw.out.below⟩
        rw [hsnoc, List.length_append, List.length_map]
        have := hrow'
        rw [List.take_length] at this
        exact this
  case done =>
    rintro D ys W hD rfl ⟨⟨v, hv, hrow, _⟩, hB⟩ hK
    have hc := hv.cell
    gi_wp2
    refine ⟨by simp, .inl ⟨_, _, rfl, run_takeDeferred hK, ?_⟩⟩
    have hBw : Below w.heap.size w W := ⟨hB.os.trans hB0.os, hB.tape.trans hB0.tape, hB.output.trans hB0.output, Nat.le_trans hB0.size hB.size, fun k hk => (hB.block k (hpk k (by omega) (by omega))).trans (hB0.block k hk)⟩
    exact ⟨_, results_tmp rfl _ _ _, v, rfl, ownsRow_putObj (owns_base hrow (by omega)) _ hK rfl, hBw.trans (belowK_b (w := w) (Nat.le_refl _) W D _ _ (by omega) hK rfl rfl)⟩
  case stop =>
    rintro D c pre W _ _ h _
    exact h.elim
end Go.Proofs.Ytamnfdmmjjekhaa
