/- ParseBinds: the walk, and that each two operators bind as is told. -/
import Derived.Test.YtckgdgkkmhochaaGreatDoorPxWorks
import Derived.Test.YtckgdgkkmhochaaGreatDoorVcBinds
namespace Px
open Go
open Lx hiding none run first may
def sgs : List Bs := [[124], [38], [60], [60, 61], [61, 61], [33, 61], [43], [45], [42], [47], [37]]
def opl : List Int := [14, 13, 9, 10, 11, 12, 8, 15, 5, 6, 7]
def mul : List Int := [1, 2, 3, 3, 3, 3, 4, 4, 5, 5, 5]
def sg (i : Nat) : Bs := sgs.getD i []
def opn (i : Nat) : Int := opl.getD i 0
def mu (i : Nat) : Int := mul.getD i 0
def abc (i k : Nat) : Bs := [97, 32] ++ sg i ++ [32, 98, 32] ++ sg k ++ [32, 99]
def left3 (i k : Nat) : Ex := op2 (opn k) (op2 (opn i) (name [97]) (name [98])) (name [99])
def right3 (i k : Nat) : Ex := op2 (opn i) (name [97]) (op2 (opn k) (name [98]) (name [99]))
def bindsOk (i k : Nat) : Bool := if mu i = 3 ∧ mu k = 3 then no_ (abc i k) 4 else if mu k ≤ mu i then is_ (abc i k) (left3 i k) else is_ (abc i k) (right3 i k)
theorem binds_ok : ∀ i, i < 11 → ∀ k, k < 11 → bindsOk i k = true := by decide +kernel
theorem sg_at : ∀ i, i < 11 → sgs[i]? = some (sg i) ∧ opl[i]? = some (opn i) ∧ mul[i]? = some (mu i) ∧ (sg i).length ≤ 2 := by decide +kernel
end Px
namespace Go.Proofs.YtckgdgkkmhochaaGreatDoor
open Go Go.RowKit Go.SF
set_option linter.unusedSimpArgs false
set_option linter.unusedVariables false

def ix11 (n : Int) : Nat := (IntKind.u64.wrap n).tmod 11 |>.toNat
theorem u64_pos11 (n : Int) : 0 ≤ IntKind.u64.wrap n := by simp [IntKind.wrap, IntKind.bits, IntKind.signed]; omega
theorem ix11_lt (n : Int) : ix11 n < 11 := by
  unfold ix11
  have h := Int.tmod_lt_of_pos (IntKind.u64.wrap n) (b := 11) (by decide)
  omega
theorem ix11_cast (n : Int) : ((ix11 n : Nat) : Int) = IntKind.i64.wrap ((IntKind.u64.wrap n).tmod 11) := by
  have := Int.tmod_nonneg 11 (u64_pos11 n)
  have h := Int.tmod_lt_of_pos (IntKind.u64.wrap n) (b := 11) (by decide)
  rw [w64i (by omega) (by omega)]
  unfold ix11
  omega
/-- a load of an element of a new table that stays -/
theorem tab_look {α : Type} {f : α → Value} {l : List α} {W : Wd} {m : Nat} {ty t : TypeId} (h : W.w.heap[m]? = some (.cells (l.map f).toArray ty)) (hI : W.I m) (hA : aggT Tryz.prog t = some false) {i : Nat} {x : α} (hx : l[i]? = some x)
    {W' : Wd} (e : Ext W W') : (Instr.loadAt t (.pointer (some (((some ⟨m, 0, none⟩ : Option Addr).getD default).add (i * 1 + 0))))).run Tryz.prog W'.w = .ok (f x) W'.w := by
  refine look_one hA ?_
  simp only [Option.getD_some]
  rw [add_none, cell_ext' e hI]
  simp [World.cell?, h, hx]
theorem i64_aggP : aggT Tryz.prog 3 = some false := by kernel_rfl
theorem xx2 {A B C : Wd} (x : Ext A B) (y : Ext B C) : Ext A C := ext_trans x y
set_option maxRecDepth 100000 in
theorem binds_q (p q : Int) (W0 : Wd) (hG : Glob W0) (hT : Vs.Tabs W0) : CallsQ Tryz.prog 6 #[.int .i64 p, .int .i64 q] W0 (.bool true) := by
  refine vc_lbinds p q W0.all _ ?_
  have hG := hG.ext W0.all_ext
  have hT := hT.ext W0.all_ext
  obtain ⟨i, hi⟩ : ∃ i, i = ix11 p := ⟨_, rfl⟩
  obtain ⟨k, hk⟩ : ∃ k, k = ix11 q := ⟨_, rfl⟩
  have hil : i < 11 := by rw [hi]; exact ix11_lt p
  have hkl : k < 11 := by rw [hk]; exact ix11_lt q
  have ei : IntKind.i64.wrap ((IntKind.u64.wrap p).tmod 11) = ((i : Nat) : Int) := by rw [hi, ix11_cast]
  have ek : IntKind.i64.wrap ((IntKind.u64.wrap q).tmod 11) = ((k : Nat) : Int) := by rw [hk, ix11_cast]
  obtain ⟨si, oi, mi, li⟩ := Px.sg_at i hil
  obtain ⟨sk, ok, mk, lk⟩ := Px.sg_at k hkl
  have hok := Px.binds_ok i hil k hkl
  clear hi hk
  refine den_call_q (fun _ _ => works_q _ hG hT) ⟨true, rfl, fun W1 x1 => den_br (fun c => by cases c) fun _ => ?_⟩
  refine den_newf fun ms W2 _ x2 Is hs => den_newf fun mo W3 _ x3 Io ho => den_newf fun mm W4 _ x4 Im hm => ?_
  have hs : W2.w.heap[ms]? = some (.cells (Px.sgs.map fun s => Value.string ⟨s.toArray⟩).toArray 9) := hs
  have ho : W3.w.heap[mo]? = some (.cells (Px.opl.map fun s => Value.int .u8 s).toArray 5) := ho
  have hm : W4.w.heap[mm]? = some (.cells (Px.mul.map fun s => Value.int .i64 s).toArray 3) := hm
  have y2 := ext_trans x3 x4
  have z4 := ext_trans (ext_trans x1 x2) y2
  have hG := hG.ext z4
  have hT := hT.ext z4
  simp only [Env.push, List.cons_append, List.nil_append, List.append_nil]
  refine den_call_i (fun _ _ => name_i [97] W4) fun v w' _ ⟨o1, k1, n1, t1, m1, al1, len1, cl1, hv, hJ⟩ => ⟨o1, k1, n1, len1, cl1, t1, m1, al1, hv, fun W5 e2 y5 n2 => ?_⟩
  have ha := ExJ.i hJ e2 y5 n2
  clear hv hJ e2 n2
  simp only [Env.push, List.cons_append, List.nil_append, List.append_nil]
  refine den_call_i (fun _ _ => name_i [98] W5) fun v w' _ ⟨o2, k2, n2, t2, m2, al2, len2, cl2, hv, hJ⟩ => ⟨o2, k2, n2, len2, cl2, t2, m2, al2, hv, fun W6 e2 y6 n2 => ?_⟩
  have ha := ha.ext y6
  have hb := ExJ.i hJ e2 y6 n2
  clear hv hJ e2 n2
  simp only [Env.push, List.cons_append, List.nil_append, List.append_nil]
  refine den_call_i (fun _ _ => name_i [99] W6) fun v w' _ ⟨o3, k3, n3, t3, m3, al3, len3, cl3, hv, hJ⟩ => ⟨o3, k3, n3, len3, cl3, t3, m3, al3, hv, fun W7 e2 y7 n2 => ?_⟩
  have ha := ha.ext y7
  have hb := hb.ext y7
  have hc := ExJ.i hJ e2 y7 n2
  clear hv hJ e2 n2
  simp only [Env.push, List.cons_append, List.nil_append, List.append_nil]
  refine den_new fun _ W8 _ a1 => den_new fun _ W9 _ a2 => den_new fun _ W10 _ a3 => den_wr fun W11 a4 => den_wr fun W12 a5 => den_wr fun W13 a6 => ?_
  have a := ext_trans (ext_trans (ext_trans (ext_trans (ext_trans a1 a2) a3) a4) a5) a6
  have z13 := ext_trans (ext_trans (ext_trans y5 y6) y7) a
  have ha := ha.ext a
  have hb := hb.ext a
  have hc := hc.ext a
  have hG := hG.ext z13
  have hT := hT.ext z13
  have es := fun V (e : Ext W13 V) => ext_trans (ext_trans y2 z13) e
  have eo := fun V (e : Ext W13 V) => ext_trans (ext_trans x4 z13) e
  have em := fun V (e : Ext W13 V) => ext_trans z13 e
  refine den_chk rfl (den_chk ?_ (den_chk ?_ (den_look ⟨⟨(Px.sg i).toArray⟩, fun V x => ?_, ?_⟩)))
  · simp only [Sy.dens, Sy.den, E.i, E.b, E.t, gd, Env.push, List.cons_append, List.nil_append, List.append_nil, Int.toNat_natCast]; rw [ei]; exact leB_t (by omega)
  · simp only [Sy.dens, Sy.den, E.i, E.b, E.t, gd, Env.push, List.cons_append, List.nil_append, List.append_nil, Int.toNat_natCast]; rw [ei]; exact ltB_t (by omega)
  · simp only [Sy.dens, Sy.den, E.i, E.b, E.t, gd, Env.push, List.cons_append, List.nil_append, List.append_nil, Int.toNat_natCast]; rw [ei]; simp only [Int.toNat_natCast]
    exact tab_look hs Is str_aggP si (es V x)
  simp only [Env.push, List.cons_append, List.nil_append, List.append_nil]
  refine den_chk ?_ (den_chk ?_ (den_chk ?_ (den_chk ?_ (den_look ⟨⟨(Px.sg k).toArray⟩, fun V x => ?_, ?_⟩))))
  · simp only [Sy.dens, Sy.den, E.i, E.b, E.t, gd, Env.push, List.cons_append, List.nil_append, List.append_nil, Int.toNat_natCast]; rw [ba_size, ba_size]; refine leB_t ?_; simp only [List.length_cons, List.length_nil]; omega
  · simp only [Sy.dens, Sy.den, E.i, E.b, E.t, gd, Env.push, List.cons_append, List.nil_append, List.append_nil, Int.toNat_natCast]; rw [ByteArray.size_append, ba_size, ba_size, ba_size]; refine leB_t ?_; simp only [List.length_cons, List.length_nil]; omega
  · simp only [Sy.dens, Sy.den, E.i, E.b, E.t, gd, Env.push, List.cons_append, List.nil_append, List.append_nil, Int.toNat_natCast]; rw [ek]; exact leB_t (by omega)
  · simp only [Sy.dens, Sy.den, E.i, E.b, E.t, gd, Env.push, List.cons_append, List.nil_append, List.append_nil, Int.toNat_natCast]; rw [ek]; exact ltB_t (by omega)
  · simp only [Sy.dens, Sy.den, E.i, E.b, E.t, gd, Env.push, List.cons_append, List.nil_append, List.append_nil, Int.toNat_natCast]; rw [ek]; simp only [Int.toNat_natCast]
    exact tab_look hs Is str_aggP sk (es V x)
  simp only [Env.push, List.cons_append, List.nil_append, List.append_nil]
  refine den_chk ?_ (den_chk ?_ (den_grow fun W14 x14 => den_chk rfl (den_look ⟨Px.mu i, fun V x => ?_, ?_⟩)))
  · simp only [Sy.dens, Sy.den, E.i, E.b, E.t, gd, Env.push, List.cons_append, List.nil_append, List.append_nil, Int.toNat_natCast]; repeat rw [ByteArray.size_append]
    repeat rw [ba_size]
    refine leB_t ?_; simp only [List.length_cons, List.length_nil]; omega
  · simp only [Sy.dens, Sy.den, E.i, E.b, E.t, gd, Env.push, List.cons_append, List.nil_append, List.append_nil, Int.toNat_natCast]; repeat rw [ByteArray.size_append]
    repeat rw [ba_size]
    refine leB_t ?_; simp only [List.length_cons, List.length_nil]; omega
  · simp only [Sy.dens, Sy.den, E.i, E.b, E.t, gd, Env.push, List.cons_append, List.nil_append, List.append_nil, Int.toNat_natCast]; rw [ei]; simp only [Int.toNat_natCast]
    exact tab_look hm Im i64_aggP mi (em V (ext_trans x14 x))
  simp only [Env.push, List.cons_append, List.nil_append, List.append_nil]
  have et : ((((⟨#[97, 32]⟩ : ByteArray) ++ ⟨(Px.sg i).toArray⟩) ++ ⟨#[32, 98, 32]⟩) ++ ⟨(Px.sg k).toArray⟩) ++ ⟨#[32, 99]⟩ = ⟨(Px.abc i k).toArray⟩ := by
    have h1 : (⟨#[97, 32]⟩ : ByteArray) = ⟨([97, 32] : Lx.Bs).toArray⟩ := rfl
    have h2 : (⟨#[32, 98, 32]⟩ : ByteArray) = ⟨([32, 98, 32] : Lx.Bs).toArray⟩ := rfl
    have h3 : (⟨#[32, 99]⟩ : ByteArray) = ⟨([32, 99] : Lx.Bs).toArray⟩ := rfl
    rw [h1, h2, h3, ba_app, ba_app, ba_app, ba_app]; rfl
  have ha := ha.ext x14
  have hb := hb.ext x14
  have hc := hc.ext x14
  have hG := hG.ext x14
  have hT := hT.ext x14
  -- the two that bind unlike
  have isT : ∀ (x : Px.Ex) (V : Wd) (vs : List Value), Px.is_ (Px.abc i k) x = true → ExI V x vs → Glob V → CallsQ Tryz.prog 19 #[.string ⟨(Px.abc i k).toArray⟩, .agg vs.toArray] V (.bool true) := fun x V vs h1 h2 h3 => by
    have := is_q (Px.abc i k) x vs V h2 h3
    rwa [h1] at this
  refine den_br (fun c1 => ?_) fun c1 => ?_
  · have c1 : Px.mu i = 3 := by simpa [Sy.dens, Sy.den, E.i, E.b, E.t, gd, Env.push, List.cons_append, List.nil_append, List.append_nil, Int.toNat_natCast] using c1
    refine den_look ⟨Px.mu k, fun V x => ?_, ?_⟩
    · simp only [Sy.dens, Sy.den, E.i, E.b, E.t, gd, Env.push, List.cons_append, List.nil_append, List.append_nil, Int.toNat_natCast]; rw [ek]; simp only [Int.toNat_natCast]
      exact tab_look hm Im i64_aggP mk (em V (ext_trans x14 x))
    simp only [Env.push, List.cons_append, List.nil_append, List.append_nil]
    refine den_br (fun c2 => ?_) fun c2 => ?_
    · have c2 : Px.mu k = 3 := by simpa [Sy.dens, Sy.den, E.i, E.b, E.t, gd, Env.push, List.cons_append, List.nil_append, List.append_nil, Int.toNat_natCast] using c2
      have hno := no_q (Px.abc i k) 4 W14 hG
      have e1 : Px.no_ (Px.abc i k) 4 = true := by simpa [Px.bindsOk, c1, c2] using hok
      rw [e1, ← et] at hno
      exact den_call_q (fun _ _ => hno) ⟨true, rfl, fun W15 x15 => den_ret fun _ _ _ => ⟨_, rfl, rfl⟩⟩
    · have c2 : ¬ Px.mu k = 3 := by simpa [Sy.dens, Sy.den, E.i, E.b, E.t, gd, Env.push, List.cons_append, List.nil_append, List.append_nil, Int.toNat_natCast] using c2
      have hok : (if Px.mu k ≤ Px.mu i then Px.is_ (Px.abc i k) (Px.left3 i k) else Px.is_ (Px.abc i k) (Px.right3 i k)) = true := by
        have h := hok; unfold Px.bindsOk at h; rw [if_neg (fun h => c2 h.2)] at h; exact h
      refine den_look ⟨Px.mu i, fun V x => ?_, ?_⟩
      · simp only [Sy.dens, Sy.den, E.i, E.b, E.t, gd, Env.push, List.cons_append, List.nil_append, List.append_nil, Int.toNat_natCast]; rw [ei]; simp only [Int.toNat_natCast]
        exact tab_look hm Im i64_aggP mi (em V (ext_trans x14 x))
      simp only [Env.push, List.cons_append, List.nil_append, List.append_nil]
      refine den_look ⟨Px.mu k, fun V x => ?_, ?_⟩
      · simp only [Sy.dens, Sy.den, E.i, E.b, E.t, gd, Env.push, List.cons_append, List.nil_append, List.append_nil, Int.toNat_natCast]; rw [ek]; simp only [Int.toNat_natCast]
        exact tab_look hm Im i64_aggP mk (em V (ext_trans x14 x))
      simp only [Env.push, List.cons_append, List.nil_append, List.append_nil]
      refine den_grow fun W15 x15 => den_br (fun c3 => ?_) fun c3 => ?_
      · have c3 : Px.mu k ≤ Px.mu i := by simpa only [Sy.dens, Sy.den, E.i, E.b, E.t, gd, Env.push, List.cons_append, List.nil_append, List.append_nil, Int.toNat_natCast, leB_true] using c3
        rw [if_pos c3] at hok
        refine den_chk rfl (den_look ⟨Px.opn k, fun V x => ?_, ?_⟩)
        · simp only [Sy.dens, Sy.den, E.i, E.b, E.t, gd, Env.push, List.cons_append, List.nil_append, List.append_nil, Int.toNat_natCast]; rw [ek]; simp only [Int.toNat_natCast]
          exact tab_look ho Io u8_aggP ok (eo V (ext_trans x14 (ext_trans x15 x)))
        simp only [Env.push, List.cons_append, List.nil_append, List.append_nil]
        refine den_look ⟨Px.opn i, fun V x => ?_, ?_⟩
        · simp only [Sy.dens, Sy.den, E.i, E.b, E.t, gd, Env.push, List.cons_append, List.nil_append, List.append_nil, Int.toNat_natCast]; rw [ei]; simp only [Int.toNat_natCast]
          exact tab_look ho Io u8_aggP oi (eo V (ext_trans x14 (ext_trans x15 x)))
        simp only [Env.push, List.cons_append, List.nil_append, List.append_nil]
        refine den_grow fun W16 x16 => ?_
        have z := ext_trans x15 x16
        refine den_call_i (fun _ _ => op2_i (Px.opn i) _ _ _ _ W16 (ha.ext z) (hb.ext z)) fun v w' _ ⟨o4, k4, n4, t4, m4, al4, len4, cl4, hv, hJ⟩ => ⟨o4, k4, n4, len4, cl4, t4, m4, al4, hv, fun W17 e2 y17 n2 => ?_⟩
        have h4 := ExJ.i hJ e2 y17 n2
        clear hv hJ e2 n2
        simp only [Env.push, List.cons_append, List.nil_append, List.append_nil]
        refine den_grow fun W18 x18 => ?_
        have z := ext_trans z (ext_trans y17 x18)
        refine den_call_i (fun _ _ => op2_i (Px.opn k) _ _ _ _ W18 (h4.ext x18) (hc.ext z)) fun v w' _ ⟨o5, k5, n5, t5, m5, al5, len5, cl5, hv, hJ⟩ => ⟨o5, k5, n5, len5, cl5, t5, m5, al5, hv, fun W19 e2 y19 n2 => ?_⟩
        have h5 := ExJ.i hJ e2 y19 n2
        clear hv hJ e2 n2
        simp only [Env.push, List.cons_append, List.nil_append, List.append_nil]
        refine den_callq ⟨true, fun V xV _ _ => ?_, den_grow fun _ _ => den_ret fun _ _ _ => ⟨_, rfl, rfl⟩⟩
        have := isT (Px.left3 i k) V _ hok (h5.ext xV) (hG.ext (ext_trans z (ext_trans y19 xV)))
        rw [← et] at this
        exact this
      · have c3 : ¬ Px.mu k ≤ Px.mu i := by simp only [Sy.dens, Sy.den, E.i, E.b, E.t, gd, Env.push, List.cons_append, List.nil_append, List.append_nil, Int.toNat_natCast, leB_false] at c3; omega
        rw [if_neg c3] at hok
        refine den_chk rfl (den_look ⟨Px.opn i, fun V x => ?_, ?_⟩)
        · simp only [Sy.dens, Sy.den, E.i, E.b, E.t, gd, Env.push, List.cons_append, List.nil_append, List.append_nil, Int.toNat_natCast]; rw [ei]; simp only [Int.toNat_natCast]
          exact tab_look ho Io u8_aggP oi (eo V (ext_trans x14 (ext_trans x15 x)))
        simp only [Env.push, List.cons_append, List.nil_append, List.append_nil]
        refine den_look ⟨Px.opn k, fun V x => ?_, ?_⟩
        · simp only [Sy.dens, Sy.den, E.i, E.b, E.t, gd, Env.push, List.cons_append, List.nil_append, List.append_nil, Int.toNat_natCast]; rw [ek]; simp only [Int.toNat_natCast]
          exact tab_look ho Io u8_aggP ok (eo V (ext_trans x14 (ext_trans x15 x)))
        simp only [Env.push, List.cons_append, List.nil_append, List.append_nil]
        refine den_grow fun W16 x16 => ?_
        have z := ext_trans x15 x16
        refine den_call_i (fun _ _ => op2_i (Px.opn k) _ _ _ _ W16 (hb.ext z) (hc.ext z)) fun v w' _ ⟨o4, k4, n4, t4, m4, al4, len4, cl4, hv, hJ⟩ => ⟨o4, k4, n4, len4, cl4, t4, m4, al4, hv, fun W17 e2 y17 n2 => ?_⟩
        have h4 := ExJ.i hJ e2 y17 n2
        clear hv hJ e2 n2
        simp only [Env.push, List.cons_append, List.nil_append, List.append_nil]
        refine den_grow fun W18 x18 => ?_
        have z := ext_trans z (ext_trans y17 x18)
        refine den_call_i (fun _ _ => op2_i (Px.opn i) _ _ _ _ W18 (ha.ext z) (h4.ext x18)) fun v w' _ ⟨o5, k5, n5, t5, m5, al5, len5, cl5, hv, hJ⟩ => ⟨o5, k5, n5, len5, cl5, t5, m5, al5, hv, fun W19 e2 y19 n2 => ?_⟩
        have h5 := ExJ.i hJ e2 y19 n2
        clear hv hJ e2 n2
        simp only [Env.push, List.cons_append, List.nil_append, List.append_nil]
        refine den_callq ⟨true, fun V xV _ _ => ?_, den_grow fun _ _ => den_ret fun _ _ _ => ⟨_, rfl, rfl⟩⟩
        have := isT (Px.right3 i k) V _ hok (h5.ext xV) (hG.ext (ext_trans z (ext_trans y19 xV)))
        rw [← et] at this
        exact this
  · have c1 : ¬ Px.mu i = 3 := by simpa [Sy.dens, Sy.den, E.i, E.b, E.t, gd, Env.push, List.cons_append, List.nil_append, List.append_nil, Int.toNat_natCast] using c1
    have hok : (if Px.mu k ≤ Px.mu i then Px.is_ (Px.abc i k) (Px.left3 i k) else Px.is_ (Px.abc i k) (Px.right3 i k)) = true := by
      have h := hok; unfold Px.bindsOk at h; rw [if_neg (fun h => c1 h.1)] at h; exact h
    refine den_look ⟨Px.mu i, fun V x => ?_, ?_⟩
    · simp only [Sy.dens, Sy.den, E.i, E.b, E.t, gd, Env.push, List.cons_append, List.nil_append, List.append_nil, Int.toNat_natCast]; rw [ei]; simp only [Int.toNat_natCast]
      exact tab_look hm Im i64_aggP mi (em V (ext_trans x14 x))
    simp only [Env.push, List.cons_append, List.nil_append, List.append_nil]
    refine den_look ⟨Px.mu k, fun V x => ?_, ?_⟩
    · simp only [Sy.dens, Sy.den, E.i, E.b, E.t, gd, Env.push, List.cons_append, List.nil_append, List.append_nil, Int.toNat_natCast]; rw [ek]; simp only [Int.toNat_natCast]
      exact tab_look hm Im i64_aggP mk (em V (ext_trans x14 x))
    simp only [Env.push, List.cons_append, List.nil_append, List.append_nil]
    refine den_grow fun W15 x15 => den_br (fun c3 => ?_) fun c3 => ?_
    · have c3 : Px.mu k ≤ Px.mu i := by simpa only [Sy.dens, Sy.den, E.i, E.b, E.t, gd, Env.push, List.cons_append, List.nil_append, List.append_nil, Int.toNat_natCast, leB_true] using c3
      rw [if_pos c3] at hok
      refine den_chk rfl (den_look ⟨Px.opn k, fun V x => ?_, ?_⟩)
      · simp only [Sy.dens, Sy.den, E.i, E.b, E.t, gd, Env.push, List.cons_append, List.nil_append, List.append_nil, Int.toNat_natCast]; rw [ek]; simp only [Int.toNat_natCast]
        exact tab_look ho Io u8_aggP ok (eo V (ext_trans x14 (ext_trans x15 x)))
      simp only [Env.push, List.cons_append, List.nil_append, List.append_nil]
      refine den_look ⟨Px.opn i, fun V x => ?_, ?_⟩
      · simp only [Sy.dens, Sy.den, E.i, E.b, E.t, gd, Env.push, List.cons_append, List.nil_append, List.append_nil, Int.toNat_natCast]; rw [ei]; simp only [Int.toNat_natCast]
        exact tab_look ho Io u8_aggP oi (eo V (ext_trans x14 (ext_trans x15 x)))
      simp only [Env.push, List.cons_append, List.nil_append, List.append_nil]
      refine den_grow fun W16 x16 => ?_
      have z := ext_trans x15 x16
      refine den_call_i (fun _ _ => op2_i (Px.opn i) _ _ _ _ W16 (ha.ext z) (hb.ext z)) fun v w' _ ⟨o4, k4, n4, t4, m4, al4, len4, cl4, hv, hJ⟩ => ⟨o4, k4, n4, len4, cl4, t4, m4, al4, hv, fun W17 e2 y17 n2 => ?_⟩
      have h4 := ExJ.i hJ e2 y17 n2
      clear hv hJ e2 n2
      simp only [Env.push, List.cons_append, List.nil_append, List.append_nil]
      refine den_grow fun W18 x18 => ?_
      have z := ext_trans z (ext_trans y17 x18)
      refine den_call_i (fun _ _ => op2_i (Px.opn k) _ _ _ _ W18 (h4.ext x18) (hc.ext z)) fun v w' _ ⟨o5, k5, n5, t5, m5, al5, len5, cl5, hv, hJ⟩ => ⟨o5, k5, n5, len5, cl5, t5, m5, al5, hv, fun W19 e2 y19 n2 => ?_⟩
      have h5 := ExJ.i hJ e2 y19 n2
      clear hv hJ e2 n2
      simp only [Env.push, List.cons_append, List.nil_append, List.append_nil]
      refine den_callq ⟨true, fun V xV _ _ => ?_, den_grow fun _ _ => den_ret fun _ _ _ => ⟨_, rfl, rfl⟩⟩
      have := isT (Px.left3 i k) V _ hok (h5.ext xV) (hG.ext (ext_trans z (ext_trans y19 xV)))
      rw [← et] at this
      exact this
    · have c3 : ¬ Px.mu k ≤ Px.mu i := by simp only [Sy.dens, Sy.den, E.i, E.b, E.t, gd, Env.push, List.cons_append, List.nil_append, List.append_nil, Int.toNat_natCast, leB_false] at c3; omega
      rw [if_neg c3] at hok
      refine den_chk rfl (den_look ⟨Px.opn i, fun V x => ?_, ?_⟩)
      · simp only [Sy.dens, Sy.den, E.i, E.b, E.t, gd, Env.push, List.cons_append, List.nil_append, List.append_nil, Int.toNat_natCast]; rw [ei]; simp only [Int.toNat_natCast]
        exact tab_look ho Io u8_aggP oi (eo V (ext_trans x14 (ext_trans x15 x)))
      simp only [Env.push, List.cons_append, List.nil_append, List.append_nil]
      refine den_look ⟨Px.opn k, fun V x => ?_, ?_⟩
      · simp only [Sy.dens, Sy.den, E.i, E.b, E.t, gd, Env.push, List.cons_append, List.nil_append, List.append_nil, Int.toNat_natCast]; rw [ek]; simp only [Int.toNat_natCast]
        exact tab_look ho Io u8_aggP ok (eo V (ext_trans x14 (ext_trans x15 x)))
      simp only [Env.push, List.cons_append, List.nil_append, List.append_nil]
      refine den_grow fun W16 x16 => ?_
      have z := ext_trans x15 x16
      refine den_call_i (fun _ _ => op2_i (Px.opn k) _ _ _ _ W16 (hb.ext z) (hc.ext z)) fun v w' _ ⟨o4, k4, n4, t4, m4, al4, len4, cl4, hv, hJ⟩ => ⟨o4, k4, n4, len4, cl4, t4, m4, al4, hv, fun W17 e2 y17 n2 => ?_⟩
      have h4 := ExJ.i hJ e2 y17 n2
      clear hv hJ e2 n2
      simp only [Env.push, List.cons_append, List.nil_append, List.append_nil]
      refine den_grow fun W18 x18 => ?_
      have z := ext_trans z (ext_trans y17 x18)
      refine den_call_i (fun _ _ => op2_i (Px.opn i) _ _ _ _ W18 (ha.ext z) (h4.ext x18)) fun v w' _ ⟨o5, k5, n5, t5, m5, al5, len5, cl5, hv, hJ⟩ => ⟨o5, k5, n5, len5, cl5, t5, m5, al5, hv, fun W19 e2 y19 n2 => ?_⟩
      have h5 := ExJ.i hJ e2 y19 n2
      clear hv hJ e2 n2
      simp only [Env.push, List.cons_append, List.nil_append, List.append_nil]
      refine den_callq ⟨true, fun V xV _ _ => ?_, den_grow fun _ _ => den_ret fun _ _ _ => ⟨_, rfl, rfl⟩⟩
      have := isT (Px.right3 i k) V _ hok (h5.ext xV) (hG.ext (ext_trans z (ext_trans y19 xV)))
      rw [← et] at this
      exact this
end Go.Proofs.YtckgdgkkmhochaaGreatDoor
