/- ParseBlanks: the walk (written by wip/gen_pxblanks.py). -/
import Derived.Test.YtckgdgkkmhochaaGreatDoorPxWorks
import Derived.Test.YtckgdgkkmhochaaGreatDoorPxBlanksP
import Derived.Test.YtckgdgkkmhochaaGreatDoorVcBlanks
namespace Go.Proofs.YtckgdgkkmhochaaGreatDoor
open Go Go.RowKit Go.SF
set_option linter.unusedSimpArgs false
set_option linter.unusedVariables false

/-- so many spaces -/
def sp5 (n : Int) : Nat := (IntKind.u64.wrap n).tmod 5 |>.toNat
theorem sp5_le (n : Int) : sp5 n ≤ 4 := by
  unfold sp5
  have h := Int.tmod_lt_of_pos (IntKind.u64.wrap n) (b := 5) (by decide)
  omega
theorem u64_pos5 (n : Int) : 0 ≤ IntKind.u64.wrap n := by simp [IntKind.wrap, IntKind.bits, IntKind.signed]; omega
theorem sp5_cast (n : Int) : ((sp5 n : Nat) : Int) = IntKind.i64.wrap ((IntKind.u64.wrap n).tmod 5) := by
  have := Int.tmod_nonneg 5 (u64_pos5 n)
  have h := Int.tmod_lt_of_pos (IntKind.u64.wrap n) (b := 5) (by decide)
  rw [w64i (by omega) (by omega)]
  unfold sp5
  omega
theorem many_q (n : Nat) (hn : n ≤ 1000000) (s : Lx.Bs) (hs : s.length ≤ 1000) (W : Wd) : CallsQ Tryz.prog 21 #[.int .i64 (n : Nat), .string ⟨s.toArray⟩] W (.string ⟨(List.replicate n s).flatten.toArray⟩) := by
  refine vc_lmany (n : Int) ⟨s.toArray⟩ W.all _ ?_
  refine den_loop (fun k vs ls _ => ∃ i : Nat, vs = [.string ⟨(List.replicate i s).flatten.toArray⟩, .int .i64 (i : Int)] ∧ ls = [] ∧ i ≤ n ∧ k = n - i) n ⟨0, rfl, rfl, Nat.zero_le _, rfl⟩ ?_
  rintro k vs ls W1 x1 ⟨i, rfl, rfl, hi, rfl⟩
  refine ⟨(i : Int), ⟨(List.replicate i s).flatten.toArray⟩, rfl, rfl, fun _ => ?_⟩
  simp only [Env.push, List.cons_append, List.nil_append, List.append_nil]
  have hl : (List.replicate i s).flatten.length ≤ i * 1000 := by
    rw [List.length_flatten, List.map_replicate, List.sum_replicate_nat]
    exact Nat.mul_le_mul_left i hs
  refine den_br (fun c1 => ?_) fun c1 => ?_
  · simp only [Sy.dens, Sy.den, E.i, E.b, E.t, gd, Env.push, List.cons_append, List.nil_append, List.append_nil, Int.toNat_natCast, ltB_true] at c1
    refine den_chk ?_ (den_again ⟨n - (i + 1), by omega, i + 1, ?_, rfl, by omega, rfl⟩)
    · simp only [Sy.dens, Sy.den, E.i, E.b, E.t, gd, Env.push, List.cons_append, List.nil_append, List.append_nil, Int.toNat_natCast]; rw [ba_size, ba_size]; refine leB_t ?_; omega
    · simp only [Sy.dens, Sy.den, E.i, E.b, E.t, gd, Env.push, List.cons_append, List.nil_append, List.append_nil, Int.toNat_natCast]
      rw [w64i (by omega) (by omega), ba_app]
      have : (List.replicate i s).flatten ++ s = (List.replicate (i + 1) s).flatten := by rw [List.replicate_succ']; simp
      rw [this]; rfl
  · simp only [Sy.dens, Sy.den, E.i, E.b, E.t, gd, Env.push, List.cons_append, List.nil_append, List.append_nil, Int.toNat_natCast, ltB_false] at c1
    obtain rfl : i = n := by omega
    exact den_ret fun _ _ _ => ⟨_, rfl, rfl⟩
theorem rep_one (k : Nat) : (List.replicate k ([32] : List UInt8)).flatten = List.replicate k 32 := by
  induction k with
  | zero => rfl
  | succ k ih => rw [List.replicate_succ, List.flatten_cons, ih]; rfl
set_option maxRecDepth 100000 in
theorem blanks_q (l : Lx.Bs) (n : Int) (hl0 : l.length ≤ 140737488351232) (W : Wd) (hG : Glob W) (hT : Vs.Tabs W) : CallsQ Tryz.prog 5 #[.string ⟨l.toArray⟩, .int .i64 n] W (.bool true) := by
  refine vc_lblanks n ⟨l.toArray⟩ W.all _ ?_
  have xx : ∀ V, Ext W.all V → Ext W V := fun V xV => ext_trans W.all_ext xV
  have hlz := ba_size l
  have hk := sp5_le n
  refine den_call_q (fun _ _ => works_q W.all (hG.ext W.all_ext) (hT.ext W.all_ext)) ⟨true, rfl, fun W1 qW1 => ?_⟩
  simp only [Env.push, List.cons_append, List.nil_append, List.append_nil]
  refine den_br (fun c0 => den_call_q (fun _ _ => works_q W1 (hG.ext (xx _ qW1)) (hT.ext (xx _ qW1))) ⟨true, rfl, fun W2 x2 => den_ret fun _ _ _ => ⟨_, rfl, rfl⟩⟩) fun c0 => ?_
  have hl : l.length ≤ 1000 := by
    simp only [Sy.dens, Sy.den, E.i, E.b, E.t, gd, Env.push, List.cons_append, List.nil_append, List.append_nil, Int.toNat_natCast, Bool.not_true, Bool.false_or, ltB_false] at c0
    omega
  have hpl : ∀ V, Glob V → _ := fun V h => parse_i' ⟨l.toArray⟩ V h
  simp only [show (⟨l.toArray⟩ : ByteArray).data.toList = l from by simp] at hpl
  refine den_call_i (fun _ _ => hpl W1 (hG.ext (xx _ qW1))) fun v w' _ ⟨op, k, nn, tt, nm, al, len, cl, hv, hX⟩ => ⟨op, k, nn, (Px.parse l).2, len, cl, tt, nm, al, hv, fun W2 e2 y2 n2 => ?_⟩
  have hP := ExAt.i hX e2 n2
  clear hX e2 n2 hv
  simp only [Env.push, List.cons_append, List.nil_append, List.append_nil]
  have hm := many_q (sp5 n) (by omega) [32] (by decide)
  rw [sp5_cast, rep_one] at hm
  refine den_new fun _ W3 _ x3 => den_wr fun W4 x4 => den_call_q (fun _ _ => hm W4) ⟨⟨(List.replicate (sp5 n) 32).toArray⟩, rfl, fun W5 x5 => den_chk ?_ (den_call_q (fun _ _ => hm W5) ⟨⟨(List.replicate (sp5 n) 32).toArray⟩, rfl, fun W6 x6 => den_chk ?_ (den_chk ?_ (den_chk ?_ (den_call_q (fun _ _ => hm W6) ⟨⟨(List.replicate (sp5 n) 32).toArray⟩, rfl, fun W7 x7 => den_chk ?_ (den_chk ?_ (den_chk ?_ (den_new fun _ W8 _ x8 => ?_)))⟩)))⟩)⟩
  · simp only [Sy.dens, Sy.den, E.i, E.b, E.t, gd, Env.push, List.cons_append, List.nil_append, List.append_nil, Int.toNat_natCast]; rw [ba_size, ba_size]; refine leB_t ?_; simp only [List.length_replicate]; omega
  · simp only [Sy.dens, Sy.den, E.i, E.b, E.t, gd, Env.push, List.cons_append, List.nil_append, List.append_nil, Int.toNat_natCast]; rw [ByteArray.size_append, ba_size, ba_size]; refine leB_t ?_; simp only [List.length_replicate]; omega
  · simp only [Sy.dens, Sy.den, E.i, E.b, E.t, gd, Env.push, List.cons_append, List.nil_append, List.append_nil, Int.toNat_natCast]; rw [ba_size, ba_size]; refine leB_t ?_; simp only [List.length_cons, List.length_nil]; omega
  · simp only [Sy.dens, Sy.den, E.i, E.b, E.t, gd, Env.push, List.cons_append, List.nil_append, List.append_nil, Int.toNat_natCast]; rw [ByteArray.size_append, ba_size, ba_size, ba_size]; refine leB_t ?_; simp only [List.length_cons, List.length_nil]; omega
  · simp only [Sy.dens, Sy.den, E.i, E.b, E.t, gd, Env.push, List.cons_append, List.nil_append, List.append_nil, Int.toNat_natCast]; rw [ba_size, ba_size]; refine leB_t ?_; simp only [List.length_replicate, List.length_cons, List.length_nil]; omega
  · simp only [Sy.dens, Sy.den, E.i, E.b, E.t, gd, Env.push, List.cons_append, List.nil_append, List.append_nil, Int.toNat_natCast]; rw [ByteArray.size_append, ba_size, ba_size, ba_size]; refine leB_t ?_; simp only [List.length_replicate, List.length_cons, List.length_nil]; omega
  · simp only [Sy.dens, Sy.den, E.i, E.b, E.t, gd, Env.push, List.cons_append, List.nil_append, List.append_nil, Int.toNat_natCast]; rw [ByteArray.size_append, ByteArray.size_append, ba_size, ba_size, ba_size, ba_size]; refine leB_t ?_; simp only [List.length_replicate, List.length_cons, List.length_nil]; omega
  simp only [Env.push, List.cons_append, List.nil_append, List.append_nil]
  generalize hsp : sp5 n = j at *
  have qP := ext_trans (ext_trans (ext_trans (ext_trans (ext_trans x3 x4) x5) x6) x7) x8
  have qW8 := ext_trans (ext_trans qW1 y2) qP
  have hP := hP.ext qP
  have pW8 := Ext.refl W8
  -- the three texts
  obtain ⟨x0, hx0⟩ : ∃ x, x = List.replicate j 32 ++ (l ++ List.replicate j 32) := ⟨_, rfl⟩
  obtain ⟨x1, hx1⟩ : ∃ x, x = 40 :: (l ++ [41]) := ⟨_, rfl⟩
  obtain ⟨x2, hx2⟩ : ∃ x, x = 40 :: ((40 :: ((List.replicate j 32 ++ l) ++ [41])) ++ [41]) := ⟨_, rfl⟩
  have h0 : (Px.parse l).2 = 0 → x0.length ≤ 100 → Px.parse x0 = Px.parse l := fun h hl => by rw [hx0] at hl ⊢; exact Px.parse_sp j j h hl
  have h1 : (Px.parse l).2 = 0 → x1.length ≤ 100 → Px.parse x1 = Px.parse l := fun h hl => by rw [hx1] at hl ⊢; exact Px.parse_brack h hl
  have h2 : (Px.parse l).2 = 0 → x2.length ≤ 100 → Px.parse x2 = Px.parse l := fun h hl => by
    rw [hx2] at hl ⊢
    have e0 : Px.parse (List.replicate j 32 ++ l) = Px.parse l := by
      have := Px.parse_sp j 0 h (by simp at hl ⊢; omega)
      simpa using this
    have e1 := Px.parse_brack (s := List.replicate j 32 ++ l) (by rw [e0]; exact h) (by simp at hl ⊢; omega)
    rw [Px.parse_brack (by rw [e1, e0]; exact h) hl, e1, e0]
  have b0 : ((⟨(List.replicate j 32).toArray⟩ : ByteArray) ++ ⟨l.toArray⟩) ++ ⟨(List.replicate j 32).toArray⟩ = ⟨x0.toArray⟩ := by rw [ba_app, ba_app, hx0, List.append_assoc]
  have b1 : ((⟨#[40]⟩ : ByteArray) ++ ⟨l.toArray⟩) ++ ⟨#[41]⟩ = ⟨x1.toArray⟩ := by
    rw [show (⟨#[40]⟩ : ByteArray) = ⟨([40] : List UInt8).toArray⟩ from rfl, show (⟨#[41]⟩ : ByteArray) = ⟨([41] : List UInt8).toArray⟩ from rfl, ba_app, ba_app, hx1]; rfl
  have b2 : (((⟨#[40, 40]⟩ : ByteArray) ++ ⟨(List.replicate j 32).toArray⟩) ++ ⟨l.toArray⟩) ++ ⟨#[41, 41]⟩ = ⟨x2.toArray⟩ := by
    rw [show (⟨#[40, 40]⟩ : ByteArray) = ⟨([40, 40] : List UInt8).toArray⟩ from rfl, show (⟨#[41, 41]⟩ : ByteArray) = ⟨([41, 41] : List UInt8).toArray⟩ from rfl, ba_app, ba_app, ba_app, hx2]; simp
  have hp0 : ∀ V, Glob V → _ := fun V h => parse_i' (((⟨(List.replicate j 32).toArray⟩ : ByteArray) ++ ⟨l.toArray⟩) ++ ⟨(List.replicate j 32).toArray⟩) V h
  have hp1 : ∀ V, Glob V → _ := fun V h => parse_i' (((⟨#[40]⟩ : ByteArray) ++ ⟨l.toArray⟩) ++ ⟨#[41]⟩) V h
  have hp2 : ∀ V, Glob V → _ := fun V h => parse_i' ((((⟨#[40, 40]⟩ : ByteArray) ++ ⟨(List.replicate j 32).toArray⟩) ++ ⟨l.toArray⟩) ++ ⟨#[41, 41]⟩) V h
  have d0 : (((⟨(List.replicate j 32).toArray⟩ : ByteArray) ++ ⟨l.toArray⟩) ++ ⟨(List.replicate j 32).toArray⟩).data.toList = x0 := by rw [b0]
  have d1 : (((⟨#[40]⟩ : ByteArray) ++ ⟨l.toArray⟩) ++ ⟨#[41]⟩).data.toList = x1 := by rw [b1]
  have d2 : ((((⟨#[40, 40]⟩ : ByteArray) ++ ⟨(List.replicate j 32).toArray⟩) ++ ⟨l.toArray⟩) ++ ⟨#[41, 41]⟩).data.toList = x2 := by rw [b2]
  simp only [d0] at hp0
  simp only [d1] at hp1
  simp only [d2] at hp2
  have z0 : ((((⟨(List.replicate j 32).toArray⟩ : ByteArray) ++ ⟨l.toArray⟩) ++ ⟨(List.replicate j 32).toArray⟩).size : Int) ≤ 100 → x0.length ≤ 100 := fun h => by rw [b0, ba_size] at h; omega
  have z1 : ((((⟨#[40]⟩ : ByteArray) ++ ⟨l.toArray⟩) ++ ⟨#[41]⟩).size : Int) ≤ 100 → x1.length ≤ 100 := fun h => by rw [b1, ba_size] at h; omega
  have z2 : (((((⟨#[40, 40]⟩ : ByteArray) ++ ⟨(List.replicate j 32).toArray⟩) ++ ⟨l.toArray⟩) ++ ⟨#[41, 41]⟩).size : Int) ≤ 100 → x2.length ≤ 100 := fun h => by rw [b2, ba_size] at h; omega
  clear b0 b1 b2 d0 d1 d2 hx0 hx1 hx2
  refine den_br (fun cl => ?_) fun cl => ?_
  · clear cl
    refine den_br (fun cl => ?_) fun cl => ?_
    · clear cl
      refine den_br (fun cl => ?_) fun cl => ?_
      · clear cl
        exact den_ret fun _ _ _ => ⟨_, rfl, rfl⟩
      · have cl : x2.length ≤ 100 := by simp only [Sy.dens, Sy.den, E.i, E.b, E.t, gd, Env.push, List.cons_append, List.nil_append, List.append_nil, Int.toNat_natCast, ltB_false] at cl; exact z2 cl
        refine den_call_i (fun _ _ => hp2 W8 (hG.ext (xx _ qW8))) fun v w' _ ⟨o1, k1, n1, t1, m1, al1, len1, cl1, hv, hX⟩ => ⟨o1, k1, n1, (Px.parse x2).2, len1, cl1, t1, m1, al1, hv, fun W1 e2 y1 n2 => ?_⟩
        have hX1 := ExAt.i hX e2 n2
        clear hX e2 n2 hv
        simp only [Env.push, List.cons_append, List.nil_append, List.append_nil]
        refine den_new fun _ V1 _ u1 => den_wr fun U1 v1 => ?_
        have qU1 := ext_trans (ext_trans (ext_trans qW8 y1) u1) v1
        have pU1 := ext_trans (ext_trans (ext_trans pW8 y1) u1) v1
        have hX1 := (hX1.ext u1).ext v1
        refine den_br (fun cb => ?_) fun cb => den_br (fun cf => ?_) fun cf => ?_
        · have cb : (Px.parse l).2 = 0 ∧ (Px.parse x2).2 = 0 := by simpa [Sy.dens, Sy.den, E.i, E.b, E.t, gd, Env.push, List.cons_append, List.nil_append, List.append_nil, Int.toNat_natCast] using cb
          have f0 := cb.1
          have e1 : Px.parse x2 = Px.parse l := h2 f0 cl
          refine den_call_q (fun _ _ => same_q 100 _ _ _ _ U1 (parse_thin _).2 (parse_thin _).1 hX1 (hP.ext pU1)) ⟨Px.same (Px.parse x2).1 (Px.parse l).1, rfl, fun Z1 r1 => den_br (fun cs => ?_) fun cs => ?_⟩
          · exfalso
            have cs : (!Px.same (Px.parse x2).1 (Px.parse l).1) = true := cs
            rw [e1, Px.same_refl] at cs; cases cs
          · have qZ1 := ext_trans qU1 r1
            have pZ1 := ext_trans pU1 r1
            exact den_ret fun _ _ _ => ⟨_, rfl, rfl⟩
        · exfalso
          have cf : (Px.parse l).2 = 0 := by simpa [Sy.dens, Sy.den, E.i, E.b, E.t, gd, Env.push, List.cons_append, List.nil_append, List.append_nil, Int.toNat_natCast] using cf
          have cb : ((Px.parse l).2 == 0 && (Px.parse x2).2 == 0) = false := cb
          rw [h2 cf cl, cf] at cb; cases cb
        · clear cb
          exact den_ret fun _ _ _ => ⟨_, rfl, rfl⟩
    · have cl : x1.length ≤ 100 := by simp only [Sy.dens, Sy.den, E.i, E.b, E.t, gd, Env.push, List.cons_append, List.nil_append, List.append_nil, Int.toNat_natCast, ltB_false] at cl; exact z1 cl
      refine den_call_i (fun _ _ => hp1 W8 (hG.ext (xx _ qW8))) fun v w' _ ⟨o2, k2, n2, t2, m2, al2, len2, cl2, hv, hX⟩ => ⟨o2, k2, n2, (Px.parse x1).2, len2, cl2, t2, m2, al2, hv, fun W2 e2 y2 n2 => ?_⟩
      have hX2 := ExAt.i hX e2 n2
      clear hX e2 n2 hv
      simp only [Env.push, List.cons_append, List.nil_append, List.append_nil]
      refine den_new fun _ V2 _ u2 => den_wr fun U2 v2 => ?_
      have qU2 := ext_trans (ext_trans (ext_trans qW8 y2) u2) v2
      have pU2 := ext_trans (ext_trans (ext_trans pW8 y2) u2) v2
      have hX2 := (hX2.ext u2).ext v2
      refine den_br (fun cb => ?_) fun cb => den_br (fun cf => ?_) fun cf => ?_
      · have cb : (Px.parse l).2 = 0 ∧ (Px.parse x1).2 = 0 := by simpa [Sy.dens, Sy.den, E.i, E.b, E.t, gd, Env.push, List.cons_append, List.nil_append, List.append_nil, Int.toNat_natCast] using cb
        have f0 := cb.1
        have e1 : Px.parse x1 = Px.parse l := h1 f0 cl
        refine den_call_q (fun _ _ => same_q 100 _ _ _ _ U2 (parse_thin _).2 (parse_thin _).1 hX2 (hP.ext pU2)) ⟨Px.same (Px.parse x1).1 (Px.parse l).1, rfl, fun Z2 r2 => den_br (fun cs => ?_) fun cs => ?_⟩
        · exfalso
          have cs : (!Px.same (Px.parse x1).1 (Px.parse l).1) = true := cs
          rw [e1, Px.same_refl] at cs; cases cs
        · have qZ2 := ext_trans qU2 r2
          have pZ2 := ext_trans pU2 r2
          refine den_br (fun cl => ?_) fun cl => ?_
          · clear cl
            exact den_ret fun _ _ _ => ⟨_, rfl, rfl⟩
          · have cl : x2.length ≤ 100 := by simp only [Sy.dens, Sy.den, E.i, E.b, E.t, gd, Env.push, List.cons_append, List.nil_append, List.append_nil, Int.toNat_natCast, ltB_false] at cl; exact z2 cl
            refine den_call_i (fun _ _ => hp2 Z2 (hG.ext (xx _ qZ2))) fun v w' _ ⟨o3, k3, n3, t3, m3, al3, len3, cl3, hv, hX⟩ => ⟨o3, k3, n3, (Px.parse x2).2, len3, cl3, t3, m3, al3, hv, fun W3 e2 y3 n2 => ?_⟩
            have hX3 := ExAt.i hX e2 n2
            clear hX e2 n2 hv
            simp only [Env.push, List.cons_append, List.nil_append, List.append_nil]
            refine den_new fun _ V3 _ u3 => den_wr fun U3 v3 => ?_
            have qU3 := ext_trans (ext_trans (ext_trans qZ2 y3) u3) v3
            have pU3 := ext_trans (ext_trans (ext_trans pZ2 y3) u3) v3
            have hX3 := (hX3.ext u3).ext v3
            refine den_br (fun cb => ?_) fun cb => ?_
            · skip
              have e1 : Px.parse x2 = Px.parse l := h2 f0 cl
              refine den_call_q (fun _ _ => same_q 100 _ _ _ _ U3 (parse_thin _).2 (parse_thin _).1 hX3 (hP.ext pU3)) ⟨Px.same (Px.parse x2).1 (Px.parse l).1, rfl, fun Z3 r3 => den_br (fun cs => ?_) fun cs => ?_⟩
              · exfalso
                have cs : (!Px.same (Px.parse x2).1 (Px.parse l).1) = true := cs
                rw [e1, Px.same_refl] at cs; cases cs
              · have qZ3 := ext_trans qU3 r3
                have pZ3 := ext_trans pU3 r3
                exact den_ret fun _ _ _ => ⟨_, rfl, rfl⟩
            · exfalso
              have cb : ((Px.parse x2).2 == 0) = false := cb
              rw [h2 f0 cl, f0] at cb; cases cb
      · exfalso
        have cf : (Px.parse l).2 = 0 := by simpa [Sy.dens, Sy.den, E.i, E.b, E.t, gd, Env.push, List.cons_append, List.nil_append, List.append_nil, Int.toNat_natCast] using cf
        have cb : ((Px.parse l).2 == 0 && (Px.parse x1).2 == 0) = false := cb
        rw [h1 cf cl, cf] at cb; cases cb
      · clear cb
        refine den_br (fun cl => ?_) fun cl => ?_
        · clear cl
          exact den_ret fun _ _ _ => ⟨_, rfl, rfl⟩
        · have cl : x2.length ≤ 100 := by simp only [Sy.dens, Sy.den, E.i, E.b, E.t, gd, Env.push, List.cons_append, List.nil_append, List.append_nil, Int.toNat_natCast, ltB_false] at cl; exact z2 cl
          refine den_call_i (fun _ _ => hp2 U2 (hG.ext (xx _ qU2))) fun v w' _ ⟨o4, k4, n4, t4, m4, al4, len4, cl4, hv, hX⟩ => ⟨o4, k4, n4, (Px.parse x2).2, len4, cl4, t4, m4, al4, hv, fun W4 e2 y4 n2 => ?_⟩
          have hX4 := ExAt.i hX e2 n2
          clear hX e2 n2 hv
          simp only [Env.push, List.cons_append, List.nil_append, List.append_nil]
          refine den_new fun _ V4 _ u4 => den_wr fun U4 v4 => ?_
          have qU4 := ext_trans (ext_trans (ext_trans qU2 y4) u4) v4
          have pU4 := ext_trans (ext_trans (ext_trans pU2 y4) u4) v4
          have hX4 := (hX4.ext u4).ext v4
          exact den_ret fun _ _ _ => ⟨_, rfl, rfl⟩
  · have cl : x0.length ≤ 100 := by simp only [Sy.dens, Sy.den, E.i, E.b, E.t, gd, Env.push, List.cons_append, List.nil_append, List.append_nil, Int.toNat_natCast, ltB_false] at cl; exact z0 cl
    refine den_call_i (fun _ _ => hp0 W8 (hG.ext (xx _ qW8))) fun v w' _ ⟨o5, k5, n5, t5, m5, al5, len5, cl5, hv, hX⟩ => ⟨o5, k5, n5, (Px.parse x0).2, len5, cl5, t5, m5, al5, hv, fun W5 e2 y5 n2 => ?_⟩
    have hX5 := ExAt.i hX e2 n2
    clear hX e2 n2 hv
    simp only [Env.push, List.cons_append, List.nil_append, List.append_nil]
    refine den_new fun _ V5 _ u5 => den_wr fun U5 v5 => ?_
    have qU5 := ext_trans (ext_trans (ext_trans qW8 y5) u5) v5
    have pU5 := ext_trans (ext_trans (ext_trans pW8 y5) u5) v5
    have hX5 := (hX5.ext u5).ext v5
    refine den_br (fun cb => ?_) fun cb => den_br (fun cf => ?_) fun cf => ?_
    · have cb : (Px.parse l).2 = 0 ∧ (Px.parse x0).2 = 0 := by simpa [Sy.dens, Sy.den, E.i, E.b, E.t, gd, Env.push, List.cons_append, List.nil_append, List.append_nil, Int.toNat_natCast] using cb
      have f0 := cb.1
      have e1 : Px.parse x0 = Px.parse l := h0 f0 cl
      refine den_call_q (fun _ _ => same_q 100 _ _ _ _ U5 (parse_thin _).2 (parse_thin _).1 hX5 (hP.ext pU5)) ⟨Px.same (Px.parse x0).1 (Px.parse l).1, rfl, fun Z5 r5 => den_br (fun cs => ?_) fun cs => ?_⟩
      · exfalso
        have cs : (!Px.same (Px.parse x0).1 (Px.parse l).1) = true := cs
        rw [e1, Px.same_refl] at cs; cases cs
      · have qZ5 := ext_trans qU5 r5
        have pZ5 := ext_trans pU5 r5
        refine den_br (fun cl => ?_) fun cl => ?_
        · clear cl
          refine den_br (fun cl => ?_) fun cl => ?_
          · clear cl
            exact den_ret fun _ _ _ => ⟨_, rfl, rfl⟩
          · have cl : x2.length ≤ 100 := by simp only [Sy.dens, Sy.den, E.i, E.b, E.t, gd, Env.push, List.cons_append, List.nil_append, List.append_nil, Int.toNat_natCast, ltB_false] at cl; exact z2 cl
            refine den_call_i (fun _ _ => hp2 Z5 (hG.ext (xx _ qZ5))) fun v w' _ ⟨o6, k6, n6, t6, m6, al6, len6, cl6, hv, hX⟩ => ⟨o6, k6, n6, (Px.parse x2).2, len6, cl6, t6, m6, al6, hv, fun W6 e2 y6 n2 => ?_⟩
            have hX6 := ExAt.i hX e2 n2
            clear hX e2 n2 hv
            simp only [Env.push, List.cons_append, List.nil_append, List.append_nil]
            refine den_new fun _ V6 _ u6 => den_wr fun U6 v6 => ?_
            have qU6 := ext_trans (ext_trans (ext_trans qZ5 y6) u6) v6
            have pU6 := ext_trans (ext_trans (ext_trans pZ5 y6) u6) v6
            have hX6 := (hX6.ext u6).ext v6
            refine den_br (fun cb => ?_) fun cb => ?_
            · skip
              have e1 : Px.parse x2 = Px.parse l := h2 f0 cl
              refine den_call_q (fun _ _ => same_q 100 _ _ _ _ U6 (parse_thin _).2 (parse_thin _).1 hX6 (hP.ext pU6)) ⟨Px.same (Px.parse x2).1 (Px.parse l).1, rfl, fun Z6 r6 => den_br (fun cs => ?_) fun cs => ?_⟩
              · exfalso
                have cs : (!Px.same (Px.parse x2).1 (Px.parse l).1) = true := cs
                rw [e1, Px.same_refl] at cs; cases cs
              · have qZ6 := ext_trans qU6 r6
                have pZ6 := ext_trans pU6 r6
                exact den_ret fun _ _ _ => ⟨_, rfl, rfl⟩
            · exfalso
              have cb : ((Px.parse x2).2 == 0) = false := cb
              rw [h2 f0 cl, f0] at cb; cases cb
        · have cl : x1.length ≤ 100 := by simp only [Sy.dens, Sy.den, E.i, E.b, E.t, gd, Env.push, List.cons_append, List.nil_append, List.append_nil, Int.toNat_natCast, ltB_false] at cl; exact z1 cl
          refine den_call_i (fun _ _ => hp1 Z5 (hG.ext (xx _ qZ5))) fun v w' _ ⟨o7, k7, n7, t7, m7, al7, len7, cl7, hv, hX⟩ => ⟨o7, k7, n7, (Px.parse x1).2, len7, cl7, t7, m7, al7, hv, fun W7 e2 y7 n2 => ?_⟩
          have hX7 := ExAt.i hX e2 n2
          clear hX e2 n2 hv
          simp only [Env.push, List.cons_append, List.nil_append, List.append_nil]
          refine den_new fun _ V7 _ u7 => den_wr fun U7 v7 => ?_
          have qU7 := ext_trans (ext_trans (ext_trans qZ5 y7) u7) v7
          have pU7 := ext_trans (ext_trans (ext_trans pZ5 y7) u7) v7
          have hX7 := (hX7.ext u7).ext v7
          refine den_br (fun cb => ?_) fun cb => ?_
          · skip
            have e1 : Px.parse x1 = Px.parse l := h1 f0 cl
            refine den_call_q (fun _ _ => same_q 100 _ _ _ _ U7 (parse_thin _).2 (parse_thin _).1 hX7 (hP.ext pU7)) ⟨Px.same (Px.parse x1).1 (Px.parse l).1, rfl, fun Z7 r7 => den_br (fun cs => ?_) fun cs => ?_⟩
            · exfalso
              have cs : (!Px.same (Px.parse x1).1 (Px.parse l).1) = true := cs
              rw [e1, Px.same_refl] at cs; cases cs
            · have qZ7 := ext_trans qU7 r7
              have pZ7 := ext_trans pU7 r7
              refine den_br (fun cl => ?_) fun cl => ?_
              · clear cl
                exact den_ret fun _ _ _ => ⟨_, rfl, rfl⟩
              · have cl : x2.length ≤ 100 := by simp only [Sy.dens, Sy.den, E.i, E.b, E.t, gd, Env.push, List.cons_append, List.nil_append, List.append_nil, Int.toNat_natCast, ltB_false] at cl; exact z2 cl
                refine den_call_i (fun _ _ => hp2 Z7 (hG.ext (xx _ qZ7))) fun v w' _ ⟨o8, k8, n8, t8, m8, al8, len8, cl8, hv, hX⟩ => ⟨o8, k8, n8, (Px.parse x2).2, len8, cl8, t8, m8, al8, hv, fun W8 e2 y8 n2 => ?_⟩
                have hX8 := ExAt.i hX e2 n2
                clear hX e2 n2 hv
                simp only [Env.push, List.cons_append, List.nil_append, List.append_nil]
                refine den_new fun _ V8 _ u8 => den_wr fun U8 v8 => ?_
                have qU8 := ext_trans (ext_trans (ext_trans qZ7 y8) u8) v8
                have pU8 := ext_trans (ext_trans (ext_trans pZ7 y8) u8) v8
                have hX8 := (hX8.ext u8).ext v8
                refine den_br (fun cb => ?_) fun cb => ?_
                · skip
                  have e1 : Px.parse x2 = Px.parse l := h2 f0 cl
                  refine den_call_q (fun _ _ => same_q 100 _ _ _ _ U8 (parse_thin _).2 (parse_thin _).1 hX8 (hP.ext pU8)) ⟨Px.same (Px.parse x2).1 (Px.parse l).1, rfl, fun Z8 r8 => den_br (fun cs => ?_) fun cs => ?_⟩
                  · exfalso
                    have cs : (!Px.same (Px.parse x2).1 (Px.parse l).1) = true := cs
                    rw [e1, Px.same_refl] at cs; cases cs
                  · have qZ8 := ext_trans qU8 r8
                    have pZ8 := ext_trans pU8 r8
                    exact den_ret fun _ _ _ => ⟨_, rfl, rfl⟩
                · exfalso
                  have cb : ((Px.parse x2).2 == 0) = false := cb
                  rw [h2 f0 cl, f0] at cb; cases cb
          · exfalso
            have cb : ((Px.parse x1).2 == 0) = false := cb
            rw [h1 f0 cl, f0] at cb; cases cb
    · exfalso
      have cf : (Px.parse l).2 = 0 := by simpa [Sy.dens, Sy.den, E.i, E.b, E.t, gd, Env.push, List.cons_append, List.nil_append, List.append_nil, Int.toNat_natCast] using cf
      have cb : ((Px.parse l).2 == 0 && (Px.parse x0).2 == 0) = false := cb
      rw [h0 cf cl, cf] at cb; cases cb
    · clear cb
      refine den_br (fun cl => ?_) fun cl => ?_
      · clear cl
        refine den_br (fun cl => ?_) fun cl => ?_
        · clear cl
          exact den_ret fun _ _ _ => ⟨_, rfl, rfl⟩
        · have cl : x2.length ≤ 100 := by simp only [Sy.dens, Sy.den, E.i, E.b, E.t, gd, Env.push, List.cons_append, List.nil_append, List.append_nil, Int.toNat_natCast, ltB_false] at cl; exact z2 cl
          refine den_call_i (fun _ _ => hp2 U5 (hG.ext (xx _ qU5))) fun v w' _ ⟨o9, k9, n9, t9, m9, al9, len9, cl9, hv, hX⟩ => ⟨o9, k9, n9, (Px.parse x2).2, len9, cl9, t9, m9, al9, hv, fun W9 e2 y9 n2 => ?_⟩
          have hX9 := ExAt.i hX e2 n2
          clear hX e2 n2 hv
          simp only [Env.push, List.cons_append, List.nil_append, List.append_nil]
          refine den_new fun _ V9 _ u9 => den_wr fun U9 v9 => ?_
          have qU9 := ext_trans (ext_trans (ext_trans qU5 y9) u9) v9
          have pU9 := ext_trans (ext_trans (ext_trans pU5 y9) u9) v9
          have hX9 := (hX9.ext u9).ext v9
          exact den_ret fun _ _ _ => ⟨_, rfl, rfl⟩
      · have cl : x1.length ≤ 100 := by simp only [Sy.dens, Sy.den, E.i, E.b, E.t, gd, Env.push, List.cons_append, List.nil_append, List.append_nil, Int.toNat_natCast, ltB_false] at cl; exact z1 cl
        refine den_call_i (fun _ _ => hp1 U5 (hG.ext (xx _ qU5))) fun v w' _ ⟨o10, k10, n10, t10, m10, al10, len10, cl10, hv, hX⟩ => ⟨o10, k10, n10, (Px.parse x1).2, len10, cl10, t10, m10, al10, hv, fun W10 e2 y10 n2 => ?_⟩
        have hX10 := ExAt.i hX e2 n2
        clear hX e2 n2 hv
        simp only [Env.push, List.cons_append, List.nil_append, List.append_nil]
        refine den_new fun _ V10 _ u10 => den_wr fun U10 v10 => ?_
        have qU10 := ext_trans (ext_trans (ext_trans qU5 y10) u10) v10
        have pU10 := ext_trans (ext_trans (ext_trans pU5 y10) u10) v10
        have hX10 := (hX10.ext u10).ext v10
        refine den_br (fun cl => ?_) fun cl => ?_
        · clear cl
          exact den_ret fun _ _ _ => ⟨_, rfl, rfl⟩
        · have cl : x2.length ≤ 100 := by simp only [Sy.dens, Sy.den, E.i, E.b, E.t, gd, Env.push, List.cons_append, List.nil_append, List.append_nil, Int.toNat_natCast, ltB_false] at cl; exact z2 cl
          refine den_call_i (fun _ _ => hp2 U10 (hG.ext (xx _ qU10))) fun v w' _ ⟨o11, k11, n11, t11, m11, al11, len11, cl11, hv, hX⟩ => ⟨o11, k11, n11, (Px.parse x2).2, len11, cl11, t11, m11, al11, hv, fun W11 e2 y11 n2 => ?_⟩
          have hX11 := ExAt.i hX e2 n2
          clear hX e2 n2 hv
          simp only [Env.push, List.cons_append, List.nil_append, List.append_nil]
          refine den_new fun _ V11 _ u11 => den_wr fun U11 v11 => ?_
          have qU11 := ext_trans (ext_trans (ext_trans qU10 y11) u11) v11
          have pU11 := ext_trans (ext_trans (ext_trans pU10 y11) u11) v11
          have hX11 := (hX11.ext u11).ext v11
          exact den_ret fun _ _ _ => ⟨_, rfl, rfl⟩
end Go.Proofs.YtckgdgkkmhochaaGreatDoor
