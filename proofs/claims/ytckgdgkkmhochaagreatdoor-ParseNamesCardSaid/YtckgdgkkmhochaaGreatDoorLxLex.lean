/- All parts of a text; how parts stand there. -/
import Derived.Test.YtckgdgkkmhochaaGreatDoorLxFirst
import Derived.Test.YtckgdgkkmhochaaGreatDoorSfE
import Derived.Test.YtckgdgkkmhochaaGreatDoorVcLaw
namespace Go.Proofs.YtckgdgkkmhochaaGreatDoor
open Go Go.RowKit Go.SF
set_option linter.unusedSimpArgs false
set_option linter.unusedVariables false

def tokC (t : Lx.Tok) : List Value := [.int .u8 t.k, .string ⟨t.t.toArray⟩]
theorem tokC_len (t : Lx.Tok) : (tokC t).length = 2 := rfl
/-- parts, as cells -/
def toksC (l : List Lx.Tok) : List Value := l.flatMap tokC
theorem toksC_app (l m : List Lx.Tok) : toksC (l ++ m) = toksC l ++ toksC m := by simp [toksC]
theorem toksC_len (l : List Lx.Tok) : (toksC l).length = l.length * 2 := flat_len tokC_len l
/-- parts in memory -/
def Toks (W : Wd) (a : Option Addr) (c : Nat) (l : List Lx.Tok) : Prop := SlI W a l.length c 2 (toksC l)
def ToksN (n0 : Nat) (w : World) (a : Option Addr) (c : Nat) (l : List Lx.Tok) : Prop := SlAt w (fun b => n0 ≤ b) a l.length c 2 (toksC l)

theorem trim_q (t : ByteArray) (W : Wd) : CallsQ Tryz.prog 57 #[.string t, .string ⟨#[32]⟩] W (.string ⟨(Lx.trim t.data.toList).toArray⟩) :=
  .of_below (Calls.mono (Tryz.strings_TrimLeft_one t 32 (by decide) W.w) fun e w' ⟨he, hw⟩ => ⟨he, hw ▸ Below.refl _ _⟩)
theorem first_pos {l : List UInt8} : (Lx.first l).2 ≤ l.length := by
  cases l with
  | nil => simp [Lx.first, Lx.none]
  | cons c r =>
    simp only [Lx.first]
    split
    · exact Lx.run_le _ _
    · split
      · exact Lx.run_le _ _
      · split
        · cases h : Lx.cutQ r with
          | none => simp [Lx.none]
          | some q => have := Lx.cutQ_len h; simp; omega
        · cases h : Lx.signs.find? fun x => x.isPrefixOf (c :: r) with
          | none => simp [Lx.none]
          | some x =>
            have := List.find?_some h
            exact (List.isPrefixOf_iff_prefix.1 this).length_le
theorem first_text {l : List UInt8} : (Lx.first l).1.t.length ≤ l.length ∨ (Lx.first l).1.t.length ≤ 2 := by
  cases l with
  | nil => simp [Lx.first, Lx.none]
  | cons c r =>
    simp only [Lx.first]
    split
    · left; simp; omega
    · split
      · left; simp; omega
      · split
        · cases h : Lx.cutQ r with
          | none => simp [Lx.none]
          | some q => have := Lx.cutQ_len h; left; simp; omega
        · cases h : Lx.signs.find? fun x => x.isPrefixOf (c :: r) with
          | none => simp [Lx.none]
          | some x =>
            have := List.find?_some h
            left
            exact (List.isPrefixOf_iff_prefix.1 this).length_le

theorem lex_r (t : ByteArray) (W : Wd) (hG : Glob W) : CallsI Tryz.prog 38 #[.string t] W.all fun v w' => ∃ a c, v = .tuple #[.slice a (Lx.lex t.data.toList).1.length c, .int .i64 (Lx.lex t.data.toList).2] ∧ w'.ownsRow W.w.heap.size 83 2 (.slice a (Lx.lex t.data.toList).1.length c) (Lx.lex t.data.toList).1.length (toksC (Lx.lex t.data.toList).1) := by
  refine vc_lex t W.all _ ?_
  have hs := size_len t
  have hG := hG.ext W.all_ext
  refine den_br (fun c => ?_) fun c => ?_
  · simp only [Sy.dens, Sy.den, E.i, E.b, E.t, gd, Env.push, List.cons_append, List.nil_append, List.append_nil, Int.toNat_natCast, ltB_true] at c
    have e : Lx.lex t.data.toList = ([], 40) := by unfold Lx.lex; rw [if_pos (by omega)]
    rw [e]
    exact den_ret fun _ _ _ => ⟨_, rfl, none, 0, rfl, World.ownsRow_nil _ _ _ _⟩
  · simp only [Sy.dens, Sy.den, E.i, E.b, E.t, gd, Env.push, List.cons_append, List.nil_append, List.append_nil, Int.toNat_natCast, ltB_false] at c
    have e : Lx.lex t.data.toList = match Lx.lexT (t.data.toList.length + 1) (Lx.trim t.data.toList) with
      | some ts => (ts, 0)
      | none => ([], 4) := by unfold Lx.lex; rw [if_neg (by omega)]; rfl
    rw [e]
    refine den_call_q (fun _ _ => trim_q t _) ⟨⟨(Lx.trim t.data.toList).toArray⟩, rfl, fun W1 x1 => ?_⟩
    simp only [Env.push, List.cons_append, List.nil_append, List.append_nil]
    have htl := Lx.trim_le t.data.toList
    refine den_loop (fun k vs ls _ => ∃ (m : Lx.Bs) (ts : List Lx.Tok) (a : Option Addr) (c : Nat), vs = [.string ⟨m.toArray⟩, .slice a ts.length c] ∧ ls = [toksC ts] ∧ m.length < k ∧ ts.length + m.length ≤ 100 ∧
      Lx.lexT (t.data.toList.length + 1) (Lx.trim t.data.toList) = (Lx.lexT k m).map (ts ++ ·)) (t.data.toList.length + 1) ⟨Lx.trim t.data.toList, [], none, 0, rfl, rfl, by omega, by simp; omega, by simp⟩ ?_
    rintro k vs ls W2 x2 ⟨m, ts, a, ca, rfl, rfl, hk, hlen, hT⟩
    refine ⟨ts.length, ca, ⟨m.toArray⟩, a, toksC ts, rfl, (by simp [rowConts, conts, Seg.den, gd, Env.push]), fun hrow => ?_⟩
    simp only [Env.push, List.cons_append, List.nil_append, List.append_nil]
    have hG2 := (hG.ext x1).ext x2
    have hms : (⟨m.toArray⟩ : ByteArray).data.toList = m := by simp
    have hmz : (⟨m.toArray⟩ : ByteArray).size = m.length := by rw [← size_len, hms]
    obtain ⟨k, rfl⟩ : ∃ j, k = j + 1 := ⟨k - 1, by omega⟩
    refine den_br (fun c1 => ?_) fun c1 => ?_
    · obtain ⟨ch, r, rfl⟩ : ∃ ch r, m = ch :: r := by
        cases m with
        | nil => simp [Sy.dens, Sy.den, E.i, E.b, E.t, gd, Env.push, List.cons_append, List.nil_append, List.append_nil, Int.toNat_natCast] at c1
        | cons ch r => exact ⟨ch, r, rfl⟩
      have hf := first_q ⟨(ch :: r).toArray⟩ (by rw [hmz]; simp) (by rw [hmz]; omega) W2 hG2
      rw [hms] at hf
      refine den_call_q (fun _ _ => hf) ⟨(Lx.first (ch :: r)).1.k, ((Lx.first (ch :: r)).2 : Int), ⟨(Lx.first (ch :: r)).1.t.toArray⟩, rfl, fun W3 x3 => ?_⟩
      simp only [Env.push, List.cons_append, List.nil_append, List.append_nil]
      have hft := @first_text (ch :: r)
      have hfp := @first_pos (ch :: r)
      have hT' : ∀ b : Bool, (Lx.first (ch :: r)).2 = 0 ∨ Lx.may (Lx.first (ch :: r)).1.k (Lx.first (ch :: r)).1.t = false → Lx.lexT (t.data.toList.length + 1) (Lx.trim t.data.toList) = (none : Option (List Lx.Tok)) := fun _ h => by
        rw [hT]
        simp only [Lx.lexT]
        rw [if_pos (by rcases h with h | h <;> simp [h])]
        rfl
      refine den_new fun m1 W4 _ x4 => den_wr fun W5 x5 => den_br (fun c2 => ?_) fun c2 => ?_
      · simp only [Sy.dens, Sy.den, E.i, E.b, E.t, gd, Env.push, List.cons_append, List.nil_append, List.append_nil, Int.toNat_natCast] at c2
        have hn0 : ¬ (Lx.first (ch :: r)).2 = 0 := by simpa using c2
        have hG5 := ((hG2.ext x3).ext x4).ext x5
        have hm := may_q (Lx.first (ch :: r)).1.k ⟨(Lx.first (ch :: r)).1.t.toArray⟩ (by rw [← size_len]; simp only [List.length_cons] at *; omega) W5 hG5
        refine den_call_q (fun _ _ => hm) ⟨Lx.may (Lx.first (ch :: r)).1.k (Lx.first (ch :: r)).1.t, rfl, fun W6 x6 => ?_⟩
        simp only [Env.push, List.cons_append, List.nil_append, List.append_nil]
        refine den_br (fun c3 => ?_) fun c3 => ?_
        · have c3 : (!Lx.may (Lx.first (ch :: r)).1.k (Lx.first (ch :: r)).1.t) = true := c3
          rw [hT' true (.inr (by simpa using c3))]
          exact den_ret fun _ _ _ => ⟨_, rfl, none, 0, rfl, World.ownsRow_nil _ _ _ _⟩
        · have c3 : (!Lx.may (Lx.first (ch :: r)).1.k (Lx.first (ch :: r)).1.t) = false := c3
          have c3 : Lx.may (Lx.first (ch :: r)).1.k (Lx.first (ch :: r)).1.t = true := by simpa using c3
          have hcut : ((⟨(ch :: r).toArray⟩ : ByteArray).extract (Lx.first (ch :: r)).2 (⟨(ch :: r).toArray⟩ : ByteArray).size).data.toList = (ch :: r).drop (Lx.first (ch :: r)).2 := by rw [extract_drop]
          have htq := trim_q ((⟨(ch :: r).toArray⟩ : ByteArray).extract (Lx.first (ch :: r)).2 (⟨(ch :: r).toArray⟩ : ByteArray).size)
          rw [hcut] at htq
          refine den_new fun m2 W7 _ x7 => den_chk ?_ (den_app fun a' c' W8 ha' x8 => den_chk ?_ (den_chk ?_ (den_chk ?_ (den_call_q (fun _ _ => htq W8) ⟨_, rfl, fun W9 x9 => ?_⟩))))
          · simp only [Sy.dens, Sy.den, E.i, E.b, E.t, gd, Env.push, List.cons_append, List.nil_append, List.append_nil, Int.toNat_natCast]; exact leB_t (by omega)
          · simp only [Sy.dens, Sy.den, E.i, E.b, E.t, gd, Env.push, List.cons_append, List.nil_append, List.append_nil, Int.toNat_natCast]; exact leB_t (by omega)
          · simp only [Sy.dens, Sy.den, E.i, E.b, E.t, gd, Env.push, List.cons_append, List.nil_append, List.append_nil, Int.toNat_natCast]; exact leB_t (by omega)
          · simp only [Sy.dens, Sy.den, E.i, E.b, E.t, gd, Env.push, List.cons_append, List.nil_append, List.append_nil, Int.toNat_natCast]; exact leB_t (by omega)
          · simp only [Env.push, List.cons_append, List.nil_append, List.append_nil]
            have hd : (Lx.trim ((ch :: r).drop (Lx.first (ch :: r)).2)).length ≤ (ch :: r).length - (Lx.first (ch :: r)).2 := by
              have := Lx.trim_le ((ch :: r).drop (Lx.first (ch :: r)).2)
              rw [List.length_drop] at this; exact this
            try (with_reducible refine den_frz fun _ _ _ _ _ => ?_)
            refine den_again ⟨k, by omega, Lx.trim ((ch :: r).drop (Lx.first (ch :: r)).2), ts ++ [(Lx.first (ch :: r)).1], a', c', ?_, ?_, by omega, ?_, ?_⟩
            · simp only [Sy.dens, Sy.den, E.i, E.b, E.t, gd, Env.push, List.cons_append, List.nil_append, List.append_nil, Int.toNat_natCast, List.length_append, List.length_cons, List.length_nil]
              rfl
            · simp only [rowConts, conts, List.map_cons, List.map_nil, List.flatMap_cons, List.flatMap_nil, Seg.den, Sy.dens, Sy.den, E.i, E.b, E.t, gd, Env.push, List.cons_append, List.nil_append, List.append_nil, Int.toNat_natCast, toksC_app]
              rfl
            · simp only [List.length_append, List.length_cons, List.length_nil] at *; omega
            · rw [hT]
              simp only [Lx.lexT]
              rw [if_neg (by simp [hn0, c3]), Option.map_map]
              congr 1
              funext l
              simp
      · simp only [Sy.dens, Sy.den, E.i, E.b, E.t, gd, Env.push, List.cons_append, List.nil_append, List.append_nil, Int.toNat_natCast] at c2
        have hn0 : (Lx.first (ch :: r)).2 = 0 := by simpa using c2
        rw [hT' true (.inl hn0)]
        exact den_ret fun _ _ _ => ⟨_, rfl, none, 0, rfl, World.ownsRow_nil _ _ _ _⟩
    · have hm0 : m = [] := by simpa [Sy.dens, Sy.den, E.i, E.b, E.t, gd, Env.push, List.cons_append, List.nil_append, List.append_nil, Int.toNat_natCast] using c1
      subst hm0
      have hT2 : Lx.lexT (t.data.toList.length + 1) (Lx.trim t.data.toList) = some ts := by rw [hT]; simp [Lx.lexT]
      rw [hT2]
      refine den_ret fun _ _ hr => ⟨_, rfl, a, ca, rfl, ?_⟩
      have := (hr _ (List.mem_singleton.2 rfl)).1
      simp only [conts, List.flatMap_cons, List.flatMap_nil, Seg.den, Sy.dens, Sy.den, E.i, E.b, E.t, gd, Env.push, List.cons_append, List.nil_append, List.append_nil, Int.toNat_natCast] at this
      exact this
theorem lex_i (t : ByteArray) (W : Wd) (hG : Glob W) : CallsI Tryz.prog 38 #[.string t] W.all fun v w' => ∃ a c, v = .tuple #[.slice a (Lx.lex t.data.toList).1.length c, .int .i64 (Lx.lex t.data.toList).2] ∧ ToksN W.w.heap.size w' a c (Lx.lex t.data.toList).1 :=
  CallsI.mono (lex_r t W hG) fun v w' _ ⟨a, c, hv, ho⟩ => ⟨a, c, hv, owns_sl ho⟩
end Go.Proofs.YtckgdgkkmhochaaGreatDoor
