/- Parse of Show is the tree; what is parsed may be. No program in sight. -/
import Derived.Test.YtckgdgkkmhochaaGreatDoorPxShowP
import Derived.Test.YtckgdgkkmhochaaGreatDoorPxBlanksP
import Derived.Test.YtckgdgkkmhochaaGreatDoorPxRefP
import Derived.Test.YtckgdgkkmhochaaGreatDoorVmPlain
import Derived.Test.YtckgdgkkmhochaaGreatDoorLxNumP
namespace Lx
open Go
set_option linter.unusedVariables false
set_option linter.unusedSimpArgs false
/-! ### numbers -/
theorem val_app (l m : Bs) (a : Nat) : val a (l ++ m) = val (val a l) m := by unfold val; rw [List.foldl_append]
theorem val_dec : ∀ u : Nat, val 0 (Lib.decDigits u) = u := by
  intro u
  induction u using Nat.strongRecOn with
  | _ u ih =>
    rw [Lib.decDigits]
    by_cases h : u < 10
    · rw [dif_pos h]
      simp only [val_cons, val_nil, dig, UInt8.toNat_ofNat']
      omega
    · rw [dif_neg h, val_app, ih (u / 10) (by omega)]
      simp only [val_cons, val_nil, dig, UInt8.toNat_ofNat']
      omega
theorem dec_digits : ∀ u : Nat, ∀ c ∈ Lib.decDigits u, digit c = true := by
  intro u
  induction u using Nat.strongRecOn with
  | _ u ih =>
    rw [Lib.decDigits]
    by_cases h : u < 10
    · rw [dif_pos h]
      intro c hc
      obtain rfl := List.mem_singleton.1 hc
      rw [digit_iff]; simp only [UInt8.toNat_ofNat']; omega
    · rw [dif_neg h]
      intro c hc
      rcases List.mem_append.1 hc with hc | hc
      · exact ih (u / 10) (by omega) c hc
      · obtain rfl := List.mem_singleton.1 hc
        rw [digit_iff]; simp only [UInt8.toNat_ofNat']; omega
theorem dec_zero : ∀ u : Nat, (Lib.decDigits u).head? = some 48 → (Lib.decDigits u).length = 1 := by
  intro u
  induction u using Nat.strongRecOn with
  | _ u ih =>
    intro h0
    by_cases h : u < 10
    · rw [Lib.decDigits, dif_pos h]; rfl
    · rw [Lib.decDigits, dif_neg h] at h0
      obtain ⟨c, l, e, _, _⟩ := Va.dec_head (u / 10)
      rw [e] at h0
      have h1 := ih (u / 10) (by omega) (by rw [e]; simpa using h0)
      -- one digit that is 0: the number is 0
      rw [e] at h1
      have h2 := val_dec (u / 10)
      have hc : c = 48 := by simpa using h0
      have hl : l = [] := by simpa using h1
      rw [e, hc, hl] at h2
      simp only [val_cons, val_nil, dig] at h2
      exfalso
      have : (48 : UInt8).toNat = 48 := rfl
      omega
theorem parse_val {l : Bs} (h0 : l ≠ []) (h : ∀ c ∈ l, digit c = true) (hv : val 0 l < 2 ^ 63) : Lib.parseIntB 64 l = .ok (val 0 l : Int) := by
  cases l with
  | nil => exact absurd rfl h0
  | cons c r =>
    have hc := digit_iff.1 (h c (List.mem_cons_self ..))
    have h43 : ¬ c.toNat = 43 := by omega
    have h45 : ¬ c.toNat = 45 := by omega
    simp only [Lib.parseIntB, h43, h45, or_self, if_false, Lib.parseUintB, reduceCtorEq, not_false_eq_true, true_and, false_and]
    rcases uint_val (c :: r) 0 h with e | ⟨e, hv'⟩
    · rw [e]
      simp only
      rw [if_neg (by omega)]
    · omega
theorem num_tok {u : Nat} (h : u < 2 ^ 63) : numOk (Lib.decDigits u) = true ∧ Px.numOf (Lib.decDigits u) = (u : Int) := by
  obtain ⟨c, l, e, _, _⟩ := Va.dec_head u
  have h0 : Lib.decDigits u ≠ [] := by rw [e]; simp
  have hd := dec_digits u
  have hv := val_dec u
  have hp := parse_val h0 hd (by rw [hv]; exact h)
  refine ⟨?_, by unfold Px.numOf; rw [hp, hv]⟩
  unfold numOk
  rw [hp, run_iff.2 hd]
  have hz : ((Lib.decDigits u).length == 1 || !((Lib.decDigits u).head? == some 48)) = true := by
    cases hh : ((Lib.decDigits u).head? == some 48)
    · simp
    · rw [dec_zero u (by simpa using hh)]; simp
  rw [hz]; simp [parsed]
theorem num_nonneg {l : Bs} (h : numOk l = true) : 0 ≤ Px.numOf l := by
  unfold numOk at h
  simp only [Bool.and_eq_true, beq_iff_eq] at h
  obtain ⟨hp, hr, -⟩ := h
  have hd := run_iff.1 hr
  have h0 : l ≠ [] := by rintro rfl; rw [not_parsed_nil] at hp; cases hp
  rw [parsed_val h0 hd, decide_eq_true_eq] at hp
  unfold Px.numOf
  rw [parse_val h0 hd hp]
  simp
/-! ### parts put together -/
/-- a text that does not begin with a space, nor with =; and its parts -/
def Lexd (s : Bs) (ts : List Tok) : Prop := (∃ c r, s = c :: r ∧ c ≠ 32 ∧ c ≠ 61) ∧ lexT (s.length + 1) s = some ts
theorem Lexd.trim {s : Bs} {ts : List Tok} (h : Lexd s ts) : Lx.trim s = s := by
  obtain ⟨⟨c, r, rfl, hc, _⟩, _⟩ := h
  exact trim_idem hc
theorem Lexd.open {s : Bs} {ts : List Tok} (h : Lexd s ts) : Lexd (40 :: s) (lp :: ts) := by
  refine ⟨⟨40, s, rfl, by decide, by decide⟩, ?_⟩
  rw [lexT_open, h.trim, List.length_cons, h.2]; rfl
theorem Lexd.close {s : Bs} {ts : List Tok} (h : Lexd s ts) : Lexd (s ++ [41]) (ts ++ [rp]) := by
  have e := lexT_ap4 _ _ _ h.2 [] ((s ++ [41]).length + 2) 3 (by simp) (by simp)
  rw [trim_ap4, h.trim] at e
  obtain ⟨⟨c, r, rfl, hc, hd⟩, h2⟩ := h
  refine ⟨⟨c, r ++ [41], rfl, hc, hd⟩, ?_⟩
  rw [lexT_fuel _ (((c :: r) ++ [41]).length + 2) _ (by omega) (by omega), e, lexT_close]
  rfl
theorem Lexd.brack {s : Bs} {ts : List Tok} (h : Lexd s ts) : Lexd (40 :: (s ++ [41])) (lp :: (ts ++ [rp])) := h.close.open
theorem Lexd.minus {s : Bs} {ts : List Tok} (h : Lexd s ts) : Lexd (45 :: s) (⟨4, [45]⟩ :: ts) := by
  refine ⟨⟨45, s, rfl, by decide, by decide⟩, ?_⟩
  rw [lexT_cons]
  have e : first (45 :: s) = (⟨4, [45]⟩, 1) := by
    rw [first_cons, if_neg (by decide), if_neg (by decide), if_neg (by decide)]
    have : (signs.find? fun x => x.isPrefixOf (45 :: s)) = some [45] := by simp [signs, List.find?, List.isPrefixOf]
    rw [this]; rfl
  rw [e]
  show (lexT _ (Lx.trim s)).map _ = _
  rw [h.trim, List.length_cons, h.2]; rfl
theorem Lexd.bang {s : Bs} {ts : List Tok} (h : Lexd s ts) : Lexd (33 :: s) (⟨4, [33]⟩ :: ts) := by
  refine ⟨⟨33, s, rfl, by decide, by decide⟩, ?_⟩
  rw [lexT_cons]
  have e : first (33 :: s) = (⟨4, [33]⟩, 1) := by
    obtain ⟨⟨c, r, rfl, hc, hd⟩, h2⟩ := h
    rw [first_cons, if_neg (by decide), if_neg (by decide), if_neg (by decide)]
    have h61 : ((61 : UInt8) == c) = false := beq_eq_false_iff_ne.2 fun e => hd e.symm
    have : (signs.find? fun x => x.isPrefixOf (33 :: c :: r)) = some [33] := by simp [signs, List.find?, List.isPrefixOf, h61]
    rw [this]; rfl
  rw [e]
  show (lexT _ (Lx.trim s)).map _ = _
  rw [h.trim, List.length_cons, h.2]; rfl
theorem Lexd.len {s : Bs} {ts : List Tok} (h : Lexd s ts) : Lexd ([108, 101, 110, 40] ++ s ++ [41]) (⟨2, [108, 101, 110]⟩ :: lp :: (ts ++ [rp])) := by
  have h := h.brack
  refine ⟨⟨108, _, rfl, by decide, by decide⟩, ?_⟩
  have e0 : [108, 101, 110, 40] ++ s ++ [41] = 108 :: ([101, 110] ++ (40 :: (s ++ [41]))) := by simp
  rw [e0, lexT_cons]
  have e : first (108 :: ([101, 110] ++ (40 :: (s ++ [41])))) = (⟨2, [108, 101, 110]⟩, 3) := by
    rw [first_cons, if_neg (by decide), if_pos (by decide)]
    have : run behind (108 :: ([101, 110] ++ 40 :: (s ++ [41]))) = 3 := by
      rw [run_cons_t (by decide), List.cons_append, run_cons_t (by decide), List.cons_append, run_cons_t (by decide), List.nil_append, run_cons_f (by decide)]
    rw [this]; rfl
  rw [e]
  have e3 : may 2 [108, 101, 110] = true := by decide
  simp only [e3, Bool.not_true, Bool.or_false]
  rw [if_neg (by decide)]
  have e4 : (108 :: ([101, 110] ++ (40 :: (s ++ [41])))).drop 3 = 40 :: (s ++ [41]) := rfl
  rw [e4, h.trim, lexT_fuel _ ((40 :: (s ++ [41])).length + 1) _ (by simp) (by omega), h.2]; rfl
theorem Lexd.app {s t : Bs} {a b : List Tok} (h : Lexd s a) (k : Lx.trim t = t) (h2 : lexT (t.length + 1) t = some b) : Lexd (s ++ 32 :: t) (a ++ b) := by
  have e := lexT_app _ _ _ h.2 t ((s ++ 32 :: t).length + 1) (t.length + 1) (by simp) (by omega)
  rw [trim_trim, h.trim, k, h2] at e
  obtain ⟨⟨c, r, rfl, hc, hd⟩, _⟩ := h
  refine ⟨⟨c, r ++ 32 :: t, rfl, hc, hd⟩, ?_⟩
  rw [List.cons_append, trim_idem hc] at e
  exact e
theorem Lexd.one {t : Tok} (h : may t.k t.t = true) (h61 : ∀ r, text t ≠ 61 :: r) : Lexd (text t) [t] := by
  obtain ⟨c, s, e, hc⟩ := text_head h
  refine ⟨⟨c, s, e, hc, fun h => h61 s (by rw [e, h])⟩, ?_⟩
  have := lexT_text h (text t).length (r := []) (.inl rfl)
  rw [List.append_nil] at this
  rw [this, e]; rfl
theorem sign_lex : ∀ b ∈ Px.binds, lexT (b.1.length + 1) b.1 = some [⟨4, b.1⟩] ∧ Lx.trim b.1 = b.1 := by
  intro b hb
  simp only [Px.binds, List.mem_cons, List.not_mem_nil, or_false] at hb
  rcases hb with rfl | rfl | rfl | rfl | rfl | rfl | rfl | rfl | rfl | rfl | rfl <;> exact ⟨by kernel_rfl, by decide⟩
theorem Lexd.two {s t : Bs} {a c : List Tok} (h : Lexd s a) (k : Lexd t c) {b : Bs × Int × Int} (hb : b ∈ Px.binds) : Lexd (s ++ [32] ++ b.1 ++ [32] ++ t) (a ++ ⟨4, b.1⟩ :: c) := by
  obtain ⟨e1, e2⟩ := sign_lex b hb
  have hl := lexT_app _ _ _ e1 t ((b.1 ++ 32 :: t).length + 1) (t.length + 1) (by simp) (by omega)
  rw [trim_trim, e2, k.trim, k.2] at hl
  have et : Lx.trim (b.1 ++ 32 :: t) = b.1 ++ 32 :: t := by
    simp only [Px.binds, List.mem_cons, List.not_mem_nil, or_false] at hb
    rcases hb with rfl | rfl | rfl | rfl | rfl | rfl | rfl | rfl | rfl | rfl | rfl <;> exact trim_idem (by decide)
  rw [et] at hl
  have := h.app et hl
  simpa using this
end Lx
namespace Px
open Go
open Lx hiding none run first may
set_option linter.unusedVariables false
set_option linter.unusedSimpArgs false
/-- how much may still come behind a tree that was read -/
def lim0 (e : Ex) : Int := if 6 ≤ much e then 7 else if much e = 3 then 2 else much e
theorem by_mem {s : Bs} {o : Int} {b : Bs × Int × Int} (h : by_ s o = some b) : b ∈ binds := List.mem_of_find?_eq_some h
theorem by_none {o : Int} {b : Bs × Int × Int} (h : by_ [110, 111, 110, 101] o = some b) : b.2.1 = o := by
  have h1 := List.find?_some h
  have h2 := by_mem h
  have : ∀ b ∈ binds, (b.1 == [110, 111, 110, 101]) = false := by decide
  rw [this b h2, Bool.false_or] at h1
  simpa using h1
theorem binds_much : ∀ b ∈ binds, 1 ≤ b.2.2 ∧ b.2.2 ≤ 5 := by decide
theorem binds_lv : ∀ b ∈ binds, lv ⟨4, b.1⟩ = some b.2 := by
  intro b hb
  simp only [binds, List.mem_cons, List.not_mem_nil, or_false] at hb
  rcases hb with rfl | rfl | rfl | rfl | rfl | rfl | rfl | rfl | rfl | rfl | rfl <;> rfl
theorem much_pos (e : Ex) : 1 ≤ much e := by
  unfold much
  split
  · rename_i b h; exact (binds_much b (by_mem h)).1
  · split <;> decide
theorem lv_rp : lv rp = none := by decide
theorem stops_rp (m : Int) (u : List Tok) : Stops m (rp :: u) := fun b hb => by rw [lv_rp] at hb; cases hb
theorem sign_rp (u : List Tok) : sign [41] (rp :: u) = some u := by simp [sign, rp]
/-- a tree's parts are read as that tree, whatever stands behind -/
def Reads (e : Ex) (ts : List Tok) : Prop := (6 ≤ much e → ∀ u, One (ts ++ u) = some (e, u)) ∧ ∀ m u r, 1 ≤ m → m ≤ much e → Stops (much e + 1) u → Loop m (lim0 e) e u = r → Two m (ts ++ u) = r
theorem reads_one {e : Ex} {ts : List Tok} (h6 : 6 ≤ much e) (h : ∀ u, One (ts ++ u) = some (e, u)) : Reads e ts := by
  refine ⟨fun _ => h, fun m u r _ hm hs hr => ?_⟩
  rw [Two_eq, h u]
  unfold lim0 at hr
  rw [if_pos h6] at hr
  exact hr
/-- in brackets, if it binds less than is needed -/
theorem reads_in {e : Ex} {ts : List Tok} {s : Bs} (hl : Lexd s ts) (h : Reads e ts) (need : Int) : ∃ us, Lexd (within s (much e) need) us ∧ (6 ≤ need → ∀ u, One (us ++ u) = some (e, u)) ∧
    ∃ l, (need ≠ 3 → need ≤ l ∨ 6 ≤ need) ∧ ∀ m u r, 1 ≤ m → m ≤ need → Stops (need + 1) u → Loop m l e u = r → Two m (us ++ u) = r := by
  unfold within
  by_cases c : need ≤ much e
  · rw [if_pos c]
    refine ⟨ts, hl, fun h6 => h.1 (by omega), lim0 e, fun h3 => ?_, fun m u r h1 hm hs hr => h.2 m u r h1 (by omega) (hs.up (by omega)) hr⟩
    unfold lim0
    split
    · omega
    · split <;> omega
  · rw [if_neg c]
    have ho : ∀ u, One (lp :: (ts ++ [rp]) ++ u) = some (e, u) := fun u => by
      rw [List.cons_append, One_cons, if_pos (by decide), if_neg (by decide), if_neg (by decide), if_pos (by decide)]
      have := h.2 1 (rp :: u) (some (e, rp :: u)) (Int.le_refl _) (much_pos e) (stops_rp _ _) (loop_stop (stops_rp _ _))
      rw [List.append_assoc]
      show (Two 1 (ts ++ (rp :: u))).bind _ = _
      rw [this]
      simp only [Option.bind_some, sign_rp, Option.map_some]
    refine ⟨lp :: (ts ++ [rp]), hl.brack, fun _ => ho, 7, fun _ => ?_, fun m u r h1 hm hs hr => ?_⟩
    · omega
    · rw [Two_eq, ho u]; exact hr
theorem word_name {s : Bs} (h : word s = true) : ¬ s = [121, 101, 115] ∧ ¬ s = [110, 111] ∧ ¬ s = [108, 101, 110] ∧ Lx.may 2 s = true := by
  unfold word at h
  simp only [Bool.and_eq_true, Bool.not_eq_true', beq_eq_false_iff_ne, ne_eq] at h
  exact ⟨h.1.1, h.1.2, h.2.1, h.2.2⟩
theorem text_no61 {t : Tok} (h : Lx.may t.k t.t = true) (h4 : t.k ≠ 4) : ∀ r, Lx.text t ≠ 61 :: r := by
  intro r hr
  obtain ⟨k, t⟩ := t
  simp only at h h4
  unfold Lx.text at hr
  unfold Lx.may at h
  simp only at hr
  by_cases h1 : k = 1
  · subst h1
    simp only [if_true, show ¬ ((1 : Int) = 3) by decide, if_false] at h hr
    subst hr
    unfold numOk at h
    simp only [Bool.and_eq_true, beq_iff_eq] at h
    have := run_all h.2.1 61 (List.mem_cons_self ..)
    revert this; decide
  · rw [if_neg h1] at h
    by_cases h2 : k = 2
    · subst h2
      simp only [if_true, show ¬ ((2 : Int) = 3) by decide, if_false] at h hr
      subst hr
      unfold wordOk at h
      simp only [Bool.and_eq_true] at h
      revert h; intro h
      have := h.1
      revert this; decide
    · rw [if_neg h2] at h
      by_cases h3 : k = 3
      · subst h3
        simp only [if_true] at hr
        injection hr with h5; revert h5; decide
      · rw [if_neg h3, if_neg h4] at h; cases h
/-- what may be asked of a leaf -/
theorem lit_ways {k n : Int} {t : Bs} (h : Va.may ⟨k, n, ⟨t.toArray⟩⟩ = true) (h0 : ¬ k = 0) : (k = 1 ∧ t = []) ∨ (k = 2 ∧ n = 0 ∧ t = []) ∨ (k = 2 ∧ n = 1 ∧ t = []) ∨ (k = 3 ∧ n = 0 ∧ quoteOk t = true) := by
  unfold Va.may at h
  simp only [h0, if_false] at h
  split at h
  · rename_i k1; exact .inl ⟨k1, by simpa using h⟩
  · split at h
    · rename_i k2
      simp only [Bool.and_eq_true, Bool.or_eq_true, beq_iff_eq] at h
      rcases h.1 with h1 | h1
      · exact .inr (.inl ⟨k2, h1, h.2⟩)
      · exact .inr (.inr (.inl ⟨k2, h1, h.2⟩))
    · split at h
      · rename_i k3
        simp only [Bool.and_eq_true, beq_iff_eq] at h
        refine .inr (.inr (.inr ⟨k3, h.1, ?_⟩))
        have h2 := h.2
        unfold Va.plain at h2
        simp only [Bool.and_eq_true, decide_eq_true_eq, List.all_eq_true] at h2
        unfold quoteOk
        have hsz : (⟨t.toArray⟩ : ByteArray).size = t.length := by simp [ByteArray.size]
        rw [hsz] at h2
        simp only [Bool.and_eq_true, beq_iff_eq, decide_eq_true_eq]
        refine ⟨run_iff.2 fun c hc => ?_, by omega⟩
        have := h2.1 c hc
        unfold Va.okc at this
        unfold Lx.quoted
        simp only [Bool.not_eq_true', Bool.or_eq_false_iff, decide_eq_false_iff_not, Bool.and_eq_true, decide_eq_true_eq, beq_eq_false_iff_ne] at this ⊢
        omega
      · cases h
theorem back : ∀ (n : Nat) (e : Ex), may n e = true → thin e = true → ∃ ts, Lexd (show_ n e) ts ∧ Reads e ts
  | 0, e, h, _ => by simp [may] at h
  | n + 1, .mk o k nn t nm l, h, hth => by
    simp only [may, Bool.and_eq_true, List.all_eq_true] at h
    obtain ⟨hh, hargs⟩ := h
    simp only [Ex.args] at hargs
    simp only [thin, Bool.and_eq_true, decide_eq_true_eq] at hth
    have harg : ∀ i, i < l.length → may n (arg (.mk o k nn t nm l) i) = true ∧ thin (arg (.mk o k nn t nm l) i) = true := fun i hi => by
      have : arg (.mk o k nn t nm l) i = l[i] := by simp [arg, Ex.args, List.getD, List.getElem?_eq_getElem hi]
      rw [this]
      exact ⟨hargs _ (List.getElem_mem hi), thin_mem hth.2 (List.getElem_mem hi)⟩
    simp only [head, Bool.and_eq_true, Bool.or_eq_true, decide_eq_true_eq, beq_iff_eq, Bool.not_eq_true', beq_eq_false_iff_ne] at hh
    obtain ⟨⟨o1, o16, hlen⟩, hv, hw, hnm, hlit⟩ := hh
    by_cases c1 : o = 1
    · -- a literal
      subst c1
      have hnm : nm = [] := by rcases hnm with h | h; · exact absurd h (by decide)
                               · exact h
      have hl0 : l = [] := List.length_eq_zero_iff.1 (by rw [hlen]; rfl)
      subst hnm; subst hl0
      have hlit := hlit.resolve_left (by decide)
      obtain ⟨hm, h0, hneg⟩ := hlit
      have hmu : much (.mk 1 k nn t [] []) = 7 := rfl
      have h6 : 6 ≤ much (.mk 1 k nn t [] []) := by rw [hmu]; decide
      show ∃ ts, Lexd (Va.shown ⟨k, nn, ⟨t.toArray⟩⟩).data.toList ts ∧ _
      rcases lit_ways hm h0 with ⟨rfl, rfl⟩ | ⟨rfl, rfl, rfl⟩ | ⟨rfl, rfl, rfl⟩ | ⟨rfl, rfl, hq⟩
      · have hn : 0 ≤ nn := by
          have : ¬ nn < 0 := by simpa using hneg
          omega
        have hu : nn.toNat < 2 ^ 63 := by have := hth.1; omega
        obtain ⟨e1, e2⟩ := num_tok hu
        have es : (Va.shown ⟨1, nn, ⟨([] : Bs).toArray⟩⟩).data.toList = Lib.decDigits nn.toNat := by
          have : Lib.itoa nn = Lib.decDigits nn.toNat := by unfold Lib.itoa; rw [if_neg (by omega)]
          simp [Va.shown, this]
        rw [es]
        refine ⟨[⟨1, Lib.decDigits nn.toNat⟩], Lexd.one (t := ⟨1, Lib.decDigits nn.toNat⟩) e1 (text_no61 e1 (show ¬ (1 : Int) = 4 by decide)), reads_one h6 fun u => ?_⟩
        rw [List.cons_append, List.nil_append, One_cons, if_neg (show ¬ (1 : Int) = 4 by decide), if_pos rfl, e2]
        have : ((nn.toNat : Nat) : Int) = nn := by omega
        rw [this]; rfl
      · refine ⟨[⟨2, [110, 111]⟩], Lexd.one (t := ⟨2, [110, 111]⟩) (by decide) (text_no61 (by decide) (by decide)), reads_one h6 fun u => ?_⟩
        rw [List.cons_append, List.nil_append, One_cons, if_neg (by decide), if_neg (by decide), if_neg (by decide), if_neg (by decide), if_pos rfl]; rfl
      · refine ⟨[⟨2, [121, 101, 115]⟩], Lexd.one (t := ⟨2, [121, 101, 115]⟩) (by decide) (text_no61 (by decide) (by decide)), reads_one h6 fun u => ?_⟩
        rw [List.cons_append, List.nil_append, One_cons, if_neg (by decide), if_neg (by decide), if_neg (by decide), if_pos rfl]; rfl
      · have es : (Va.shown ⟨3, 0, ⟨t.toArray⟩⟩).data.toList = Lx.text ⟨3, t⟩ := by simp [Va.shown, Lx.text]
        rw [es]
        have hmt : Lx.may 3 t = true := by simpa [Lx.may] using hq
        refine ⟨[⟨3, t⟩], Lexd.one (t := ⟨3, t⟩) hmt (text_no61 hmt (show ¬ (3 : Int) = 4 by decide)), reads_one h6 fun u => ?_⟩
        rw [List.cons_append, List.nil_append, One_cons, if_neg (show ¬ (3 : Int) = 4 by decide), if_neg (show ¬ (3 : Int) = 1 by decide), if_pos rfl]; rfl
    · have hv := hv.resolve_left c1
      obtain ⟨rfl, rfl, rfl⟩ := hv
      by_cases c2 : o = 2
      · -- a name
        subst c2
        have hw : word nm = true := by rw [← hw]; rfl
        obtain ⟨w1, w2, w3, w4⟩ := word_name hw
        have hl0 : l = [] := List.length_eq_zero_iff.1 (by rw [hlen]; rfl)
        subst hl0
        show ∃ ts, Lexd nm ts ∧ _
        refine ⟨[⟨2, nm⟩], Lexd.one (t := ⟨2, nm⟩) w4 (text_no61 w4 (show ¬ (2 : Int) = 4 by decide)), reads_one (show (6 : Int) ≤ 7 by decide) fun u => ?_⟩
        rw [List.cons_append, List.nil_append, One_cons, if_neg (show ¬ (2 : Int) = 4 by decide), if_neg (show ¬ (2 : Int) = 1 by decide), if_neg (show ¬ (2 : Int) = 3 by decide), if_neg w1, if_neg w2, if_neg w3]; rfl
      · have hnm : nm = [] := hnm.resolve_left c2
        subst hnm
        by_cases c3 : o = 3
        · subst c3
          have hl1 : l.length = 1 := hlen
          obtain ⟨a, rfl⟩ : ∃ a, l = [a] := List.length_eq_one_iff.1 hl1
          obtain ⟨ha, hta⟩ := harg 0 (by simp)
          obtain ⟨ts, hl, hr⟩ := back n a ha hta
          obtain ⟨us, ul, u1, -⟩ := reads_in hl hr 6
          refine ⟨⟨4, [45]⟩ :: us, ul.minus, reads_one (show (6 : Int) ≤ 6 by decide) fun u => ?_⟩
          rw [List.cons_append, One_cons, if_pos rfl, if_pos rfl, u1 (by decide) u]; rfl
        · by_cases c4 : o = 4
          · subst c4
            have hl1 : l.length = 1 := hlen
            obtain ⟨a, rfl⟩ : ∃ a, l = [a] := List.length_eq_one_iff.1 hl1
            obtain ⟨ha, hta⟩ := harg 0 (by simp)
            obtain ⟨ts, hl, hr⟩ := back n a ha hta
            obtain ⟨us, ul, u1, -⟩ := reads_in hl hr 6
            refine ⟨⟨4, [33]⟩ :: us, ul.bang, reads_one (show (6 : Int) ≤ 6 by decide) fun u => ?_⟩
            rw [List.cons_append, One_cons, if_pos rfl, if_neg (by decide), if_pos rfl, u1 (by decide) u]; rfl
          · by_cases c5 : o = 16
            · subst c5
              have hl1 : l.length = 1 := hlen
              obtain ⟨a, rfl⟩ : ∃ a, l = [a] := List.length_eq_one_iff.1 hl1
              obtain ⟨ha, hta⟩ := harg 0 (by simp)
              obtain ⟨ts, hl, hr⟩ := back n a ha hta
              refine ⟨⟨2, [108, 101, 110]⟩ :: lp :: (ts ++ [rp]), hl.len, reads_one (show (6 : Int) ≤ 7 by decide) fun u => ?_⟩
              rw [List.cons_append, One_cons, if_neg (by decide), if_neg (by decide), if_neg (by decide), if_neg (by decide), if_neg (by decide), if_pos rfl]
              have := hr.2 1 (rp :: u) (some (a, rp :: u)) (Int.le_refl _) (much_pos a) (stops_rp _ _) (loop_stop (stops_rp _ _))
              have e1 : sign [40] (lp :: (ts ++ [rp]) ++ u) = some (ts ++ (rp :: u)) := by simp [sign, lp]
              rw [e1, Option.bind_some, this]
              simp only [Option.bind_some, sign_rp, Option.map_some]; rfl
            · -- an operator of two
              have hl2 : l.length = 2 := by rw [hlen]; unfold argsOf; simp [c1, c2, c3, c4, c5]
              obtain ⟨a, b, rfl⟩ : ∃ a b, l = [a, b] := by
                match l, hl2 with
                | [a, b], _ => exact ⟨a, b, rfl⟩
              obtain ⟨ha, hta⟩ := harg 0 (by simp)
              obtain ⟨hb, htb⟩ := harg 1 (by simp)
              have hby : ∃ q, by_ [110, 111, 110, 101] o = some q := by
                have : o = 5 ∨ o = 6 ∨ o = 7 ∨ o = 8 ∨ o = 9 ∨ o = 10 ∨ o = 11 ∨ o = 12 ∨ o = 13 ∨ o = 14 ∨ o = 15 := by omega
                rcases this with rfl | rfl | rfl | rfl | rfl | rfl | rfl | rfl | rfl | rfl | rfl <;> exact ⟨_, rfl⟩
              obtain ⟨q, hq⟩ := hby
              have hqm := by_mem hq
              obtain ⟨m1, m5⟩ := binds_much q hqm
              have hqo := by_none hq
              have hlv := binds_lv q hqm
              have hmu : much (.mk o 0 0 [] [] [a, b]) = q.2.2 := by unfold much opOf; simp only [hq]
              obtain ⟨ts, hl, hr⟩ := back n a ha hta
              obtain ⟨ts', hl', hr'⟩ := back n b hb htb
              obtain ⟨us, ul, -, la, hla, ura⟩ := reads_in hl hr (if q.2.2 = 3 then 4 else q.2.2)
              obtain ⟨vs, vl, -, lb, hlb, urb⟩ := reads_in hl' hr' (q.2.2 + 1)
              have es : show_ (n + 1) (.mk o 0 0 [] [] [a, b]) = within (show_ n a) (much a) (if q.2.2 = 3 then 4 else q.2.2) ++ [32] ++ q.1 ++ [32] ++ within (show_ n b) (much b) (q.2.2 + 1) := by
                simp only [show_, opOf, c1, c2, c3, c4, c5, if_false, hq]; rfl
              rw [es]
              refine ⟨us ++ ⟨4, q.1⟩ :: vs, ul.two vl hqm, fun h6 => ?_, fun m u r hm1 hm hs hr => ?_⟩
              · rw [hmu] at h6; omega
              · rw [hmu] at hm hs
                have hlim : lim0 (.mk o 0 0 [] [] [a, b]) = if q.2.2 = 3 then 2 else q.2.2 := by unfold lim0; rw [hmu, if_neg (by omega)]
                rw [hlim] at hr
                rw [List.append_assoc]
                refine ura m _ _ hm1 (by split <;> omega) (fun p hp => ?_) ?_
                · rw [hlv] at hp; obtain rfl := Option.some.inj hp; split <;> omega
                · rw [List.cons_append, Loop_cons, hlv]
                  simp only
                  rw [if_neg (by
                    have : q.2.2 ≤ la := by
                      by_cases h3 : q.2.2 = 3
                      · rw [if_pos h3] at hla
                        rcases hla (by decide) with h | h
                        · omega
                        · exact absurd h (by decide)
                      · rw [if_neg h3] at hla
                        rcases hla h3 with h | h
                        · omega
                        · omega
                    omega)]
                  have := urb (q.2.2 + 1) u (some (b, u)) (by omega) (Int.le_refl _) (hs.up (by omega)) (loop_stop hs)
                  rw [this, Option.bind_some]
                  simp only
                  rw [hqo]; exact hr
/-- Parse of Show -/
theorem parse_show {e : Ex} (hm : may 16 e = true) (hth : thin e = true) (hl : (show_ 16 e).length ≤ 100) : parse (show_ 16 e) = (e, 0) := by
  obtain ⟨ts, h1, h2⟩ := back 16 e hm hth
  have hd := may_deep 16 e hm
  have hlex : lex (show_ 16 e) = (ts, 0) := lex_of hl (Nat.lt_succ_self _) (by rw [h1.trim]; exact h1.2)
  have hw : whole ts = some e := by
    have := h2.2 1 [] (some (e, [])) (Int.le_refl _) (much_pos e) trivial (Loop_nil _ _ _)
    rw [List.append_nil] at this
    unfold Two at this
    unfold whole
    rw [this]
  exact parse_of hlex hw (by omega)
/-! ### what is parsed may be -/
theorem may_less : ∀ (n : Nat) (e : Ex) (m : Nat), may n e = true → deep e ≤ m → may m e = true
  | 0, e, m, h, _ => by simp [may] at h
  | n + 1, .mk o k nn t nm l, 0, h, hd => by simp [deep] at hd
  | n + 1, .mk o k nn t nm l, m + 1, h, hd => by
    simp only [may, Bool.and_eq_true, List.all_eq_true] at h ⊢
    refine ⟨h.1, fun x hx => may_less n x m (h.2 x hx) ?_⟩
    have := deep_mem hx
    simp only [Ex.args] at this
    simp only [deep] at hd
    omega
def Fit (e : Ex) : Prop := ∃ n, may n e = true
def Good (ts : List Tok) : Prop := ∀ t ∈ ts, Lx.may t.k t.t = true
theorem Good.tail {t : Tok} {ts : List Tok} (h : Good (t :: ts)) : Good ts := fun u hu => h u (List.mem_cons_of_mem _ hu)
theorem Good.less {ts r : List Tok} (h : Good ts) (k : Less ts r) : Good r := by
  obtain ⟨_, k, rfl⟩ := k
  exact fun t ht => h t (List.mem_of_mem_drop ht)
theorem fit_op1 {o : Int} (ho : o = 3 ∨ o = 4 ∨ o = 16) {e : Ex} (h : Fit e) : Fit (op1 o e) := by
  obtain ⟨n, h⟩ := h
  refine ⟨n + 1, ?_⟩
  have : head (op1 o e) = true := by rcases ho with rfl | rfl | rfl <;> rfl
  show (head (op1 o e) && [e].all (may n)) = true
  rw [this]; simp [h]
theorem fit_op2 {b : Bs × Int × Int} (hb : b ∈ binds) {x y : Ex} (h : Fit x) (k : Fit y) : Fit (op2 b.2.1 x y) := by
  obtain ⟨n, h⟩ := h
  obtain ⟨m, k⟩ := k
  refine ⟨max (deep x) (deep y) + 1, ?_⟩
  have : head (op2 b.2.1 x y) = true := by
    simp only [binds, List.mem_cons, List.not_mem_nil, or_false] at hb
    rcases hb with rfl | rfl | rfl | rfl | rfl | rfl | rfl | rfl | rfl | rfl | rfl <;> rfl
  have h1 := may_less n x (max (deep x) (deep y)) h (by omega)
  have h2 := may_less m y (max (deep x) (deep y)) k (by omega)
  show (head (op2 b.2.1 x y) && [x, y].all (may _)) = true
  rw [this]; simp [h1, h2]
theorem fit_leaf {k n : Int} {t : Bs} (h : Va.may ⟨k, n, ⟨t.toArray⟩⟩ = true) (h0 : (k == 0) = false) (hn : (k == 1 && decide (n < 0)) = false) : Fit (leaf k n t) := by
  refine ⟨1, ?_⟩
  have : word [] = false := by decide
  simp only [may, leaf, head, Ex.args, h, h0, hn, this]
  rfl
theorem fit_name {t : Bs} (h : Lx.may 2 t = true) (h1 : ¬ t = [121, 101, 115]) (h2 : ¬ t = [110, 111]) (h3 : ¬ t = [108, 101, 110]) : Fit (name t) := by
  refine ⟨1, ?_⟩
  have e1 : (t == [121, 101, 115]) = false := by simpa using h1
  have e2 : (t == [110, 111]) = false := by simpa using h2
  have e3 : (t == [108, 101, 110]) = false := by simpa using h3
  have hw : word t = true := by simp only [word, e1, e2, e3, h]; rfl
  simp only [may, name, head, Ex.args, hw]
  rfl
theorem fit_all : ∀ n : Nat, (∀ ts e r, Good ts → one n ts = some (e, r) → Fit e) ∧ (∀ m ts e r, Good ts → two n m ts = some (e, r) → Fit e) ∧ (∀ m l x ts e r, Good ts → Fit x → loop n m l x ts = some (e, r) → Fit e)
  | 0 => ⟨fun _ _ _ _ h => by simp [one] at h, fun _ _ _ _ _ h => by simp [two] at h, fun _ _ _ _ _ _ _ _ h => by simp [loop] at h⟩
  | n + 1 => by
    obtain ⟨h1, h2, h3⟩ := fit_all n
    refine ⟨fun ts e r hs h => ?_, fun m ts e r hs h => ?_, fun m l x ts e r hs hx h => ?_⟩
    · cases ts with
      | nil => simp [one] at h
      | cons t s =>
        have ht := hs t (List.mem_cons_self ..)
        simp only [one] at h
        split at h
        · split at h
          · obtain ⟨p, hp, he⟩ := map_some h
            obtain ⟨rfl, rfl⟩ := Prod.mk.inj he
            exact fit_op1 (.inl rfl) (h1 _ _ _ hs.tail hp)
          · split at h
            · obtain ⟨p, hp, he⟩ := map_some h
              obtain ⟨rfl, rfl⟩ := Prod.mk.inj he
              exact fit_op1 (.inr (.inl rfl)) (h1 _ _ _ hs.tail hp)
            · split at h
              · obtain ⟨p, hp, he⟩ := bind_some h
                obtain ⟨q, hq, he⟩ := map_some he
                obtain ⟨rfl, rfl⟩ := Prod.mk.inj he
                exact h2 _ _ _ _ hs.tail hp
              · cases h
        · rename_i k4
          split at h
          · rename_i k1
            obtain ⟨rfl, rfl⟩ := Prod.mk.inj (Option.some.inj h)
            have hn : numOk t.t = true := by rw [k1] at ht; exact ht
            refine fit_leaf (by simp [Va.may]) (by decide) ?_
            have := num_nonneg hn
            simp; omega
          · rename_i k1
            split at h
            · rename_i k3
              obtain ⟨rfl, rfl⟩ := Prod.mk.inj (Option.some.inj h)
              have hq : quoteOk t.t = true := by rw [k3] at ht; exact ht
              refine fit_leaf ?_ (by decide) (by decide)
              unfold quoteOk at hq
              simp only [Bool.and_eq_true, beq_iff_eq, decide_eq_true_eq] at hq
              have hall := run_iff.1 hq.1
              have hsz : (⟨t.t.toArray⟩ : ByteArray).size = t.t.length := by simp [ByteArray.size]
              have hp : Va.plain ⟨t.t.toArray⟩ = true := by
                unfold Va.plain
                rw [hsz]
                simp only [Bool.and_eq_true, decide_eq_true_eq, List.all_eq_true]
                refine ⟨fun c hc => ?_, by omega⟩
                have := hall c hc
                unfold Lx.quoted at this
                unfold Va.okc
                simp only [Bool.not_eq_true', Bool.or_eq_false_iff, decide_eq_false_iff_not, Bool.and_eq_true, decide_eq_true_eq, beq_eq_false_iff_ne] at this ⊢
                omega
              simp [Va.may, hp]
            · rename_i k3
              have hk : t.k = 2 := by
                unfold Lx.may at ht
                rw [if_neg k1] at ht
                by_cases k2 : t.k = 2
                · exact k2
                · rw [if_neg k2, if_neg k3, if_neg k4] at ht; cases ht
              rw [hk] at ht
              split at h
              · obtain ⟨rfl, rfl⟩ := Prod.mk.inj (Option.some.inj h); exact fit_leaf (by decide) (by decide) (by decide)
              · rename_i c1
                split at h
                · obtain ⟨rfl, rfl⟩ := Prod.mk.inj (Option.some.inj h); exact fit_leaf (by decide) (by decide) (by decide)
                · rename_i c2
                  split at h
                  · obtain ⟨r1, hr, he⟩ := bind_some h
                    obtain ⟨p, hp, he⟩ := bind_some he
                    obtain ⟨q, hq, he⟩ := map_some he
                    obtain ⟨rfl, rfl⟩ := Prod.mk.inj he
                    exact fit_op1 (.inr (.inr rfl)) (h2 _ _ _ _ (hs.tail.less (sign_len hr)) hp)
                  · rename_i c3
                    obtain ⟨rfl, rfl⟩ := Prod.mk.inj (Option.some.inj h); exact fit_name ht c1 c2 c3
    · simp only [two] at h
      obtain ⟨p, hp, he⟩ := bind_some h
      exact h3 _ _ _ _ _ _ (hs.less (one_less hp)) (h1 _ _ _ hs hp) he
    · cases ts with
      | nil => simp only [loop] at h; obtain ⟨rfl, rfl⟩ := Prod.mk.inj (Option.some.inj h); exact hx
      | cons t s =>
        simp only [loop] at h
        split at h
        · split at h
          · obtain ⟨rfl, rfl⟩ := Prod.mk.inj (Option.some.inj h); exact hx
          · rename_i b hb
            split at h
            · obtain ⟨rfl, rfl⟩ := Prod.mk.inj (Option.some.inj h); exact hx
            · obtain ⟨p, hp, he⟩ := bind_some h
              exact h3 _ _ _ _ _ _ (hs.tail.less (two_less hp)) (fit_op2 (by_mem hb) hx (h2 _ _ _ _ hs.tail hp)) he
        · obtain ⟨rfl, rfl⟩ := Prod.mk.inj (Option.some.inj h); exact hx
theorem good_lex {s : Bs} {a : List Tok} (h : lex s = (a, 0)) : Good a := by
  rcases lex_ok h with ⟨h, _⟩ | ⟨_, _, _, _, h⟩
  · exact absurd rfl h
  · exact fun t ht => List.all_eq_true.1 h t ht
theorem parse_may {s : Bs} (h : (parse s).2 = 0) : may 16 (parse s).1 = true := by
  obtain ⟨a, e, h1, h2, h3, h4⟩ := parse_ok h
  rw [h4]
  obtain ⟨n, hn⟩ := (fit_all _).2.1 _ _ _ _ (good_lex h1) (whole_some h2)
  exact may_less n e 16 hn (by omega)
theorem parse_err {s : Bs} (h : (parse s).2 ≠ 0) : (parse s).1 = none_ ∧ ((parse s).2 = 4 ∨ (parse s).2 = 40) := by
  unfold parse at h ⊢
  split
  · rename_i h0
    rw [if_pos h0] at h
    cases hw : whole (lex s).1 with
    | none => simp
    | some e =>
      rw [hw] at h
      simp only at h ⊢
      split
      · simp
      · rename_i hd; rw [if_neg hd] at h; simp at h
  · refine ⟨rfl, ?_⟩
    show (lex s).2 = 4 ∨ (lex s).2 = 40
    rename_i h0
    revert h0
    unfold Lx.lex
    split
    · exact fun _ => .inr rfl
    · split
      · exact fun h0 => absurd rfl h0
      · exact fun _ => .inl rfl
end Px
