/- The walk that the kernel computes: symbolic values and worlds, and that they are sound. -/
import Derived.Test.YtckgdgkkmhochaaGreatDoorSfA
import Derived.Laws.Slices
set_option linter.unusedSimpArgs false
set_option linter.unusedVariables false
section
namespace Go.SF
open Go Go.RowKit

variable {P : Program}

/-! ### what is known of truths -/
abbrev Kn := List (E × Bool)
def Kn.holds (ρ : Env) (kn : Kn) : Prop := ∀ p ∈ kn, p.1.b ρ = p.2
def look : Kn → E → Option Bool
  | [], _ => none
  | (f, b) :: kn, e =>
    if E.same f e then some b else
    match f, b, e with
    | .bin .ieq x (.il m), true, .bin .ieq y (.il n) => if E.same x y then some (intSame m n) else look kn e
    | _, _, _ => look kn e
theorem look_ok {ρ : Env} : ∀ {kn : Kn} {e : E} {b : Bool}, Kn.holds ρ kn → look kn e = some b → e.b ρ = b
  | [], _, _, _, h => by cases h
  | (f, c) :: kn, e, b, hk, h => by
    have h1 := hk (f, c) (List.mem_cons_self ..)
    have h2 : Kn.holds ρ kn := fun p hp => hk p (List.mem_cons_of_mem _ hp)
    simp only [look] at h
    split at h
    · rename_i hfe
      have hfe := E.same_eq hfe
      subst hfe; simpa using h1.trans (by simpa using h)
    · split at h
      · split at h
        · rename_i hxy
          have hxy := E.same_eq hxy
          subst hxy
          obtain rfl := Option.some.inj h
          simp only [E.b, E.i, beq_iff_eq] at h1
          rw [Bool.eq_iff_iff]
          simp only [E.b, E.i, h1, beq_iff_eq]
          exact ⟨intSame_mk, intSame_eq⟩
        · exact look_ok h2 h
      · exact look_ok h2 h
def dec (kn : Kn) : E → Option Bool
  | .bl b => some b
  | .un .not e => (dec kn e).map (!·)
  | .bin .band a b =>
    match dec kn a, dec kn b with
    | some false, _ => some false
    | _, some false => some false
    | some true, some true => some true
    | _, _ => look kn (.bin .band a b)
  | .bin .bor a b =>
    match dec kn a, dec kn b with
    | some true, _ => some true
    | _, some true => some true
    | some false, some false => some false
    | _, _ => look kn (.bin .bor a b)
  | .bin .beq a b =>
    match dec kn a, dec kn b with
    | some x, some y => some (x == y)
    | _, _ => look kn (.bin .beq a b)
  | e => look kn e
theorem dec_ok {ρ : Env} {kn : Kn} (hk : Kn.holds ρ kn) (e : E) : ∀ {b : Bool}, dec kn e = some b → e.b ρ = b := by
  induction e with
  | bl c => intro b h; simpa [dec, E.b] using h
  | un o a ih =>
    intro b h
    cases o <;> simp only [dec] at h <;> try exact look_ok hk h
    case not =>
      obtain ⟨c, hc, rfl⟩ := Option.map_eq_some_iff.1 h
      simp [E.b, ih hc]
  | bin o a c iha ihc =>
    intro b h
    cases o <;> simp only [dec] at h <;> try exact look_ok hk h
    case band =>
      split at h
      · rename_i h1; simp only [E.b, iha h1]; simpa using h
      · rename_i h2 _; simp only [E.b, ihc h2, Bool.and_false]; simpa using h
      · rename_i h1 h2; simp only [E.b, iha h1, ihc h2]; simpa using h
      · exact look_ok hk h
    case bor =>
      split at h
      · rename_i h1; simp only [E.b, iha h1]; simpa using h
      · rename_i h2 _; simp only [E.b, ihc h2, Bool.or_true]; simpa using h
      · rename_i h1 h2; simp only [E.b, iha h1, ihc h2]; simpa using h
      · exact look_ok hk h
    case beq =>
      split at h
      · rename_i x y h1 h2; obtain rfl := Option.some.inj h; simp [E.b, iha h1, ihc h2]
      · exact look_ok hk h
  | iv | nv | bv | tv | il | tl | sm | vn | vk | cut => intro b h; exact look_ok hk h
def learn : E → Bool → Kn → Kn
  | .un .not e, b, kn => learn e (!b) kn
  | .bin .band a c, true, kn => learn a true (learn c true kn)
  | .bin .bor a c, false, kn => learn a false (learn c false kn)
  | .bin .band a c, false, kn => match dec kn a, dec kn c with
    | some true, _ => learn c false kn
    | _, some true => learn a false kn
    | _, _ => (.bin .band a c, false) :: kn
  | .bin .bor a c, true, kn => match dec kn a, dec kn c with
    | some false, _ => learn c true kn
    | _, some false => learn a true kn
    | _, _ => (.bin .bor a c, true) :: kn
  | .bl _, _, kn => kn
  | e, b, kn => (e, b) :: kn
theorem cons_ok {ρ : Env} {e : E} {b : Bool} {kn : Kn} (hk : Kn.holds ρ kn) (h : e.b ρ = b) : Kn.holds ρ ((e, b) :: kn) := by
  intro p hp
  rcases List.mem_cons.1 hp with h1 | h1
  · subst h1; exact h
  · exact hk p h1
theorem learn_ok {ρ : Env} (e : E) : ∀ {b : Bool} {kn : Kn}, Kn.holds ρ kn → e.b ρ = b → Kn.holds ρ (learn e b kn) := by
  induction e with
  | bl c => intro b kn hk _; exact hk
  | un o a ih =>
    intro b kn hk h
    cases o <;> try exact cons_ok hk h
    case not => exact ih hk (by simp only [E.b] at h; rw [← h, Bool.not_not])
  | bin o a c iha ihc =>
    intro b kn hk h
    cases o <;> try exact cons_ok hk h
    case band =>
      cases b
      · simp only [learn]
        split
        · rename_i h1; exact ihc hk (by simpa [E.b, dec_ok hk a h1] using h)
        · rename_i h1 _; exact iha hk (by simpa [E.b, dec_ok hk c h1] using h)
        · exact cons_ok hk h
      · simp only [E.b, Bool.and_eq_true] at h
        exact iha (ihc hk h.2) h.1
    case bor =>
      cases b
      · simp only [E.b, Bool.or_eq_false_iff] at h
        exact iha (ihc hk h.2) h.1
      · simp only [learn]
        split
        · rename_i h1; exact ihc hk (by simpa [E.b, dec_ok hk a h1] using h)
        · rename_i h1 _; exact iha hk (by simpa [E.b, dec_ok hk c h1] using h)
        · exact cons_ok hk h
  | iv | nv | bv | tv | il | tl | sm | vn | vk | cut => intro b kn hk h; exact cons_ok hk h

/-- what follows from one fact, by what is known: at a 'not both', at a 'one of two' -/
def step1 (acc : Kn) : E × Bool → Kn
  | (.bin .band a c, false) => match dec acc a, dec acc c with
    | some true, none => learn c false acc
    | none, some true => learn a false acc
    | _, _ => acc
  | (.bin .bor a c, true) => match dec acc a, dec acc c with
    | some false, none => learn c true acc
    | none, some false => learn a true acc
    | _, _ => acc
  | _ => acc
theorem step1_ok {ρ : Env} {acc : Kn} (h : Kn.holds ρ acc) {p : E × Bool} (hp : p.1.b ρ = p.2) : Kn.holds ρ (step1 acc p) := by
  unfold step1
  split
  · rename_i a c
    split
    · rename_i ha _; exact learn_ok c h (by simpa [E.b, dec_ok h a ha] using hp)
    · rename_i _ hc; exact learn_ok a h (by simpa [E.b, dec_ok h c hc] using hp)
    · exact h
  · rename_i a c
    split
    · rename_i ha _; exact learn_ok c h (by simpa [E.b, dec_ok h a ha] using hp)
    · rename_i _ hc; exact learn_ok a h (by simpa [E.b, dec_ok h c hc] using hp)
    · exact h
  · exact h
def relearn : Kn → Kn → Kn
  | [], acc => acc
  | p :: l, acc => relearn l (step1 acc p)
theorem relearn_ok {ρ : Env} : ∀ {l acc : Kn}, Kn.holds ρ l → Kn.holds ρ acc → Kn.holds ρ (relearn l acc)
  | [], _, _, h => h
  | p :: l, acc, hl, h => relearn_ok (l := l) (acc := step1 acc p) (fun q hq => hl q (List.mem_cons_of_mem _ hq)) (step1_ok h (hl p (List.mem_cons_self ..)))
def know (e : E) (b : Bool) (kn : Kn) : Kn := let k := learn e b kn; relearn k k
theorem know_ok {ρ : Env} (e : E) {b : Bool} {kn : Kn} (hk : Kn.holds ρ kn) (h : e.b ρ = b) : Kn.holds ρ (know e b kn) := relearn_ok (learn_ok e hk h) (learn_ok e hk h)

/-! ### smart operators -/
def bandE : E → E → E
  | .bl true, b => b
  | .bl false, _ => .bl false
  | a, .bl true => a
  | _, .bl false => .bl false
  | a, b => .bin .band a b
theorem bandE_b {ρ : Env} (a b : E) : (bandE a b).b ρ = (a.b ρ && b.b ρ) := by
  unfold bandE; split <;> simp [E.b]
def borE : E → E → E
  | .bl false, b => b
  | .bl true, _ => .bl true
  | a, .bl false => a
  | _, .bl true => .bl true
  | a, b => .bin .bor a b
theorem borE_b {ρ : Env} (a b : E) : (borE a b).b ρ = (a.b ρ || b.b ρ) := by
  unfold borE; split <;> simp [E.b]
def litE (e : E) (w : Bool) : E := if w then e else notE e
theorem litE_b {ρ : Env} (e : E) (w : Bool) : (litE e w).b ρ = (e.b ρ == w) := by
  cases w <;> simp [litE, notE_b]
def iteE (c a b : E) : E := match a, b with
  | .bl true, b => borE c b
  | a, .bl false => bandE c a
  | .bl false, b => bandE (notE c) b
  | a, .bl true => borE (notE c) a
  | a, b => borE (bandE c a) (bandE (notE c) b)
theorem iteE_b {ρ : Env} (c a b : E) : (iteE c a b).b ρ = if c.b ρ then a.b ρ else b.b ρ := by
  unfold iteE
  split <;> simp only [bandE_b, borE_b, notE_b] <;> cases c.b ρ <;> simp [E.b]
/-- what a value is, by what is known -/
def simS (kn : Kn) : Sy → Sy
  | .when g w s => match dec kn g with
    | some b => if b = w then s else .val undef
    | none => .when g w s
  | s => s
theorem simS_den {ρ : Env} {kn : Kn} (hk : Kn.holds ρ kn) (s : Sy) : (simS kn s).den ρ = s.den ρ := by
  unfold simS
  split
  · rename_i g w s
    split
    · rename_i b hb
      have := dec_ok hk g hb
      split
      · rename_i e; simp [Sy.den, this, e]
      · rename_i e; simp [Sy.den, this, e]
    · rfl
  · rfl

/-! ### operands -/
abbrev Tm := List (Nat × Option Sy)
/-- what a temporary is known to hold: the newest word counts -/
def getT : Tm → Nat → Option Sy
  | [], _ => none
  | (k, v) :: l, t => if Nat.beq k t then v else getT l t
theorem getT_mem : ∀ {tm : Tm} {t : Nat} {x : Sy}, getT tm t = some x → ∃ p ∈ tm, p.1 = t ∧ p.2 = some x
  | [], _, _, h => by cases h
  | (k, v) :: l, t, x, h => by
    simp only [getT] at h
    split at h
    · rename_i hk; exact ⟨(k, v), List.mem_cons_self .., Nat.eq_of_beq_eq_true hk, h⟩
    · obtain ⟨p, hp, h1, h2⟩ := getT_mem h; exact ⟨p, List.mem_cons_of_mem _ hp, h1, h2⟩
theorem getT_same (k : Nat) (v : Option Sy) (l : Tm) : getT ((k, v) :: l) k = v := by simp [getT]
theorem getT_other {k t : Nat} (v : Option Sy) (l : Tm) (h : k ≠ t) : getT ((k, v) :: l) t = getT l t := by
  simp only [getT]
  rw [if_neg (fun e => h (Nat.eq_of_beq_eq_true e))]
def evS (tm : Tm) : Operand → Option Sy
  | .tmp t => getT tm t
  | .const v => some (ofVal v)
  | .global g => some (.val (.pointer (some ⟨g, 0, none⟩)))
  | .func f => some (.fn f [])
def evsS (tm : Tm) : List Operand → Option (List Sy)
  | [] => some []
  | x :: l => match evS tm x, evsS tm l with
    | some s, some r => some (s :: r)
    | _, _ => none
def simT (kn : Kn) (tm : Tm) : Tm := tm.map fun p => (p.1, p.2.map (simS kn))
theorem getT_simT (kn : Kn) : ∀ (tm : Tm) (t : Nat), getT (simT kn tm) t = (getT tm t).map (simS kn)
  | [], _ => rfl
  | (k, v) :: l, t => by
    simp only [simT, List.map_cons, getT]
    split
    · rfl
    · exact getT_simT kn l t
theorem evS_simT (kn : Kn) (tm : Tm) : ∀ (x : Operand) (s : Sy), evS (simT kn tm) x = some s → ∃ s0, evS tm x = some s0 ∧ (s = s0 ∨ s = simS kn s0)
  | .tmp t, s, h => by
    simp only [evS, getT_simT] at h ⊢
    obtain ⟨y, hy, e⟩ := Option.map_eq_some_iff.1 h
    exact ⟨y, hy, .inr e.symm⟩
  | .const v, s, h => ⟨s, h, .inl rfl⟩
  | .global g, s, h => ⟨s, h, .inl rfl⟩
  | .func f, s, h => ⟨s, h, .inl rfl⟩
/-- the frame is as it is known -/
def Tm.at (ρ : Env) (tm : Tm) (ev : Operand → Value) : Prop := ∀ x s, evS tm x = some s → ev x = s.den ρ
theorem simT_at {ρ : Env} {kn : Kn} {tm : Tm} {ev : Operand → Value} (ht : Tm.at ρ tm ev) (hk : Kn.holds ρ kn) : Tm.at ρ (simT kn tm) ev := by
  intro x s h
  obtain ⟨s0, h0, h1⟩ := evS_simT kn tm x s h
  rcases h1 with h1 | h1
  · subst h1; exact ht x _ h0
  · subst h1; rw [simS_den hk]; exact ht x s0 h0
theorem evsS_den {ρ : Env} {tm : Tm} {ev : Operand → Value} (ht : Tm.at ρ tm ev) : ∀ (l : List Operand) (r : List Sy), evsS tm l = some r → l.map ev = Sy.dens ρ r
  | [], r, h => by obtain rfl := Option.some.inj h; rfl
  | x :: l, r, h => by
    simp only [evsS] at h
    split at h
    · rename_i s r' hs hr
      obtain rfl := Option.some.inj h
      simp [Sy.dens, ht x s hs, evsS_den ht l r' hr]
    · cases h

/-- a struct's cells, filled -/
def fillS (pl : Nat → Option (Nat × Nat)) (cells : List Sy) : List (Nat × Sy) → Option (List Sy)
  | [] => some cells
  | (i, s) :: rest =>
    match pl i, s.cells with
    | some (off, n), some vs => if vs.length = n ∧ off + n ≤ cells.length then fillS pl (over cells off vs) rest else none
    | _, _ => none

def asI : Sy → Option (IntKind × E)
  | .int k e => some (k, e)
  | _ => none
/-- an optional bound -/
def optI (tm : Tm) : Option Operand → Option (Option (IntKind × E))
  | none => some none
  | some x => match evS tm x with
    | some (.int k e) => some (some (k, e))
    | _ => none
def litO : Option (Option (IntKind × E)) → Nat → Option Nat
  | some none, d => some d
  | some (some (_, .il (.ofNat n))), _ => some n
  | _, _ => none
def cutChk (lo hi n : E) : List E :=
  (match isLit lo with | some l => if 0 ≤ l then [] else [.bl false] | none => [.bin .le (.il 0) lo]) ++ [.bin .le lo hi] ++ (if hi = n then [] else [.bin .le hi n])

def evParts (tm : Tm) : List (Nat × Operand) → Option (List (Nat × Sy))
  | [] => some []
  | (i, x) :: l => match evS tm x, evParts tm l with
    | some s, some r => some ((i, s) :: r)
    | _, _ => none

/-- bytes as a text -/
def byteOf : Sy → Option E
  | .int .u8 e => some e
  | _ => none
theorem byteOf_eq {s : Sy} {e : E} (h : byteOf s = some e) : s = .int .u8 e := by
  unfold byteOf at h
  split at h
  · obtain rfl := Option.some.inj h; rfl
  · cases h
def catE : List Sy → Option E
  | [] => some (.tl [])
  | s :: l => match byteOf s, l with
    | some e, [] => some (.un .chr e)
    | some e, _ => (catE l).map fun r => .bin .cat (.un .chr e) r
    | none, _ => none
/-- an interface's value against nil -/
def nilS (P : Program) (tm : Tm) (op : BinOp) (t : TypeId) (x y : Operand) : Option (List E × Sy) :=
  match op, P.underlying t, evS tm x, y with
  | .eql, some (.interface _), some (.var n), .const .nilIface => some ([.vk n], .bool (.vn n))
  | .neq, some (.interface _), some (.var n), .const .nilIface => some ([.vk n], .bool (.un .not (.vn n)))
  | .eql, some (.slice _), some (.slc a _ _), .const (.slice none 0 0) => some ([], .bool (.un .not (.sm a)))
  | .neq, some (.slice _), some (.slc a _ _), .const (.slice none 0 0) => some ([], .bool (.sm a))
  | _, _, _, _ => none
theorem run_equalIn_slnil {t el : TypeId} (hu : P.underlying t = some (.slice el)) (d : Nat) (a : Option Addr) (n c : Nat) (w : World) :
    (Op.equalIn (d + 1) t (.slice a n c) (.slice none 0 0)).run P w = .ok (!a.isSome) w := by
  cases a <;> simp [Op.equalIn, run_underlying hu]
theorem run_equalIn_nil {t : TypeId} {ms : Array (String × TypeId)} (hu : P.underlying t = some (.interface ms)) (d : Nat) (v : Value) (hk : isIfcV v = true) (w : World) :
    (Op.equalIn (d + 1) t v .nilIface).run P w = .ok (isNilV v) w := by
  cases v <;> simp only [isIfcV] at hk <;> try (cases hk; done)
  · simp [Op.equalIn, run_underlying hu, isNilV]
  · simp [Op.equalIn, run_underlying hu, isNilV]
theorem run_nilS {ρ : Env} {tm : Tm} {ev : Operand → Value} (ht : Tm.at ρ tm ev) {op : BinOp} {t : TypeId} {x y : Operand} {cs : List E} {s : Sy} (h : nilS P tm op t x y = some (cs, s)) (hc : allB ρ cs) (w : World) :
    (do eqGuard op t x y (ev x) (ev y); binOp op t (ev x) (ev y) : Sem Value).run P w = .ok (s.den ρ) w := by
  have e2 : ev (.const .nilIface) = .nilIface := by have := ht (.const .nilIface) (ofVal .nilIface) rfl; rw [ofVal_den] at this; exact this
  unfold nilS at h
  split at h
  · rename_i ms n hu hx
    obtain ⟨rfl, rfl⟩ := Prod.mk.inj (Option.some.inj h)
    have e1 := ht _ _ hx
    have hk := hc.1
    simp only [E.b, Sy.den] at hk e1 ⊢
    rw [e1, e2]
    generalize gd ρ.V n .nilIface = v at *
    have h1 := run_equalIn_nil (P := P) hu 9999 v hk w
    have h2 : (eqGuard .eql t x (.const .nilIface) v .nilIface).run P w = .ok () w := by cases v <;> simp [eqGuard]
    have h3 : (binOp .eql t v .nilIface) = (do return .bool (← Op.equal t v .nilIface)) := by cases v <;> first | rfl | (simp only [isIfcV] at hk; cases hk)
    simp only [Sem.run_bind, h2, h3, Result.andThen_ok, Op.equal, Op.maxDepth, h1, Sem.run_pure]
  · rename_i ms n hu hx
    obtain ⟨rfl, rfl⟩ := Prod.mk.inj (Option.some.inj h)
    have e1 := ht _ _ hx
    have hk := hc.1
    simp only [E.b, Sy.den] at hk e1 ⊢
    rw [e1, e2]
    generalize gd ρ.V n .nilIface = v at *
    have h1 := run_equalIn_nil (P := P) hu 9999 v hk w
    have h2 : (eqGuard .neq t x (.const .nilIface) v .nilIface).run P w = .ok () w := by cases v <;> simp [eqGuard]
    have h3 : (binOp .neq t v .nilIface) = (do return .bool (!(← Op.equal t v .nilIface))) := by cases v <;> first | rfl | (simp only [isIfcV] at hk; cases hk)
    simp only [Sem.run_bind, h2, h3, Result.andThen_ok, Op.equal, Op.maxDepth, h1, Sem.run_pure]
  · rename_i el a n c hu hx
    obtain ⟨rfl, rfl⟩ := Prod.mk.inj (Option.some.inj h)
    have e1 := ht _ _ hx
    have e3 : ev (.const (.slice none 0 0)) = .slice none 0 0 := by have := ht (.const (.slice none 0 0)) (ofVal (.slice none 0 0)) rfl; rw [ofVal_den] at this; exact this
    simp only [E.b, Sy.den] at e1 ⊢
    rw [e1, e3]
    have h1 := run_equalIn_slnil (P := P) hu 9999 (gd ρ.A a none) (n.i ρ).toNat (c.i ρ).toNat w
    have h2 : (eqGuard .eql t x (.const (.slice none 0 0)) (.slice (gd ρ.A a none) (n.i ρ).toNat (c.i ρ).toNat) (.slice none 0 0)).run P w = .ok () w := by simp [eqGuard]
    have h3 : (binOp .eql t (.slice (gd ρ.A a none) (n.i ρ).toNat (c.i ρ).toNat) (.slice none 0 0)) = (do return .bool (← Op.equal t (.slice (gd ρ.A a none) (n.i ρ).toNat (c.i ρ).toNat) (.slice none 0 0))) := rfl
    simp only [Sem.run_bind, h2, h3, Result.andThen_ok, Op.equal, Op.maxDepth, h1, Sem.run_pure]
  · rename_i el a n c hu hx
    obtain ⟨rfl, rfl⟩ := Prod.mk.inj (Option.some.inj h)
    have e1 := ht _ _ hx
    have e3 : ev (.const (.slice none 0 0)) = .slice none 0 0 := by have := ht (.const (.slice none 0 0)) (ofVal (.slice none 0 0)) rfl; rw [ofVal_den] at this; exact this
    simp only [E.b, Sy.den] at e1 ⊢
    rw [e1, e3]
    have h1 := run_equalIn_slnil (P := P) hu 9999 (gd ρ.A a none) (n.i ρ).toNat (c.i ρ).toNat w
    have h2 : (eqGuard .neq t x (.const (.slice none 0 0)) (.slice (gd ρ.A a none) (n.i ρ).toNat (c.i ρ).toNat) (.slice none 0 0)).run P w = .ok () w := by simp [eqGuard]
    have h3 : (binOp .neq t (.slice (gd ρ.A a none) (n.i ρ).toNat (c.i ρ).toNat) (.slice none 0 0)) = (do return .bool (!(← Op.equal t (.slice (gd ρ.A a none) (n.i ρ).toNat (c.i ρ).toNat) (.slice none 0 0)))) := rfl
    simp only [Sem.run_bind, h2, h3, Result.andThen_ok, Op.equal, Op.maxDepth, h1, Sem.run_pure, Bool.not_not]
  · cases h

/-- the value of an operation -/
def xval (P : Program) (ex : Bool) (tm : Tm) (hp : List Blk) (kn : Kn) : Op → Option (List E × Sy)
  | .move x | .assign x => (evS tm x).map ([], ·)
  | .pick c a b => match evS tm c with
    | some (.bool e) => match dec kn e with
      | some true => (evS tm a).map ([], ·)
      | some false => (evS tm b).map ([], ·)
      | none => match (evS tm a).map (simS (know e true kn)), (evS tm b).map (simS (know e false kn)) with
        | some (.bool x), some (.bool y) => some ([], .bool (iteE e x y))
        | _, _ => none
    | _ => none
  | .nilCheck x => match evS tm x with
    | some (.ptr m o) => some ([], .ptr m o)
    | some (.fn f l) => some ([], .fn f l)
    | _ => none
  | .binOp op t x y _ => match nilS P tm op t x y with
    | some r => some r
    | none => match evS tm x, evS tm y with
      | some a, some b => binS P ex op t a b
      | _, _ => none
  | .unOp .not _ x => match evS tm x with
    | some (.bool e) => some ([], .bool (notE e))
    | _ => none
  | .unOp .neg _ x => match evS tm x with
    | some (.int k e) => some (arithS ex k (.il 0) e (.un .neg e) (· - ·))
    | _ => none
  | .convert src dst x => match P.underlying src, P.underlying dst, evS tm x with
    | some _, some (.int k), some (.int k' e) => if k = k' ∧ ex = true then some ([.bin .le (.il k.min) e, .bin .le e (.il k.max)], .int k e) else some ([], .int k (.un (.wrap k) e))
    | some .string, some .string, some (.str e) => some ([], .str e)
    | some (.slice el), some .string, some (.slb m o n _) => match P.underlying el, findB hp m with
      | some (.int .u8), some b => if o + n ≤ b.cs.length then (catE ((b.cs.drop o).take n)).map fun e => ([], .str e) else none
      | _, _ => none
    | _, _, _ => none
  | .fieldAddr t x f => match P.underlying t, evS tm x with
    | some (.struct fs), some s => match fs[f]? with
      | some fd => match sizeT P fd.type with
        | some (_ + 1) => match s with
          | .ptr m o => some ([], .ptr m (o + fd.offset))
          | .elt a i z o => some ([], .elt a i z (o + fd.offset))
          | _ => none
        | _ => none
      | none => none
    | _, _ => none
  | .field t x f => match P.underlying t, evS tm x with
    | some (.struct fs), some (.agg cs) => match fs[f]? with
      | some fd => (partS P fd.type cs fd.offset).map ([], ·)
      | none => none
    | _, _ => none
  | .index t x i => match P.underlying t, evS tm x, evS tm i with
    | some .string, some (.str s), some (.int _ e) => some ([.bin .le (.il 0) e, .bin .lt e (.un .len s)], .int .u8 (.bin .byte s e))
    | some (.array n el), some (.agg cs), some (.int _ (.il j)) => match sizeT P el with
      | some z => if 0 ≤ j ∧ j < n then (partS P el cs (j.toNat * z)).map ([], ·) else none
      | none => none
    | _, _, _ => none
  | .indexAddr t x i => match P.underlying t, evS tm x, evS tm i with
    | some (.slice el), some (.slc a n _), some (.int _ e) => match sizeT P el with
      | some z => if isNat n then some ([.sm a, .bin .le (.il 0) e, .bin .lt e n], .elt a e z 0) else none
      | none => none
    | some (.slice el), some (.slb m o n _), some (.int _ (.il j)) => match sizeT P el with
      | some z => if 0 ≤ j ∧ j < n then some ([], .ptr m (o + j.toNat * z)) else none
      | none => none
    | some (.array n el), some (.ptr m o), some (.int _ (.il j)) => match sizeT P el with
      | some z => if 0 ≤ j ∧ j < n then some ([], .ptr m (o + j.toNat * z)) else none
      | none => none
    | _, _, _ => none
  | .extract x i => match evS tm x with
    | some (.tup l) => (l[i]?).map ([], ·)
    | _ => none
  | .load t x => match evS tm x with
    | some (.ptr m o) => match findB hp m with
      | some b => (ldS P t b.cs o).map ([], ·)
      | none => none
    | _ => none
  | .slice t x lo hi none => match P.underlying t, evS tm x, optI tm lo, optI tm hi with
    | some .string, some (.str s), some l, some h =>
      some ([.bin .le (.il 0) (bdE l (.il 0)), .bin .le (bdE l (.il 0)) (bdE h (.un .len s)), .bin .le (bdE h (.un .len s)) (.un .len s)], .str (.cut s (bdE l (.il 0)) (bdE h (.un .len s))))
    | some (.array n el), some (.ptr m o), some l, some h => match sizeT P el, litO (some l) 0, litO (some h) n with
      | some z, some l, some h => if l ≤ h ∧ h ≤ n then some ([], .slb m (if n = l then o else o + l * z) (h - l) (n - l)) else none
      | _, _, _ => none
    | some (.slice el), some (.slb m o n c), some l, some h => match sizeT P el, litO (some l) 0, litO (some h) n with
      | some z, some l, some h => if l ≤ h ∧ h ≤ c then some ([], .slb m (if c = l then o else o + l * z) (h - l) (c - l)) else none
      | _, _, _ => none
    | _, _, _, _ => none
  | .makeFunc (.func f) first cap => if first.size = 0 then (evsS tm cap.toList).map fun l => ([], .fn f l) else none
  | .makeInterface t x => match P.underlying t, evS tm x with
    | some (.interface _), _ => none
    | some _, some s => some ([], .ifc t s)
    | _, _ => none
  | .build t ps => match P.info? t, P.underlying t, evParts tm ps.toList with
    | some it, some (.struct fs), some l => match it.zero, fs.toList.mapM (fun f => (P.info? f.type).map fun i => (f.offset, i.size)) with
      | some z, some pl => (fillS (fun i => pl[i]?) (z.cells.toList.map ofCell) l).map fun cs => ([], .agg cs)
      | _, _ => none
    | some it, some (.array _ el), some l => match it.zero, P.info? el with
      | some z, some ie => (fillS (fun i => some (i * ie.size, ie.size)) (z.cells.toList.map ofCell) l).map fun cs => ([], .agg cs)
      | _, _ => none
    | _, _, _ => none
  | .call { callee := .builtin .len, args := args, argTypes := ts } => match ts[0]?, args[0]? with
    | some t, some x => match P.underlying t, evS tm x with
      | some .string, some (.str s) => some ([], .int .i64 (.un .len s))
      | some (.slice _), some (.slc _ n _) => if isNat n then some ([], .int .i64 n) else none
      | some (.slice _), some (.slb _ _ n _) => some ([], .int .i64 (.il n))
      | some (.slice _), some .nils => some ([], .int .i64 (.il 0))
      | _, _ => none
    | _, _ => none
  | .call { callee := .builtin .max, args := args, argTypes := _ } => match args.toList with
    | [x, y] => match evS tm x, evS tm y with
      | some (.int k a), some (.int _ b) => some ([], .int k (.bin .max a b))
      | _, _ => none
    | _ => none
  | _ => none

theorem optI_den {ρ : Env} {tm : Tm} {ev : Operand → Value} (ht : Tm.at ρ tm ev) {x : Option Operand} {r : Option (IntKind × E)} (h : optI tm x = some r) :
    x.map ev = r.map fun p => .int p.1 (p.2.i ρ) := by
  unfold optI at h
  split at h
  · obtain rfl := Option.some.inj h; rfl
  · split at h
    · rename_i hx
      obtain rfl := Option.some.inj h
      simp [ht _ _ hx, Sy.den]
    · cases h
theorem litO_ev {ρ : Env} {tm : Tm} {ev : Operand → Value} (ht : Tm.at ρ tm ev) {x : Option Operand} {d l : Nat} (h : litO (optI tm x) d = some l) : (x = none ∧ l = d) ∨ ∃ k, x.map ev = some (.int k (l : Int)) := by
  unfold litO at h
  split at h
  · rename_i hx
    left
    obtain rfl := Option.some.inj h
    unfold optI at hx
    split at hx
    · exact ⟨rfl, rfl⟩
    · split at hx <;> cases hx
  · rename_i k n hx
    obtain rfl := Option.some.inj h
    exact .inr ⟨k, by rw [optI_den ht hx]; simp [E.i]⟩
  · cases h
theorem evParts_den {ρ : Env} {tm : Tm} {ev : Operand → Value} (ht : Tm.at ρ tm ev) : ∀ (l : List (Nat × Operand)) (r : List (Nat × Sy)), evParts tm l = some r →
    (l.map fun p => (p.1, ev p.2)) = r.map fun p => (p.1, p.2.den ρ)
  | [], r, h => by obtain rfl := Option.some.inj h; rfl
  | (i, x) :: l, r, h => by
    simp only [evParts] at h
    split at h
    · rename_i s r' hs hr
      obtain rfl := Option.some.inj h
      simp [ht x s hs, evParts_den ht l r' hr]
    · cases h
theorem foldl_set : ∀ (vs : List Value) (cells : List Value) (off j : Nat), off + j + vs.length ≤ cells.length →
    ((vs.zipIdx j).foldl (fun cs (x : Value × Nat) => cs.setIfInBounds (off + x.2) x.1) cells.toArray) = (cells.take (off + j) ++ vs ++ cells.drop (off + j + vs.length)).toArray
  | [], cells, off, j, _ => by simp
  | v :: vs, cells, off, j, h => by
    have ih := foldl_set vs (cells.set (off + j) v) off (j + 1) (by simp at h ⊢; omega)
    simp only [List.zipIdx_cons, List.foldl_cons, List.setIfInBounds_toArray]
    rw [ih]
    congr 1
    have e := list_seg_step cells (off + j) v vs (by simp at h; omega)
    simpa [Nat.add_assoc] using e
theorem fillS_den {ρ : Env} (hg : ρ.good) (pl : Nat → Option (Nat × Nat)) :
    ∀ (l : List (Nat × Sy)) (cells r : List Sy), fillS pl cells l = some r →
    Instr.fill pl (Sy.dens ρ cells).toArray (l.map fun p => (p.1, p.2.den ρ)) = some (Sy.dens ρ r).toArray
  | [], cells, r, h => by obtain rfl := Option.some.inj h; rfl
  | (i, s) :: l, cells, r, h => by
    simp only [fillS] at h
    split at h
    · rename_i off n vs hf hv
      split at h
      · rename_i hl
        obtain ⟨h1, h2⟩ := Sy.cells_den hg hv
        have ih := fillS_den hg pl l _ r h
        simp only [List.map_cons, Instr.fill, hf, h1]
        have hsz : (Sy.dens ρ vs).toArray.size = n := by simp [Sy.dens_eq, hl.1]
        have hcz : (Sy.dens ρ cells).toArray.size = cells.length := by simp [Sy.dens_eq]
        rw [if_neg (by rw [hsz, hcz]; simp; exact hl.2)]
        rw [← ih, over_den, ← Array.foldl_toList, Array.toList_zipIdx]
        congr 1
        have := foldl_set (Sy.dens ρ vs) (Sy.dens ρ cells) off 0 (by simp [Sy.dens_eq]; omega)
        simpa [Sy.dens_eq] using this
      · cases h
    · cases h

theorem inj2 {α β : Type} {a a' : α} {b b' : β} (h : some (a, b) = some (a', b')) : a = a' ∧ b = b' := Prod.mk.inj (Option.some.inj h)
theorem map_inj {x : Option Sy} {cs : List E} {s : Sy} (h : x.map (fun y => (([] : List E), y)) = some (cs, s)) : cs = [] ∧ x = some s := by
  cases x <;> simp at h
  exact ⟨h.1, by rw [h.2]⟩

theorem catE_bytes {ρ : Env} : ∀ (l : List Sy) (e : E), catE l = some e → ∃ bs : List Int, Sy.dens ρ l = bs.map (fun n => Value.int .u8 n) ∧ (e.t ρ).data.toList = bs.map fun n => UInt8.ofNat n.toNat
  | [], e, h => by
    simp only [catE] at h
    obtain rfl := Option.some.inj h
    exact ⟨[], rfl, by simp [E.t]⟩
  | s :: l, e, h => by
    simp only [catE] at h
    split at h
    · rename_i x hx
      have := byteOf_eq hx
      subst this
      obtain rfl := Option.some.inj h
      exact ⟨[x.i ρ], by simp [Sy.dens, Sy.den], by simp [E.t]⟩
    · rename_i x hx _
      have := byteOf_eq hx
      subst this
      obtain ⟨r, hr, rfl⟩ := Option.map_eq_some_iff.1 h
      obtain ⟨bs, h1, h2⟩ := catE_bytes _ r hr
      refine ⟨x.i ρ :: bs, by rw [Sy.dens, h1]; simp [Sy.den], ?_⟩
      simp only [E.t, ByteArray.data_append, Array.toList_append, h2]
      simp
    · cases h
theorem foldl_pushes : ∀ (bs : List Int) (s0 : ByteArray), (bs.foldl (fun r n => r.push (UInt8.ofNat n.toNat)) s0).data.toList = s0.data.toList ++ bs.map fun n => UInt8.ofNat n.toNat
  | [], s0 => by simp
  | b :: bs, s0 => by
    rw [List.foldl_cons, foldl_pushes bs]
    simp [ByteArray.push]

set_option maxHeartbeats 1000000 in
theorem xval_ok {ρ : Env} {ex : Bool} {tm : Tm} {hp : List Blk} {kn : Kn} {ev : Operand → Value} {w : World} {o : Oper} {cs : List E} {s : Sy} (hx : xval P ex tm hp kn o.op = some (cs, s))
    (hg : ρ.good) (ht : Tm.at ρ tm ev) (hb : ∀ b ∈ hp, b.at ρ w) (hk : Kn.holds ρ kn) (hc : allB ρ cs) : (execOp ev o).run P w = .ok (.value (s.den ρ)) w := by
  obtain ⟨dst, op, ty, pos, after, guard⟩ := o
  dsimp only at hx
  cases op <;> (try simp only [xval] at hx) <;> try (cases hx; done)
  case move x =>
    obtain ⟨rfl, hy⟩ := map_inj hx
    simp [execOp, ht _ _ hy]
  case assign x =>
    obtain ⟨rfl, hy⟩ := map_inj hx
    simp [execOp, ht _ _ hy]
  case pick c a b =>
    split at hx
    · rename_i e he
      split at hx
      · rename_i hd
        obtain ⟨rfl, hy⟩ := map_inj hx
        simp [execOp, ht _ _ he, Sy.den, dec_ok hk e hd, ht _ _ hy, asBool]
      · rename_i hd
        obtain ⟨rfl, hy⟩ := map_inj hx
        simp [execOp, ht _ _ he, Sy.den, dec_ok hk e hd, ht _ _ hy, asBool]
      · split at hx
        · rename_i x y hxa hyb
          obtain ⟨rfl, rfl⟩ := inj2 hx
          obtain ⟨sa, hsa, ha⟩ := Option.map_eq_some_iff.1 hxa
          obtain ⟨sb, hsb, hb'⟩ := Option.map_eq_some_iff.1 hyb
          cases hce : e.b ρ
          · have h1 := simS_den (know_ok e hk hce) sb
            rw [hb'] at h1
            simp [execOp, ht _ _ he, Sy.den, asBool, hce, ht _ _ hsb, ← h1, iteE_b]
          · have h1 := simS_den (know_ok e hk hce) sa
            rw [ha] at h1
            simp [execOp, ht _ _ he, Sy.den, asBool, hce, ht _ _ hsa, ← h1, iteE_b]
        · cases hx
    · cases hx
  case nilCheck x =>
    split at hx
    · rename_i he
      obtain ⟨rfl, rfl⟩ := inj2 hx
      simp [execOp, ht _ _ he, Sy.den]
    · rename_i he
      obtain ⟨rfl, rfl⟩ := inj2 hx
      simp [execOp, ht _ _ he, Sy.den]
    · cases hx
  case binOp op t x y yt =>
    split at hx
    · rename_i r hr
      obtain rfl := Option.some.inj hx
      have := run_nilS ht hr hc w
      simp only [execOp, Sem.run_bind, Sem.run_pure] at this ⊢
      rw [this]; rfl
    split at hx
    · rename_i a b ha hb'
      have := run_binS hx hc x y w
      simp only [execOp, ht _ _ ha, ht _ _ hb', Sem.run_bind, Sem.run_pure] at this ⊢
      rw [this]; rfl
    · cases hx
  case unOp op t x =>
    cases op <;> (try simp only at hx) <;> try (cases hx; done)
    · split at hx
      · rename_i k e he
        have := arithS_den (ρ := ρ) (Option.some.inj hx) (by simp [E.i]) hc
        simp [execOp, ht _ _ he, Sy.den, Op.unary, Op.intArith, this, E.i]
      · cases hx
    · split at hx
      · rename_i e he
        obtain ⟨rfl, rfl⟩ := inj2 hx
        simp [execOp, ht _ _ he, Sy.den, Op.unary, notE_b]
      · cases hx
  case convert src dst x =>
    split at hx
    · rename_i d k k' e hs hd he
      split at hx
      · rename_i hke
        obtain ⟨rfl, rfl⟩ := inj2 hx
        obtain ⟨rfl, _⟩ := hke
        have h1 := of_decide_eq_true hc.1
        have h2 := of_decide_eq_true hc.2.1
        simp only [E.i] at h1 h2
        have := wrap_in k _ h1 h2
        cases d <;> simp [execOp, ht _ _ he, Sy.den, convert, run_underlying hs, run_underlying hd, Conv.intToInt, this]
      · obtain ⟨rfl, rfl⟩ := inj2 hx
        cases d <;> simp [execOp, ht _ _ he, Sy.den, convert, run_underlying hs, run_underlying hd, Conv.intToInt, E.i]
    · rename_i e hs hd he
      obtain ⟨rfl, rfl⟩ := inj2 hx
      simp [execOp, ht _ _ he, Sy.den, convert, run_underlying hs, run_underlying hd]
    · rename_i el m o n c hs hd he
      split at hx
      · rename_i b hu hf
        split at hx
        · rename_i hl
          cases hr : catE ((b.cs.drop o).take n) with
          | none => simp [hr] at hx
          | some e =>
            simp only [hr, Option.map_some] at hx
            obtain ⟨rfl, rfl⟩ := inj2 hx
            obtain ⟨bs, h1, h2⟩ := catE_bytes (ρ := ρ) _ e hr
            obtain ⟨hm, rfl⟩ := findB_mem hf
            have hat := hb b hm
            unfold Blk.at at hat
            have hlen : bs.length = n := by
              have := congrArg List.length h1
              simp [Sy.dens_eq] at this
              omega
            have h3 := run_bytesToString (P := P) w ⟨gd ρ.M b.m 0, o, none⟩ n c bs (by
              have := run_loadCells_list (P := P) w ⟨gd ρ.M b.m 0, o, none⟩ (bs.map (fun n => Value.int .u8 n)) (fun j v hj => by
                rw [add_none]
                have hjn : j < n := by
                  rcases Nat.lt_or_ge j n with h3 | h3
                  · exact h3
                  · rw [List.getElem?_eq_none (by simp; omega)] at hj; cases hj
                rw [← h1, dens_getElem?, List.getElem?_take, if_pos hjn, List.getElem?_drop] at hj
                simp [World.cell?, hat, dens_getElem?, hj])
              rwa [List.length_map, hlen] at this)
            have h4 : e.t ρ = bs.foldl (fun r n => r.push (UInt8.ofNat n.toNat)) ByteArray.empty := by
              apply ByteArray.ext
              apply Array.ext'
              rw [h2, foldl_pushes]; simp
            have h5 : (convert src dst (.slice (some ⟨gd ρ.M b.m 0, o, none⟩) n c)).run P w = .ok (.string (e.t ρ)) w := by
              simp only [convert, Sem.run_bind, run_underlying hs, run_underlying hd, Result.andThen_ok, run_underlying hu, h3, h4]
            simp [execOp, ht _ _ he, Sy.den, h5]
        · cases hx
      · cases hx
    · cases hx
  case fieldAddr t x f =>
    split at hx
    · rename_i fs s' hu he
      split at hx
      · rename_i fd hfd
        split at hx
        · rename_i n hn
          split at hx
          · obtain ⟨rfl, rfl⟩ := inj2 hx
            simp [execOp, ht _ _ he, Sy.den, Instr.fieldAt, run_underlying hu, hfd, Instr.sureAddr, fieldPlace, run_sizeT hn, add_none]
          · obtain ⟨rfl, rfl⟩ := inj2 hx
            simp [execOp, ht _ _ he, Sy.den, Instr.fieldAt, run_underlying hu, hfd, Instr.sureAddr, fieldPlace, run_sizeT hn, add_add, Nat.add_assoc]
          · cases hx
        · cases hx
      · cases hx
    · cases hx
  case field t x f =>
    split at hx
    · rename_i fs cs' hu he
      split at hx
      · rename_i fd hfd
        obtain ⟨rfl, hy⟩ := map_inj hx
        have := run_partS (ρ := ρ) hy w
        simp [execOp, ht _ _ he, Sy.den, Instr.field, run_underlying hu, hfd, this, asAgg]
      · cases hx
    · cases hx
  case index t x i =>
    split at hx
    · rename_i s' k e hu he hi
      obtain ⟨rfl, rfl⟩ := inj2 hx
      have h1 := of_decide_eq_true hc.1
      have h2 := of_decide_eq_true hc.2.1
      simp only [E.i] at h1 h2
      have := run_indexS (P := P) (ρ := ρ) t s' e k hu h1 h2 w
      simp [execOp, ht _ _ he, ht _ _ hi, Sy.den, this]
    · rename_i n el cs' k j hu he hi
      split at hx
      · rename_i z hz
        split at hx
        · rename_i hj
          obtain ⟨rfl, hy⟩ := map_inj hx
          have := run_partS (ρ := ρ) hy w
          simp [execOp, ht _ _ he, ht _ _ hi, Sy.den, E.i, Instr.index, asIntOf, run_underlying hu, hj, run_sizeT hz, this]
        · cases hx
      · cases hx
    · cases hx
  case indexAddr t x i =>
    split at hx
    · rename_i el a n c k e hu he hi
      split at hx
      · rename_i z hz
        split at hx
        · rename_i hn
          obtain ⟨rfl, rfl⟩ := inj2 hx
          obtain ⟨g1, g2, g3, _⟩ := hc
          have h2 := of_decide_eq_true g2
          have h3 := of_decide_eq_true g3
          have h4 := isNat_i (ρ := ρ) hn
          simp only [E.i] at h2
          have h5 : e.i ρ < ((n.i ρ).toNat : Int) := by omega
          simp only [E.b] at g1
          obtain ⟨ad, had⟩ := Option.isSome_iff_exists.1 g1
          simp [execOp, ht _ _ he, ht _ _ hi, Sy.den, Instr.indexAt, asIntOf, run_underlying hu, had, h2, h3, run_sizeT hz]
          intro h6
          omega
        · cases hx
      · cases hx
    · rename_i el m o n c k j hu he hi
      split at hx
      · rename_i z hz
        split at hx
        · rename_i hj
          obtain ⟨rfl, rfl⟩ := inj2 hx
          simp [execOp, ht _ _ he, ht _ _ hi, Sy.den, Instr.indexAt, asIntOf, run_underlying hu, hj, run_sizeT hz, E.i, add_none]
        · cases hx
      · cases hx
    · rename_i n el m o k j hu he hi
      split at hx
      · rename_i z hz
        split at hx
        · rename_i hj
          obtain ⟨rfl, rfl⟩ := inj2 hx
          simp [execOp, ht _ _ he, ht _ _ hi, Sy.den, Instr.indexAt, asIntOf, run_underlying hu, hj, run_sizeT hz, E.i, add_none, Instr.sureAddr]
        · cases hx
      · cases hx
    · cases hx
  case extract x i =>
    split at hx
    · rename_i l he
      obtain ⟨rfl, hy⟩ := map_inj hx
      simp [execOp, ht _ _ he, Sy.den, Instr.extract, dens_getElem?, hy]
    · cases hx
  case load t x =>
    split at hx
    · rename_i m o he
      split at hx
      · rename_i b hf
        obtain ⟨rfl, hy⟩ := map_inj hx
        obtain ⟨hm, rfl⟩ := findB_mem hf
        have := run_ldS (ρ := ρ) hy (hb b hm)
        simp [execOp, ht _ _ he, Sy.den, Instr.loadAt, Instr.sureAddr, this]
      · cases hx
    · cases hx
  case slice t x lo hi mx =>
    cases mx <;> (try simp only at hx) <;> try (cases hx; done)
    split at hx
    · rename_i s' l h hu he hl hh
      obtain ⟨rfl, rfl⟩ := inj2 hx
      obtain ⟨g1, g2, g3, _⟩ := hc
      have h1 := of_decide_eq_true g1
      have h2 := of_decide_eq_true g2
      have h3 := of_decide_eq_true g3
      simp only [E.i] at h1 h3
      have := run_cutS (P := P) (ρ := ρ) t s' l h hu _ _ rfl rfl h1 h2 h3 w
      simp [execOp, ht _ _ he, Sy.den, optI_den ht hl, optI_den ht hh, this, E.t]
    · rename_i n el m o l h hu he hl hh
      split at hx
      · rename_i z l' h' hz hl' hh'
        split at hx
        · rename_i hlh
          obtain ⟨rfl, rfl⟩ := inj2 hx
          rw [← hl] at hl'
          rw [← hh] at hh'
          have hm : P.arrayLen t = n := by simp [Program.arrayLen, hu]
          have he0 : P.elem t = el := by simp [Program.elem, hu]
          have hel : P.underlying t = some (.array (P.arrayLen t) (P.elem t)) := by rw [he0, hm]; exact hu
          have hez : sizeT P (P.elem t) = some z := by rw [he0]; exact hz
          have key : (Instr.sliceAt t (.pointer (some ⟨gd ρ.M m 0, o, none⟩)) (lo.map ev) (hi.map ev) none).run P w = .ok (.slice (some ⟨gd ρ.M m 0, if n = l' then o else o + l' * z, none⟩) (h' - l') (n - l')) w := by
            have e : (⟨gd ρ.M m 0, if n = l' then o else o + l' * z, none⟩ : Addr) = if n = l' then ⟨gd ρ.M m 0, o, none⟩ else (⟨gd ρ.M m 0, o, none⟩ : Addr).add (l' * z) := by
              split
              · rfl
              · rw [add_none]
            rw [e]
            rcases litO_ev ht hl' with ⟨rfl, rfl⟩ | ⟨kl, el⟩ <;> rcases litO_ev ht hh' with ⟨rfl, rfl⟩ | ⟨kh, eh⟩
            · rw [Option.map_none, run_sliceAt_array_all w t _ hel, run_sizeT hez]; simp [Result.andThen, slicedAt, hm]
            · rw [Option.map_none, eh, run_sliceAt_array_h w t _ hel kh _ (by omega) (by rw [hm]; omega), run_sizeT hez]; simp [Result.andThen, slicedAt, hm]
            · rw [Option.map_none, el, run_sliceAt_array_l w t _ hel kl _ (by omega) (by rw [hm]; omega), run_sizeT hez]; simp [Result.andThen, slicedAt, hm]
            · rw [el, eh, run_sliceAt_array_lh w t _ hel kl kh _ _ (by omega) (by omega) (by rw [hm]; omega), run_sizeT hez]; simp [Result.andThen, slicedAt, hm]
          simp only [execOp, ht _ _ he, Sy.den, Option.map_none, Sem.run_bind, key, Result.andThen_ok, Sem.run_pure, E.i, Int.toNat_natCast]
        · cases hx
      · cases hx
    · rename_i el m o n c l h hu he hl hh
      split at hx
      · rename_i z l' h' hz hl' hh'
        split at hx
        · rename_i hlh
          obtain ⟨rfl, rfl⟩ := inj2 hx
          rw [← hl] at hl'
          rw [← hh] at hh'
          have he0 : P.elem t = el := by simp [Program.elem, hu]
          have hel : P.underlying t = some (.slice (P.elem t)) := by rw [he0]; exact hu
          have hez : sizeT P (P.elem t) = some z := by rw [he0]; exact hz
          have key : (Instr.slice t (.slice (some ⟨gd ρ.M m 0, o, none⟩) n c) (lo.map ev) (hi.map ev) none).run P w = .ok (.slice (some ⟨gd ρ.M m 0, if c = l' then o else o + l' * z, none⟩) (h' - l') (c - l')) w := by
            have e : (some (⟨gd ρ.M m 0, if c = l' then o else o + l' * z, none⟩ : Addr)) = if c = l' then some ⟨gd ρ.M m 0, o, none⟩ else (some (⟨gd ρ.M m 0, o, none⟩ : Addr)).map (·.add (l' * z)) := by
              split
              · rfl
              · rw [Option.map_some, add_none]
            rw [e]
            rcases litO_ev ht hl' with ⟨rfl, rfl⟩ | ⟨kl, el⟩ <;> rcases litO_ev ht hh' with ⟨rfl, rfl⟩ | ⟨kh, eh⟩
            · rw [Option.map_none, run_slice_all w t _ _ _ hel, run_sizeT hez]; simp [Result.andThen, sliced]
            · rw [Option.map_none, eh, run_slice_h w t _ _ _ hel kh _ (by omega) (by omega), run_sizeT hez]; simp [Result.andThen, sliced]
            · rw [Option.map_none, el, run_slice_l w t _ _ _ hel kl _ (by omega) (by omega), run_sizeT hez]; simp [Result.andThen, sliced]
            · rw [el, eh, run_slice_lh w t _ _ _ hel kl kh _ _ (by omega) (by omega) (by omega), run_sizeT hez]; simp [Result.andThen, sliced]
          simp only [execOp, ht _ _ he, Sy.den, Option.map_none, Sem.run_bind, run_sliceAt_slice w t _ _ _ _ hel, E.i, Int.toNat_natCast, key, Result.andThen_ok, Sem.run_pure]
        · cases hx
      · cases hx
    · cases hx
  case makeFunc fn first cap =>
    cases fn <;> (try simp only at hx) <;> try (cases hx; done)
    split at hx
    · rename_i h0
      cases hl : evsS tm cap.toList with
      | none => simp [hl] at hx
      | some l =>
        simp only [hl, Option.map_some] at hx
        obtain ⟨rfl, rfl⟩ := inj2 hx
        have h1 := evsS_den ht _ _ hl
        have h2 : first = #[] := by simpa using h0
        subst h2
        have h3 : cap.map ev = (Sy.dens ρ l).toArray := by
          rw [← h1, ← Array.toList_map]
        simp [execOp, Instr.makeFunc, Sy.den, h3]
    · cases hx
  case makeInterface t x =>
    split at hx
    · cases hx
    · rename_i d s' hne hd he
      obtain ⟨rfl, rfl⟩ := inj2 hx
      have : P.concrete t = true := by
        unfold Program.concrete
        rw [hd]
        cases d <;> first | rfl | exact (hne _ rfl).elim
      simp [execOp, ht _ _ he, Sy.den, run_makeInterface w t _ this]
    · cases hx
  case build t ps =>
    split at hx
    · rename_i it fs l hit hu hl
      split at hx
      · rename_i z pl hz hpl
        cases hf : fillS (fun i => pl[i]?) (z.cells.toList.map ofCell) l with
        | none => simp [hf] at hx
        | some r =>
          simp only [hf, Option.map_some] at hx
          obtain ⟨rfl, rfl⟩ := inj2 hx
          have h1 := fillS_den hg (fun i => pl[i]?) l _ r hf
          rw [dens_ofCell] at h1
          have h2 := evParts_den ht _ _ hl
          have h3 : P.built t (ps.map fun p => (p.1, ev p.2)).toList = some (Sy.dens ρ r).toArray := by
            unfold Program.built
            simp only [hit, hu, hz, hpl]
            rw [Array.toList_map, h2]
            simpa using h1
          have := run_build w t _ _ h3
          simp only [execOp]
          simp [this, Sy.den]
      · cases hx
    · rename_i it n el l hit hu hl
      split at hx
      · rename_i z ie hz hie
        cases hf : fillS (fun i => some (i * ie.size, ie.size)) (z.cells.toList.map ofCell) l with
        | none => simp [hf] at hx
        | some r =>
          simp only [hf, Option.map_some] at hx
          obtain ⟨rfl, rfl⟩ := inj2 hx
          have h1 := fillS_den hg (fun i => some (i * ie.size, ie.size)) l _ r hf
          rw [dens_ofCell] at h1
          have h2 := evParts_den ht _ _ hl
          have h3 : P.built t (ps.map fun p => (p.1, ev p.2)).toList = some (Sy.dens ρ r).toArray := by
            unfold Program.built
            simp only [hit, hu, hz, hie]
            rw [Array.toList_map, h2]
            simpa using h1
          have := run_build w t _ _ h3
          simp only [execOp]
          simp [this, Sy.den]
      · cases hx
    · cases hx
  case call c =>
    obtain ⟨callee, args, ts⟩ := c
    cases callee <;> (try simp only at hx) <;> try (cases hx; done)
    rename_i bi
    cases bi <;> (try simp only at hx) <;> try (cases hx; done)
    rotate_left
    · skip
      split at hx
      · rename_i x y hxy
        split at hx
        · rename_i k a k' b h1 h2
          obtain ⟨rfl, rfl⟩ := inj2 hx
          have e1 : args.map ev = #[ev x, ev y] := by rw [show args = #[x, y] from Array.toList_inj.1 hxy]; simp
          simp only [execOp, resolve, invoke, builtin, Sem.run_bind, Sem.run_pure, Result.andThen_ok, e1, ht _ _ h1, ht _ _ h2, Sy.den, run_max_int2, E.i]
          have h5 : (if b.i ρ > a.i ρ then b.i ρ else a.i ρ) = max (a.i ρ) (b.i ρ) := by split <;> omega
          simp [h5]
        · cases hx
      · cases hx
    split at hx
    · rename_i t x ht0 hx0
      have e0 : (args.map ev)[0]? = some (ev x) := by simp [hx0]
      split at hx
      · rename_i s' hu he
        obtain ⟨rfl, rfl⟩ := inj2 hx
        simp [execOp, resolve, invoke, builtin, Builtin.len_, ht0, hx0, run_underlying hu, ht _ _ he, Sy.den, E.i, goInt]
      · rename_i el a n c hu he
        split at hx
        · rename_i hn
          obtain ⟨rfl, rfl⟩ := inj2 hx
          have h4 := isNat_i (ρ := ρ) hn
          have h5 : max (n.i ρ) 0 = n.i ρ := by omega
          simp [execOp, resolve, invoke, builtin, Builtin.len_, ht0, hx0, run_underlying hu, ht _ _ he, Sy.den, goInt, h5]
        · cases hx
      · rename_i el m o n c hu he
        obtain ⟨rfl, rfl⟩ := inj2 hx
        simp [execOp, resolve, invoke, builtin, Builtin.len_, ht0, hx0, run_underlying hu, ht _ _ he, Sy.den, E.i, goInt]
      · rename_i el hu he
        obtain ⟨rfl, rfl⟩ := inj2 hx
        simp [execOp, resolve, invoke, builtin, Builtin.len_, ht0, hx0, run_underlying hu, ht _ _ he, Sy.den, E.i, goInt]
      · cases hx
    · cases hx
end Go.SF
end
