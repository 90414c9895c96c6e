/- Texts of the claim, one behind the other: SfD VcLex Shelf LxPlain. -/
import Derived.Test.YtkpjmlnhhggenaaGreatDoorQn1
import Derived.Lib.ConvBytes
import Derived.Lib.AtoiErrMem
import Derived.Laws.AppendOwn
import Derived.LoopN
import Derived.Deep.LoopGhost
import Derived.Test.YtkpjmlnhhggenaaGreatDoorProg
import Derived.Shelf.Strings.Trim
import Derived.Shelf.Small.Utf8
import Derived.Shelf.Small.Strs
import Derived.Shelf.Strconv.Itoa0
import Derived.Shelf.Strconv.Itoa1
import Derived.Shelf.LaysM
import Derived.Shelf.Strconv.Itoa2
import Derived.Shelf.Strconv.Itoa3
import Derived.Shelf.Strconv.ParseIntEmpty
import Derived.Shelf.Strconv.Clone
import Derived.Shelf.Strconv.SyntaxError
import Derived.Shelf.LaysC
import Derived.Shelf.Strconv.ToError
import Derived.Shelf.Strconv.Lower
import Derived.Shelf.Strconv.ParseUint10
import Derived.Shelf.Strconv.ParseUint10Empty
import Derived.Shelf.Strconv.ParseUint10Any
import Derived.Shelf.Strconv.ParseInt10
import Derived.Shelf.Strconv.RangeError
import Derived.Shelf.Strconv.ToErrorRange
import Derived.Shelf.Strconv.ParseUintEmpty
import Derived.Shelf.Strconv.ParseUint10b64
import Derived.Shelf.Strconv.ParseUint10b32
import Derived.Shelf.Strconv.ParseUint10b16
import Derived.Shelf.Strconv.ParseUint10b8
import Derived.Shelf.Strconv.ParseUint10At
import Derived.Shelf.Strconv.ParseInt10At64
import Derived.Shelf.Strconv.ParseInt10At32
import Derived.Shelf.Strconv.ParseInt10At16
import Derived.Shelf.Strconv.ParseInt10At8
import Derived.Shelf.Strconv.ParseInt10All
import Derived.Shelf.Strconv.ParseIntPublic10
import Derived.Shelf.Strconv.ErrVarParseInt
import Derived.Shelf.Strings.Search1
import Derived.Shelf.Strings.Search2
import Derived.Shelf.Strings.Cut
import Derived.Shelf.Strings.Shaped
import Derived.Shelf.Strings.Prefix
import Derived.Shelf.Unicode.Decode
import Derived.Shelf.Strings.Runes
import Derived.Shelf.Strings.AsciiSet
import Derived.Shelf.Unicode.DecodeSlow
import Derived.Shelf.Unicode.DecodeAny
import Derived.Shelf.Slices.Turned
import Derived.Shelf.Slices.Equal
import Derived.Ground.Names2Prog
import Derived.Shelf.Slices.Clone
import Derived.Shelf.Slices.Empties2
import Derived.Lib.ParseIntB
import Derived.Lib.IndexMore
import Derived.Lib.Join
set_option linter.unusedSimpArgs false
set_option linter.unusedVariables false
set_option maxRecDepth 100000
section
section
namespace Go.cK
open Go Go.RowKit
variable {P:Program}
def ng (P:Program) (N:Nat) (W0:al) (R:Ending->World->Prop) (L:ha) (ρ:aX) (W:al) (n:Nat) (K:bC->Option Tree) (Q:Act->World->Prop):Prop:=
 ∀s' cR e bB W',K s'=some cR->Ext W W'->s'.fh=n->Holds N W0 (ρ.push e) s' bB W'->cR.ak P N R L (ρ.push e) W'->Q bB W'.w
structure k_ (W0:al) (R:Ending->World->Prop) (Q:Exit->Act->World->Prop):Prop where
 mJ:∀cD a w',a.defers=[]->cO W0 w'->R (.panicked cD) w'->Q (.panic cD) a w'
 put:∀cD a d v w',Q (.panic cD) (Act.put a d v) w'->Q (.panic cD) a w'
theorem nh (ρ d e:aX):(ρ.push d).push e=ρ.push (d.push e):=by simp[aX.push]
theorem o_ (ρ:aX):ρ.push {}=ρ:=by simp[aX.push]
theorem ng.step {N:Nat} {W0:al} {R:Ending->World->Prop} {L:ha} {ρ d:aX} {W W1:al} {n:Nat} {K:bC->Option Tree} {Q:Act->World->Prop} (h:ng P N W0 R L ρ W n K Q) (x:Ext W W1):ng P N W0 R L (ρ.push d) W1 n K Q:=
 fun s' cR e bB W' J j aO an aI=>h s' cR (d.push e) bB W' J (x.trans j) aO (by rw[<-nh];exact an) (by rw[<-nh];exact aI)
theorem ng.lR {N:Nat} {W0:al} {R:Ending->World->Prop} {L:ha} {ρ:aX} {W W1:al} {n:Nat} {K:bC->Option Tree} {Q:Act->World->Prop} (h:ng P N W0 R L ρ W n K Q) (x:Ext W W1):ng P N W0 R L ρ W1 n K Q:=
 fun s' cR e bB W' J j aO an aI=>h s' cR e bB W' J (x.trans j) aO an aI
theorem map_some {α β:Type} {x:Option α} {f:α->β} {y:β} (h:x.map f=some y):∃z,x=some z∧y=f z:=by
 cases x with
 |none=>cases h
 |some z=>exact⟨z,rfl,(bm h).symm⟩
def uG (P:Program) (inl:na):Prop:=
 ∀f args ro c t,inl f args ro c=some t->∀(ρ:aX) (W:al) (R:Ending->World->Prop),ρ.cT=c->ρ.ew->fA ρ ro W.w->t.ak P W.w.heap.size R [] ρ W.all->bK P f (af.b2 ρ args).toArray W.all R
theorem Mb {N:Nat} {W0:al} {ar:Nat} {R:Ending->World->Prop} {L:ha} {ρ:aX} {a:Act} {W:al}:∀(t:Tree) (s:bC) (k:af->bC->Option Tree) (T:Tree),h_ s.c t=true->rf t s k=some T->Holds N W0 ρ s a W->T.ak P ar R L ρ W->
  ∃v s' iF,k v s'=some iF∧iF.ak P ar R L ρ W∧Holds N W0 ρ s' a W∧(s'.fh=s.fh∧s'.hp=s.hp∧s'.rw=s.rw∧s'.ro=s.ro)∧∀aQ W1 e,t.ak P aQ (o4 fun u _=>u=v.ak ρ) [] (ρ.push e) W1:=by
 intro t;induction t with
 |ret v hp ro rw=>
  intro s k T hp j aY cC;refine⟨v,s,T,j,cC,aY,⟨rfl,rfl,rfl,rfl⟩,fun aQ W1 e _ _ _ _=>?_⟩;simp only[h_] at hp;rw[<-aY.cT] at hp;exact⟨_,rfl,af.push ρ e v hp⟩
 |mJ=>intro s k T hp;simp[h_] at hp
 |j1=>intro s k T hp;simp[h_] at hp
 |eu=>intro s k T hp;simp[h_] at hp
 |cells=>intro s k T hp;simp[h_] at hp
 |sub=>intro s k T hp;simp[h_] at hp
 |m_=>intro s k T hp;simp[h_] at hp
 |s9=>intro s k T hp;simp[h_] at hp
 |lP=>intro s k T hp;simp[h_] at hp
 |oi=>intro s k T hp;simp[h_] at hp
 |j0=>intro s k T hp;simp[h_] at hp
 |Gk=>intro s k T hp;simp[h_] at hp
 |eM=>intro s k T hp;simp[h_] at hp
 |yx=>intro s k T hp;simp[h_] at hp
 |pre=>intro s k T hp;simp[h_] at hp
 |aC c t1 t2 Dw uH=>
  intro s k T hp j aY cC;simp only[h_,bT] at hp;obtain⟨⟨ox,qC⟩,Dx⟩:=hp;have aH:∀e,c.b (ρ.push e)=c.b ρ:=fun e=>(E.push ρ e c (by rw[aY.cT];exact ox)).2.1
  have left:c.b ρ=true->(∃v s' iF,k v s'=some iF∧iF.ak P ar R L ρ W∧Holds N W0 ρ s' a W∧(s'.fh=s.fh∧s'.hp=s.hp∧s'.rw=s.rw∧s'.ro=s.ro)∧∀aQ W1 e,t1.ak P aQ (o4 fun u _=>u=v.ak ρ) [] (ρ.push e) W1)->
    ∃v s' iF,k v s'=some iF∧iF.ak P ar R L ρ W∧Holds N W0 ρ s' a W∧(s'.fh=s.fh∧s'.hp=s.hp∧s'.rw=s.rw∧s'.ro=s.ro)∧∀aQ W1 e,(Tree.aC c t1 t2).ak P aQ (o4 fun u _=>u=v.ak ρ) [] (ρ.push e) W1:=by
   rintro I ⟨v,s',iF,J,an,aI,cc,bu⟩;exact⟨v,s',iF,J,an,aI,cc,fun aQ W1 e=>⟨fun _=>bu aQ W1 e,fun h=>by rw[aH,I] at h;cases h⟩⟩
  have right:c.b ρ=false->(∃v s' iF,k v s'=some iF∧iF.ak P ar R L ρ W∧Holds N W0 ρ s' a W∧(s'.fh=s.fh∧s'.hp=s.hp∧s'.rw=s.rw∧s'.ro=s.ro)∧∀aQ W1 e,t2.ak P aQ (o4 fun u _=>u=v.ak ρ) [] (ρ.push e) W1)->
    ∃v s' iF,k v s'=some iF∧iF.ak P ar R L ρ W∧Holds N W0 ρ s' a W∧(s'.fh=s.fh∧s'.hp=s.hp∧s'.rw=s.rw∧s'.ro=s.ro)∧∀aQ W1 e,(Tree.aC c t1 t2).ak P aQ (o4 fun u _=>u=v.ak ρ) [] (ρ.push e) W1:=by
   rintro I ⟨v,s',iF,J,an,aI,cc,bu⟩;exact⟨v,s',iF,J,an,aI,cc,fun aQ W1 e=>⟨fun h=>(by rw[aH,I] at h;cases h),fun _=>bu aQ W1 e⟩⟩
  simp only[rf] at j;split at j
  ·rename_i a_;exact left (lO aY.kn c a_) (Dw s k T qC j aY cC)
  ·rename_i a_;exact right (lO aY.kn c a_) (uH s k T Dx j aY cC)
  ·split at j
   ·rename_i oz AM J an;obtain rfl:=bm j;cases I:c.b ρ
    ·exact right I (uH {s with kn:=l9 c false s.kn} k AM Dx an (aY.jY I) (cC.2 I))
    ·exact left I (Dw {s with kn:=l9 c true s.kn} k oz qC J (aY.jY I) (cC.1 I))
   ·cases j
 |a1 c t cF=>
  intro s k T hp j aY cC;simp only[h_,bT] at hp;simp only[rf] at j;obtain⟨u,hu,rfl⟩:=map_some j;obtain⟨aH,a_⟩:=me aY.kn cC;have v7:Holds N W0 ρ {s with kn:=pM s.kn [c]} a W:=aY.ux (tc aY.kn aH);obtain⟨v,s',iF,J,an,aI,cc,bu⟩:=cF {s with kn:=pM s.kn [c]} k u hp.2 hu v7 a_;refine⟨v,s',iF,J,an,aI,cc,fun aQ W1 e=>⟨?_,bu aQ W1 e⟩⟩;rw[(E.push ρ e c (by rw[aY.cT];exact hp.1)).2.1];exact aH.1
 |new t cF=>
  intro s k T hp j aY cC;obtain⟨v,s',iF,J,an,aI,cc,bu⟩:=cF s k T hp j aY cC;exact⟨v,s',iF,J,an,aI,cc,fun aQ W1 e m W' _ _=>by rw[nh];exact bu aQ W' _⟩
 |wr t cF=>
  intro s k T hp j aY cC;obtain⟨v,s',iF,J,an,aI,cc,bu⟩:=cF s k T hp j aY cC;exact⟨v,s',iF,J,an,aI,cc,fun aQ W1 e W' _=>bu aQ W' e⟩
 |grow t cF=>
  intro s k T hp j aY cC;obtain⟨v,s',iF,J,an,aI,cc,bu⟩:=cF s k T hp j aY cC;exact⟨v,s',iF,J,an,aI,cc,fun aQ W1 e W' _=>bu aQ W' e⟩
 |call=>intro s k T hp;simp[h_] at hp
 |jZ=>intro s k T hp;simp[h_] at hp
 |cl=>intro s k T hp;simp[h_] at hp
 |loop=>intro s k T hp;simp[h_] at hp
 |again=>intro s k T hp;simp[h_] at hp
 |q9=>intro s k T hp;simp[h_] at hp
 |join=>intro s k T hp;simp[h_] at hp
theorem V3 {inl:na} {f:FuncId} {args:List af} {s:bC} {t:Tree} (h:Gv inl f args s=some t):h_ s.c t=true∧inl f args (s.hp++s.ro) s.c=some t:=by
 unfold Gv at h;split at h
 ·rename_i u hu;split at h
  ·rename_i hp;obtain rfl:=bm h;exact⟨hp,hu⟩
  ·cases h
 ·cases h
theorem se {ρ:aX} {a b:List b4} {w:World} (h:fA ρ a w) (k:fA ρ b w):fA ρ (a++b) w:=fun x j=>(mE.1 j).elim (h x) (k x)
theorem G5 {ρ:aX} {G:E} (b7:G.b ρ=true):∀{cs:List E},nW ρ (cs.map (r2 (nX G)))->nW ρ cs
 |[],_=>trivial
 |e::_,h=>⟨by have:=h.1;rw[K6,uq,b7] at this;simpa using this,G5 b7 h.2⟩
theorem cO.start {W0 W:al} {w':World} (x:Ext W0 W) (h:cO W w'):cO W0 w':=
 ⟨h.os.trans x.os,h.tape.trans x.tape,h.output.trans x.output,iz x.size h.size,fun b I=>(h.du b (x.sub b I)).trans (x.du b I)⟩
theorem Mc {N:Nat} {W0:al} {ρ:aX} {s:bC} {a:Act} {W:al} (h:Holds N W0 ρ s a W) {mu:List b4} (uC:Az s.hp mu=true) {b:Nat} (bf:W.aV b):b∉qs ρ mu:=fun I=>by
 obtain⟨x,j,rfl⟩:=h7.1 I;have:=ep.1 uC x j;cases bs:jG s.hp x.m with
 |none=>rw[bs] at this;cases this
 |some y=>
  obtain⟨J,an⟩:=mH bs;rw[<-an] at bf;exact h.own y J bf
theorem V4 {c:dj} {kn:et} {x:af} (h:x.ok c=true):(r3 kn x).ok c=true:=by
 unfold r3;split
 ·rename_i g w s;simp only[af.ok,bT] at h;split
  ·split
   ·exact h.2
   ·rfl
  ·simp only[af.ok,bT];exact h
 ·exact h
theorem uI {s:bC} {kn:et} (h:s.ok=true):bC.ok {s with az:=jt kn s.az}=true:=by
 simp only[bC.ok,bT] at h ⊢;refine⟨⟨⟨⟨?_,h.1.1.1.2⟩,h.1.1.2⟩,h.1.2⟩,h.2⟩;refine ep.2 fun p hp=>?_
 obtain⟨q,bg,rfl⟩:=h7.1 hp;have:=ep.1 h.1.1.1.1 q bg
 revert this
 cases pa:q.2 with
 |none=>exact fun _=>by simp[af.okO]
 |some y=>intro h;simp only[l6,af.okO] at h ⊢;exact V4 h
theorem G6 {N:Nat} {W0:al} {ρ:aX} {s:bC} {a:Act} {W:al} (h:Holds N W0 ρ s a W) {o:Oper} {t:TypeId} {p:af} {r:b3} (j:hy P s o.op=some (.j1 t p r)):r∈s.rw:=by
 obtain⟨dst,op,kD,pos,after,guard⟩:=o;dsimp only at j;cases op<;>simp only[hy] at j<;>try (cases j;done)
 case load cR LH=>
  (repeat' split at j)<;>first|(cases j;done)|skip
  rename_i he _ _ aw;have e:=bm j;injection e with a7 bh c8
  subst a7 bh c8;exact C2 aw
 case slice=>rcases qA j with⟨_,_,_,_,_,_,e⟩|⟨_,_,_,e⟩<;>cases e
 case call c=>
  rcases o8 j with⟨f,_,J⟩|⟨_,J⟩
  ·obtain⟨_,_,e⟩:=pO J;cases e
  ·rcases qB J with⟨_,_,_,_,_,e⟩|⟨_,_,_,_,_,_,e⟩<;>cases e
 all_goals ((repeat' split at j)<;>first|(cases j;done)|(obtain⟨r,aw,e⟩:=hI.1 j;cases e;done)|(obtain⟨_,_,_,_,_,e⟩:=ot j;cases e;done)|skip)
theorem eJ.AN {ρ:aX} {n:Nat} {az V5:eJ} {a:Act} {d:Option Nat} {v:Value} {x:af} (h:eJ.at ρ az a.eval) (cB:a.tmps.size=n) (hl:eJ.at ρ (eQ n V5 d (some x)) (a.put d v).eval):eJ.at ρ (eQ n az d (some x)) (a.put d v).eval:=by
 cases d with
 |none=>exact h
 |some d=>
  by_cases a_:Nat.ble (d+1) n=true
  ·have e:∀az:eJ,eQ n az (some d) (some x)=(d,some x)::az:=fun az=>by simp only[eQ];rw[if_pos a_]
   rw[e] at hl ⊢;intro o y bc;cases o with
   |tmp t=>
    simp only[dU] at bc
    by_cases bb:d=t
    ·subst bb;rw[s5] at bc;exact hl (.tmp d) y (by simp only[dU];rw[s5];exact bc)
    ·rw[vY _ _ bb] at bc;have:=h (.tmp t) y bc;simp only[Act.put,Act.eval,mF] at this ⊢;rw[Array.getElem?_setIfInBounds_ne bb];exact this
   |const c=>exact h (.const c) y bc
   |global g=>exact h (.global g) y bc
   |func f=>exact h (.func f) y bc
  ·have e:∀az:eJ,eQ n az (some d) (some x)=az:=fun az=>by simp only[eQ];rw[if_neg a_]
   have yy:a.tmps.size<=d:=by
    rw[cB];rcases pH d n with J|J
    ·exact absurd (Nat.ble_eq_true_of_le J) a_
    ·exact J
   have bh:a.put (some d) v=a:=by
    simp only[Act.put];rw[Array.setIfInBounds_eq_of_size_le yy]
   rw[e,bh];exact h
theorem AO {N:Nat} {W0:al} {ρ d:aX} {s:bC} {a:Act} {W:al} (h:Holds N W0 ρ s a W) (bc:s.ok=true):eJ.at (ρ.push d) s.az a.eval:=by
 simp only[bC.ok,bT] at bc;exact Lh h.az (by rw[h.cT];exact bc.1.1.1.1)
theorem Md {N:Nat} {W0:al} {ρ d:aX} {s:bC} {a:Act} {W W':al} (h:Holds N W0 ρ s a W) (bc:s.ok=true) {dst:Option Nat} {v:Value} {r:b3} {rw:List b3} {k:E} {xs:List dV} {kn:et}
  (hl:Holds N W0 (ρ.push d) (ia {s with az:=jt kn s.az} dst r rw k xs) (a.put dst v) W'):eJ.at (ρ.push d) (ia s dst r rw k xs).az (a.put dst v).eval:=
 eJ.AN (AO h bc) h.len hl.az
theorem G7 {N:Nat} {W0:al} {ρ d d2:aX} {s:bC} {a:Act} {W W':al} (h:Holds N W0 ρ s a W) (bc:s.ok=true) {dst:Option Nat} {v:Value} {r:b3} {rw:List b3} {k:E} {xs:List dV} {kn:et} {c:dj}
  (hl:Holds N W0 ((ρ.push d).push d2) (ia {s with az:=jt kn s.az,c:=c} dst r rw k xs) (a.put dst v) W'):eJ.at ((ρ.push d).push d2) (ia {s with c:=c} dst r rw k xs).az (a.put dst v).eval:=by
 have J:=AO (d:=d.push d2) h bc;rw[<-nh] at J;exact eJ.AN J h.len hl.az
theorem Me {N:Nat} {W0:al} {ρ:aX} {s:bC} {a:Act} {W:al} (h:Holds N W0 ρ s a W) (bc:s.ok=true) {aa:Nat} {lo a8 c m:E} {sz:Nat} (V6:a8.ok s.c=true) (V7:c.ok s.c=true) (dst:Option Nat):
  Holds N W0 (ρ.push {A:=[jw (aR ρ.A aa none) (lo.i ρ).toNat (c.i ρ).toNat sz],N:=[(a8.i ρ).toNat-(lo.i ρ).toNat,(c.i ρ).toNat-(lo.i ρ).toNat]}) (Gw s dst lo a8 c)
   (a.put dst (.slice (jw (aR ρ.A aa none) (lo.i ρ).toNat (c.i ρ).toNat sz) ((a8.i ρ).toNat-(lo.i ρ).toNat) ((c.i ρ).toNat-(lo.i ρ).toNat))) W:=by
 generalize axK:jw (aR ρ.A aa none) (lo.i ρ).toNat (c.i ρ).toNat sz=G8;generalize nb:({A:=[G8],N:=[(a8.i ρ).toNat-(lo.i ρ).toNat,(c.i ρ).toNat-(lo.i ρ).toNat]}:aX)=d;have V8:d.ew:=by rw[<-nb];exact fun v aB=>by cases aB
 have bk:=h.push bc V8;have V9:d.cT={A:=1,N:=2}:=by rw[<-nb];rfl
 rw[V9] at bk
 have ee:aR (ρ.push d).A s.c.A none=G8:=by
  rw[<-nb];show aR (ρ.A++[G8]) s.c.A none=_;rw[<-h.cT];exact lC _ _ _
 have eU:ρ.N.length=s.c.N:=by rw[<-h.cT];rfl
 have Mf:aR (ρ.push d).N s.c.N 0=(a8.i ρ).toNat-(lo.i ρ).toNat:=by
  rw[<-nb];show aR (ρ.N++[_,_]) s.c.N 0=_;exact LK _ _ _ _ _ eU
 have Mg:aR (ρ.push d).N (s.c.N+1) 0=(c.i ρ).toNat-(lo.i ρ).toNat:=by
  rw[<-nb];show aR (ρ.N++[_,_]) (s.c.N+1) 0=_;rw[show∀x y:Nat,ρ.N++[x,y]=(ρ.N++[x])++[y] from fun x y=>by simp];exact LK _ _ _ _ _ (by simp[eU])
 have a7:((C3 s lo a8).i (ρ.push d)).toNat=(a8.i ρ).toNat-(lo.i ρ).toNat:=by
  unfold C3;split
  ·split
   ·rw[(E.push ρ d a8 (by rw[h.cT];exact V6)).1];simp[E.i]
   ·simp only[E.i,Mf,ih]
  ·simp only[E.i,Mf,ih]
 have bh:((C4 s lo c).i (ρ.push d)).toNat=(c.i ρ).toNat-(lo.i ρ).toNat:=by
  unfold C4;split
  ·split
   ·rw[(E.push ρ d c (by rw[h.cT];exact V7)).1];simp[E.i]
   ·simp only[E.i,Mg,ih]
  ·simp only[E.i,Mg,ih]
 exact bk.put dst _ (some (.bt s.c.A (C3 s lo a8) (C4 s lo c))) fun y bE=>by
  obtain rfl:=bm bE;simp only[af.ak,ee,a7,bh]
theorem Mh {N:Nat} {W0:al} {ρ:aX} {s:bC} {a:Act} {W:al} (h:Holds N W0 ρ s a W) (bc:s.ok=true) (ad:Addr) (m c:Nat) (dst:Option Nat):
  Holds N W0 (ρ.push {A:=[some ad]}) {s with az:=eQ s.n s.az dst (some (.bt s.c.A (.aE m) (.aE c))),c:=s.c.add {A:=1}} (a.put dst (.slice (some ad) m c)) W:=by
 have bk:=h.push (d:={A:=[some ad]}) bc (fun v aB=>by cases aB)
 have ee:aR (ρ.push {A:=[some ad]}).A s.c.A none=some ad:=by
  show aR (ρ.A++[some ad]) s.c.A none=_;rw[<-h.cT];exact lC _ _ _
 exact bk.put dst _ (some (.bt s.c.A (.aE m) (.aE c))) fun y bE=>by
  obtain rfl:=bm bE;simp only[af.ak,ee,E.i,ih]
theorem Mi {N:Nat} {W0:al} {ρ:aX} {s:bC} {a:Act} {W:al} (h:Holds N W0 ρ s a W) (bc:s.ok=true) (ad:Addr) (i:E) (a8:i.ok s.c=true) (z:Nat) (dst:Option Nat) {kn:et} (aA:et.holds (ρ.push {A:=[some ad]}) kn):
  Holds N W0 (ρ.push {A:=[some ad]}) {s with az:=eQ s.n s.az dst (some (.b6 s.c.A i z 0)),c:=s.c.add {A:=1},kn:=kn} (a.put dst (.pointer (some (ad.add ((i.i ρ).toNat*z+0))))) W:=by
 have bk:=h.push (d:={A:=[some ad]}) bc (fun v aB=>by cases aB)
 have ee:aR (ρ.push {A:=[some ad]}).A s.c.A none=some ad:=by
  show aR (ρ.A++[some ad]) s.c.A none=_;rw[<-h.cT];exact lC _ _ _
 have bf:=(E.push ρ {A:=[some ad]} i (by rw[h.cT];exact a8)).1
 have J:=bk.put dst (.pointer (some (ad.add ((i.i ρ).toNat*z+0)))) (some (.b6 s.c.A i z 0)) fun y bE=>by
  obtain rfl:=bm bE;simp only[af.ak,ee,bf,ny]
 exact J.ux aA
theorem Mj {N:Nat} {W0:al} {ρ d:aX} {s:bC} {a:Act} {W:al} (h:Holds N W0 ρ s a W) (bc:s.ok=true) (a_:d.ew):et.holds (ρ.push d) s.kn:=(h.push bc a_).kn
theorem Mk {N:Nat} {W0:al} {ρ d:aX} {s:bC} {a:Act} {W:al} (h:Holds N W0 ρ s a W) {i:E} (a8:i.ok s.c=true) {n:Nat} (aH:nW ρ (v_ i n)):nW (ρ.push d) (v_ i n):=by
 obtain⟨aJ,c2,_⟩:=aH;have bf:=(E.push ρ d i (by rw[h.cT];exact a8)).1;refine⟨?_,?_,trivial⟩
 ·rw[r6] at aJ ⊢;rw[bf];exact aJ
 ·simp only[E.b] at c2 ⊢;rw[bf];exact c2
theorem V_ {N:Nat} {W0:al} {ρ:aX} {s:bC} {a:Act} {W:al} (h:Holds N W0 ρ s a W) {o:Oper} {e:E} (j:hy P s o.op=some (.q9 e)):
  ∃el,(execOp a.eval o).run P W.w= .ok (.value (.slice (some ⟨W.w.heap.size,0,none⟩) (e.t ρ).size (grownCap W.w (e.t ρ).size 0 el))) (Lib.bytesWorld W.w el (e.t ρ)):=by
 obtain⟨dst,op,kD,pos,after,guard⟩:=o;dsimp only at j;cases op<;>simp only[hy] at j<;>try (cases j;done)
 case slice=>rcases qA j with⟨_,_,_,_,_,_,e⟩|⟨_,_,_,e⟩<;>cases e
 case convert src Wa x=>
  split at j
  ·rename_i el dy bD a_ he;split at j
   ·rename_i Wb;have a7:=bm j;injection a7 with a7
    subst a7;refine⟨el,?_⟩;have uJ:=h.az _ _ he;simp only[af.ak] at uJ;have:=Lib.run_convert_string_bytes (P:=P) W.w src Wa el (dy.t ρ) bD a_ Wb;simp[execOp,uJ,this]
   ·cases j
  ·cases j
 case call c=>
  rcases o8 j with⟨f,_,J⟩|⟨_,J⟩
  ·obtain⟨_,_,e⟩:=pO J;cases e
  ·rcases qB J with⟨_,_,_,_,_,e⟩|⟨_,_,_,_,_,_,e⟩<;>cases e
 all_goals ((repeat' split at j)<;>first|(cases j;done)|(obtain⟨r,aw,e⟩:=hI.1 j;cases e;done)|(obtain⟨_,_,_,_,_,e⟩:=ot j;cases e;done)|skip)
theorem la {cf:ds} {inl:na} (bf:uG P inl) {N:Nat} {W0:al} {R:Ending->World->Prop} {L:ha} {ops:Array Oper} {Q:Exit->Act->World->Prop} (b8:k_ W0 R Q) {K:bC->Option Tree}:
  ∀(n:Nat) (l:List Oper) (s:bC) (t:Tree) (ρ:aX) (a:Act) (W:al),j4 P cf inl ops n l s K=some t->Holds N W0 ρ s a W->t.ak P N R L ρ W->
   ng P N W0 R L ρ W s.fh K (Q .normal)->wpList P ops Q l a W.w
 |n,[],s,t,ρ,a,W,j,aY,bb,cy=>by
  have j:K s=some t:=by cases n<;>exact j
  have:=cy s t {} a W j (Ext.refl W) rfl (by rw[o_];exact aY) (by rw[o_];exact bb);exact this
 |0,_::_,_,_,_,_,_,j,_,_,_=>by cases j
 |n+1,o::rest,s,t,ρ,a,W,j,aY,bb,cy=>by
  simp only[j4] at j;split at j
  ·cases j
  rename_i G G9;have ti:=Gy aY G9;split at j
  ·rename_i a_;have hw:Region.wanted o (yielded ops a.tmps)=false:=by rw[ti];exact lO aY.kn G a_
   unfold wpList;rw[if_neg (by rw[hw];simp)];exact la bf b8 n rest _ _ ρ _ W j (aY.put o.dst undef _ (fun y bE=>by obtain rfl:=bm bE;rfl)) bb cy
  ·split at j
   ·rename_i cs v aB;obtain⟨u,hu,rfl⟩:=map_some j;obtain⟨aH,a_⟩:=me aY.kn bb
    have key:∀y:Value,y=(af.when G true v).ak ρ->wpList P ops Q rest (a.put o.dst y) W.w:=fun y bE=>by
     have J:=aY.put o.dst y (some (.when G true v)) (fun z cS=>by obtain rfl:=bm cS;exact bE);exact la bf b8 n rest _ _ ρ _ W hu (J.ux (tc aY.kn aH)) a_ cy
    unfold wpList;cases b7:G.b ρ
    ·rw[if_neg (by rw[ti,b7];simp)];exact key _ (by simp[af.ak,b7])
    ·rw[if_pos (by rw[ti,b7])];refine .inl ?_;have te:=yt G aY.kn b7;have aw:=vZ aB aY.ew (s6 aY.az te) (se aY.hp aY.ro) te (G5 b7 aH);unfold Oper.wp;rw[aw];exact key _ (by simp[af.ak,b7])
   ·split at j
    ·rename_i t1 t2 J an;obtain rfl:=bm j;cases I:G.b ρ
     ·exact la bf b8 n _ _ _ ρ a W an (aY.jY I) (bb.2 I) cy
     ·exact la bf b8 n _ _ _ ρ a W J (aY.jY I) (bb.1 I) cy
    ·cases j
  ·rename_i AP;have hw:Region.wanted o (yielded ops a.tmps)=true:=by rw[ti];exact lO aY.kn G AP
   have gD:Holds N W0 ρ {s with az:=jt s.kn s.az} a W:=aY.qu (s6 aY.az aY.kn);split at j
   ·rename_i cs v aB;obtain⟨u,hu,rfl⟩:=map_some j;obtain⟨aH,a_⟩:=me aY.kn bb;have aw:=vZ aB aY.ew (s6 aY.az aY.kn) (se aY.hp aY.ro) aY.kn aH;unfold wpList;rw[if_pos hw];refine .inl ?_;unfold Oper.wp;rw[aw];show wpList P ops Q rest (a.put o.dst (v.ak ρ)) W.w;have J:=aY.put o.dst (v.ak ρ) (some v) (fun y bE=>by obtain rfl:=bm bE;rfl);exact la bf b8 n rest _ _ ρ _ W hu (J.ux (tc aY.kn aH)) a_ cy
   ·unfold wpList;rw[if_pos hw];refine .inl ?_;unfold Oper.wp;split at j
    ·rename_i ty cs v he;split at j
     ·rename_i m jH;split at j
      ·rename_i bV;rw[bT] at bV;obtain⟨u,hu,rfl⟩:=map_some j;have gK:ρ.M.length=s.c.M:=by rw[<-aY.cT];rfl
       have mM:aR (ρ.push {M:=[W.w.heap.size]}).M s.c.M 0=W.w.heap.size:=by
        show aR (ρ.M++[W.w.heap.size]) s.c.M 0=_;rw[<-gK];exact lC _ _ _
       rw[yI gD he mM]
       have ev:v.ak (ρ.push {M:=[W.w.heap.size]})= .slice (some ⟨W.w.heap.size,0,none⟩) m m:=by
        rw[Lo jH];simp only[af.ak,mM]
       rw[ev];show wpList P ops Q rest (a.put o.dst _) (W.w.alloc _);have an:=aY.s9 bV.1 ty cs m o.dst;have x:=W.yC (.cells (af.b2 ρ cs).toArray ty);have aI:=bb W.w.heap.size _ aY.q_ x (.inr rfl) (by show(W.w.heap.push _)[W.w.heap.size]? =_;simp);exact la bf b8 n rest _ _ _ _ _ hu an aI (cy.step x)
      ·cases j
     split at j
     ·rename_i m z rn;split at j
      ·rename_i bV;rw[bT] at bV;obtain⟨u,hu,rfl⟩:=map_some j;obtain⟨G_,pP,iT,rj⟩:=Lp rn;have gK:ρ.M.length=s.c.M:=by rw[<-aY.cT];rfl
       have mM:aR (ρ.push {M:=[W.w.heap.size]}).M s.c.M 0=W.w.heap.size:=by
        show aR (ρ.M++[W.w.heap.size]) s.c.M 0=_;rw[<-gK];exact lC _ _ _
       rw[yI gD he mM]
       have ev:v.ak (ρ.push {M:=[W.w.heap.size]})= .slice (some ⟨W.w.heap.size,0,none⟩) m m:=by
        rw[G_];simp only[af.ak,mM]
       rw[ev];show wpList P ops Q rest (a.put o.dst _) (W.w.alloc _);obtain⟨W',a7,x,an⟩:=aY.LP bV.1 ty cs bV.2 rj iT pP o.dst;rw[<-a7];have aI:=bb (some ⟨W.w.heap.size,0,none⟩) m W' (fun _=>rfl) x;exact la bf b8 n rest _ _ _ _ _ hu an aI (cy.step x)
      ·cases j
     split at j
     ·rename_i bV;rw[bT] at bV;obtain⟨u,hu,rfl⟩:=map_some j;have gK:ρ.M.length=s.c.M:=by rw[<-aY.cT];rfl
      have mM:aR (ρ.push {M:=[W.w.heap.size]}).M s.c.M 0=W.w.heap.size:=by
       show aR (ρ.M++[W.w.heap.size]) s.c.M 0=_;rw[<-gK];exact lC _ _ _
      rw[yI gD he mM];show wpList P ops Q rest (a.put o.dst _) (W.w.alloc _);have J:=aY.new bV.1 ty cs bV.2;have an:=J.put o.dst (v.ak (ρ.push {M:=[W.w.heap.size]})) (some v) (fun y bE=>by obtain rfl:=bm bE;rfl);have aI:=bb W.w.heap.size _ aY.q_ (W.C_ (.cells (af.b2 ρ cs).toArray ty));exact la bf b8 n rest _ _ _ _ _ hu an aI (cy.step (W.C_ _))
     ·cases j
    ·rename_i m cs he;obtain⟨u,hu,rfl⟩:=map_some j;obtain⟨⟨b,I⟩,aw⟩:=LB gD he;rw[aw];show wpList P ops Q rest (a.put o.dst undef) (W.w.setRow _ _);obtain⟨bk,J⟩:=aY.uz I cs;have an:=J.put o.dst undef (some tb) (fun y bE=>by obtain rfl:=bm bE;rfl);exact la bf b8 n rest _ _ ρ _ _ hu an (bb _ bk) (cy.lR bk)
    ·rename_i f args he;split at j
     ·rename_i wx tj;obtain⟨Wc,ik⟩:=V3 tj;obtain⟨v,s',iF,J,an,aI,cc,bu⟩:=Mb wx s _ t Wc j aY bb;obtain⟨u,hu,rfl⟩:=map_some J;rw[wk gD he];show Calls P f _ W.w _;have aH:=bf f args _ s.c wx ik ρ W (o4 fun u _=>u=v.ak ρ) aY.cT aY.ew (se aY.hp aY.ro) (by have:=bu W.w.heap.size W.all {};rwa[o_] at this);refine Calls.mono aH ?_;rintro e w' ⟨I,uD,rfl,rfl⟩;have b0:=(aI.grow I).put o.dst (v.ak ρ) (some v) (fun y bE=>by obtain rfl:=bm bE;rfl);have bM:=W.kO I.all;exact la bf b8 n rest _ _ ρ _ (W.next w' I.size) hu b0 (an _ bM) (by have:=cy.lR bM;rw[<-cc.1] at this;exact this)
     split at j
     ·rename_i cw iD Wd;split at j
      ·rename_i dm aJ bD;split at j
       ·rename_i iB bG ly rh We nZ;split at j
        ·rename_i bV;obtain⟨u,hu,rfl⟩:=map_some j;rw[wk gD he];show Calls P f _ W.w _;have ov:=GA nZ;have aH:=bb (Au (se aY.hp aY.ro)) aY.rw;refine Calls.mono aH ?_;rintro e w' ⟨aA,gg⟩;cases e with
         |returned v=>
          obtain⟨d,a_,aB,qw,ft⟩:=gr.out gg;obtain⟨lE,J⟩:=aY.Lr bV a_.2 ov aA qw;have an:=J.put o.dst v (some dm) (fun y bE=>by obtain rfl:=bm bE;exact aB);rw[a_.1] at an;have bM:=W.Dc lE (iO (ρ.push d) iB);exact la bf b8 n rest _ _ _ _ _ hu an (ft _ rfl bM (W.Lq lE.size _)) (cy.step bM)
         |panicked cD=>
          refine b8.mJ cD _ _ aY.iC ?_ gg;exact(aA.eP (V:=W) rfl fun b I=>⟨W.lt b I,aY.GB ov I⟩).start aY.ext
         |outgrown=>exact gg.elim
        ·cases j
       ·cases j
      ·cases j
     split at j
     ·rename_i dm aJ bD;split at j
      ·rename_i mu bG uC;split at j
       ·rename_i bV;rw[bT] at bV;obtain⟨u,hu,rfl⟩:=map_some j;rw[wk gD he];show Calls P f _ W.w _;have aH:=bb (Au (se aY.hp aY.ro)) (LA aY bV.2 _) aY.rw;refine Calls.mono aH ?_;rintro e w' ⟨aA,gg⟩;cases e with
        |returned v=>
         obtain⟨d,a_,aB,kz,ft⟩:=gr.out gg;obtain⟨lE,J⟩:=aY.r_ bV.1 a_.2 bV.2 aA kz;have an:=J.put o.dst v (some dm) (fun y bE=>by obtain rfl:=bm bE;exact aB);rw[a_.1] at an;have bM:=W.kO lE;exact la bf b8 n rest _ _ _ _ _ hu an (ft (W.next w' lE.size) rfl bM (W.C9 lE.size)) (cy.step bM)
        |panicked cD=>
         refine b8.mJ cD _ _ aY.iC ?_ gg;exact(aA.eP (V:=W) rfl fun b I=>⟨W.lt b I,Mc aY bV.2 I⟩).start aY.ext
        |outgrown=>exact gg.elim
       ·cases j
      ·cases j
     ·cases j
    ·rename_i cR p he;split at j
     ·rename_i dm bG bD;split at j
      ·rename_i bV;obtain⟨u,hu,rfl⟩:=map_some j;obtain⟨d,a_,aO,ft⟩:=gr.out bb;have aw:=GH gD he (aO W (Ext.refl W));rw[aw];show wpList P ops Q rest (a.put o.dst _) W.w;have J:=aY.push bV a_.2;have an:=J.put o.dst (dm.ak (ρ.push d)) (some dm) (fun y bE=>by obtain rfl:=bm bE;rfl);rw[a_.1] at an;exact la bf b8 n rest _ _ _ _ _ hu an ft (cy.step (Ext.refl W))
      ·cases j
     ·cases j
    ·rename_i cR p r he;split at j
     ·rename_i dm bG bD;split at j
      ·rename_i bV;obtain⟨u,hu,rfl⟩:=map_some j;obtain⟨d,a_,aO,ft⟩:=gr.out bb;have im:r∈s.rw:=G6 gD he;have aw:=(GI gD he (aO W.w (aY.rw r im))).2;rw[aw];show wpList P ops Q rest (a.put o.dst _) W.w;have J:=aY.push bV a_.2;have an:=J.put o.dst (dm.ak (ρ.push d)) (some dm) (fun y bE=>by obtain rfl:=bm bE;rfl);rw[a_.1] at an;exact la bf b8 n rest _ _ _ _ _ hu an ft (cy.step (Ext.refl W))
      ·cases j
     ·cases j
    ·rename_i r rw k xs b he;split at j
     ·rename_i bV;simp only[bT] at bV;obtain⟨⟨⟨⟨⟨ec,fc⟩,fS⟩,iQ⟩,hv⟩,kS⟩:=bV;obtain⟨u,hu,rfl⟩:=map_some j;obtain⟨aH,a_⟩:=me aY.kn bb;have oA:bC.ok {s with az:=jt s.kn s.az}=true:=uI ec;obtain⟨ad,c,w',W',aw,rfl,bM,bH,bo,_,_⟩:=LQ gD oA he fc fS iQ hv kS aH.1;rw[aw];have qE:Holds N W0 (ρ.push {A:=[ad],N:=[c]}) (ia s o.dst r rw k xs) (a.put o.dst (.slice ad ((r.n.i ρ).toNat+(k.i ρ).toNat) c)) W':=bo.qu (Md aY ec bo);exact la bf b8 n rest _ _ _ _ W' hu qE (a_ ad c W' bH bM) (cy.step bM)
     ·cases j
    ·rename_i r rw aa k c b he;split at j
     ·rename_i bV;simp only[bT,decide_eq_true_eq] at bV;obtain⟨⟨⟨⟨⟨⟨⟨ec,fc⟩,fS⟩,iQ⟩,hv⟩,kS⟩,mf⟩,jy⟩:=bV;obtain⟨u,hu,rfl⟩:=map_some j;obtain⟨aH,a_⟩:=me aY.kn bb;have oA:bC.ok {s with az:=jt s.kn s.az}=true:=uI ec;obtain⟨l,AQ,AR,AS,AT,a_⟩:=a_;obtain⟨ad,bG,w',W',aw,rfl,bM,bH,bo,_,_⟩:=GV gD oA he fc iQ hv jy fS aH.1 AQ AR AS (fun ad q7 aj u cu=>AT ad q7 W (Ext.refl W) (fun q bg=>gD.rw q bg) aj u cu);rw[aw];have qE:Holds N W0 ((ρ.push {L:=[l]}).push {A:=[ad],N:=[bG]}) (ia {s with c:=s.c.add {L:=1}} o.dst r rw k [.l s.c.L]) (a.put o.dst (.slice ad ((r.n.i ρ).toNat+(k.i ρ).toNat) bG)) W':=bo.qu (G7 aY ec bo)
      have hp:(ij r.n k).i (ρ.push {L:=[l]})=(ij r.n k).i ρ:=by
       simp only[b3.ok,bT] at jy;rw[q5,q5,(E.push ρ _ _ (by rw[aY.cT];exact jy.1.2)).1,(E.push ρ _ _ (by rw[aY.cT];exact hv)).1]
      exact la bf b8 n rest _ _ _ _ W' hu qE (a_ ad bG W' (by rw[hp];exact bH) bM) (by rw[nh];exact cy.step bM)
     ·cases j
    ·rename_i aa lo a8 c m z he;split at j
     ·rename_i bV;simp only[bT] at bV;obtain⟨u,hu,rfl⟩:=map_some j;obtain⟨aH,a_⟩:=me aY.kn bb;rw[(GW gD he aH W.w).1];show wpList P ops Q rest (a.put o.dst _) W.w;have J:=Me aY bV.1.1 (aa:=aa) (lo:=lo) (m:=m) (sz:=z) bV.1.2 bV.2 o.dst;exact la bf b8 n rest _ _ _ _ W hu J a_ (cy.step (Ext.refl W))
     ·cases j
    ·rename_i ad m c he;split at j
     ·rename_i bV;obtain⟨u,hu,rfl⟩:=map_some j;rw[LY gD he];show wpList P ops Q rest (a.put o.dst _) W.w;have J:=Mh aY bV ad m c o.dst;exact la bf b8 n rest _ _ _ _ W hu J bb (cy.step (Ext.refl W))
     ·cases j
    ·rename_i ad i0 m z he;split at j
     ·rename_i bV;rw[bT] at bV;obtain⟨u,hu,rfl⟩:=map_some j;obtain⟨aH,a_⟩:=me aY.kn bb;rw[LX gD he aH];show wpList P ops Q rest (a.put o.dst _) W.w;have J:=Mi aY bV.1 ad i0 bV.2 z o.dst (tc (Mj aY bV.1 (fun v aB=>by cases aB)) (Mk aY bV.2 aH));exact la bf b8 n rest _ _ _ _ W hu J a_ (cy.step (Ext.refl W))
     ·cases j
    ·rename_i q rw cm b z vs he;split at j
     ·rename_i bV;simp only[bT] at bV;obtain⟨⟨⟨⟨ec,fc⟩,fS⟩,iQ⟩,hv⟩:=bV;obtain⟨u,hu,rfl⟩:=map_some j;obtain⟨aH,a_⟩:=me aY.kn bb;have oA:bC.ok {s with az:=jt s.kn s.az}=true:=uI ec;have n0:(0:Int)<=cm.i ρ:=by have:=aH.1;rw[r6] at this;exact of_decide_eq_true this
      have sf:cm.i ρ<q.n.i ρ:=of_decide_eq_true aH.2.1;obtain⟨w',W',aw,rfl,bM,bH⟩:=LF gD oA he fc n0 sf;rw[aw];have aI:Holds N W0 (ρ.push {L:=[hg (dF ρ q.xs) ((cm.i ρ).toNat*z+b) (af.b2 ρ vs)]}) (r7 s o.dst q rw) (a.put o.dst undef) W':=bH.qu (eJ.AN (AO aY ec) aY.len bH.az);exact la bf b8 n rest _ _ _ _ W' hu aI (a_ W' bM) (cy.step bM)
     ·cases j
    ·rename_i v he;obtain rfl:=bm j;rw[VC gD he];exact b8.mJ _ _ _ aY.iC (cO.CZ aY.ext) bb
    ·rename_i e he;split at j
     ·rename_i bV;rw[bT] at bV;obtain⟨u,hu,rfl⟩:=map_some j;obtain⟨el,aw⟩:=V_ gD he;rw[aw];have aA:cO (W.fz (qs ρ [])) (Lib.bytesWorld W.w el (e.t ρ)):=(cO.kA (Lib.bytesWorld_below W.w el (e.t ρ))).eP (V:=W.fz (qs ρ [])) rfl fun b I=>I.1
      obtain⟨lE,J⟩:=aY.r_ (d:={A:=[some ⟨W.w.heap.size,0,none⟩],N:=[grownCap W.w (e.t ρ).size 0 el]}) bV.1 (fun v aB=>by cases aB) (mu:=[]) rfl aA (fun b I=>by cases I)
      have fy:s.hp.map (qv [])=s.hp:=by
       have:∀l:List b4,l.map (qv [])=l:=fun l=>by
        induction l with
        |nil=>rfl
        |cons b l cF=>rw[jo,cF];rfl
       exact this _
      have ee:ρ.A.length=s.c.A:=by rw[<-aY.cT];rfl
      have Wf:ρ.N.length=s.c.N:=by rw[<-aY.cT];rfl
      have ev:(af.bt s.c.A (.un .len e) (.aW s.c.N)).ak (ρ.push {A:=[some ⟨W.w.heap.size,0,none⟩],N:=[grownCap W.w (e.t ρ).size 0 el]})= .slice (some ⟨W.w.heap.size,0,none⟩) (e.t ρ).size (grownCap W.w (e.t ρ).size 0 el):=by
       have g1:aR (ρ.A++[some (⟨W.w.heap.size,0,none⟩:Addr)]) s.c.A none=some ⟨W.w.heap.size,0,none⟩:=by rw[<-ee];exact lC _ _ _
       have g2:aR (ρ.N++[grownCap W.w (e.t ρ).size 0 el]) s.c.N 0=grownCap W.w (e.t ρ).size 0 el:=by rw[<-Wf];exact lC _ _ _
       have g3:=(E.push ρ {A:=[some ⟨W.w.heap.size,0,none⟩],N:=[grownCap W.w (e.t ρ).size 0 el]} e (by rw[aY.cT];exact bV.2)).2.2;simp only[af.ak,E.i,g3];show Value.slice (aR (ρ.A++[some (⟨W.w.heap.size,0,none⟩:Addr)]) s.c.A none) _ ((aR (ρ.N++[grownCap W.w (e.t ρ).size 0 el]) s.c.N 0:Nat):Int).toNat=_;rw[g1,g2];simp
      have an:=J.put o.dst (.slice (some ⟨W.w.heap.size,0,none⟩) (e.t ρ).size (grownCap W.w (e.t ρ).size 0 el)) (some (.bt s.c.A (.un .len e) (.aW s.c.N))) (fun y bE=>by obtain rfl:=bm bE;exact ev.symm);have bM:=W.kO lE;have qw:=W.C9 lE.size;have fr:W.w.heap.size<(Lib.bytesWorld W.w el (e.t ρ)).heap.size:=by rw[Lib.bytesWorld_size];omega
      rw[fy] at an;show wpList P ops Q rest (a.put o.dst _) (W.next _ lE.size).w;exact la bf b8 n rest _ _ _ _ _ hu an (bb W.w.heap.size (grownCap W.w (e.t ρ).size 0 el) (W.next _ lE.size) bM (qw _ (e9 _) fr) fr (fun aj cu=>Lib.bytesWorld_cell W.w el (e.t ρ) aj cu) (grownCap_ge _ _ _ _)) (cy.step bM)
     ·cases j
    ·cases j
variable {P:Program}
structure ey where
 i:Nat
 o:Oper
 x:Sum
 Wg:Bool
mutual
def Ha:af->Bool
 | .bool _| .int _ _| .str _| .db=>true
 | .agg l| .cU l=>Ml l
 |_=>false
def Ml:List af->Bool
 |[]=>true
 |s::l=>Ha s&&Ml l
end
mutual
def Mm:af->af
 | .bt _ _ _=>.db
 | .agg l=>.agg (Hb l)
 | .cU l=>.cU (Hb l)
 |s=>s
def Hb:List af->List af
 |[]=>[]
 |x::l=>Mm x::Hb l
end
def Mn (P:Program) (cf:ds) (f:FuncId) (ty:TypeId) (c:dj):Option (af×dj):=if cf.mc.contains f then(yz P ty c).map fun r=>(Mm r.1,r.2) else yz P ty c
def Wh (ops:Array Oper):Bool:=ops.toList.any fun o=>match o.op with| .nilCheck _=>true|_=>false
def wy (P:Program) (cf:ds) (ops:Array Oper) (o:Oper):Bool:=
 match o.op with
 | .alloc _| .box .. | .buildSlice .. | .makeSlice .. | .store .. | .panic _=>true
 | .load .. =>!cf.gT.isEmpty||(cf.fN&&Wh ops)
 | .call c=>match c.callee with
  | .builtin .append=>true
  | .builtin _=>false
  | .value (.func f)=>if cf.inl.contains f then false else(ds.re cf.mu f).isSome||(match Mn P cf f o.type {} with|some (s,_)=>!Ha s|none=>true)
  |_=>false
 |_=>false
def ib (P:Program) (cf:ds) (ops:Array Oper):Nat->List Oper->List ey
 |_,[]=>[]
 |k,o::l=>⟨k,o,jh ops o,wy P cf ops o⟩::ib P cf ops (k+1) l
theorem Mo {cf:ds} {ops:Array Oper}:∀(k:Nat) (l:List Oper) (it:ey),it∈ib P cf ops k l->∃aj,l[aj]? =some it.o∧it.i=k+aj∧it.x=jh ops it.o
 |_,[],_,h=>by cases h
 |k,o::l,it,h=>by
  rcases dh.1 h with e|e
  ·subst e;exact⟨0,rfl,rfl,rfl⟩
  ·obtain⟨aj,J,an,aI⟩:=Mo (k+1) l it e;exact⟨aj+1,J,by omega,aI⟩
theorem Mp {cf:ds} {ops:Array Oper}:∀(k:Nat) (l:List Oper),(ib P cf ops k l).length=l.length
 |_,[]=>rfl
 |k,o::l=>by simp[ib,Mp (k+1) l]
theorem Wi {cf:ds} {ops:Array Oper} (k:Nat) (l:List Oper) (it:ey) (h:it∈ib P cf ops k l):k<=it.i:=by
 obtain⟨aj,_,an,_⟩:=Mo k l it h;omega
theorem Mq {cf:ds} {ops:Array Oper}:∀(k:Nat) (l:List Oper),(ib P cf ops k l).Pairwise fun a b=>a.i≠b.i
 |_,[]=>List.Pairwise.nil
 |k,o::l=>by
  simp only[ib,od];refine⟨fun it h=>?_,Mq (k+1) l⟩;have:=Wi (k+1) l it h;show k≠it.i;omega
def AU (cz:Nat):List ey->Option ey->Option ey
 |[],d=>d
 |it::l,d=>if nd cz it.x then(if it.Wg then AU cz l (match d with|some e=>some e|none=>some it) else some it) else AU cz l d
theorem Hc {cz:Nat}:∀{l:List ey} {d:Option ey} {it:ey},AU cz l d=some it->(it∈l∧nd cz it.x=true)∨d=some it
 |[],d,it,h=>.inr h
 |a::l,d,it,h=>by
  simp only[AU] at h;split at h
  ·rename_i aw;split at h
   ·rcases Hc h with⟨J,an⟩|J
    ·exact .inl ⟨dq _ J,an⟩
    ·cases d with
     |none=>obtain rfl:=bm J;exact .inl ⟨c6 ..,aw⟩
     |some e=>exact .inr J
   ·obtain rfl:=bm h;exact .inl ⟨c6 ..,aw⟩
  ·rcases Hc h with⟨J,an⟩|J
   ·exact .inl ⟨dq _ J,an⟩
   ·exact .inr J
def gw (i:Nat):List ey->List ey
 |[]=>[]
 |it::l=>if Nat.beq it.i i then l else it::gw i l
theorem Hd (i:Nat):∀l:List ey,(gw i l).Sublist l
 |[]=>yb _
 |it::l=>by
  simp only[gw];split
  ·exact List.sublist_cons_self ..
  ·exact(Hd i l).cons_cons _
theorem He {i:Nat}:∀{l:List ey},(∃it∈l,it.i=i)->(gw i l).length+1=l.length
 |[],⟨_,h,_⟩=>by cases h
 |a::l,⟨it,h,e⟩=>by
  simp only[gw];split
  ·simp
  ·rename_i iA
   have:it∈l:=by
    rcases dh.1 h with bh|bh
    ·subst bh;exact absurd (by rw[e];exact Nat.beq_refl _) iA
    ·exact bh
   have:=He (i:=i) ⟨it,this,e⟩;simp only[e5];omega
theorem AV {i:Nat}:∀{l:List ey} {it:ey},it∈l->it.i≠i->it∈gw i l
 |[],_,h,_=>by cases h
 |a::l,it,h,iA=>by
  simp only[gw];split
  ·rename_i e;rcases dh.1 h with bh|bh
   ·subst bh;exact absurd (eE e) iA
   ·exact bh
  ·rcases dh.1 h with bh|bh
   ·subst bh;exact c6 ..
   ·exact dq _ (AV bh iA)
theorem Mr {i:Nat}:∀{l:List ey},l.Pairwise (fun a b=>a.i≠b.i)->∀it∈gw i l,it.i≠i
 |[],_,_,h=>by cases h
 |a::l,hp,it,h=>by
  rw[od] at hp;simp only[gw] at h;split at h
  ·rename_i e;have:=hp.1 it h;rw[<-eE e];exact fun bh=>this bh.symm
  ·rename_i e;rcases dh.1 h with bh|bh
   ·subst bh;exact fun c8=>e (by rw[c8];exact Nat.beq_refl _)
   ·exact Mr hp.2 it bh
def rp (it:ey) (others:List ey):Bool:=others.all fun y=>y.x.p.testBit it.i||GX it.x y.x
def Dy (cz:Nat) (others:List ey):Bool:=others.all fun y=>!nd cz y.x
def sg:Nat->List Oper->Nat
 |_,[]=>0
 |k,o::l=>if rm o.op then Nat.lor (sg (k+1) l) (2^k) else sg (k+1) l
def Hf (ops:Array Oper) (cz:Nat) (it:ey):Bool:=Nat.beq (Nat.land cz (Nat.lor it.x.p (sg 0 ops.toList))) cz
def uK (cf:ds) (s:bC):List b4:=s.hp.filter fun b=>!cf.gT.contains b.m
def Dz (cf:ds) (s:bC) (o:Op):List b4:=if rm o then [] else uK cf s++s.ro
def Ms (cf:ds) (inl:na) (f:FuncId) (args:List af) (s:bC):Option Tree:=
 match inl f args (uK cf s++s.ro) s.c with
 |some t=>if h_ s.c t then some t else none
 |none=>none
def Wj (cf:ds) (mu:List b4):Bool:=mu.all fun b=>cf.gT.contains b.m
def Hg (P:Program) (cf:ds) (hM:Nat->List ey->bC->(bC->Option Tree)->Option Tree) (cz:Nat) (rem:List ey) (it:ey) (s:bC) (K:bC->Option Tree):Option Tree:=
 match r4 P cf.ex (jt s.kn s.az) (s.hp++s.ro) s.kn it.o.op with
 |some (cs,v)=>(hM (Nat.lor cz (2^it.i)) rem {s with az:=eQ s.n s.az it.o.dst (some v),kn:=pM s.kn cs} K).map fun t=>lB s.kn cs (.grow t)
 |none=>
 match hy P {s with az:=jt s.kn s.az} it.o.op with
  |some (.new ty cs v)=>match C7 cf s.c ty v with
   |some m=>if s.ok&&af.l8 s.c cs then(hM (Nat.lor cz (2^it.i)) rem {s with az:=eQ s.n s.az it.o.dst (some (.bt s.c.A (.aE m) (.aE m))),c:=s.c.add {A:=1}} K).map fun t=>.grow (.s9 ty cs t) else none
   |none=>match C8 P cf s.c ty cs v with
    |some (m,z)=>if s.ok&&af.l8 s.c cs then(hM (Nat.lor cz (2^it.i)) rem (ia s it.o.dst (k6 ty z) s.rw (.aE m) (cs.map .s)) K).map fun t=>.grow (.eu (.aE m) t) else none
    |none=>if s.ok&&af.l8 s.c cs then(hM (Nat.lor cz (2^it.i)) rem {s with az:=eQ s.n s.az it.o.dst (some v),hp:=⟨s.c.M,ty,cs⟩::s.hp,c:=s.c.add {M:=1}} K).map fun t=>.grow (.new t) else none
  |some (.uz m cs)=>if cf.gT.contains m then(hM (Nat.lor cz (2^it.i)) rem {s with az:=eQ s.n s.az it.o.dst (some tb),hp:=ta s.hp m cs} K).map fun t=>.grow (.wr t) else none
  |some (.call f args)=>match ds.re cf.rws f with
   |some (cw,iD)=>match yz P it.o.type s.c with
    |some (dm,aJ)=>match Gx dm.flat iD aJ with
     |some (iB,bG)=>if s.ok&&cw.isEmpty then(hM (Nat.lor cz (2^it.i)) rem {s with az:=eQ s.n s.az it.o.dst (some dm),rw:=iB++s.rw,c:=s.c.add (bG.eP s.c)} K).map fun t=>.grow (.oi f args (mb (s.hp++s.ro) args) s.rw [] dm iB (bG.eP s.c) t) else none
     |none=>none
    |none=>none
   |none=>match yz P it.o.type s.c with
    |some (dm,aJ)=>match Gt P s.hp args ((ds.re cf.mu f).getD []) aJ with
     |some (mu,bG)=>
       if s.ok&&(Az s.hp mu&&Wj cf mu) then
        (hM (Nat.lor cz (2^it.i)) rem {s with az:=eQ s.n s.az it.o.dst (some dm),hp:=s.hp.map (qv mu),c:=s.c.add (bG.eP s.c)} K).map fun t=>.grow (.call f args (mb (s.hp++s.ro) args) s.rw mu dm (bG.eP s.c) t)
       else none
     |none=>none
    |none=>none
  |some (.eu r rw k xs b)=>if cf.fN&&(s.ok&&gq k&&gq r.n&&k.ok s.c&&xs.all (dV.ok s.c)&&r.ok s.c) then(hM (Nat.lor cz (2^it.i)) rem (ia s it.o.dst r rw k xs) K).map fun t=>lB s.kn [oq (ij r.n k) (.aE (ra b))] (.grow (.eu (ij r.n k) t)) else none
  |some (.v8 r rw aa k c b)=>if cf.fN&&(s.ok&&gq k&&gq c&&gq r.n&&k.ok s.c&&c.ok s.c&&aa<s.c.A&&r.ok s.c) then
    (hM (Nat.lor cz (2^it.i)) rem (ia {s with c:=s.c.add {L:=1}} it.o.dst r rw k [.l s.c.L]) K).map fun t=>lB s.kn [oq (ij r.n k) (.aE (ra b))] (.grow (.cells aa k c r.sz s.rw (.eu (ij r.n k) t))) else none
  |some (.j1 t p r)=>match uy P t s.c with
   |some (dm,bG)=>if s.ok then(hM (Nat.lor cz (2^it.i)) rem {s with az:=eQ s.n s.az it.o.dst (some dm),c:=s.c.add (bG.eP s.c)} K).map fun u=>.grow (.j1 t p dm r (bG.eP s.c) u) else none
   |none=>none
  |some (.cl t p)=>match uy P t s.c with
   |some (dm,bG)=>if s.ok then(hM (Nat.lor cz (2^it.i)) rem {s with az:=eQ s.n s.az it.o.dst (some dm),c:=s.c.add (bG.eP s.c)} K).map fun u=>.grow (.cl t p dm (bG.eP s.c) u) else none
   |none=>none
  |_=>none
def DA (P:Program) (s:bC):Op->Option (af×E×b3)
 | .call {callee:=.builtin .append,args:=args,argTypes:=ts}=>match args.toList,ts.toList with
  |[x,_],[t,_]=>match dU s.az x,P.underlying t with
   |some (.bt a k c),some (.slice el)=>if(pK s.rw (.bt a k c)).isNone&&(s.ok&&(gq k&&(af.bt a k c).ok s.c)) then(match s.rw.find? (fun r=>Nat.beq r.e el) with
    |some o5=>match pK s.rw o5.v with
     |some r=>some (.bt a k c,k,r)
     |none=>none
    |none=>none) else none
   |_,_=>none
  |_,_=>none
 |_=>none
def ka (s:bC) (v:af) (k:E) (r:b3):bC:={s with rw:=⟨v,k,r.e,r.sz,[.l s.c.L]⟩::o7 s.rw r.v,c:=s.c.add {L:=1}}
def DB (P:Program) (cf:ds) (hM:Nat->List ey->bC->(bC->Option Tree)->Option Tree) (cz:Nat) (rem:List ey) (it:ey) (s:bC) (K:bC->Option Tree):Option Tree:=
 match DA P s it.o.op with
 |some (v,jz,iG)=>match hy P {ka s v jz iG with az:=jt s.kn s.az} it.o.op with
  |some (.v8 r rw aa k c b)=>if cf.fN&&(bC.ok (ka s v jz iG)&&gq k&&gq c&&gq r.n&&k.ok (ka s v jz iG).c&&c.ok (ka s v jz iG).c&&aa<(ka s v jz iG).c.A&&r.ok (ka s v jz iG).c) then
    (hM (Nat.lor cz (2^it.i)) rem (ia {ka s v jz iG with c:=(ka s v jz iG).c.add {L:=1}} it.o.dst r rw k [.l (ka s v jz iG).c.L]) K).map fun t=>.pre v iG jz (lB s.kn [oq (ij r.n k) (.aE (ra b))] (.grow (.cells aa k c r.sz s.rw (.eu (ij r.n k) t)))) else none
  |_=>none
 |none=>Hg P cf hM cz rem it s K
def Mt (cz:Nat) (rem:List ey):List ey:=rem.filter fun y=>nd cz y.x
def DC (f:ey->Option Tree):List ey->Option Tree
 |[]=>none
 |[y]=>f y
 |y::z::l=>match f y,DC f (z::l) with
  |some a,some b=>some (.lP a b)
  |_,_=>none
def Mu (P:Program) (cf:ds) (ops:Array Oper) (hM:Nat->List ey->bC->(bC->Option Tree)->Option Tree) (cz:Nat) (rem:List ey) (s:bC) (K:bC->Option Tree) (it:ey):Option Tree:=
 match Ay ops s it.o with
 |some G=>if dec s.kn G=some true then DB P cf hM cz (gw it.i rem) it s K else none
 |none=>none
def sh (P:Program) (cf:ds) (ops:Array Oper) (hM:Nat->List ey->bC->(bC->Option Tree)->Option Tree) (cz:Nat) (rem:List ey) (it:ey) (s:bC) (K:bC->Option Tree):Option Tree:=
 if Dy cz (gw it.i rem) then DB P cf hM cz (gw it.i rem) it s K
 else if cf.fN then DC (Mu P cf ops hM cz rem s K) (Mt cz rem) else none
def kT (P:Program) (cf:ds) (inl:na) (ops:Array Oper) (bN:List Oper) (e3:List ey):Nat->Nat->List ey->bC->(bC->Option Tree)->Option Tree
 |_,_,[],s,K=>(j4 P cf inl ops cf.iR bN s K).map .grow
 |0,_,_::_,_,_=>none
 |n+1,cz,a::l,s,K=>
  match AU cz (a::l) none with
  |none=>none
  |some it=>
   match Ay ops s it.o with
   |none=>none
   |some G=>match dec s.kn G with
    |some false=>if rp it (gw it.i (a::l)++e3) then kT P cf inl ops bN e3 n (Nat.lor cz (2^it.i)) (gw it.i (a::l)) {s with az:=eQ s.n s.az it.o.dst (some tb)} K else none
    |none=>match r4 P cf.ex (jt (l9 G true s.kn) s.az) (Dz cf s it.o.op) (l9 G true s.kn) it.o.op with
     |some (cs,v)=>if rp it (gw it.i (a::l)++e3) then(kT P cf inl ops bN e3 n (Nat.lor cz (2^it.i)) (gw it.i (a::l)) {s with az:=eQ s.n s.az it.o.dst (some (.when G true v)),kn:=pM s.kn (cs.map (r2 (nX G)))} K).map (lB s.kn (cs.map (r2 (nX G)))) else none
     |none=>match kT P cf inl ops bN e3 n cz (a::l) {s with kn:=l9 G true s.kn} K,kT P cf inl ops bN e3 n cz (a::l) {s with kn:=l9 G false s.kn} K with
      |some a,some b=>some (.aC G a b)
      |_,_=>none
    |some true=>match r4 P cf.ex (jt s.kn s.az) (Dz cf s it.o.op) s.kn it.o.op with
     |some (cs,v)=>if rp it (gw it.i (a::l)++e3) then(kT P cf inl ops bN e3 n (Nat.lor cz (2^it.i)) (gw it.i (a::l)) {s with az:=eQ s.n s.az it.o.dst (some v),kn:=pM s.kn cs} K).map (lB s.kn cs) else none
     |none=>match hy P {s with az:=jt s.kn s.az} it.o.op with
      |some (.new _ _ _)=>sh P cf ops (kT P cf inl ops bN e3 n) cz (a::l) it s K
      |some (.uz _ _)=>sh P cf ops (kT P cf inl ops bN e3 n) cz (a::l) it s K
      |some (.call f args)=>match Ms cf inl f args s with
       |some t=>if rp it (gw it.i (a::l)++e3) then rf t s fun v s'=>kT P cf inl ops bN e3 n (Nat.lor cz (2^it.i)) (gw it.i (a::l)) {s' with az:=eQ s'.n s'.az it.o.dst (some v)} K else none
       |none=>match ds.re cf.rws f with
        |some _=>sh P cf ops (kT P cf inl ops bN e3 n) cz (a::l) it s K
        |none=>match Mn P cf f it.o.type s.c with
         |some (dm,aJ)=>
         if s.ok&&(Ha dm&&((ds.re cf.mu f).getD []).isEmpty&&rp it (gw it.i (a::l)++e3)&&!(cf.fN&&!s.rw.isEmpty)) then
          (kT P cf inl ops bN e3 n (Nat.lor cz (2^it.i)) (gw it.i (a::l)) {s with az:=eQ s.n s.az it.o.dst (some dm),c:=s.c.add (aJ.eP s.c)} K).map (.jZ f args (mb (uK cf s++s.ro) args) s.rw dm (aJ.eP s.c))
         else sh P cf ops (kT P cf inl ops bN e3 n) cz (a::l) it s K
         |none=>none
      |some (.cl t p)=>match uy P t s.c with
       |some (dm,bG)=>if s.ok&&rp it (gw it.i (a::l)++e3) then(kT P cf inl ops bN e3 n (Nat.lor cz (2^it.i)) (gw it.i (a::l)) {s with az:=eQ s.n s.az it.o.dst (some dm),c:=s.c.add (bG.eP s.c)} K).map (.cl t p dm (bG.eP s.c)) else none
       |none=>none
      |some (.j1 t p r)=>match uy P t s.c with
       |some (dm,bG)=>if s.ok&&rp it (gw it.i (a::l)++e3)&&!cf.fN then(kT P cf inl ops bN e3 n (Nat.lor cz (2^it.i)) (gw it.i (a::l)) {s with az:=eQ s.n s.az it.o.dst (some dm),c:=s.c.add (bG.eP s.c)} K).map (.j1 t p dm r (bG.eP s.c)) else sh P cf ops (kT P cf inl ops bN e3 n) cz (a::l) it s K
       |none=>none
      |some (.sub aa lo a8 c m z)=>if s.ok&&a8.ok s.c&&c.ok s.c&&rp it (gw it.i (a::l)++e3) then(kT P cf inl ops bN e3 n (Nat.lor cz (2^it.i)) (gw it.i (a::l)) (Gw s it.o.dst lo a8 c) K).map fun t=>lB s.kn (C5 lo a8 m) (.sub aa lo a8 c z t) else none
      |some (.m_ ad m c)=>if s.ok&&rp it (gw it.i (a::l)++e3) then(kT P cf inl ops bN e3 n (Nat.lor cz (2^it.i)) (gw it.i (a::l)) {s with az:=eQ s.n s.az it.o.dst (some (.bt s.c.A (.aE m) (.aE c))),c:=s.c.add {A:=1}} K).map (.m_ ad) else none
      |some (.eu _ _ _ _ _)=>sh P cf ops (kT P cf inl ops bN e3 n) cz (a::l) it s K
      |some (.v8 _ _ _ _ _ _)=>sh P cf ops (kT P cf inl ops bN e3 n) cz (a::l) it s K
      |some (.j0 q rw i b z vs)=>if Dy cz (gw it.i (a::l))&&((Hf ops cz it||cf.fN)&&(s.ok&&(q.ok s.c&&(i.ok s.c&&(af.l8 s.c vs&&gq q.n))))) then
        (kT P cf inl ops bN e3 n (Nat.lor cz (2^it.i)) (gw it.i (a::l)) (r7 s it.o.dst q rw) K).map fun t=>lB s.kn [oq (.aE 0) i,.aF .lt i q.n] (.grow (.j0 q.xs i b z vs t)) else none
      |some (.yA ad i m z)=>if s.ok&&i.ok s.c&&rp it (gw it.i (a::l)++e3) then(kT P cf inl ops bN e3 n (Nat.lor cz (2^it.i)) (gw it.i (a::l)) {s with az:=eQ s.n s.az it.o.dst (some (.b6 s.c.A i z 0)),c:=s.c.add {A:=1},kn:=pM s.kn (v_ i m)} K).map fun t=>lB s.kn (v_ i m) (.m_ ad t) else none
      |none=>sh P cf ops (kT P cf inl ops bN e3 n) cz (a::l) it s K
      |_=>none
structure lS (P:Program) (ops:Array Oper) (n g cz:Nat) (rem e3:List ey) (cx:Array Bool):Prop where
 Mv:Region.noSelect ops=true
 pb:rl ops cz cx
 low:∀o∈ops,∀e∈o.after,Region.binds .any e=true->e.on<ops.size
 tail:G2 ops n
 a8:∀aj,n<=aj->cz.testBit aj=false
 item:∀it∈rem,ops[it.i]? =some it.o∧it.x=jh ops it.o∧it.i<n∧cz.testBit it.i=false
 all:∀aj,aj<n->cz.testBit aj=true∨∃it∈rem,it.i=aj
 dc:rem.Pairwise fun a b=>a.i≠b.i
 e3:∀aj,n<=aj->aj<ops.size->∃y∈e3,y.i=aj∧ops[aj]? =some y.o∧y.x=jh ops y.o
 le:n<=ops.size
 seq:∀(a:Act) (w:World) (Q:Exit->Act->World->Prop) (fx:Array Bool) (wi:Nat),rl ops wi fx->(∀aj,aj<n->wi.testBit aj=true)->(∀aj,n<=aj->wi.testBit aj=false)->wpList P ops Q (ops.toList.drop n) a w->wpAny P .any ops Q g fx a w
theorem Hh (m i aj:Nat):(Nat.lor m (2^i)).testBit aj=(m.testBit aj||decide (i=aj)):=by
 show(m|||2^i).testBit aj=_;rw[ud,vE]
theorem lS.next {ops:Array Oper} {n g cz:Nat} {rem e3:List ey} {cx:Array Bool} (h:lS P ops n g cz rem e3 cx) {it:ey} (eh:it∈rem):lS P ops n g (Nat.lor cz (2^it.i)) (gw it.i rem) e3 (cx.setIfInBounds it.i true):=by
 obtain⟨J,an,aI,cc⟩:=h.item it eh;have fr:it.i<ops.size:=(fq.1 J).1;refine⟨h.Mv,h.pb.set fr,h.low,h.tail,fun aj cu=>?_,fun y bE=>?_,fun aj cu=>?_,h.dc.sublist (Hd _ _),h.e3,h.le,h.seq⟩
 ·rw[Hh,h.a8 aj cu,decide_eq_false (by omega)];rfl
 ·obtain⟨iH,dG,eK,dO⟩:=h.item y ((Hd _ _).subset bE);refine⟨iH,dG,eK,?_⟩;rw[Hh,dO,decide_eq_false (fun e=>Mr h.dc y bE e.symm)];rfl
 ·rw[Hh];rcases h.all aj cu with bu|⟨y,bE,rfl⟩
  ·left;rw[bu];rfl
  ·by_cases e:y.i=it.i
   ·left;rw[e];simp
   ·exact .inr ⟨y,AV bE e,rfl⟩
theorem lS.nd {ops:Array Oper} {n g cz:Nat} {rem e3:List ey} {cx:Array Bool} (h:lS P ops n g cz rem e3 cx) {it:ey} (eh:it∈rem) (aw:cK.nd cz it.x=true):it.i∈Region.ready .any ops cx:=by
 obtain⟨J,an,aI,cc⟩:=h.item it eh;rw[an] at aw;exact(Dr h.pb J (h.low it.o (Array.mem_of_getElem? J))).2 ⟨cc,aw⟩
theorem lS.quiet {ops:Array Oper} {Q:Exit->Act->World->Prop} {C:World->Prop} {n g cz:Nat} {rem e3:List ey} {cx:Array Bool} (h:lS P ops n g cz rem e3 cx) {it:ey} (eh:it∈rem) (aw:cK.nd cz it.x=true) (bg:rp it (gw it.i rem++e3)=true)
  (yQ:∀cD a d v w',Q (.panic cD) (Act.put a d v) w'->Q (.panic cD) a w') (sc:∀w w',C w->hn w w'->C w') {a:Act} {w:World} {v:Value} (hC:C w) (bE:nE P ops (fun w=>rm it.o.op=true∨C w) it.o v a) {f:Nat}
  (cy:jx P ops Q C n g f (cx.setIfInBounds it.i true) (a.put it.o.dst v) w):jx P ops Q C n g (f+1) cx a w:=by
 obtain⟨J,an,aI,cc⟩:=h.item it eh;refine VZ J aI (Region.noSelect_spec h.Mv) h.tail (fun c a w=>yQ c a _ _ w) f C sc cz cx a w h.pb h.a8 ?_ (h.nd eh aw) bE hC cy;intro aj e_ cu iA pQ gv;have pc:aj<ops.size:=(fq.1 cu).1;rw[h.pb.getD pc] at pQ
 have key:∀y:ey,y∈gw it.i rem++e3->y.i=aj->ops[aj]? =some y.o->y.x=jh ops y.o->it.o.apart ops e_=true:=fun y bE e bc j=>by
  have:=ep.1 bg y bE;obtain rfl:e_=y.o:=bm (cu.symm.trans bc);rw[j,an] at this;rcases h8 _ _▸this with bu|bu
  ·obtain⟨a7,he,I,wv⟩:=uE.1 bu;exact absurd wv (gv a7 he I)
  ·exact VS bu
 rcases pH aj n with k3|k3
 ·rcases h.all aj k3 with bu|⟨y,bE,rfl⟩
  ·rw[bu] at pQ;cases pQ
  ·exact key y (ua _ (AV bE iA)) rfl (h.item y bE).1 (h.item y bE).2.1
 ·obtain⟨y,bE,e,bc,j⟩:=h.e3 aj k3 pc;exact key y (ub _ bE) e bc j
theorem lS.Mw {ops:Array Oper} {Q:Exit->Act->World->Prop} {C:World->Prop} {n g cz:Nat} {rem e3:List ey} {cx:Array Bool} (h:lS P ops n g cz rem e3 cx) {it:ey} (eh:it∈rem) (aw:cK.nd cz it.x=true) (bg:Dy cz (gw it.i rem)=true)
  {a:Act} {w:World} (hw:Region.wanted it.o (yielded ops a.tmps)=true) {f:Nat}
  (cy:∀w',hn w w'->it.o.wp P a w' (fun bB iE=>C iE∧jx P ops Q C n g f (cx.setIfInBounds it.i true) bB iE) Q):jx P ops Q C n g (f+1) cx a w:=by
 obtain⟨J,an,aI,cc⟩:=h.item it eh;refine V1 (i:=it.i) (fun aj=>⟨fun cu=>?_,fun e=>e▸h.nd eh aw⟩) aI fun w' dx=>?_
 ·have k3:=AL h.tail h.pb h.a8 aI (fq.1 J).1 cc cu;obtain⟨e_,ir⟩:∃e_,ops[aj]? =some e_:=by obtain⟨_,e_,ir,_⟩:=mem_ready.1 cu;exact⟨e_,ir⟩
  have qF:=(Dr h.pb ir (h.low e_ (Array.mem_of_getElem? ir))).1 cu;rcases h.all aj k3 with bu|⟨y,bE,rfl⟩
  ·rw[qF.1] at bu;cases bu
  ·by_cases e:y.i=it.i
   ·exact e
   ·exfalso;have:=ep.1 bg y (AV bE e);obtain⟨iH,dG,_,_⟩:=h.item y bE;obtain rfl:y.o=e_:=bm (iH.symm.trans ir);rw[dG,qF.2] at this;cases this
 ·unfold wpOp;simp only[J,hw,if_true];exact .inl (cy w' dx)
theorem Mx:∀(l:List Oper) (n k:Nat),(sg n l).testBit k=true->n<=k∧∃o,l[k-n]? =some o∧rm o.op=true
 |[],n,k,h=>by simp[sg] at h
 |o::l,n,k,h=>by
  simp only[sg] at h
  have My:(sg (n+1) l).testBit k=true->n<=k∧∃hb,(o::l)[k-n]? =some hb∧rm hb.op=true:=fun h=>by
   obtain⟨J,hb,an,aI⟩:=Mx l (n+1) k h;exact⟨by omega,hb,by rw[show k-n=(k-(n+1))+1 from by omega,rZ];exact an,aI⟩
  split at h
  ·rename_i bs;have h:(sg (n+1) l|||2^n).testBit k=true:=h;rw[ud,vE,h8] at h;rcases h with h|h
   ·exact My h
   ·obtain rfl:n=k:=of_decide_eq_true h;exact⟨e9 _,o,by simp,bs⟩
  ·exact My h
theorem lS.Wk {ops:Array Oper} {Q:Exit->Act->World->Prop} {C:World->Prop} {n g cz:Nat} {rem e3:List ey} {cx:Array Bool} (h:lS P ops n g cz rem e3 cx) {it:ey} (eh:it∈rem) (aw:cK.nd cz it.x=true) (bg:Dy cz (gw it.i rem)=true) (I:Hf ops cz it=true)
  {a:Act} {w:World} (hw:Region.wanted it.o (yielded ops a.tmps)=true) {f:Nat}
  (cy:∀w',hn w w'->it.o.wp P a w' (fun bB iE=>∃kR:World->Prop,kR iE∧(∀w w',kR w->hn w w'->kR w')∧jx P ops Q kR n g f (cx.setIfInBounds it.i true) bB iE) Q):jx P ops Q C n g (f+1) cx a w:=by
 obtain⟨J,an,aI,cc⟩:=h.item it eh;refine V2 (i:=it.i) (fun aj=>⟨fun cu=>?_,fun e=>e▸h.nd eh aw⟩) aI ⟨it.o,J,fun k aA=>?_⟩ fun w' dx=>?_
 ·have k3:=AL h.tail h.pb h.a8 aI (fq.1 J).1 cc cu;obtain⟨e_,ir⟩:∃e_,ops[aj]? =some e_:=by obtain⟨_,e_,ir,_⟩:=mem_ready.1 cu;exact⟨e_,ir⟩
  have qF:=(Dr h.pb ir (h.low e_ (Array.mem_of_getElem? ir))).1 cu;rcases h.all aj k3 with bu|⟨y,bE,rfl⟩
  ·rw[qF.1] at bu;cases bu
  ·by_cases e:y.i=it.i
   ·exact e
   ·exfalso;have:=ep.1 bg y (AV bE e);obtain⟨iH,dG,_,_⟩:=h.item y bE;obtain rfl:y.o=e_:=bm (iH.symm.trans ir);rw[dG,qF.2] at this;cases this
 ·have DD:k<ops.size:=by
   rw[<-h.pb.1];rw[mF] at aA;cases e:cx[k]? with
   |none=>rw[e] at aA;cases aA
   |some b=>exact(fq.1 e).1
  have hm:cz.testBit k=true:=by
   have:=h.pb.2 k DD;rw[mF,this] at aA;exact aA
  have bu:(cz&&&(it.x.p|||sg 0 ops.toList)).testBit k=true:=by
   show(Nat.land cz (Nat.lor it.x.p (sg 0 ops.toList))).testBit k=true;rw[eE I];exact hm
  rw[Nat.testBit_and,bT,ud,h8] at bu;rcases bu.2 with hs|hs
  ·rw[an] at hs;exact .inl (uE.1 hs)
  ·right;have:=Mx ops.toList 0 k hs;obtain⟨_,o,bc,bs⟩:=this;exact⟨o,by rw[<-Array.getElem?_toList];simpa using bc,bs⟩
 ·unfold wpOp;simp only[J,hw,if_true];exact .inl (cy w' dx)
def al.at (W:al) (w':World) (h:cO W w'):al:=⟨w',W.aV,fun b I=>lv (W.lt b I) h.size⟩
theorem al.Mz (W:al) {w':World} (h:cO W w'):Ext W (W.at w' h):=⟨h.size,fun _ I=>I,h.du,h.os,h.tape,h.output⟩
structure kb (cf:ds) (ρ:aX) (s:bC) (W V:al):Prop where
 hB:cO V W.w
 sz:W.w.heap.size<=V.w.heap.size
 sub:∀b,W.aV b->V.aV b
 hp:∀b∈uK cf s,V.aV (aR ρ.M b.m 0)
 rw:cf.fN=false->∀r∈s.rw,∀k,dk ρ r=some k->V.aV k
 mN:∀b∈s.hp,cf.gT.contains b.m=true->¬V.aV (aR ρ.M b.m 0)
 lT:cf.fN=true->∀r∈s.rw,∀k,dk ρ r=some k->¬V.aV k
theorem cO.hZ {V:al} {w w':World} (h:cO V w) (k:hn w w'):cO V w':=
 ⟨k.os.trans h.os,k.tape.trans h.tape,k.output.trans h.output,iz h.size k.size,fun b I=>(k.block b (lv (V.lt b I) h.size)).trans (h.du b I)⟩
theorem kb.DE {cf:ds} {ρ:aX} {s:bC} {W V:al} (aH:kb cf ρ s W V) {w':World} (hw:cO V w') {b:Nat} (I:V.aV b):w'.heap[b]? =W.w.heap[b]? :=(hw.du b I).trans (aH.hB.du b I).symm
theorem kb.du {cf:ds} {ρ:aX} {s:bC} {W V:al} (aH:kb cf ρ s W V) {w':World} (hw:cO V w'):cO W w':=
 ⟨hw.os.trans aH.hB.os.symm,hw.tape.trans aH.hB.tape.symm,hw.output.trans aH.hB.output.symm,iz aH.sz hw.size,fun b I=>aH.DE hw (aH.sub b I)⟩
theorem Hi {cf:ds} {N:Nat} {W0:al} {ρ:aX} {s:bC} {a:Act} {W V:al} (h:Holds N W0 ρ s a W) (aH:kb cf ρ s W V) {w':World} (hw:cO V w'):fA ρ (uK cf s++s.ro) w':=
 se (fA.du (fun b I=>h.hp b (lJ.1 I).1) fun b I=>aH.DE hw (aH.hp b I)) (h.ro.du fun b I=>aH.DE hw (aH.sub _ (h.ext.sub _ (h.iP b I))))
theorem Wl {s:bC} {op:Op} (bs:rm op=true) {e:pL} (h:hy P s op=some e):(∃ad i m z,e= .yA ad i m z)∨∃x,e= .q9 x:=by
 cases op<;>simp only[rm,rX] at bs<;>simp only[hy] at h<;>try (cases h;done)
 case indexAddr=>
  left;split at h
  ·split at h
   ·exact⟨_,_,_,_,(bm h).symm⟩
   ·cases h
  ·cases h
 case convert=>
  right;split at h
  ·split at h
   ·exact⟨_,(bm h).symm⟩
   ·cases h
  ·cases h
theorem DF {s:bC} {op:Op} {e:pL} (h:hy P s op=some e) (cB:∀ad i m z,e≠ .yA ad i m z) (I:∀x,e≠ .q9 x) {p:Prop} (hp:rm op=true∨p):p:=
 hp.resolve_left fun bs=>by
  rcases Wl bs h with⟨ad,i,m,z,a7⟩|⟨x,a7⟩
  ·exact cB _ _ _ _ a7
  ·exact I _ a7
theorem MA {cf:ds} {N:Nat} {W0:al} {ρ:aX} {s:bC} {a:Act} {W V:al} (h:Holds N W0 ρ s a W) (aH:kb cf ρ s W V) {w':World} {o:Op} (hw:rm o=true∨cO V w'):fA ρ (Dz cf s o) w':=by
 unfold Dz;rcases hw with hw|hw
 ·rw[if_pos hw];exact fun b I=>by cases I
 ·split
  ·exact fun b I=>by cases I
  ·exact Hi h aH hw
theorem MB {cf:ds} {N:Nat} {W0:al} {ρ:aX} {s:bC} {a:Act} {W V:al} (h:Holds N W0 ρ s a W) (aH:kb cf ρ s W V) {w':World} (hw:cO V w') (j:cf.fN=false):hR N ρ s.rw w':=fun r aw=>(h.rw r aw).du fun k aA=>aH.DE hw (aH.rw j r aw k aA)
theorem Wm {cf:ds} {N:Nat} {W0:al} {ρ:aX} {s:bC} {a:Act} {W V:al} (h:Holds N W0 ρ s a W) (aH:kb cf ρ s W V) {w':World} (hw:cO V w') (j:(!(cf.fN&&!s.rw.isEmpty))=true):hR N ρ s.rw w':=by
 cases e:cf.fN
 ·exact MB h aH hw e
 ·rw[e] at j;have:s.rw=[]:=by simpa using j
  rw[this];exact fun r aw=>by cases aw
theorem kb.push {cf:ds} {N:Nat} {W0:al} {ρ d:aX} {s:bC} {a:Act} {W V:al} (aH:kb cf ρ s W V) (h:Holds N W0 ρ s a W) (bc:s.ok=true) {s':bC} (a7:s'.hp=s.hp) (bh:s'.rw=s.rw):kb cf (ρ.push d) s' W V:=by
 simp only[bC.ok,bT] at bc
 have gK:∀b∈s.hp,aR (ρ.push d).M b.m 0=aR ρ.M b.m 0:=fun b I=>by
  have:=ep.1 bc.1.1.1.2 b I;simp only[b4.ok,bT] at this;exact o6 (by rw[h.cT];exact of_decide_eq_true this.1)
 refine⟨aH.hB,aH.sz,aH.sub,fun b I=>?_,fun j r aw k aA=>?_,fun b I hm=>?_,fun j r aw k aA=>?_⟩
 ·unfold uK at I;rw[a7] at I;rw[gK b (lJ.1 I).1];exact aH.hp b I
 ·rw[bh] at aw;rw[qt (by rw[h.cT];exact ep.1 bc.1.2 r aw)] at aA;exact aH.rw j r aw k aA
 ·rw[a7] at I;rw[gK b I];exact aH.mN b I hm
 ·rw[bh] at aw;rw[qt (by rw[h.cT];exact ep.1 bc.1.2 r aw)] at aA;exact aH.lT j r aw k aA
theorem kb.eb {cf:ds} {ρ:aX} {s s':bC} {W V:al} (aH:kb cf ρ s W V) (a7:s'.hp=s.hp) (bh:s'.rw=s.rw):kb cf ρ s' W V:=
 ⟨aH.hB,aH.sz,aH.sub,fun b I=>aH.hp b (by unfold uK at*;rw[<-a7];exact I),fun j r aw=>aH.rw j r (by rw[<-bh];exact aw),fun b I=>aH.mN b (by rw[<-a7];exact I),fun j r aw=>aH.lT j r (by rw[<-bh];exact aw)⟩
def ms (cf:ds) (ρ:aX) (s:bC):List Nat:=qs ρ (s.hp.filter fun b=>cf.gT.contains b.m)
theorem DG {cf:ds} {ρ:aX} {s:bC} {k:Nat} (h:k∈ms cf ρ s):∃b∈s.hp,cf.gT.contains b.m=true∧aR ρ.M b.m 0=k:=by
 obtain⟨b,I,rfl⟩:=h7.1 h;obtain⟨J,an⟩:=lJ.1 I;exact⟨b,J,an,rfl⟩
def AW (cf:ds) (ρ:aX) (s:bC):List Nat:=if cf.fN then iO ρ s.rw else []
theorem DH {cf:ds} {ρ:aX} {s:bC} {k:Nat} (h:k∈AW cf ρ s):cf.fN=true∧∃r∈s.rw,dk ρ r=some k:=by
 unfold AW at h;split at h
 ·rename_i j;exact⟨j,nB.1 h⟩
 ·cases h
theorem n1 {cf:ds} {N:Nat} {W0:al} {ρ:aX} {s:bC} {a:Act} {W:al} (h:Holds N W0 ρ s a W):kb cf ρ s W (W.fz (ms cf ρ s++AW cf ρ s)):=by
 refine⟨⟨rfl,rfl,rfl,e9 _,fun _ _=>rfl⟩,e9 _,fun b I=>⟨W.lt b I,fun hm=>?_⟩,fun b I=>⟨h.hp.lt (lJ.1 I).1,fun hm=>?_⟩,fun j r aw k aA=>⟨((h.rw r aw).lt aA).2,fun hm=>?_⟩,fun b I hm bf=>bf.2 (ua _ ?_),fun j r aw k aA bf=>bf.2 (ub _ ?_)⟩
 ·rcases mE.1 hm with hm|hm
  ·obtain⟨x,j,_,rfl⟩:=DG hm;exact h.own x j I
  ·obtain⟨_,r,aw,aA⟩:=DH hm;exact(h.gS r aw b aA).1 I
 ·rcases mE.1 hm with hm|hm
  ·obtain⟨x,j,aH,e⟩:=DG hm;obtain⟨fk,kx⟩:=lJ.1 I;refine Df h.dc j fk (fun bh=>?_) e;rw[bh] at aH;rw[aH] at kx;cases kx
  ·obtain⟨_,r,aw,aA⟩:=DH hm;exact(h.gS r aw _ aA).2 b (lJ.1 I).1 rfl
 ·rcases mE.1 hm with hm|hm
  ·obtain⟨x,j,_,e⟩:=DG hm;exact(h.gS r aw k aA).2 x j e
  ·have:=(DH hm).1;rw[j] at this;cases this
 ·exact h7.2 ⟨b,lJ.2 ⟨I,hm⟩,rfl⟩
 ·unfold AW;rw[if_pos j];exact nB.2 ⟨r,aw,aA⟩
theorem pS {cf:ds} {ρ ρ':aX} {s s':bC} {W V W':al} (aH:kb cf ρ s W V) (aA:cO V W'.w) (cB:∀b∈s'.hp,cf.gT.contains b.m=true->¬V.aV (aR ρ'.M b.m 0)) (aw:cf.fN=true->∀r∈s'.rw,∀k,dk ρ' r=some k->¬V.aV k):∀w,cO (W'.fz (ms cf ρ' s'++AW cf ρ' s')) w->cO V w:=by
 intro w h;refine⟨h.os.trans aA.os,h.tape.trans aA.tape,h.output.trans aA.output,iz aA.size h.size,fun b I=>(h.du b ⟨lv (V.lt b I) aA.size,fun hm=>?_⟩).trans (aA.du b I)⟩;rcases mE.1 hm with hm|hm
 ·obtain⟨x,j,Dl,rfl⟩:=DG hm;exact cB x j Dl I
 ·obtain⟨j,r,om,jg⟩:=DH hm;exact aw j r om b jg I
theorem wz {ops:Array Oper} {C:World->Prop} {o:Oper} {v:Value} {a:Act} (hw:Region.wanted o (yielded ops a.tmps)=true) (h:∀w,C w->(execOp a.eval o).run P w= .ok (.value v) w):nE P ops C o v a:=
 .inl ⟨hw,fun w hC=>by unfold Oper.quietAt;rw[h w hC];exact⟨rfl,rfl⟩⟩
theorem Wn {cf:ds} {N:Nat} {W0:al} {R:Ending->World->Prop} {L:ha} {ops:Array Oper} {Q:Exit->Act->World->Prop} (b8:k_ W0 R Q) {K:bC->Option Tree} {ar g:Nat} {e3:List ey} {hM:Nat->List ey->bC->(bC->Option Tree)->Option Tree}
  (nF:∀(cz:Nat) (rem:List ey) (s:bC) (t:Tree) (ρ:aX) (a:Act) (W V:al) (cx:Array Bool),hM cz rem s K=some t->Holds N W0 ρ s a W->t.ak P N R L ρ W->
   ng P N W0 R L ρ W s.fh K (Q .normal)->lS P ops ar g cz rem e3 cx->kb cf ρ s W V->jx P ops Q (fun w'=>cO V w') ar g rem.length cx a W.w)
  {cz:Nat} {rem:List ey} {it:ey} {s:bC} {t:Tree} {ρ:aX} {a:Act} {W V:al} {AX:Array Bool} (j:Hg P cf hM cz rem it s K=some t) (aY:Holds N W0 ρ s a W) (bb:t.ak P N R L ρ W)
  (cy:ng P N W0 R L ρ W s.fh K (Q .normal)) (jL:lS P ops ar g (Nat.lor cz (2^it.i)) rem e3 AX) (aH:kb cf ρ s W V):
  ∀w',hn W.w w'->it.o.wp P a w' (fun bB iE=>cO V iE∧jx P ops Q (fun w'=>cO V w') ar g rem.length AX bB iE) Q:=by
 have gD:Holds N W0 ρ {s with az:=jt s.kn s.az} a W:=aY.qu (s6 aY.az aY.kn);simp only[Hg] at j;split at j
 ·rename_i cs v aB;obtain⟨u,hu,rfl⟩:=map_some j;obtain⟨j5,a_⟩:=me aY.kn bb;intro w' dx;have aA:cO W.all w':=cO.kA dx;have fa:=W.kO aA.all;have fO:=aY.grow aA;have mg:=a_ _ fa;have a7:(W.next w' aA.size).w=w':=rfl;rw[<-a7] at dx ⊢;generalize W.next w' aA.size=W1 at*
  have aw:=vZ aB fO.ew (s6 fO.az fO.kn) (se fO.hp fO.ro) fO.kn j5;unfold Oper.wp;rw[aw];have an:=(fO.put it.o.dst (v.ak ρ) (some v) (fun y bE=>by obtain rfl:=bm bE;rfl)).ux (tc fO.kn j5);have ct:cO V W1.w:=aH.hB.hZ dx;refine⟨ct,o9 (pS (cf:=cf) (W':=W1) (ρ':=ρ) (s':={s with az:=eQ s.n s.az it.o.dst (some v),kn:=pM s.kn cs}) aH ct aH.mN aH.lT) _ _ _ _ ?_⟩;exact nF _ _ _ _ ρ _ _ _ _ hu an mg (cy.lR fa) jL (n1 an)
 split at j
 ·rename_i ty cs v he;split at j
  ·rename_i m jH;split at j
   ·rename_i bV;simp only[bT] at bV;obtain⟨u,hu,rfl⟩:=map_some j;intro w' dx;have aA:cO W.all w':=cO.kA dx;have fa:=W.kO aA.all;have fO:=aY.grow aA;have jM:=gD.grow aA;have mg:=bb _ fa;have a7:(W.next w' aA.size).w=w':=rfl;rw[<-a7] at dx ⊢;generalize W.next w' aA.size=W1 at*
    have gK:ρ.M.length=s.c.M:=by rw[<-aY.cT];rfl
    have mM:aR (ρ.push {M:=[W1.w.heap.size]}).M s.c.M 0=W1.w.heap.size:=by
     show aR (ρ.M++[W1.w.heap.size]) s.c.M 0=_;rw[<-gK];exact lC _ _ _
    unfold Oper.wp;rw[yI jM he mM]
    have ev:v.ak (ρ.push {M:=[W1.w.heap.size]})= .slice (some ⟨W1.w.heap.size,0,none⟩) m m:=by
     rw[Lo jH];simp only[af.ak,mM]
    rw[ev];have an:=fO.s9 bV.1 ty cs m it.o.dst;have bM:=W1.yC (.cells (af.b2 ρ cs).toArray ty);have aI:=mg W1.w.heap.size _ fO.q_ bM (.inr rfl) (by show(W1.w.heap.push _)[W1.w.heap.size]? =_;simp);have ct:cO V (W1.td (.cells (af.b2 ρ cs).toArray ty)).w:=(aH.hB.hZ dx).hZ (Below.alloc (Below.refl _ _) (e9 _) _);have nG:∀b∈s.hp,cf.gT.contains b.m=true->¬V.aV (aR (ρ.push {A:=[some ⟨W1.w.heap.size,0,none⟩]}).M b.m 0):=fun b I hm=>(aH.push (d:={A:=[some ⟨W1.w.heap.size,0,none⟩]}) (s':=s) aY bV.1 rfl rfl).mN b I hm
    refine⟨ct,o9 (pS (cf:=cf) (ρ':=ρ.push {A:=[some ⟨W1.w.heap.size,0,none⟩]}) (s':={s with az:=eQ s.n s.az it.o.dst (some (.bt s.c.A (.aE m) (.aE m))),c:=s.c.add {A:=1}}) aH ct nG (aH.push (d:={A:=[some ⟨W1.w.heap.size,0,none⟩]}) (s':=s) aY bV.1 rfl rfl).lT) _ _ _ _ ?_⟩;exact nF _ _ _ _ _ _ _ _ _ hu an aI (cy.step (fa.trans bM)) jL (n1 an)
   ·cases j
  split at j
  ·rename_i m z rn;split at j
   ·rename_i bV;simp only[bT] at bV;obtain⟨u,hu,rfl⟩:=map_some j;obtain⟨G_,pP,iT,rj⟩:=Lp rn;intro w' dx;have aA:cO W.all w':=cO.kA dx;have fa:=W.kO aA.all;have fO:=aY.grow aA;have jM:=gD.grow aA;have mg:=bb _ fa;have a7:(W.next w' aA.size).w=w':=rfl;rw[<-a7] at dx ⊢;generalize W.next w' aA.size=W1 at*
    have gK:ρ.M.length=s.c.M:=by rw[<-aY.cT];rfl
    have mM:aR (ρ.push {M:=[W1.w.heap.size]}).M s.c.M 0=W1.w.heap.size:=by
     show aR (ρ.M++[W1.w.heap.size]) s.c.M 0=_;rw[<-gK];exact lC _ _ _
    unfold Oper.wp;rw[yI jM he mM]
    have ev:v.ak (ρ.push {M:=[W1.w.heap.size]})= .slice (some ⟨W1.w.heap.size,0,none⟩) m m:=by
     rw[G_];simp only[af.ak,mM]
    rw[ev];obtain⟨W',bh,bM,an⟩:=fO.LP bV.1 ty cs bV.2 rj iT pP it.o.dst;have aI:=mg (some ⟨W1.w.heap.size,0,none⟩) m W' (fun _=>rfl) bM;have ct:cO V W'.w:=by rw[bh];exact(aH.hB.hZ dx).hZ (Below.alloc (Below.refl _ _) (e9 _) _)
    have nG:∀b∈s.hp,cf.gT.contains b.m=true->¬V.aV (aR (ρ.push {A:=[some ⟨W1.w.heap.size,0,none⟩],N:=[m]}).M b.m 0):=fun b I hm=>(aH.push (d:={A:=[some ⟨W1.w.heap.size,0,none⟩],N:=[m]}) (s':=s) aY bV.1 rfl rfl).mN b I hm
    have rq:cf.fN=true->∀r∈(ia s it.o.dst (k6 ty z) s.rw (.aE m) (cs.map .s)).rw,∀k,dk (ρ.push {A:=[some ⟨W1.w.heap.size,0,none⟩],N:=[m]}) r=some k->¬V.aV k:=fun j r aw k qG bf=>by
     rcases dh.1 aw with bu|bu
     ·subst bu
      have ee:aR (ρ.push {A:=[some ⟨W1.w.heap.size,0,none⟩],N:=[m]}).A s.c.A none=some ⟨W1.w.heap.size,0,none⟩:=by
       show aR (ρ.A++[some ⟨W1.w.heap.size,0,none⟩]) s.c.A none=_;rw[<-aY.cT];exact lC _ _ _
      unfold dk at qG;simp only[af.ak,ee,Value.ownBlock,nT] at qG;have k7:=V.lt _ bf;have nC:=(aH.hB.hZ dx).size;omega
     ·exact(aH.push (d:={A:=[some ⟨W1.w.heap.size,0,none⟩],N:=[m]}) (s':=s) aY bV.1 rfl rfl).lT j r bu k qG bf
    show cO V (W1.w.alloc _)∧jx P ops Q (fun w'=>cO V w') ar g _ _ _ (W1.w.alloc _);rw[<-bh];refine⟨ct,o9 (pS (cf:=cf) (W':=W') (ρ':=ρ.push {A:=[some ⟨W1.w.heap.size,0,none⟩],N:=[m]}) (s':=ia s it.o.dst (k6 ty z) s.rw (.aE m) (cs.map .s)) aH ct nG rq) _ _ _ _ ?_⟩;exact nF _ _ _ _ _ _ _ _ _ hu an aI (cy.step (fa.trans bM)) jL (n1 an)
   ·cases j
  split at j
  ·rename_i bV;simp only[bT] at bV;obtain⟨u,hu,rfl⟩:=map_some j;intro w' dx;have aA:cO W.all w':=cO.kA dx;have fa:=W.kO aA.all;have fO:=aY.grow aA;have jM:=gD.grow aA;have mg:=bb _ fa;have a7:(W.next w' aA.size).w=w':=rfl;rw[<-a7] at dx ⊢;generalize W.next w' aA.size=W1 at*
   have gK:ρ.M.length=s.c.M:=by rw[<-aY.cT];rfl
   have mM:aR (ρ.push {M:=[W1.w.heap.size]}).M s.c.M 0=W1.w.heap.size:=by
    show aR (ρ.M++[W1.w.heap.size]) s.c.M 0=_;rw[<-gK];exact lC _ _ _
   unfold Oper.wp;rw[yI jM he mM];have J:=fO.new bV.1 ty cs bV.2;have an:=J.put it.o.dst (v.ak (ρ.push {M:=[W1.w.heap.size]})) (some v) (fun y bE=>by obtain rfl:=bm bE;rfl);have bM:=W1.C_ (.cells (af.b2 ρ cs).toArray ty);have aI:=mg W1.w.heap.size _ fO.q_ bM;have ct:cO V (W1.plus (.cells (af.b2 ρ cs).toArray ty)).w:=(aH.hB.hZ dx).hZ (Below.alloc (Below.refl _ _) (e9 _) _)
   have nG:∀b∈(⟨s.c.M,ty,cs⟩::s.hp:List b4),cf.gT.contains b.m=true->¬V.aV (aR (ρ.push {M:=[W1.w.heap.size]}).M b.m 0):=fun b I hm bf=>by
    rcases dh.1 I with e|e
    ·subst e;rw[mM] at bf;have cc:=V.lt _ bf;have bu:=(aH.hB.hZ dx).size;omega
    ·exact(aH.push (d:={M:=[W1.w.heap.size]}) (s':=s) aY bV.1 rfl rfl).mN b e hm bf
   refine⟨ct,o9 (pS (cf:=cf) (ρ':=ρ.push {M:=[W1.w.heap.size]}) (s':={s with az:=eQ s.n s.az it.o.dst (some v),hp:=⟨s.c.M,ty,cs⟩::s.hp,c:=s.c.add {M:=1}}) aH ct nG (aH.push (d:={M:=[W1.w.heap.size]}) (s':=s) aY bV.1 rfl rfl).lT) _ _ _ _ ?_⟩;exact nF _ _ _ _ _ _ _ _ _ hu an aI (cy.step (fa.trans bM)) jL (n1 an)
  ·cases j
 ·rename_i m cs he;split at j
  ·rename_i bV;obtain⟨u,hu,rfl⟩:=map_some j;intro w' dx;have aA:cO W.all w':=cO.kA dx;have fa:=W.kO aA.all;have fO:=aY.grow aA;have jM:=gD.grow aA;have mg:=bb _ fa;have a7:(W.next w' aA.size).w=w':=rfl;rw[<-a7] at dx ⊢;generalize W.next w' aA.size=W1 at*
   unfold Oper.wp;obtain⟨⟨b,I⟩,pT⟩:=LB jM he;rw[pT];obtain⟨bk,J⟩:=fO.uz I cs;have an:=J.put it.o.dst undef (some tb) (fun y bE=>by obtain rfl:=bm bE;rfl);obtain⟨MC,MD⟩:=mH I;have Hj:¬V.aV (aR ρ.M m 0):=by rw[<-MD];exact aH.mN b MC (by rw[MD];exact bV)
   have ct:cO V (W1.row (aR ρ.M m 0) (af.b2 ρ cs).toArray).w:=by
    have aI:=aH.hB.hZ dx;refine⟨aI.os,aI.tape,aI.output,?_,fun k e6=>?_⟩
    ·have:=aI.size;simpa[al.row] using this
    ·exact(setRow_other _ _ _ _ (fun e=>Hj (by rw[e] at e6;exact e6))).trans (aI.du k e6)
   have nG:∀b∈ta s.hp m cs,cf.gT.contains b.m=true->¬V.aV (aR ρ.M b.m 0):=fun y bE hm=>by
    obtain⟨s1,_⟩:=Gz ρ s.hp m b cs I aY.dc;rcases s1 y bE with e|e
    ·subst e;exact aH.mN b MC hm
    ·exact aH.mN y e.1 hm
   refine⟨ct,o9 (pS (cf:=cf) (W':=W1.row (aR ρ.M m 0) (af.b2 ρ cs).toArray) (ρ':=ρ) (s':={s with az:=eQ s.n s.az it.o.dst (some tb),hp:=ta s.hp m cs}) aH ct nG aH.lT) _ _ _ _ ?_⟩;exact nF _ _ _ _ ρ _ _ _ _ hu an (mg _ bk) (cy.lR (fa.trans bk)) jL (n1 an)
  ·cases j
 ·rename_i f args he;split at j
  ·rename_i cw iD Wd;split at j
   ·rename_i dm aJ bD;split at j
    ·rename_i iB bG We;split at j
     ·rename_i bV;simp only[bT] at bV;obtain⟨u,hu,rfl⟩:=map_some j;intro w' dx;have aA:cO W.all w':=cO.kA dx;have fa:=W.kO aA.all;have fO:=aY.grow aA;have jM:=gD.grow aA;have mg:=bb _ fa;have a7:(W.next w' aA.size).w=w':=rfl;rw[<-a7] at dx ⊢;generalize W.next w' aA.size=W1 at*
      unfold Oper.wp;rw[wk jM he];show Calls P f _ W1.w _;have ov:s.rw.Perm ([]++s.rw):=List.Perm.refl _;have j_:=mg (Au (se fO.hp fO.ro)) fO.rw;refine Calls.mono j_ ?_;rintro e kQ ⟨e6,gg⟩;cases e with
      |returned v=>
       obtain⟨d,a_,aB,qw,ft⟩:=gr.out gg;obtain⟨lE,J⟩:=fO.Lr bV.1 a_.2 ov e6 qw;have an:=J.put it.o.dst v (some dm) (fun y bE=>by obtain rfl:=bm bE;exact aB);rw[a_.1] at an;have bM:=W1.Dc lE (iO (ρ.push d) iB)
       have AY:cO V kQ:=by
        have aI:=aH.hB.hZ dx;exact⟨e6.os.trans aI.os,e6.tape.trans aI.tape,e6.output.trans aI.output,iz aI.size e6.size,fun b I=>(e6.du b ⟨lv (V.lt b I) aI.size,fun hm=>by cases hm⟩).trans (aI.du b I)⟩
       have nG:∀b∈s.hp,cf.gT.contains b.m=true->¬V.aV (aR (ρ.push d).M b.m 0):=fun b I hm=>(aH.push (d:=d) (s':=s) aY bV.1 rfl rfl).mN b I hm
       have rq:cf.fN=true->∀r∈iB++s.rw,∀k,dk (ρ.push d) r=some k->¬V.aV k:=fun j r aw k qG bf=>by
        rcases mE.1 aw with bu|bu
        ·rcases qw.new r bu k qG with hs|hs
         ·have k7:=V.lt _ bf;have nC:=(aH.hB.hZ dx).size;omega
         ·cases hs
        ·exact(aH.push (d:=d) (s':=s) aY bV.1 rfl rfl).lT j r bu k qG bf
       refine⟨AY,o9 (pS (cf:=cf) (W':=W1.wa kQ lE.size (iO (ρ.push d) iB)) (ρ':=ρ.push d) (s':={s with az:=eQ s.n s.az it.o.dst (some dm),rw:=iB++s.rw,c:=s.c.add (bG.eP s.c)}) aH AY nG rq) _ _ _ _ ?_⟩;exact nF _ _ _ _ _ _ _ _ _ hu an (ft _ rfl bM (W1.Lq lE.size _)) (cy.step (fa.trans bM)) jL (n1 an)
      |panicked cD=>
       exact b8.mJ cD _ _ aY.iC (((e6.eP (V:=W1) rfl fun b I=>⟨W1.lt b I,fO.GB ov I⟩).start fa).start aY.ext) gg
      |outgrown=>exact gg.elim
     ·cases j
    ·cases j
   ·cases j
  ·split at j
   ·rename_i dm aJ bD;split at j
    ·rename_i mu bG uC;split at j
     ·rename_i bV;simp only[bT] at bV;obtain⟨u,hu,rfl⟩:=map_some j;intro w' dx;have aA:cO W.all w':=cO.kA dx;have fa:=W.kO aA.all;have fO:=aY.grow aA;have jM:=gD.grow aA;have mg:=bb _ fa;have a7:(W.next w' aA.size).w=w':=rfl;rw[<-a7] at dx ⊢;generalize W.next w' aA.size=W1 at*
      unfold Oper.wp;rw[wk jM he];show Calls P f _ W1.w _;have j_:=mg (Au (se fO.hp fO.ro)) (LA fO bV.2.1 _) fO.rw;refine Calls.mono j_ ?_;rintro e kQ ⟨e6,gg⟩;cases e with
      |returned v=>
       obtain⟨d,a_,aB,kz,ft⟩:=gr.out gg;obtain⟨lE,J⟩:=fO.r_ bV.1 a_.2 bV.2.1 e6 kz;have an:=J.put it.o.dst v (some dm) (fun y bE=>by obtain rfl:=bm bE;exact aB);rw[a_.1] at an;have bM:=W1.kO lE
       have AY:cO V kQ:=by
        have aI:=aH.hB.hZ dx;refine⟨e6.os.trans aI.os,e6.tape.trans aI.tape,e6.output.trans aI.output,iz aI.size e6.size,fun b I=>(e6.du b ⟨lv (V.lt b I) aI.size,fun hm=>?_⟩).trans (aI.du b I)⟩;obtain⟨x,yH,rfl⟩:=h7.1 hm;have pP:=ep.1 bV.2.2 x yH;have iT:=ep.1 bV.2.1 x yH;cases bs:jG s.hp x.m with
        |none=>rw[bs] at iT;cases iT
        |some y=>
         obtain⟨f1,f2⟩:=mH bs;rw[<-f2] at I pP;exact aH.mN y f1 pP I
       have ME:∀b,(qv mu b).m=b.m:=fun b=>by
        unfold qv;split
        ·rename_i pI e;exact(mH e).2
        ·rfl
       have nG:∀b∈s.hp.map (qv mu),cf.gT.contains b.m=true->¬V.aV (aR (ρ.push d).M b.m 0):=fun b I hm=>by
        obtain⟨y,bE,rfl⟩:=h7.1 I;rw[ME] at hm ⊢;exact(aH.push (d:=d) (s':=s) aY bV.1 rfl rfl).mN y bE hm
       refine⟨AY,o9 (pS (cf:=cf) (W':=W1.next kQ lE.size) (ρ':=ρ.push d) (s':={s with az:=eQ s.n s.az it.o.dst (some dm),hp:=s.hp.map (qv mu),c:=s.c.add (bG.eP s.c)}) aH AY nG (aH.push (d:=d) (s':=s) aY bV.1 rfl rfl).lT) _ _ _ _ ?_⟩;exact nF _ _ _ _ _ _ _ _ _ hu an (ft (W1.next kQ lE.size) rfl bM (W1.C9 lE.size)) (cy.step (fa.trans bM)) jL (n1 an)
      |panicked cD=>
       refine b8.mJ cD _ _ aY.iC ?_ gg;exact(e6.eP (V:=W1) rfl fun b I=>⟨W1.lt b I,Mc fO bV.2.1 I⟩).start fO.ext
      |outgrown=>exact gg.elim
     ·cases j
    ·cases j
   ·cases j
 ·rename_i r rw k xs b he;split at j
  ·rename_i bV;simp only[bT] at bV;obtain⟨si,⟨⟨⟨⟨ec,fc⟩,fS⟩,iQ⟩,hv⟩,kS⟩:=bV;obtain⟨u,hu,rfl⟩:=map_some j;obtain⟨sj,a_⟩:=me aY.kn bb;intro w' dx;have aA:cO W.all w':=cO.kA dx;have fa:=W.kO aA.all;have fO:=aY.grow aA;have jM:=gD.grow aA;have a_:=a_ _ fa;have a7:(W.next w' aA.size).w=w':=rfl;rw[<-a7] at dx ⊢;generalize W.next w' aA.size=W1 at*
   unfold Oper.wp;have oA:bC.ok {s with az:=jt s.kn s.az}=true:=uI ec;obtain⟨ad,c,kQ,W',pT,rfl,bM,bH,bo,cd,cA⟩:=LQ jM oA he fc fS iQ hv kS sj.1;rw[pT];have qE:Holds N W0 (ρ.push {A:=[ad],N:=[c]}) (ia s it.o.dst r rw k xs) (a.put it.o.dst (.slice ad ((r.n.i ρ).toNat+(k.i ρ).toNat) c)) W':=bo.qu (Md fO ec bo)
   have ct:cO V W'.w:=by
    have aI:=aH.hB.hZ dx;refine⟨cd.os.trans aI.os,cd.tape.trans aI.tape,cd.output.trans aI.output,iz aI.size cd.size,fun b I=>(cd.du b ⟨lv (V.lt b I) aI.size,fun hm=>?_⟩).trans (aI.du b I)⟩;obtain⟨q,bg,wc⟩:=nB.1 hm;exact aH.lT si q bg b wc I
   have nG:∀b∈s.hp,cf.gT.contains b.m=true->¬V.aV (aR (ρ.push {A:=[ad],N:=[c]}).M b.m 0):=fun b I hm=>(aH.push (d:={A:=[ad],N:=[c]}) (s':=s) aY ec rfl rfl).mN b I hm
   have rq:cf.fN=true->∀q∈(ia s it.o.dst r rw k xs).rw,∀jf,dk (ρ.push {A:=[ad],N:=[c]}) q=some jf->¬V.aV jf:=fun _ q bg jf qG bf=>by
    rcases cA q bg jf qG with bu|bu
    ·obtain⟨iT,pa,sk⟩:=nB.1 bu;exact aH.lT si iT pa jf sk bf
    ·have k7:=V.lt _ bf;have nC:=(aH.hB.hZ dx).size;omega
   refine⟨ct,o9 (pS (cf:=cf) (W':=W') (ρ':=ρ.push {A:=[ad],N:=[c]}) (s':=ia s it.o.dst r rw k xs) aH ct nG rq) _ _ _ _ ?_⟩;exact nF _ _ _ _ _ _ _ _ _ hu qE (a_ ad c W' bH bM) (cy.step (fa.trans bM)) jL (n1 qE)
  ·cases j
 ·rename_i r rw aa k c0 b he;split at j
  ·rename_i bV;simp only[bT,decide_eq_true_eq] at bV;obtain⟨si,⟨⟨⟨⟨⟨⟨ec,fc⟩,fS⟩,iQ⟩,hv⟩,kS⟩,mf⟩,jy⟩:=bV;obtain⟨u,hu,rfl⟩:=map_some j;obtain⟨sj,a_⟩:=me aY.kn bb;intro w' dx;have aA:cO W.all w':=cO.kA dx;have fa:=W.kO aA.all;have fO:=aY.grow aA;have jM:=gD.grow aA;have a_:=a_ _ fa;obtain⟨l,AQ,AR,AS,AT,a_⟩:=a_;have a7:(W.next w' aA.size).w=w':=rfl;rw[<-a7] at dx ⊢;generalize W.next w' aA.size=W1 at*
   unfold Oper.wp;have oA:bC.ok {s with az:=jt s.kn s.az}=true:=uI ec;obtain⟨ad,c,kQ,W',pT,rfl,bM,bH,bo,cd,cA⟩:=GV jM oA he fc iQ hv jy fS sj.1 AQ AR AS (fun ad q7 aj u cu=>AT ad q7 W1 (Ext.refl W1) (fun q bg=>jM.rw q bg) aj u cu);rw[pT];have qE:Holds N W0 ((ρ.push {L:=[l]}).push {A:=[ad],N:=[c]}) (ia {s with c:=s.c.add {L:=1}} it.o.dst r rw k [.l s.c.L]) (a.put it.o.dst (.slice ad ((r.n.i ρ).toNat+(k.i ρ).toNat) c)) W':=bo.qu (G7 fO ec bo)
   have ct:cO V W'.w:=by
    have aI:=aH.hB.hZ dx;refine⟨cd.os.trans aI.os,cd.tape.trans aI.tape,cd.output.trans aI.output,iz aI.size cd.size,fun b I=>(cd.du b ⟨lv (V.lt b I) aI.size,fun hm=>?_⟩).trans (aI.du b I)⟩;obtain⟨q,bg,wc⟩:=nB.1 hm;exact aH.lT si q bg b wc I
   have nG:∀b∈s.hp,cf.gT.contains b.m=true->¬V.aV (aR ((ρ.push {L:=[l]}).push {A:=[ad],N:=[c]}).M b.m 0):=fun b I hm=>by
    rw[nh];exact(aH.push (d:=({L:=[l]}:aX).push {A:=[ad],N:=[c]}) (s':=s) aY ec rfl rfl).mN b I hm
   have rq:cf.fN=true->∀q∈(ia {s with c:=s.c.add {L:=1}} it.o.dst r rw k [.l s.c.L]).rw,∀jf,dk ((ρ.push {L:=[l]}).push {A:=[ad],N:=[c]}) q=some jf->¬V.aV jf:=fun _ q bg jf qG bf=>by
    rcases cA q bg jf qG with bu|bu
    ·obtain⟨iT,pa,sk⟩:=nB.1 bu;exact aH.lT si iT pa jf sk bf
    ·have k7:=V.lt _ bf;have nC:=(aH.hB.hZ dx).size;omega
   refine⟨ct,o9 (pS (cf:=cf) (W':=W') (ρ':=(ρ.push {L:=[l]}).push {A:=[ad],N:=[c]}) (s':=ia {s with c:=s.c.add {L:=1}} it.o.dst r rw k [.l s.c.L]) aH ct nG rq) _ _ _ _ ?_⟩
   have hp:(ij r.n k).i (ρ.push {L:=[l]})=(ij r.n k).i ρ:=by
    simp only[b3.ok,bT] at jy;rw[q5,q5,(E.push ρ _ _ (by rw[aY.cT];exact jy.1.2)).1,(E.push ρ _ _ (by rw[aY.cT];exact hv)).1]
   exact nF _ _ _ _ _ _ _ _ _ hu qE (a_ ad c W' (by rw[hp];exact bH) bM) (by rw[nh];exact cy.step (fa.trans bM)) jL (n1 qE)
  ·cases j
 ·rename_i cR p r he;split at j
  ·rename_i dm bG bD;split at j
   ·rename_i bV;obtain⟨u,hu,rfl⟩:=map_some j;intro w' dx;have aA:cO W.all w':=cO.kA dx;have fa:=W.kO aA.all;have fO:=aY.grow aA;have jM:=gD.grow aA;have mg:=bb _ fa;have a7:(W.next w' aA.size).w=w':=rfl;rw[<-a7] at dx ⊢;generalize W.next w' aA.size=W1 at*
    obtain⟨d,a_,aO,ft⟩:=gr.out mg;unfold Oper.wp;rw[(GI jM he (aO W1.w (fO.rw r (G6 jM he)))).2];have J:=fO.push bV a_.2;have an:=J.put it.o.dst (dm.ak (ρ.push d)) (some dm) (fun y bE=>by obtain rfl:=bm bE;rfl);rw[a_.1] at an;have ct:cO V W1.w:=aH.hB.hZ dx;have n2:=aH.push (d:=d) (s':=s) aY bV rfl rfl;refine⟨ct,o9 (pS (cf:=cf) (W':=W1) (ρ':=ρ.push d) (s':={s with az:=eQ s.n s.az it.o.dst (some dm),c:=s.c.add (bG.eP s.c)}) aH ct n2.mN n2.lT) _ _ _ _ ?_⟩;exact nF _ _ _ _ _ _ _ _ _ hu an ft (cy.step fa) jL (n1 an)
   ·cases j
  ·cases j
 ·rename_i cR p he;split at j
  ·rename_i dm bG bD;split at j
   ·rename_i bV;obtain⟨u,hu,rfl⟩:=map_some j;intro w' dx;have aA:cO W.all w':=cO.kA dx;have fa:=W.kO aA.all;have fO:=aY.grow aA;have jM:=gD.grow aA;have mg:=bb _ fa;have a7:(W.next w' aA.size).w=w':=rfl;rw[<-a7] at dx ⊢;generalize W.next w' aA.size=W1 at*
    obtain⟨d,a_,aO,ft⟩:=gr.out mg;unfold Oper.wp;rw[GH jM he (aO W1 (Ext.refl W1))];have J:=fO.push bV a_.2;have an:=J.put it.o.dst (dm.ak (ρ.push d)) (some dm) (fun y bE=>by obtain rfl:=bm bE;rfl);rw[a_.1] at an;have ct:cO V W1.w:=aH.hB.hZ dx;have n2:=aH.push (d:=d) (s':=s) aY bV rfl rfl;refine⟨ct,o9 (pS (cf:=cf) (W':=W1) (ρ':=ρ.push d) (s':={s with az:=eQ s.n s.az it.o.dst (some dm),c:=s.c.add (bG.eP s.c)}) aH ct n2.mN n2.lT) _ _ _ _ ?_⟩;exact nF _ _ _ _ _ _ _ _ _ hu an ft (cy.step fa) jL (n1 an)
   ·cases j
  ·cases j
 ·cases j
theorem MF {s:bC} {op:Op} {v:af} {k:E} {r:b3} (h:DA P s op=some (v,k,r)):pK s.rw r.v=some r∧s.ok=true∧gq k=true∧v.ok s.c=true∧k.ok s.c=true∧∃a c,v= .bt a k c:=by
 unfold DA at h;split at h
 ·split at h
  ·split at h
   ·split at h
    ·rename_i aH;simp only[bT] at aH;split at h
     ·split at h
      ·rename_i bs;obtain rfl:=(fD (bm h)).1;obtain⟨rfl,rfl⟩:=fD (fD (bm h)).2;have e:=(uA bs).2;refine⟨by rw[e];exact bs,aH.2.1,aH.2.2.1,aH.2.2.2,?_,_,_,rfl⟩;have:=aH.2.2.2;simp only[af.ok,bT] at this;exact this.1.2
      ·cases h
     ·cases h
    ·cases h
   ·cases h
  ·cases h
 ·cases h
theorem Wo {w:World} {b:Nat} {e:TypeId} {sz:Nat} {a:Option Addr} {n c k:Nat} {xs:List Value} {m:Nat} (h:w.ownsRow b e sz (.slice a n c) m xs) (aA:k<=m):w.ownsRow b e sz (.slice a k c) k (xs.take (k*sz)):=by
 obtain⟨J,an⟩:=h;have hm:k*sz<=m*sz:=sR _ aA;refine⟨by rw[mX,J];omega,?_⟩;rcases an with⟨a7,bh⟩|⟨g,cap,cur,a7,I,aH,cB,jK,bD,bb⟩
 ·injection a7 with bn a2 a3
  subst bn a3;exact .inl ⟨by rw[show k=0 by omega],by omega⟩
 ·injection a7 with bn a2 a3
  subst bn a3;refine .inr ⟨g,c,cur,rfl,I,aH,by omega,jK,bD,?_⟩;rw[<-bb,List.take_take,Nat.min_eq_left hm]
theorem Wp {cf:ds} {N:Nat} {W0:al} {ρ:aX} {s:bC} {a:Act} {W V:al} (h:Holds N W0 ρ s a W) (aH:kb cf ρ s W V) {op:Op} {v:af} {k:E} {r:b3} (hp:DA P s op=some (v,k,r))
  (a_:∃ad n c,r.v.ak ρ= .slice ad n c∧v.ak ρ= .slice ad (k.i ρ).toNat c∧(k.i ρ).toNat<=(r.n.i ρ).toNat):
  Holds N W0 (ρ.push {L:=[(dF ρ r.xs).take ((k.i ρ).toNat*r.sz)]}) (ka s v k r) a W∧kb cf (ρ.push {L:=[(dF ρ r.xs).take ((k.i ρ).toNat*r.sz)]}) (ka s v k r) W V:=by
 obtain⟨bs,bc,cB,aB,aA,_⟩:=MF hp;obtain⟨Hk,_⟩:=uA bs;have aw:r∈s.rw:=Hk.mem_iff.2 (c6 ..);have kP:∀q∈o7 s.rw r.v,q∈s.rw:=fun q bg=>Hk.mem_iff.2 (dq _ bg)
 have e2:=(Hk.pairwise_iff (fun h=>Da h)).1 h.lA;have MG:=h.rw r aw;obtain⟨ad,n,c,a7,bh,c8⟩:=a_;generalize fX:(dF ρ r.xs).take ((k.i ρ).toNat*r.sz)=D;have b8:=h.push bc (d:={L:=[D]}) (fun v aB=>by cases aB)
 have AZ:∀q∈s.rw,dk (ρ.push {L:=[D]}) q=dk ρ q:=fun q bg=>qt (by
  simp only[bC.ok,bT] at bc;rw[h.cT];exact ep.1 bc.1.2 q bg)
 have MH:v.ak (ρ.push {L:=[D]})=v.ak ρ:=af.push ρ _ v (by rw[h.cT];exact aB);have Hl:k.i (ρ.push {L:=[D]})=k.i ρ:=(E.push ρ _ k (by rw[h.cT];exact aA)).1
 have j_:dF (ρ.push {L:=[D]}) [.l s.c.L]=D:=by
  have hz:s.c.L=ρ.L.length:=by rw[<-h.cT];rfl
  have yF:aR (ρ.push {L:=[D]}).L s.c.L []=D:=by rw[hz];exact lC _ _ _
  simp[dF,dV.ak,yF]
 have fB:dk (ρ.push {L:=[D]}) ⟨v,k,r.e,r.sz,[.l s.c.L]⟩=dk ρ r:=by
  unfold dk;show(v.ak (ρ.push {L:=[D]})).ownBlock=_;rw[MH,a7,bh];cases ad<;>rfl
 refine⟨⟨b8.cT,b8.ew,b8.az,b8.len,b8.iC,b8.hp,b8.ro,fun q bg=>?_,b8.iP,b8.own,fun q bg b I=>?_,b8.dc,?_,b8.kn,b8.sub,b8.mK,b8.ext⟩,?_⟩
 ·rcases dh.1 bg with e|bg
  ·subst e;refine⟨?_,fun u hu=>?_⟩
   ·show W.w.ownsRow N r.e r.sz (v.ak (ρ.push {L:=[D]})) (k.i (ρ.push {L:=[D]})).toNat (dF (ρ.push {L:=[D]}) [.l s.c.L]);rw[MH,Hl,j_,bh,<-fX];have:=MG.1;rw[a7] at this;exact Wo this c8
   ·change u∈dF (ρ.push {L:=[D]}) [.l s.c.L] at hu
    rw[j_,<-fX] at hu;exact MG.2 u (rY hu)
  ·exact b8.rw q (kP q bg)
 ·rcases dh.1 bg with e|bg
  ·subst e;rw[fB,<-AZ r aw] at I;exact b8.gS r aw b I
  ·exact b8.gS q (kP q bg) b I
 ·refine od.2 ⟨fun q bg b I=>?_,?_⟩
  ·rw[fB] at I;rw[AZ q (kP q bg)];exact(od.1 e2).1 q bg b I
  ·refine(Ab.1 (od.1 e2).2).imp ?_;intro pP iT ⟨m1,m2,bg⟩ b I;rw[AZ pP (kP pP m1)] at I;rw[AZ iT (kP iT m2)];exact bg b I
 ·have n2:kb cf (ρ.push {L:=[D]}) {s with c:=s.c.add {L:=1}} W V:=aH.push h bc rfl rfl
  have lU:∀q∈(ka s v k r).rw,∀b,dk (ρ.push {L:=[D]}) q=some b->∃k8∈s.rw,dk (ρ.push {L:=[D]}) k8=some b:=fun q bg b I=>by
   rcases dh.1 bg with e|bg
   ·subst e;exact⟨r,aw,by rw[AZ r aw,<-fB];exact I⟩
   ·exact⟨q,kP q bg,I⟩
  refine⟨n2.hB,n2.sz,n2.sub,n2.hp,fun j q bg b I=>?_,n2.mN,fun j q bg b I=>?_⟩
  ·obtain⟨k8,m,eI⟩:=lU q bg b I;exact n2.rw j k8 m b eI
  ·obtain⟨k8,m,eI⟩:=lU q bg b I;exact n2.lT j k8 m b eI
theorem MI {cf:ds} {N:Nat} {W0:al} {R:Ending->World->Prop} {L:ha} {ops:Array Oper} {Q:Exit->Act->World->Prop} (b8:k_ W0 R Q) {K:bC->Option Tree} {ar g:Nat} {e3:List ey} {hM:Nat->List ey->bC->(bC->Option Tree)->Option Tree}
  (nF:∀(cz:Nat) (rem:List ey) (s:bC) (t:Tree) (ρ:aX) (a:Act) (W V:al) (cx:Array Bool),hM cz rem s K=some t->Holds N W0 ρ s a W->t.ak P N R L ρ W->
   ng P N W0 R L ρ W s.fh K (Q .normal)->lS P ops ar g cz rem e3 cx->kb cf ρ s W V->jx P ops Q (fun w'=>cO V w') ar g rem.length cx a W.w)
  {cz:Nat} {rem:List ey} {it:ey} {s:bC} {t:Tree} {ρ:aX} {a:Act} {W V:al} {AX:Array Bool} (j:DB P cf hM cz rem it s K=some t) (aY:Holds N W0 ρ s a W) (bb:t.ak P N R L ρ W)
  (cy:ng P N W0 R L ρ W s.fh K (Q .normal)) (jL:lS P ops ar g (Nat.lor cz (2^it.i)) rem e3 AX) (aH:kb cf ρ s W V):
  ∀w',hn W.w w'->it.o.wp P a w' (fun bB iE=>cO V iE∧jx P ops Q (fun w'=>cO V w') ar g rem.length AX bB iE) Q:=by
 unfold DB at j;split at j
 ·rename_i v jz iG hp;split at j
  ·rename_i r rw aa k c0 b he;split at j
   ·rename_i bV;simp only[bT,decide_eq_true_eq] at bV;obtain⟨si,⟨⟨⟨⟨⟨⟨ec,fc⟩,fS⟩,iQ⟩,hv⟩,kS⟩,mf⟩,jy⟩:=bV;obtain⟨u,hu,rfl⟩:=map_some j;obtain⟨Wq,ft⟩:=bb;have tk:=(MF hp).2.1
    have MJ:∀{W1:al},Holds N W0 ρ s a W1->hR N (ρ.push {L:=[(dF ρ iG.xs).take ((jz.i ρ).toNat*iG.sz)]}) s.rw W1.w:=fun J=>by
     have bc:=tk;simp only[bC.ok,bT] at bc;exact J.rw.push (by rw[J.cT];exact bc.1.2)
    obtain⟨lb,n2⟩:=Wp aY aH hp Wq;have uL:ng P N W0 R L (ρ.push {L:=[(dF ρ iG.xs).take ((jz.i ρ).toNat*iG.sz)]}) W s.fh K (Q .normal):=cy.step (Ext.refl W);generalize wh:ρ.push {L:=[(dF ρ iG.xs).take ((jz.i ρ).toNat*iG.sz)]}=ρ' at lb n2 ft uL MJ;have gD:Holds N W0 ρ' {ka s v jz iG with az:=jt s.kn s.az} a W:=lb.qu (s6 lb.az lb.kn);have sa:=n2;obtain⟨sj,a_⟩:=me (kn:=s.kn) lb.kn ft;intro w' dx;have aA:cO W.all w':=cO.kA dx;have fa:=W.kO aA.all;have Wr:=aY.grow aA;have fO:=lb.grow aA;have jM:=gD.grow aA;have a_:=a_ _ fa;obtain⟨l,AQ,AR,AS,AT,a_⟩:=a_;have a7:(W.next w' aA.size).w=w':=rfl;rw[<-a7] at dx ⊢;generalize W.next w' aA.size=W1 at*
    unfold Oper.wp;have oA:bC.ok {ka s v jz iG with az:=jt s.kn s.az}=true:=uI (s:=ka s v jz iG) ec;obtain⟨ad,c,kQ,W',pT,rfl,bM,bH,bo,cd,cA⟩:=GV jM oA he fc iQ hv jy fS sj.1 AQ AR AS (fun ad q7 aj u cu=>AT ad q7 W1 (Ext.refl W1) (MJ Wr) aj u cu);rw[pT];have qE:Holds N W0 ((ρ'.push {L:=[l]}).push {A:=[ad],N:=[c]}) (ia {ka s v jz iG with c:=(ka s v jz iG).c.add {L:=1}} it.o.dst r rw k [.l (ka s v jz iG).c.L]) (a.put it.o.dst (.slice ad ((r.n.i ρ').toNat+(k.i ρ').toNat) c)) W':=bo.qu (G7 fO ec bo)
    have ct:cO V W'.w:=by
     have aI:=sa.hB.hZ dx;refine⟨cd.os.trans aI.os,cd.tape.trans aI.tape,cd.output.trans aI.output,iz aI.size cd.size,fun b I=>(cd.du b ⟨lv (V.lt b I) aI.size,fun hm=>?_⟩).trans (aI.du b I)⟩;obtain⟨q,bg,wc⟩:=nB.1 hm;exact sa.lT si q bg b wc I
    have nG:∀b∈(ka s v jz iG).hp,cf.gT.contains b.m=true->¬V.aV (aR ((ρ'.push {L:=[l]}).push {A:=[ad],N:=[c]}).M b.m 0):=fun b I hm=>by
     rw[nh];exact(sa.push (d:=({L:=[l]}:aX).push {A:=[ad],N:=[c]}) (s':=ka s v jz iG) lb ec rfl rfl).mN b I hm
    have rq:cf.fN=true->∀q∈(ia {ka s v jz iG with c:=(ka s v jz iG).c.add {L:=1}} it.o.dst r rw k [.l (ka s v jz iG).c.L]).rw,∀jf,dk ((ρ'.push {L:=[l]}).push {A:=[ad],N:=[c]}) q=some jf->¬V.aV jf:=fun _ q bg jf qG bf=>by
     rcases cA q bg jf qG with bu|bu
     ·obtain⟨iT,pa,sk⟩:=nB.1 bu;exact sa.lT si iT pa jf sk bf
     ·have k7:=V.lt _ bf;have nC:=(sa.hB.hZ dx).size;omega
    refine⟨ct,o9 (pS (cf:=cf) (W':=W') (ρ':=(ρ'.push {L:=[l]}).push {A:=[ad],N:=[c]}) (s':=ia {ka s v jz iG with c:=(ka s v jz iG).c.add {L:=1}} it.o.dst r rw k [.l (ka s v jz iG).c.L]) sa ct nG rq) _ _ _ _ ?_⟩
    have hp:(ij r.n k).i (ρ'.push {L:=[l]})=(ij r.n k).i ρ':=by
     simp only[b3.ok,bT] at jy;rw[q5,q5,(E.push ρ' _ _ (by rw[lb.cT];exact jy.1.2)).1,(E.push ρ' _ _ (by rw[lb.cT];exact hv)).1]
    exact nF _ _ _ _ _ _ _ _ _ hu qE (a_ ad c W' (by rw[hp];exact bH) bM) (by rw[nh];exact uL.step (fa.trans bM)) jL (n1 qE)
   ·cases j
  ·cases j
 ·exact Wn b8 nF j aY bb cy jL aH
theorem lS.lP {ops:Array Oper} {Q:Exit->Act->World->Prop} {C:World->Prop} {n g cz:Nat} {rem e3:List ey} {cx:Array Bool} (h:lS P ops n g cz rem e3 cx) {it:ey} (eh:it∈rem) (aw:cK.nd cz it.x=true)
  {a:Act} {w:World} {f:Nat} (cy:∀y∈Mt cz rem,Region.wanted y.o (yielded ops a.tmps)=true∧∀w',hn w w'->y.o.wp P a w' (fun bB iE=>C iE∧jx P ops Q C n g f (cx.setIfInBounds y.i true) bB iE) Q):jx P ops Q C n g (f+1) cx a w:=by
 obtain⟨J,an,aI,cc⟩:=h.item it eh;refine⟨List.ne_nil_of_mem (h.nd eh aw),fun aj cu=>?_⟩;have k3:=AL h.tail h.pb h.a8 aI (fq.1 J).1 cc cu;obtain⟨e_,ir⟩:∃e_,ops[aj]? =some e_:=by obtain⟨_,e_,ir,_⟩:=mem_ready.1 cu;exact⟨e_,ir⟩
 have qF:=(Dr h.pb ir (h.low e_ (Array.mem_of_getElem? ir))).1 cu;rcases h.all aj k3 with bu|⟨y,bE,rfl⟩
 ·rw[qF.1] at bu;cases bu
 ·refine⟨k3,fun w' dx=>?_⟩;obtain⟨iH,dG,_,_⟩:=h.item y bE;obtain rfl:y.o=e_:=bm (iH.symm.trans ir);obtain⟨b0,bZ⟩:=cy y (lJ.2 ⟨bE,by rw[dG];exact qF.2⟩);unfold wpOp;simp only[iH,b0,if_true];exact .inl (Oper.wp_mono (fun _ _ h=>.inl h) (bZ w' dx))
theorem MK {ar:Nat} {R:Ending->World->Prop} {L:ha} {ρ:aX} {W:al} {f:ey->Option Tree}:∀{l:List ey} {t:Tree},DC f l=some t->t.ak P ar R L ρ W->∀y∈l,∃u,f y=some u∧u.ak P ar R L ρ W
 |[],_,h,_=>by cases h
 |[y],t,h,bb=>fun z cS=>by obtain rfl:=bd.1 cS;exact⟨t,h,bb⟩
 |y::z::l,t,h,bb=>by
  simp only[DC] at h;split at h
  ·rename_i a b bl I;obtain rfl:=bm h;intro u hu;rcases dh.1 hu with e|e
   ·subst e;exact⟨a,bl,bb.1⟩
   ·exact MK I bb.2 u e
  ·cases h
theorem uM {cf:ds} {N:Nat} {W0:al} {R:Ending->World->Prop} {L:ha} {ops:Array Oper} {Q:Exit->Act->World->Prop} (b8:k_ W0 R Q) {K:bC->Option Tree} {ar g:Nat} {e3:List ey} {hM:Nat->List ey->bC->(bC->Option Tree)->Option Tree}
  (nF:∀(cz:Nat) (rem:List ey) (s:bC) (t:Tree) (ρ:aX) (a:Act) (W V:al) (cx:Array Bool),hM cz rem s K=some t->Holds N W0 ρ s a W->t.ak P N R L ρ W->
   ng P N W0 R L ρ W s.fh K (Q .normal)->lS P ops ar g cz rem e3 cx->kb cf ρ s W V->jx P ops Q (fun w'=>cO V w') ar g rem.length cx a W.w)
  {cz:Nat} {rem:List ey} {it:ey} {s:bC} {t:Tree} {ρ:aX} {a:Act} {W V:al} {cx:Array Bool} (j:sh P cf ops hM cz rem it s K=some t) (aY:Holds N W0 ρ s a W) (bb:t.ak P N R L ρ W)
  (cy:ng P N W0 R L ρ W s.fh K (Q .normal)) (aw:lS P ops ar g cz rem e3 cx) (aH:kb cf ρ s W V) (eh:it∈rem∧nd cz it.x=true) (hw:Region.wanted it.o (yielded ops a.tmps)=true):jx P ops Q (fun w'=>cO V w') ar g rem.length cx a W.w:=by
 have eU:∀y∈rem,rem.length=(gw y.i rem).length+1:=fun y bE=>(He ⟨y,bE,rfl⟩).symm
 unfold sh at j;split at j
 ·rename_i tk;rw[eU it eh.1];exact aw.Mw eh.1 eh.2 tk hw (MI b8 nF j aY bb cy (aw.next eh.1) aH)
 ·split at j
  ·rw[eU it eh.1];refine aw.lP eh.1 eh.2 fun y bE=>?_
   obtain⟨u,hu,a_⟩:=MK j bb y bE;have ML:=(lJ.1 bE).1;unfold Mu at hu;split at hu
   ·rename_i G b7;split at hu
    ·rename_i AP;refine⟨by rw[Gy aY b7];exact lO aY.kn G AP,?_⟩;have:=MI b8 nF hu aY a_ cy (aw.next ML) aH;rw[show(gw it.i rem).length=(gw y.i rem).length from by have J:=eU it eh.1;have an:=eU y ML;omega];exact this
    ·cases hu
   ·cases hu
  ·cases j
theorem ld {cf:ds} {inl:na} (bf:uG P inl) {N:Nat} {W0:al} {R:Ending->World->Prop} {L:ha} {ops:Array Oper} {Q:Exit->Act->World->Prop} (b8:k_ W0 R Q) {K:bC->Option Tree} {ar g:Nat} {bN:List Oper} {e3:List ey} (h0:bN=ops.toList.drop ar):
  ∀(n cz:Nat) (rem:List ey) (s:bC) (t:Tree) (ρ:aX) (a:Act) (W V:al) (cx:Array Bool),kT P cf inl ops bN e3 n cz rem s K=some t->Holds N W0 ρ s a W->t.ak P N R L ρ W->
   ng P N W0 R L ρ W s.fh K (Q .normal)->lS P ops ar g cz rem e3 cx->kb cf ρ s W V->jx P ops Q (fun w'=>cO V w') ar g rem.length cx a W.w
 |n,cz,[],s,t,ρ,a,W,V,cx,j,aY,bb,cy,aw,aH=>by
  have j:(j4 P cf inl ops cf.iR bN s K).map .grow=some t:=by cases n<;>exact j
  obtain⟨u,hu,rfl⟩:=map_some j
  have hc:∀aj,aj<ar->cz.testBit aj=true:=fun aj cu=>by
   rcases aw.all aj cu with h|⟨_,h,_⟩
   ·exact h
   ·cases h
  refine⟨fun aj cu=>?_,fun w' dx=>?_⟩
  ·have wA:aj<ops.size:=lv cu aw.le;rw[aw.pb.getD wA];exact hc aj cu
  ·have aA:cO W.all w':=cO.kA dx;have bM:=W.kO aA.all;refine aw.seq a w' Q cx cz aw.pb hc aw.a8 ?_;rw[<-h0];exact la bf b8 _ _ s u ρ a (W.next w' aA.size) hu (aY.grow aA) (bb _ bM) (cy.lR bM)
 |0,_,_::_,_,_,_,_,_,_,_,j,_,_,_,_,_=>by cases j
 |n+1,cz,cm::rk,s,t,ρ,a,W,V,cx,j,aY,bb,cy,aw,aH=>by
  simp only[kT] at j;split at j
  ·cases j
  rename_i it Hm;have Hm:=Hc Hm
  have eh:it∈cm::rk∧nd cz it.x=true:=by
   rcases Hm with h|h
   ·exact h
   ·cases h
  generalize MM:cm::rk=rem at*;have eU:rem.length=(gw it.i rem).length+1:=(He ⟨it,eh.1,rfl⟩).symm;split at j
  ·cases j
  rename_i G G9;have ti:=Gy aY G9;have jL:=aw.next eh.1
  split at j
  ·rename_i a_;have hw:Region.wanted it.o (yielded ops a.tmps)=false:=by rw[ti];exact lO aY.kn G a_
   split at j
   ·rename_i bg;rw[eU];exact aw.quiet eh.1 eh.2 bg b8.put (fun _ _ h k=>h.hZ k) aH.hB (v:=undef) (.inr ⟨hw,rfl⟩) (ld bf b8 h0 n _ _ _ _ ρ _ W V _ j (aY.put it.o.dst undef _ (fun y bE=>by obtain rfl:=bm bE;rfl)) bb cy jL (aH.eb rfl rfl))
   ·cases j
  ·split at j
   ·rename_i cs v aB;split at j
    ·rename_i bg;obtain⟨u,hu,rfl⟩:=map_some j;obtain⟨j5,a_⟩:=me aY.kn bb
     have key:∀y:Value,y=(af.when G true v).ak ρ->jx P ops Q (fun w'=>cO V w') ar g (gw it.i rem).length (cx.setIfInBounds it.i true) (a.put it.o.dst y) W.w:=fun y bE=>by
      have J:=aY.put it.o.dst y (some (.when G true v)) (fun z cS=>by obtain rfl:=bm cS;exact bE);exact ld bf b8 h0 n _ _ _ _ ρ _ W V _ hu (J.ux (tc aY.kn j5)) a_ cy jL (aH.eb rfl rfl)
     rw[eU];refine aw.quiet eh.1 eh.2 bg b8.put (fun _ _ h k=>h.hZ k) aH.hB (v:=(af.when G true v).ak ρ) ?_ (key _ rfl);cases b7:G.b ρ
     ·exact .inr ⟨by rw[ti,b7],by simp[af.ak,b7]⟩
     ·have te:=yt G aY.kn b7;have e:(af.when G true v).ak ρ=v.ak ρ:=by simp[af.ak,b7]
      rw[e];exact wz (by rw[ti,b7]) fun w' dx=>vZ aB aY.ew (s6 aY.az te) (MA aY aH dx) te (G5 b7 j5)
    ·cases j
   ·split at j
    ·rename_i t1 t2 J an;obtain rfl:=bm j;cases I:G.b ρ
     ·exact ld bf b8 h0 n _ _ _ _ ρ a W V _ an (aY.jY I) (bb.2 I) cy aw (aH.eb rfl rfl)
     ·exact ld bf b8 h0 n _ _ _ _ ρ a W V _ J (aY.jY I) (bb.1 I) cy aw (aH.eb rfl rfl)
    ·cases j
  ·rename_i AP;have hw:Region.wanted it.o (yielded ops a.tmps)=true:=by rw[ti];exact lO aY.kn G AP
   have gD:Holds N W0 ρ {s with az:=jt s.kn s.az} a W:=aY.qu (s6 aY.az aY.kn);split at j
   ·rename_i cs v aB;split at j
    ·rename_i bg;obtain⟨u,hu,rfl⟩:=map_some j;obtain⟨j5,a_⟩:=me aY.kn bb;rw[eU];refine aw.quiet eh.1 eh.2 bg b8.put (fun _ _ h k=>h.hZ k) aH.hB (wz hw fun w' dx=>vZ aB aY.ew (s6 aY.az aY.kn) (MA aY aH dx) aY.kn j5) ?_;have J:=aY.put it.o.dst (v.ak ρ) (some v) (fun y bE=>by obtain rfl:=bm bE;rfl);exact ld bf b8 h0 n _ _ _ _ ρ _ W V _ hu (J.ux (tc aY.kn j5)) a_ cy jL (aH.eb rfl rfl)
    ·cases j
   ·split at j
    ·exact uM b8 (fun m r s t ρ a W V l=>ld bf b8 h0 n m r s t ρ a W V l) j aY bb cy aw aH eh hw
    ·exact uM b8 (fun m r s t ρ a W V l=>ld bf b8 h0 n m r s t ρ a W V l) j aY bb cy aw aH eh hw
    ·rename_i f args he;split at j
     ·rename_i wx tj;split at j
      ·rename_i bg
       have ik:inl f args (uK cf s++s.ro) s.c=some wx∧h_ s.c wx=true:=by
        unfold Ms at tj;split at tj
        ·rename_i u hu;split at tj
         ·rename_i hp;obtain rfl:=bm tj;exact⟨hu,hp⟩
         ·cases tj
        ·cases tj
       obtain⟨v,s',iF,J,an,aI,cc,bu⟩:=Mb wx s _ t ik.2 j aY bb;rw[eU];refine aw.quiet eh.1 eh.2 bg b8.put (fun _ _ h k=>h.hZ k) aH.hB (v:=v.ak ρ) (.inl ⟨hw,fun w' dx=>?_⟩) ?_
       ·replace dx:=DF he (fun _ _ _ _ h=>by cases h) (fun _ h=>by cases h) dx
        unfold Oper.quietAt;rw[wk gD he];refine⟨rfl,?_⟩
        let W1:al:=⟨w',fun _=>False,fun _ h=>h.elim⟩
        have j_:=bf f args _ s.c wx ik.1 ρ W1 (o4 fun u _=>u=v.ak ρ) aY.cT aY.ew (Hi aY aH dx) (by have:=bu W1.w.heap.size W1.all {};rwa[o_] at this);exact Calls.mono j_ fun e kQ ⟨aA,uD,a7,bh⟩=>⟨by rw[a7,bh],aA.below⟩
       ·have b0:=aI.put it.o.dst (v.ak ρ) (some v) (fun y bE=>by obtain rfl:=bm bE;rfl);exact ld bf b8 h0 n _ _ _ _ ρ _ W V _ J b0 an (by rw[<-cc.1] at cy;exact cy) jL (aH.eb cc.2.1 cc.2.2.1)
      ·cases j
     split at j
     ·exact uM b8 (fun m r s t ρ a W V l=>ld bf b8 h0 n m r s t ρ a W V l) j aY bb cy aw aH eh hw
     ·split at j
      ·rename_i dm aJ bD;split at j
       ·rename_i bV;simp only[bT] at bV;obtain⟨u,hu,rfl⟩:=map_some j;obtain⟨d,a_,mh,ft⟩:=gr.out bb;rw[eU];refine aw.quiet eh.1 eh.2 bV.2.1.2 b8.put (fun _ _ h k=>h.hZ k) aH.hB (v:=dm.ak (ρ.push d)) (.inl ⟨hw,fun w' dx=>?_⟩) ?_
        ·replace dx:=DF he (fun _ _ _ _ h=>by cases h) (fun _ h=>by cases h) dx
         unfold Oper.quietAt;rw[wk gD he];refine⟨rfl,?_⟩;have aA:=aH.du dx;have J:=mh (W.at w' aA) (W.Mz aA) (Au (Hi aY aH dx)) (Wm aY aH dx bV.2.2);exact Calls.mono J fun e kQ ⟨e6,uD,a7,bh⟩=>⟨by rw[a7,bh],e6.below⟩
        ·have J:=aY.push bV.1 a_.2;have an:=J.put it.o.dst (dm.ak (ρ.push d)) (some dm) (fun y bE=>by obtain rfl:=bm bE;rfl);rw[a_.1] at an;exact ld bf b8 h0 n _ _ _ _ _ _ W V _ hu an ft (cy.step (Ext.refl W)) jL (aH.push aY bV.1 rfl rfl)
       ·exact uM b8 (fun m r s t ρ a W V l=>ld bf b8 h0 n m r s t ρ a W V l) j aY bb cy aw aH eh hw
      ·cases j
    ·rename_i cR p he;split at j
     ·rename_i dm bG bD;split at j
      ·rename_i bV;simp only[bT] at bV;obtain⟨u,hu,rfl⟩:=map_some j;obtain⟨d,a_,aO,ft⟩:=gr.out bb;rw[eU];refine aw.quiet eh.1 eh.2 bV.2 b8.put (fun _ _ h k=>h.hZ k) aH.hB (v:=dm.ak (ρ.push d)) (wz hw fun w' dx=>?_) ?_
       ·have aA:=aH.du (DF he (fun _ _ _ _ h=>by cases h) (fun _ h=>by cases h) dx);exact GH gD he (aO (W.at w' aA) (W.Mz aA))
       ·have J:=aY.push bV.1 a_.2;have an:=J.put it.o.dst (dm.ak (ρ.push d)) (some dm) (fun y bE=>by obtain rfl:=bm bE;rfl);rw[a_.1] at an;exact ld bf b8 h0 n _ _ _ _ _ _ W V _ hu an ft (cy.step (Ext.refl W)) jL (aH.push aY bV.1 rfl rfl)
      ·cases j
     ·cases j
    ·rename_i cR p r he;split at j
     ·rename_i dm bG bD;split at j
      ·rename_i bV;simp only[bT] at bV;obtain⟨u,hu,rfl⟩:=map_some j;obtain⟨d,a_,aO,ft⟩:=gr.out bb;rw[eU];refine aw.quiet eh.1 eh.2 bV.1.2 b8.put (fun _ _ h k=>h.hZ k) aH.hB (wz hw fun w' dx=>(GI gD he (aO w' (MB aY aH (DF he (fun _ _ _ _ h=>by cases h) (fun _ h=>by cases h) dx) (by simpa using bV.2) r (G6 gD he)))).2) ?_;have J:=aY.push bV.1.1 a_.2;have an:=J.put it.o.dst (dm.ak (ρ.push d)) (some dm) (fun y bE=>by obtain rfl:=bm bE;rfl);rw[a_.1] at an;exact ld bf b8 h0 n _ _ _ _ _ _ W V _ hu an ft (cy.step (Ext.refl W)) jL (aH.push aY bV.1.1 rfl rfl)
      ·exact uM b8 (fun m r s t ρ a W V l=>ld bf b8 h0 n m r s t ρ a W V l) j aY bb cy aw aH eh hw
     ·cases j
    ·rename_i aa lo a8 c m z he;split at j
     ·rename_i bV;simp only[bT] at bV;obtain⟨u,hu,rfl⟩:=map_some j;obtain⟨j5,a_⟩:=me aY.kn bb;rw[eU];refine aw.quiet eh.1 eh.2 bV.2 b8.put (fun _ _ h k=>h.hZ k) aH.hB (wz hw fun w' dx=>(GW gD he j5 w').1) ?_;have J:=Me aY bV.1.1.1 (aa:=aa) (lo:=lo) (m:=m) (sz:=z) bV.1.1.2 bV.1.2 it.o.dst;exact ld bf b8 h0 n _ _ _ _ _ _ W V _ hu J a_ (cy.step (Ext.refl W)) jL (aH.push aY bV.1.1.1 rfl rfl)
     ·cases j
    ·rename_i ad m c he;split at j
     ·rename_i bV;simp only[bT] at bV;obtain⟨u,hu,rfl⟩:=map_some j;rw[eU];refine aw.quiet eh.1 eh.2 bV.2 b8.put (fun _ _ h k=>h.hZ k) aH.hB (wz hw fun w' dx=>LY gD he w') ?_;have J:=Mh aY bV.1 ad m c it.o.dst;exact ld bf b8 h0 n _ _ _ _ _ _ W V _ hu J bb (cy.step (Ext.refl W)) jL (aH.push aY bV.1 rfl rfl)
     ·cases j
    ·exact uM b8 (fun m r s t ρ a W V l=>ld bf b8 h0 n m r s t ρ a W V l) j aY bb cy aw aH eh hw
    ·exact uM b8 (fun m r s t ρ a W V l=>ld bf b8 h0 n m r s t ρ a W V l) j aY bb cy aw aH eh hw
    ·rename_i q rw cm b z vs he;split at j
     ·rename_i bV;simp only[bT] at bV;obtain⟨tk,wB,ec,fc,fS,iQ,hv⟩:=bV;obtain⟨u,hu,rfl⟩:=map_some j;obtain⟨j5,a_⟩:=me aY.kn bb;have n0:(0:Int)<=cm.i ρ:=by have:=j5.1;rw[r6] at this;exact of_decide_eq_true this
      have sf:cm.i ρ<q.n.i ρ:=of_decide_eq_true j5.2.1;rw[eU];rcases (by simpa using wB:Hf ops cz it=true∨cf.fN=true) with wB|si
      ·refine aw.Wk eh.1 eh.2 tk wB hw fun w' dx=>?_
       have aA:cO W.all w':=cO.kA dx;have fa:=W.kO aA.all;have fO:=aY.grow aA;have jM:=gD.grow aA;have a_:=a_ _ fa;have a7:(W.next w' aA.size).w=w':=rfl;rw[<-a7] at dx ⊢;generalize W.next w' aA.size=W1 at*
       unfold Oper.wp;have oA:bC.ok {s with az:=jt s.kn s.az}=true:=uI ec;obtain⟨kQ,W',pT,rfl,bM,bH⟩:=LF jM oA he fc n0 sf;rw[pT];have aI:Holds N W0 (ρ.push {L:=[hg (dF ρ q.xs) ((cm.i ρ).toNat*z+b) (af.b2 ρ vs)]}) (r7 s it.o.dst q rw) (a.put it.o.dst undef) W':=bH.qu (eJ.AN (AO fO ec) fO.len bH.az);exact⟨_,(n1 aI).hB,fun _ _ h k=>h.hZ k,ld bf b8 h0 n _ _ _ _ _ _ W' _ _ hu aI (a_ W' bM) (cy.step (fa.trans bM)) jL (n1 aI)⟩
      ·refine aw.Mw eh.1 eh.2 tk hw fun w' dx=>?_
       have aA:cO W.all w':=cO.kA dx;have fa:=W.kO aA.all;have fO:=aY.grow aA;have jM:=gD.grow aA;have a_:=a_ _ fa;have a7:(W.next w' aA.size).w=w':=rfl;rw[<-a7] at dx ⊢;generalize W.next w' aA.size=W1 at*
       unfold Oper.wp;have oA:bC.ok {s with az:=jt s.kn s.az}=true:=uI ec;obtain⟨kQ,W',pT,rfl,bM,bH,ov,g0,arr,fB,rfl⟩:=LC jM oA he fc n0 sf;rw[pT];have aI:Holds N W0 (ρ.push {L:=[hg (dF ρ q.xs) ((cm.i ρ).toNat*z+b) (af.b2 ρ vs)]}) (r7 s it.o.dst q rw) (a.put it.o.dst undef) (W1.row g0 arr):=bH.qu (eJ.AN (AO fO ec) fO.len bH.az);have kC:q∈s.rw:=ov.mem_iff.2 (c6 ..);have Hj:¬V.aV g0:=aH.lT si q kC g0 fB
       have ct:cO V (W1.row g0 arr).w:=by
        have aI:=aH.hB.hZ dx;refine⟨aI.os,aI.tape,aI.output,?_,fun k e6=>?_⟩
        ·have:=aI.size;simpa[al.row] using this
        ·exact(setRow_other _ _ _ _ (fun e=>Hj (by rw[e] at e6;exact e6))).trans (aI.du k e6)
       have hp:=aH.push (d:={L:=[hg (dF ρ q.xs) ((cm.i ρ).toNat*z+b) (af.b2 ρ vs)]}) (s':=s) aY ec rfl rfl
       have rq:cf.fN=true->∀r∈(r7 s it.o.dst q rw).rw,∀k,dk (ρ.push {L:=[hg (dF ρ q.xs) ((cm.i ρ).toNat*z+b) (af.b2 ρ vs)]}) r=some k->¬V.aV k:=fun j r aw k aA=>by
        rcases dh.1 aw with e|e
        ·subst e;exact hp.lT j q kC k aA
        ·exact hp.lT j r (ov.mem_iff.2 (dq _ e)) k aA
       refine⟨ct,o9 (pS (cf:=cf) (s':=r7 s it.o.dst q rw) aH ct hp.mN rq) _ _ _ _ ?_⟩;exact ld bf b8 h0 n _ _ _ _ _ _ (W1.row g0 arr) _ _ hu aI (a_ _ bM) (cy.step (fa.trans bM)) jL (n1 aI)
     ·cases j
    ·rename_i ad i0 m z he;split at j
     ·rename_i bV;simp only[bT] at bV;obtain⟨u,hu,rfl⟩:=map_some j;obtain⟨sj,a_⟩:=me aY.kn bb;rw[eU];refine aw.quiet eh.1 eh.2 bV.2 b8.put (fun _ _ h k=>h.hZ k) aH.hB (wz hw fun w' dx=>LX gD he sj w') ?_;have J:=Mi aY bV.1.1 ad i0 bV.1.2 z it.o.dst (tc (Mj aY bV.1.1 (fun v aB=>by cases aB)) (Mk aY bV.1.2 sj));exact ld bf b8 h0 n _ _ _ _ _ _ W V _ hu J a_ (cy.step (Ext.refl W)) jL (aH.push aY bV.1.1 rfl rfl)
     ·cases j
    ·exact uM b8 (fun m r s t ρ a W V l=>ld bf b8 h0 n m r s t ρ a W V l) j aY bb cy aw aH eh hw
    ·cases j
def chainB:Nat->List ey->Bool
 |_,[]=>true
 |k,y::l=>(Nat.beq (Nat.shiftRight y.x.p k) 0&&l.all fun z=>z.x.p.testBit (z.i-1))&&chainB (k+1) l
def nH (n:Nat):Nat->List ey->Nat
 |_,[]=>n
 |k,y::l=>if Nat.beq (Nat.land y.x.p (2^k-1)) (2^k-1)&&(l.all fun z=>z.x.p.testBit k)&&chainB k (y::l) then k else nH n (k+1) l
def Ws (n:Nat) (l:List ey):Bool:=l.all fun y=>Nat.beq (Nat.shiftRight y.x.p n) 0
def Hn (P:Program) (cf:ds) (inl:na) (ops:Array Oper) (s:bC) (K:bC->Option Tree):Option Tree:=
 if P.follows .mixedOrders&&(Region.noSelect ops&&Ws ops.size (ib P cf ops 0 ops.toList)) then
  kT P cf inl ops (ops.toList.drop (nH ops.size 0 (ib P cf ops 0 ops.toList))) ((ib P cf ops 0 ops.toList).drop (nH ops.size 0 (ib P cf ops 0 ops.toList))) cf.iR 0 ((ib P cf ops 0 ops.toList).take (nH ops.size 0 (ib P cf ops 0 ops.toList))) s K
 else none
theorem MN {ops:Array Oper} {o:Oper} {n:Nat} (h:Nat.beq (Nat.shiftRight (jh ops o).p n) 0=true):∀e∈o.after,Region.binds .any e=true->e.on<n:=by
 intro e he I;have h:=eE h;have J:(jh ops o).p.testBit e.on=true:=uE.2 ⟨e,he,I,rfl⟩;rcases pH e.on n with an|an
 ·exact an
 ·exfalso;have aI:((jh ops o).p>>>n).testBit (e.on-n)=true:=by rw[Nat.testBit_shiftRight];rw[show n+(e.on-n)=e.on from by omega];exact J
  have cc:(jh ops o).p>>>n=0:=h;rw[cc] at aI;simp at aI
theorem tl {cf:ds} {ops:Array Oper}:∀(k:Nat) (l:List Oper) (aj:Nat),(ib P cf ops k l)[aj]? =(l[aj]?).map fun o=>⟨k+aj,o,jh ops o,wy P cf ops o⟩
 |_,[],aj=>by simp[ib]
 |k,o::l,0=>by simp[ib]
 |k,o::l,aj+1=>by
  simp only[ib,rZ];rw[tl (k+1) l aj];congr 1;funext o;rw[show k+1+aj=k+(aj+1) from by omega]
theorem Wt {cf:ds} {ops:Array Oper} (k:Nat) (l:List Oper) (n:Nat):(ib P cf ops k l).drop n=ib P cf ops (k+n) (l.drop n):=by
 apply ye;intro aj;rw[sO,tl,tl,sO];congr 1;funext o;rw[show k+(n+aj)=k+n+aj from by omega]
theorem MO {cf:ds} {ops:Array Oper} {Q:Exit->Act->World->Prop} (DI:∀o∈ops,∀e∈o.after,Region.binds .any e=true->e.on<ops.size):∀(l:List Oper) (k:Nat) (a:Act) (w:World) (cx:Array Bool) (cz:Nat),l=ops.toList.drop k->k+l.length=ops.size->rl ops cz cx->
  (∀aj,aj<k->cz.testBit aj=true)->(∀aj,k<=aj->cz.testBit aj=false)->chainB k (ib P cf ops k l)=true->wpList P ops Q l a w->wpAny P .any ops Q l.length cx a w
 |[],k,a,w,cx,cz,aO,aA,hz,J,an,aH,h=>by
  refine⟨?_,h⟩;rw[List.eq_nil_iff_forall_not_mem];intro aj cu;obtain⟨bk,e_,ir,_⟩:=mem_ready.1 cu;have pc:aj<ops.size:=(fq.1 ir).1;rw[hz.getD pc,J aj (by simp at aA;omega)] at bk;cases bk
 |o::l,k,a,w,cx,cz,aO,aA,hz,J,an,aH,h=>by
  have DD:k<ops.size:=by simp only[e5] at aA;omega
  have bk:ops[k]? =some o:=by
   have:(ops.toList.drop k)[0]? =some o:=by rw[<-aO];rfl
   simpa using this
  have gC:l=ops.toList.drop (k+1):=by rw[<-List.drop_drop,<-aO];rfl
  simp only[ib,chainB,bT] at aH;obtain⟨⟨hp,pd⟩,sa⟩:=aH
  have Wu:∀aj,aj∈Region.ready .any ops cx->aj=k:=fun aj cu=>by
   obtain⟨Ho,e_,ir,hc⟩:=mem_ready.1 cu;have pc:aj<ops.size:=(fq.1 ir).1;rw[hz.getD pc] at Ho;rcases pH aj k with aI|aI
   ·rw[J aj aI] at Ho;cases Ho
   ·rcases pH k aj with cc|cc
    ·exfalso
     have eh:(ib P cf ops (k+1) l)[aj-(k+1)]? =some ⟨aj,e_,jh ops e_,wy P cf ops e_⟩:=by
      rw[tl,gC,sO,show k+1+(aj-(k+1))=aj from by omega];simp[ir]
     have:=ep.1 pd _ (k2 eh);dsimp only at this;obtain⟨e,he,I,wv⟩:=uE.1 this;have bu:=hc e he I;rw[wv,hz.getD (by omega),an (aj-1) (by omega)] at bu;cases bu
    ·omega
  have MP:k∈Region.ready .any ops cx:=by
   rw[mem_ready];refine⟨by rw[hz.getD DD];exact an k (e9 _),o,bk,fun e he I=>?_⟩;have:=MN hp e he I;rw[hz.getD (by omega)];exact J _ this
  refine⟨fun aI=>(by rw[aI] at MP;cases MP),fun i a8=>?_⟩;obtain rfl:=Wu i a8;have hw:wpOp P ops Q i (wpList P ops Q l) a w:=by unfold wpOp;simp only[bk];exact h
  refine wpOp_mono (fun bB w' hl=>MO DI l (i+1) bB w' _ (cz|||2^i) gC (by simp only[e5] at aA;omega) (hz.set DD) (fun aj cu=>?_) (fun aj cu=>?_) sa hl) hw
  ·rw[ud,vE]
   by_cases e:i=aj
   ·rw[decide_eq_true e,gf]
   ·rw[J aj (by omega),qh]
  ·rw[ud,vE,an aj (by omega),decide_eq_false (by omega)];rfl
theorem MQ {ops:Array Oper} (n:Nat):∀(k:Nat) (l:List ey),k+l.length=n->(∀(aj:Nat) y,l[aj]? =some y->y.i=k+aj)->nH n k l<=n∧k<=nH n k l∧
  (∀y,l[nH n k l-k]? =some y->Nat.beq (Nat.land y.x.p (2^nH n k l-1)) (2^nH n k l-1)=true)∧(∀(aj:Nat) y,l[aj]? =some y->nH n k l<k+aj->y.x.p.testBit (nH n k l)=true)∧chainB (nH n k l) (l.drop (nH n k l-k))=true
 |k,[],h,_=>by simp only[nH];simp at h;subst h;simp[chainB]
 |k,y::l,h,a8=>by
  simp only[nH];split
  ·rename_i aH;simp only[bT] at aH;refine⟨by simp at h;omega,e9 _,fun z cS=>?_,fun aj z cS cu=>?_,by simpa using aH.2⟩
   ·simp only[Nat.sub_self,yf,nT] at cS;subst cS;exact aH.1.1
   ·cases aj with
    |zero=>omega
    |succ aj=>
     rw[rZ] at cS;exact ep.1 aH.1.2 z (k2 cS)
  ·obtain⟨J,an,aI,cc,bu⟩:=MQ (ops:=ops) n (k+1) l (by simp at h;omega) (fun aj z cS=>by have:=a8 (aj+1) z (by simpa using cS);omega);generalize nH n (k+1) l=m at*;refine⟨J,by omega,fun z cS=>?_,fun aj z cS cu=>?_,?_⟩
   ·rw[show m-k=(m-(k+1))+1 from by omega,rZ] at cS;exact aI z cS
   ·cases aj with
    |zero=>omega
    |succ aj=>
     rw[rZ] at cS;exact cc aj z cS (by omega)
   ·rw[show m-k=(m-(k+1))+1 from by omega];exact bu
theorem Wv {p k:Nat} (h:Nat.beq (Nat.land p (2^k-1)) (2^k-1)=true) {i:Nat} (a8:i<k):p.testBit i=true:=by
 have h:=eE h
 have an:(p&&&(2^k-1)).testBit i=true:=by
  show(Nat.land p (2^k-1)).testBit i=true;rw[h,Nat.testBit_two_pow_sub_one];simpa using a8
 rw[Nat.testBit_and,bT] at an;exact an.1
theorem Ww {cf:ds} {inl:na} (bf:uG P inl) {N:Nat} {W0:al} {R:Ending->World->Prop} {L:ha} {ops:Array Oper} {Q:Exit->Act->World->Prop} (b8:k_ W0 R Q) {K:bC->Option Tree} {s:bC} {t:Tree} {ρ:aX} {a:Act} {W:al} {id:Nat}
  (j:Hn P cf inl ops s K=some t) (aY:Holds N W0 ρ s a W) (bb:t.ak P N R L ρ W) (cy:ng P N W0 R L ρ W s.fh K (Q .normal)):(Code.region id ops true).wp P Q a W.w:=by
 unfold Hn at j;split at j
 ·rename_i ji;simp only[bT] at ji;obtain⟨hm,Dt,Wx⟩:=ji
  have DI:∀o∈ops,∀e∈o.after,Region.binds .any e=true->e.on<ops.size:=fun o bc=>by
   obtain⟨aj,cu⟩:=Array.getElem?_of_mem bc;have pc:aj<ops.size:=(fq.1 cu).1;have eh:(ib P cf ops 0 ops.toList)[aj]? =some ⟨0+aj,o,jh ops o,wy P cf ops o⟩:=by rw[tl];simp[cu]
   exact MN (ep.1 Wx _ (k2 eh))
  have Wy:(ib P cf ops 0 ops.toList).length=ops.size:=by rw[Mp,sS]
  have yS:∀(aj:Nat) y,(ib P cf ops 0 ops.toList)[aj]? =some y->ops[aj]? =some y.o∧y.i=aj∧y.x=jh ops y.o:=fun aj y bE=>by
   rw[tl,Array.getElem?_toList] at bE;obtain⟨o,bc,rfl⟩:=hI.1 bE;exact⟨bc,by simp,rfl⟩
  obtain⟨t1,_,t3,t4,t5⟩:=MQ (ops:=ops) ops.size 0 (ib P cf ops 0 ops.toList) (by omega) (fun aj y bE=>by have:=(yS aj y bE).2.1;omega);generalize uB:nH ops.size 0 (ib P cf ops 0 ops.toList)=ar at*;rw[Nat.sub_zero] at t3 t5;have cS:∀aj,(0:Nat).testBit aj=false:=fun aj=>by simp
  have MM:lS P ops ar (ops.size-ar) 0 ((ib P cf ops 0 ops.toList).take ar) ((ib P cf ops 0 ops.toList).drop ar) (Array.replicate ops.size false):=by
   refine⟨Dt,⟨by simp,fun aj cu=>by simp[cu]⟩,DI,fun aj e_ cu axL=>?_,fun aj _=>cS aj,fun it eh=>?_,fun aj cu=>.inr ?_,?_,fun aj cu wA=>?_,t1,fun a w Q fx wi hz J an aI=>?_⟩
   ·have pc:aj<ops.size:=(fq.1 cu).1;have eh:(ib P cf ops 0 ops.toList)[aj]? =some ⟨0+aj,e_,jh ops e_,wy P cf ops e_⟩:=by rw[tl];simp[cu]
    refine⟨fun i a8 e=>?_,fun h=>?_⟩
    ·subst e;exact uE.1 (Wv (t3 _ eh) a8)
    ·exact uE.1 (t4 aj _ eh (by omega))
   ·obtain⟨aj,cu⟩:=List.getElem?_of_mem eh
    have k3:aj<ar:=by
     have:=(nU.1 cu).1;rw[mX] at this;omega
    rw[oX,if_pos k3] at cu;obtain⟨J,an,aI⟩:=yS aj it cu;rw[an];exact⟨J,aI,k3,cS aj⟩
   ·have wA:aj<ops.size:=lv cu t1;obtain⟨o,bc⟩:∃o,ops[aj]? =some o:=⟨ops[aj],by simp[wA]⟩;have eh:(ib P cf ops 0 ops.toList)[aj]? =some ⟨0+aj,o,jh ops o,wy P cf ops o⟩:=by rw[tl];simp[bc]
    exact⟨_,k2 (i:=aj) (by rw[oX,if_pos cu];exact eh),by simp⟩
   ·exact(Mq 0 _).sublist (List.take_sublist _ _)
   ·obtain⟨o,bc⟩:∃o,ops[aj]? =some o:=⟨ops[aj],by simp[wA]⟩;have eh:(ib P cf ops 0 ops.toList)[aj]? =some ⟨0+aj,o,jh ops o,wy P cf ops o⟩:=by rw[tl];simp[bc]
    exact⟨_,k2 (i:=aj-ar) (by rw[sO,show ar+(aj-ar)=aj from by omega];exact eh),by simp,by simpa using bc,rfl⟩
   ·rw[Wt,mY] at t5;have:=MO (cf:=cf) (Q:=Q) DI (ops.toList.drop ar) ar a w fx wi rfl (by simp;omega) hz J an t5 aI;rwa[sV,sS] at this
  refine wp_region_any hm ?_;have bP:=ld bf b8 rfl _ _ _ _ _ _ _ _ _ _ j aY bb cy MM (n1 aY);have aO:((ib P cf ops 0 ops.toList).take ar).length+(ops.size-ar)=ops.size:=by rw[mX,Wy];omega
  have mO:hn W.w {W.w with drawn:=W.w.drawn+1}:=⟨rfl,rfl,rfl,e9 _,fun _ _=>rfl⟩;have:=G0 _ _ _ _ (L0 _ _ _ _ _ mO bP);rw[aO] at this;exact this
 ·cases j
variable {P:Program}
def Hp (P:Program) (t:TypeId):Option (Array Value):=match P.underlying t with
 |some (.slice el)=>match P.info? el with
  |some dZ=>match dZ.zero with
   |some z=>if z.cells.toList.all Value.oneCell' then some z.cells else none
   |none=>none
  |none=>none
 |_=>none
def Wz:af->E->Bool
 | .bt _ _ c,e=>E.eb c e
 |_,_=>false
def WA (s:bC) (d2:Nat) (d3:Option Nat) (q:b3) (rest:List b3):bC:={s with az:=eQ s.n (eQ s.n s.az (some d2) none) d3 none,rw:={q with xs:=[.l s.c.L]}::rest,c:=s.c.add {L:=1}}
def Hq (P:Program) (ops:Array Oper) (s:bC) (K:bC->Option Tree):Option Tree:=
 match ops.toList with
 |[iI,ec,fc,fS]=>
  if iI.guard.isNone&&(ec.guard.isNone&&(fc.guard.isNone&&fS.guard.isNone)) then
  match iI.op,ec.op,fc.dst,fS.op with
  | .move x,.move i,some d2,.call c=>match c.callee,c.args.toList,c.argTypes.toList,dU s.az x with
   | .builtin .clear,[.tmp d3],[t],some lV=>match dU (eQ s.n s.az iI.dst (some lV)) i with
    |some n3=>match hy P {s with az:=eQ s.n (eQ s.n s.az iI.dst (some lV)) ec.dst (some n3)} fc.op with
     |some (.sub aa lo a8 jN m z)=>match rowAt s.rw aa,Hp P t with
      |some r,some zs=>match pK s.rw r.v with
       |some q=>if(Nat.beq d2 d3&&Nat.ble (d2+1) s.n&&(E.eb a8 q.n&&gq q.n)&&(Nat.beq q.sz z&&Nat.beq z zs.size&&Nat.ble 1 z)&&Wz q.v jN)&&(bC.ok {s with az:=eQ s.n (eQ s.n s.az iI.dst (some lV)) ec.dst (some n3)}&&q.ok s.c) then
         (K (WA {s with az:=eQ s.n (eQ s.n s.az iI.dst (some lV)) ec.dst (some n3)} d2 fS.dst q (o7 s.rw r.v))).map fun t=>lB s.kn (.sm aa::.aF .lt lo q.n::C5 lo a8 m) (.Gk q.xs lo q.n z zs t)
        else none
       |none=>none
      |_,_=>none
     |_=>none
    |none=>none
   |_,_,_,_=>none
  |_,_,_,_=>none
  else none
 |_=>none
theorem DJ {o:Oper} {y:Nat->Option Bool} (h:o.guard.isNone=true):Region.wanted o y=true:=by
 have:o.guard=none:=by cases bP:o.guard with
  |none=>rfl
  |some _=>rw[bP] at h;cases h
 unfold Region.wanted;rw[this]
theorem MR {P:Program} {a:Act} {o:Oper} {x:Operand} (h:o.op= .move x) (w:World):(execOp a.eval o).run P w= .ok (.value (a.eval x)) w:=by
 obtain⟨dst,op,kD,pos,after,guard⟩:=o;dsimp only at h;subst h;simp[execOp]
theorem Hr (zs:Array Value) (n:Nat):(Builtin.zeroCells zs n).toList.length=n*zs.size:=by simp[Builtin.zeroCells]
theorem WB {zs:Array Value} (h:∀u∈zs.toList,u.oneCell'=true) (cS:0<zs.size) (n:Nat):∀u∈(Builtin.zeroCells zs n).toList,u.oneCell'=true:=fun u hu=>by
 simp only[Builtin.zeroCells,sP,h7] at hu;obtain⟨i,_,rfl⟩:=hu;have fr:i % zs.size<zs.size:=Nat.mod_lt _ cS;rw[getElem!_pos zs (i % zs.size) fr];exact h _ (by simp)
theorem WC {P:Program} {a:Act} {o:Oper} {c:Call} {d:Nat} {t:TypeId} (h:o.op= .call c) (aH:c.callee= .builtin .clear) (bl:c.args.toList=[.tmp d]) (fj:c.argTypes.toList=[t]) {el:TypeId} {z:Value} {g off n k:Nat} (cB:0<n)
  (hu:P.underlying t=some (.slice el)) (cS:∀w,(zeroValue el).run P w= .ok z w) (aB:a.eval (.tmp d)= .slice (some ⟨g,off,none⟩) n k) {e:TypeId} {cur:Array Value} {w:World} (bP:w.heap[g]? =some (.cells cur e (0,0))) (aO:off+n*z.cells.size<=cur.size) (iS:∀u∈(Builtin.zeroCells z.cells n).toList,u.oneCell'=true):
  (execOp a.eval o).run P w= .ok (.value (.tuple #[])) (w.setRow g (hg cur.toList off (Builtin.zeroCells z.cells n).toList).toArray):=by
 obtain⟨dst,op,kD,pos,after,guard⟩:=o;dsimp only at h;subst h;obtain⟨callee,args,ts⟩:=c;dsimp only at aH bl fj;subst aH;have a7:args=#[.tmp d]:=by apply Array.ext';simpa using bl
 have bh:ts=#[t]:=by apply Array.ext';simpa using fj
 subst a7 bh;have aI:=run_storeCells_at P g off e (Builtin.zeroCells z.cells n).toList 0 cur w bP (by rw[Hr,ff];exact aO) iS
 have cc:(storeCells ⟨g,off,none⟩ (Builtin.zeroCells z.cells n).toList 0).run P w= .ok () (w.setRow g (hg cur.toList off (Builtin.zeroCells z.cells n).toList).toArray):=by
  rw[aI];simp[hg]
 obtain⟨m,rfl⟩:∃m,n=m+1:=⟨n-1,by omega⟩;simp only[execOp,resolve,invoke,builtin,Sem.run_bind,Sem.run_pure,Result.andThen_ok,List.map_toArray,jo,List.map_nil,aB,Builtin.clear_];simp[run_underlying hu,cS,cc]
theorem eval_put {a:Act} {d:Nat} {v:Value} (h:d<a.tmps.size):(a.put (some d) v).eval (.tmp d)=v:=by
 simp only[Act.put,Act.eval,mF];rw[Array.getElem?_setIfInBounds_self_of_lt h];rfl
theorem WD {P:Program} {t:TypeId} {zs:Array Value} (h:Hp P t=some zs):∃el z,P.underlying t=some (.slice el)∧(∀w,(zeroValue el).run P w= .ok z w)∧z.cells=zs∧∀u∈zs.toList,u.oneCell'=true:=by
 unfold Hp at h;split at h
 ·rename_i el hu;split at h
  ·rename_i dZ ma;split at h
   ·rename_i z cS;split at h
    ·rename_i hc;obtain rfl:=bm h;exact⟨el,z,hu,fun w=>by simp[zeroValue,typeInfo,ma,cS],rfl,fun u hm=>ep.1 hc u hm⟩
    ·cases h
   ·cases h
  ·cases h
 ·cases h
theorem WE {N:Nat} {W0:al} {R:Ending->World->Prop} {L:ha} {ops:Array Oper} {Q:Exit->Act->World->Prop} {K:bC->Option Tree} {s:bC} {t:Tree} {ρ:aX} {a:Act} {W:al} (j:Hq P ops s K=some t) (aY:Holds N W0 ρ s a W) (bb:t.ak P N R L ρ W)
  (cy:ng P N W0 R L ρ W s.fh K (Q .normal)):wpList P ops Q ops.toList a W.w:=by
 unfold Hq at j;split at j;rotate_left
 ·cases j
 rename_i iI ec fc fS Hs;rw[Hs];split at j;rotate_left
 ·cases j
 rename_i mM;simp only[bT] at mM;obtain⟨g0,g1,g2,g3⟩:=mM;split at j;rotate_left
 ·cases j
 rename_i x i d2 c bk J an aI;split at j;rotate_left
 ·cases j
 rename_i d3 mi lV aH bl fj WG;split at j;rotate_left
 ·cases j
 rename_i n3 WH;split at j;rotate_left
 ·cases j
 rename_i aa lo a8 bG m z he;split at j;rotate_left
 ·cases j
 rename_i r zs aw cS;split at j;rotate_left
 ·cases j
 rename_i q bg;split at j;rotate_left
 ·cases j
 rename_i MS;simp only[bT] at MS;obtain⟨⟨⟨⟨⟨a7,bh⟩,c8,gj⟩,⟨hx,ow⟩,DK⟩,sl⟩,WI,WJ⟩:=MS;have a7:=eE a7;have bh:=l7 bh;have c8:=E.jc c8;have hx:=eE hx;have ow:=eE ow;have DK:=l7 DK;subst a7;obtain⟨u,hu,rfl⟩:=map_some j;obtain⟨sj,a_⟩:=me aY.kn bb;obtain⟨wC,fr,k9⟩:=sj;have fr:lo.i ρ<q.n.i ρ:=of_decide_eq_true fr;have axM:0<=lo.i ρ:=by have:=k9.1;rw[r6] at this;have:=of_decide_eq_true this;simpa[E.i] using this
 obtain⟨ox,qC⟩:=uA bg;obtain⟨dd,qD,yM⟩:=Db aw;have r8:q.v= .bt aa dd qD:=qC.trans yM;have kC:q∈s.rw:=ox.mem_iff.2 (c6 ..);obtain⟨el,wD,oB,AF,rfl,WK⟩:=WD cS
 have qx:q.v.ak ρ≠ .slice none 0 0:=by
  rw[r8];intro qx;simp only[af.ak] at qx;injection qx with bn a2 a3
  have:(aR ρ.A aa none).isSome=true:=wC;rw[bn] at this;cases this
 have aA:((lo.i ρ).toNat*z)+(Builtin.zeroCells wD.cells ((q.n.i ρ).toNat-(lo.i ρ).toNat)).toList.length<=(q.n.i ρ).toNat*q.sz:=by
  rw[Hr,<-ow,hx,<-sT];exact sR _ (by omega)
 have iS:=WB WK (by omega) ((q.n.i ρ).toNat-(lo.i ρ).toNat)
 
 have b0:Holds N W0 ρ {s with az:=eQ s.n s.az iI.dst (some lV)} (a.put iI.dst (lV.ak ρ)) W:=aY.put iI.dst (lV.ak ρ) (some lV) (fun y bE=>by obtain rfl:=bm bE;rfl);have bZ:Holds N W0 ρ {s with az:=eQ s.n (eQ s.n s.az iI.dst (some lV)) ec.dst (some n3)} ((a.put iI.dst (lV.ak ρ)).put ec.dst (n3.ak ρ)) W:=b0.put ec.dst (n3.ak ρ) (some n3) (fun y bE=>by obtain rfl:=bm bE;rfl);have mj:=(GW bZ he k9 W.w).1;obtain⟨g,cap,cur,aJ,c2,c3,c4,c5,bw⟩:=bZ.Lu WI ox WJ r8 qx aA iS;obtain⟨hS,kF⟩:∃hS,hS=Value.slice (jw (aR ρ.A aa none) (lo.i ρ).toNat (bG.i ρ).toNat z) ((a8.i ρ).toNat-(lo.i ρ).toNat) ((bG.i ρ).toNat-(lo.i ρ).toNat):=⟨_,rfl⟩;rw[<-kF] at mj;have DL:((a.put iI.dst (lV.ak ρ)).put ec.dst (n3.ak ρ)).tmps.size=s.n:=bZ.len;have uJ:=eval_put (a:=(a.put iI.dst (lV.ak ρ)).put ec.dst (n3.ak ρ)) (d:=d2) (v:=hS) (by rw[DL];exact bh)
 have MT:(bG.i ρ).toNat≠(lo.i ρ).toNat:=by
  rw[r8] at sl;have Ht:=E.jc sl;obtain⟨⟨_,hi⟩,_⟩:=aY.rw q kC;rcases hi with⟨GF,_⟩|⟨yT,axN,Dd,aB,_,_,yE,_⟩
  ·exact absurd GF qx
  ·rw[r8] at aB;simp only[af.ak] at aB;injection aB with bn a2 a3
   rw[<-Ht];omega
 have pT:=WC (P:=P) (a:=((a.put iI.dst (lV.ak ρ)).put ec.dst (n3.ak ρ)).put (some d2) hS) aI aH bl fj (g:=g) (off:=(lo.i ρ).toNat*z) (n:=(q.n.i ρ).toNat-(lo.i ρ).toNat) (k:=(bG.i ρ).toNat-(lo.i ρ).toNat) (by omega) oB AF (by rw[uJ,kF,aJ,c8];unfold jw;rw[if_neg MT];simp only[l6,ky,mY]) c2 (by rw[Hr] at c4;exact c4) iS;have st:=fun(y:Nat->Option Bool)=>And.intro (DJ (y:=y) g0) (And.intro (DJ (y:=y) g1) (And.intro (DJ (y:=y) g2) (DJ (y:=y) g3)))
 have v0:a.eval x=lV.ak ρ:=aY.az x lV WG;have v1:(a.put iI.dst (lV.ak ρ)).eval i=n3.ak ρ:=b0.az i n3 WH;unfold wpList;rw[if_pos (st _).1];refine .inl ?_;unfold Oper.wp;rw[MR bk,v0];show wpList P ops Q [ec,fc,fS] (a.put iI.dst (lV.ak ρ)) W.w;unfold wpList;rw[if_pos (st _).2.1];refine .inl ?_;unfold Oper.wp;rw[MR J,v1];show wpList P ops Q [fc,fS] ((a.put iI.dst (lV.ak ρ)).put ec.dst (n3.ak ρ)) W.w;unfold wpList;rw[if_pos (st _).2.2.1];refine .inl ?_;unfold Oper.wp;rw[mj];show wpList P ops Q [fS] (((a.put iI.dst (lV.ak ρ)).put ec.dst (n3.ak ρ)).put fc.dst hS) W.w;rw[an];unfold wpList;rw[if_pos (st _).2.2.2];refine .inl ?_;unfold Oper.wp;rw[pT];show Q .normal ((((a.put iI.dst (lV.ak ρ)).put ec.dst (n3.ak ρ)).put (some d2) hS).put fS.dst (.tuple #[])) (W.row g (hg cur.toList ((lo.i ρ).toNat*z) (Builtin.zeroCells wD.cells ((q.n.i ρ).toNat-(lo.i ρ).toNat)).toList).toArray).w;have f1:=(bw.put (some d2) hS none (fun y bE=>by cases bE)).put fS.dst (.tuple #[]) none (fun y bE=>by cases bE);exact cy _ u _ _ _ hu c5 rfl f1 (a_ _ c5)
variable {P:Program}
abbrev ic:=af×Option b3
def turnsRow (o:Oper):Bool:=match o.op with
 | .call c=>(match c.callee with
  | .builtin .append=>true
  | .builtin _=>false
  |_=>true)
 | .store .. | .makeSlice .. =>true
 |_=>false
def WL (cf:ds) (o:Oper):Bool:=
 match o.op with
 | .store .. =>true
 | .call c=>match c.callee with
  | .value (.func f)=>(ds.re cf.mu f).isSome
  |_=>false
 |_=>false
def ds.WM (cf:ds) (ops:Array Oper):ds:=if ops.toList.any (WL cf) then cf else {cf with gT:=[]}
def ds.WN (cf:ds) (ops:Array Oper):ds:=(if ops.toList.any turnsRow then cf else {cf with fN:=false}).WM ops
def ds.WO (cf:ds) (id:Nat):ds:=match ds.re cf.kB id with
 |some l=>{cf with gT:=l}
 |none=>if cf.kB.isEmpty then cf else {cf with gT:=[],fN:=false}
def oC:Option b3->List b3
 |some r=>[r]
 |none=>[]
def tm:List b4->Nat->Nat->af->List b4
 |[],_,_,_=>[]
 |b::l,m,off,x=>if b.m=m then {b with cs:=b.cs.set off x}::l else b::tm l m off x
def rr (s:bC) (p:Pos) (x:ic):bC:=match p with
 | .az t| .row t _=>{s with az:=(t,some x.1)::s.az,rw:=oC x.2++s.rw}
 | .cell m off| .rb m off _=>{s with hp:=tm s.hp m off x.1,rw:=oC x.2++s.rw}
def fH (s:bC):List Pos->List ic->bC
 |p::cw,x::xs=>fH (rr s p x) cw xs
 |_,_=>s
def pU (P:Program) (s:bC) (rw:List b3):Pos->Option (ic×List b3)
 | .az t=>(gB s.az t).map fun x=>((x,none),rw)
 | .cell m off=>match jG s.hp m with
  |some b=>(b.cs[off]?).map fun x=>((x,none),rw)
  |none=>none
 | .row t ty=>match gB s.az t with
  |some v=>match rowOf P rw ty v with
   |some (r,rest,_)=>some ((v,some r),rest)
   |none=>none
  |none=>none
 | .rb m off ty=>match jG s.hp m with
  |some b=>match b.cs[off]? with
   |some v=>match rowOf P rw ty v with
    |some (r,rest,_)=>some ((v,some r),rest)
    |none=>none
   |none=>none
  |none=>none
def ru (P:Program) (s:bC):List Pos->List b3->Option (List ic×List b3)
 |[],rw=>some ([],rw)
 |p::cw,rw=>match pU P s rw p with
  |some (x,rh)=>match ru P s cw rh with
   |some (l,rest)=>some (x::l,rest)
   |none=>none
  |none=>none
def rv (l:List ic):List af:=l.map (·.1)
def nI (l:List ic):List b3:=l.flatMap fun x=>oC x.2
def MU:af->dj->Option (af×dj)
 | .bool _,c=>some (.bool (.bv c.B),{c with B:=c.B+1})
 | .int k _,c=>some (.int k (.aN c.aV),{c with aV:=c.aV+1})
 | .str _,c=>some (.str (.br c.T),{c with T:=c.T+1})
 | .bt _ _ _,c| .db,c| .fM _ _ _ _,c=>some (.bt c.A (.aW c.N) (.aW (c.N+1)),{c with A:=c.A+1,N:=c.N+2})
 | .agg _,_| .cU _,_| .when _ _ _,_=>none
 |_,c=>some (.var c.V,{c with V:=c.V+1})
def MV:List af->dj->Option (List af×dj)
 |[],c=>some ([],c)
 |s::l,c=>match MU s c with
  |some (h,bG)=>match MV l bG with
   |some (r,oo)=>some (h::r,oo)
   |none=>none
  |none=>none
def WQ (s:af) (c:dj):Option (af×dj):=match s with
 | .agg l=>(MV l c).map fun p=>(.agg p.1,p.2)
 |s=>MU s c
def MW (x:ic) (c:dj):Option (ic×dj):=match x.2 with
 |some r=>some ((.bt c.A (.aW c.N) (.aW (c.N+1)),some ⟨.bt c.A (.aW c.N) (.aW (c.N+1)),.aW c.N,r.e,r.sz,[.l c.L]⟩),{c with A:=c.A+1,N:=c.N+2,L:=c.L+1})
 |none=>(WQ x.1 c).map fun p=>((p.1,none),p.2)
def A0:List ic->dj->Option (List ic×dj)
 |[],c=>some ([],c)
 |s::l,c=>match MW s c with
  |some (h,bG)=>match A0 l bG with
   |some (r,oo)=>some (h::r,oo)
   |none=>none
  |none=>none
def pe:List ic->List ic->Bool
 |[],[]=>true
 |x::l,y::m=>(match x.2,y.2 with
  |some r,some q=>decide (r.e=q.e)&&decide (r.sz=q.sz)
  |none,none=>true
  |_,_=>false)&&pe l m
 |_,_=>false
def dV.eb:dV->dV->Bool
 | .l a,.l b=>Nat.beq a b
 | .s x,.s y=>af.eb x y
 | .z n,.z m=>E.eb n m
 |_,_=>false
def yU:List dV->List dV->Bool
 |[],[]=>true
 |a::l,b::m=>dV.eb a b&&yU l m
 |_,_=>false
theorem MX:∀{a b:List dV},yU a b=true->a=b
 |[],[],_=>rfl
 |[],_::_,h=>by simp[yU] at h
 |_::_,[],h=>by simp[yU] at h
 |a::l,b::m,h=>by
  simp only[yU,bT] at h
  have J:a=b:=by
   cases a<;>cases b<;>simp only[dV.eb] at h
   ·rw[eE h.1]
   ·cases h.1
   ·cases h.1
   ·cases h.1
   ·rw[af.jc h.1]
   ·cases h.1
   ·cases h.1
   ·cases h.1
   ·rw[E.jc h.1]
  rw[J,MX h.2]
def uN:List b3->List b3->Bool
 |[],[]=>true
 |a::l,b::m=>(af.eb a.v b.v&&E.eb a.n b.n&&decide (a.e=b.e)&&decide (a.sz=b.sz)&&yU a.xs b.xs)&&uN l m
 |_,_=>false
theorem DM:∀{a b:List b3},uN a b=true->a=b
 |[],[],_=>rfl
 |[],_::_,h=>by simp[uN] at h
 |_::_,[],h=>by simp[uN] at h
 |⟨v,n,e,sz,xs⟩::l,⟨uD,fZ,dy,axO,A1⟩::m,h=>by
  simp only[uN,bT,decide_eq_true_eq] at h;obtain⟨⟨⟨⟨⟨J,an⟩,aI⟩,cc⟩,bu⟩,hs⟩:=h;rw[af.jc J,E.jc an,aI,cc,MX bu,DM hs]
def gx:Code->List Nat
 | .region _ ops _=>ops.toList.filterMap (·.dst)
 | .seq a b=>gx a++gx b
 | .cond _ a b=>gx a++gx b
 | .block _ b=>gx b
 | .loop b=>gx b
 | .scope b=>gx b
 |_=>[]
def gV (az:eJ):List Nat->eJ
 |[]=>az
 |t::l=>gV ((t,none)::az) l
def sn:Code->Option Nat
 | .region id _ _=>some id
 | .seq a b=>(sn a).or (sn b)
 | .cond _ a b=>(sn a).or (sn b)
 | .block _ b=>sn b
 | .loop b=>sn b
 | .scope b=>sn b
 |_=>none
def DN (a b:eJ):eJ->Bool
 |[]=>true
 |(k,_)::l=>(match gB b k with
  |some h=>(match gB a k with
   |some x=>af.eb x h
   |none=>false)
  |none=>true)&&DN a b l
def MY (a b:eJ):Bool:=DN a b b
def wE:List b4->List b4->Bool
 |[],[]=>true
 |a::l,b::m=>decide (a.m=b.m)&&decide (a.ty=b.ty)&&af.nA a.cs b.cs&&wE l m
 |_,_=>false
def cover (s' s:bC):Bool:=(MY s'.az s.az&&wE (s'.hp.drop (s'.hp.length-s.hp.length)) s.hp)&&(wE s'.ro s.ro&&Nat.beq s'.n s.n)
def WR (cf:ds) (k:Nat):Nat:=(ds.re cf.k5 k).getD 0
inductive X where
 |iJ|exit (id:Nat)|ret
def X.out:X->Exit
 | .iJ=>.normal
 | .exit id=>.exit id
 | .ret=>.ret
def WS (cf:ds) (b:Code):Option (List Pos):=match cf.j3 with
 |[]=>none
 |_=>match sn b with
  |some k=>ds.Ln cf.j3 k
  |none=>none
def DO (A2:bC->(X->bC->Option Tree)->Option Tree):Nat->bC->(X->bC->Option Tree)->Option Tree
 |0,_,_=>none
 |n+1,s,K=>A2 s fun x s'=>match x with
  | .iJ=>DO A2 n s' K
  |x=>K x s'
def kU (P:Program) (cf:ds) (inl:na):Code->bC->(X->bC->Option Tree)->Option Tree
 | .skip,s,K=>K .iJ s
 | .label _,s,K=>K .iJ s
 | .seq a b,s,K=>match WS cf b with
  |none=>kU P cf inl a s fun x s'=>match x with
   | .iJ=>kU P cf inl b s' K
   |x=>K x s'
  |some cw=>match ru P s cw s.rw with
   |some (mP,rest)=>match A0 mP s.c with
    |some (fJ,bG)=>
     if s.ok&&((rv fJ).all (af.ok (s.c.add (bG.eP s.c)))&&(nI fJ).all (b3.ok (s.c.add (bG.eP s.c))))&&pe mP fJ then
      match kU P cf inl a {s with fh:=s.fh+1} (fun x s'=>match x with
       | .iJ=>match ru P s' cw s'.rw with
        |some (j2,je)=>if cover s' (fH {s with az:=gV s.az (gx a),rw:=rest} cw j2)&&uN (je.drop (je.length-rest.length)) rest&&pe j2 fJ then some (Gm (s'.hp.take (s'.hp.length-(fH {s with az:=gV s.az (gx a),rw:=rest} cw j2).hp.length)) (Gn (je.take (je.length-rest.length)) (.again s.fh (rv j2) (nI j2)))) else none
        |none=>none
       |x=>K x s'),kU P cf inl b {fH {s with az:=gV s.az (gx a),rw:=rest} cw fJ with c:=s.c.add (bG.eP s.c)} K with
      |some ry,some A3=>some (.join ry (rv fJ) (nI fJ) (bG.eP s.c) A3)
      |_,_=>none
     else none
    |none=>none
   |none=>none
 | .cond c a b,s,K=>match (dU s.az c).map (r3 s.kn) with
  |some (.bool e)=>match dec s.kn e with
   |some true=>kU P cf inl a s K
   |some false=>kU P cf inl b s K
   |none=>match kU P cf inl a {s with kn:=l9 e true s.kn} K,kU P cf inl b {s with kn:=l9 e false s.kn} K with
    |some t,some u=>some (.aC e t u)
    |_,_=>none
  |_=>none
 | .block id b,s,K=>kU P cf inl b s fun x s'=>match x with
  | .exit i=>if i=id then K .iJ s' else K (.exit i) s'
  |x=>K x s'
 | .exit id,s,K=>K (.exit id) s
 | .ret,s,K=>K .ret s
 | .region id ops draw,s,K=>if draw then Hn P ((cf.WO id).WN ops) inl ops s (K .iJ) else match Hq P ops s (K .iJ) with
  |some t=>some t
  |none=>j4 P cf inl ops cf.iR ops.toList s (K .iJ)
 | .loop b,s,K=>match sn b with
  |some k=>match WR cf k with
   |n+1=>DO (kU P cf inl b) (n+1) s K
   |0=>match ru P s (ds.find cf.ei k) s.rw with
    |some (mP,rest)=>match A0 mP s.c with
     |some (fJ,bG)=>
      if s.ok&&((rv fJ).all (af.ok (s.c.add (bG.eP s.c)))&&(nI fJ).all (b3.ok (s.c.add (bG.eP s.c))))&&pe mP fJ then
       match kU P cf inl b {fH {s with az:=gV s.az (gx b),rw:=rest} (ds.find cf.ei k) fJ with c:=s.c.add (bG.eP s.c),fh:=s.fh+1} (fun x s'=>match x with
        | .iJ=>match ru P s' (ds.find cf.ei k) s'.rw with
         |some (j2,je)=>if cover s' (fH {s with az:=gV s.az (gx b),rw:=rest} (ds.find cf.ei k) j2)&&uN (je.drop (je.length-rest.length)) rest&&pe j2 fJ then some (Gm (s'.hp.take (s'.hp.length-(fH {s with az:=gV s.az (gx b),rw:=rest} (ds.find cf.ei k) j2).hp.length)) (Gn (je.take (je.length-rest.length)) (.again s.fh (rv j2) (nI j2)))) else none
         |none=>none
        |x=>K x s') with
       |some t=>some (.loop (rv mP) (nI mP) (rv fJ) (nI fJ) (bG.eP s.c) t)
       |none=>none
      else none
     |none=>none
    |none=>none
  |none=>none
 |_,_,_=>none
def pV (P:Program) (N:Nat) (W0:al) (R:Ending->World->Prop) (L:ha) (ρ:aX) (W:al) (K:X->bC->Option Tree) (Q:Exit->Act->World->Prop):Prop:=
 ∀x s' cR e M bB W',K x s'=some cR->Ext W W'->s'.fh=(L++M).length->Holds N W0 (ρ.push e) s' bB W'->cR.ak P N R (L++M) (ρ.push e) W'->Q x.out bB W'.w
theorem pV.step {N:Nat} {W0:al} {R:Ending->World->Prop} {L M:ha} {ρ d:aX} {W W1:al} {K:X->bC->Option Tree} {Q:Exit->Act->World->Prop} (h:pV P N W0 R L ρ W K Q) (x:Ext W W1):pV P N W0 R (L++M) (ρ.push d) W1 K Q:=
 fun y s' cR e N bB W' J j aO an aI=>h y s' cR (d.push e) (M++N) bB W' J (x.trans j) (by rw[<-jW];exact aO) (by rw[<-nh];exact an) (by rw[<-nh,<-jW];exact aI)
theorem k_.wF {W0:al} {R:Ending->World->Prop} {Q:Exit->Act->World->Prop} (h:k_ W0 R Q) (K:Act->World->Prop):k_ W0 R (Exit.then K Q):=⟨h.mJ,h.put⟩
theorem k_.oD {W0:al} {R:Ending->World->Prop} {Q:Exit->Act->World->Prop} (h:k_ W0 R Q) (id:Nat):k_ W0 R (Exit.inBlock id Q):=⟨h.mJ,h.put⟩
structure mQ (N:Nat) (W0:al) (ρ:aX) (W:al) (hp:List b4) (rw:List b3):Prop where
 eB:∀r∈rw,r.at N ρ W.w∧∀k,dk ρ r=some k->¬W.aV k∧∀b∈hp,aR ρ.M b.m 0≠k
 e2:rw.Pairwise (yD ρ)
theorem Holds.A4 {N:Nat} {W0:al} {ρ:aX} {s:bC} {a:Act} {W:al} (h:Holds N W0 ρ s a W):mQ N W0 ρ W s.hp s.rw:=⟨fun r aw=>⟨h.rw r aw,h.gS r aw⟩,h.lA⟩
theorem mQ.perm {N:Nat} {W0:al} {ρ:aX} {W:al} {hp:List b4} {l m:List b3} (h:mQ N W0 ρ W hp l) (p:l.Perm m):mQ N W0 ρ W hp m:=
 ⟨fun r aw=>h.eB r (p.mem_iff.2 aw),(p.pairwise_iff (fun ri=>Da ri)).1 h.e2⟩
theorem mQ.sub {N:Nat} {W0:al} {ρ:aX} {W:al} {hp:List b4} {l m:List b3} (h:mQ N W0 ρ W hp l) (p:m.Sublist l):mQ N W0 ρ W hp m:=
 ⟨fun r aw=>h.eB r (p.subset aw),h.e2.sublist p⟩
theorem mQ.nil {N:Nat} {W0:al} {ρ:aX} {W:al} {hp:List b4} {l:List b3} (h:mQ N W0 ρ W hp l) (e:TypeId) (sz:Nat):mQ N W0 ρ W hp (⟨.db,.aE 0,e,sz,[]⟩::l):=by
 have bc:∀k,dk ρ ⟨.db,.aE 0,e,sz,[]⟩≠some k:=fun k aA=>by simp[dk,af.ak,Value.ownBlock] at aA
 refine⟨fun r aw=>?_,?_⟩
 ·rcases dh.1 aw with a7|a7
  ·subst a7;exact⟨⟨World.ownsRow_nil _ _ _ _,fun u hu=>by cases hu⟩,fun k aA=>absurd aA (bc k)⟩
  ·exact h.eB r a7
 ·rw[od];exact⟨fun q _ k aA=>absurd aA (bc k),h.e2⟩
theorem MZ {N:Nat} {W0:al} {ρ:aX} {W:al} {hp:List b4} {acc rw rest:List b3} {t:TypeId} {v:af} {r:b3} {dZ:TypeInfo} (h:mQ N W0 ρ W hp (acc++rw)) (aw:rowOf P rw t v=some (r,rest,dZ)):mQ N W0 ρ W hp ((r::acc)++rest)∧r.v=v:=by
 unfold rowOf at aw;split at aw
 ·split at aw
  ·split at aw
   ·have e:=bm aw;injection e with a7 bh
    injection bh with bh c8
    subst a7 bh c8;exact⟨h.nil _ _,rfl⟩
   ·split at aw
    ·rename_i fF bs;split at aw
     ·have e:=bm aw;injection e with a7 bh
      injection bh with bh c8
      subst a7 bh c8;obtain⟨J,an⟩:=uA bs;exact⟨h.perm ((J.append_left acc).trans List.perm_middle),an⟩
     ·cases aw
    ·cases aw
  ·cases aw
 ·cases aw
def n4:List ic->List b3->List b3
 |[],rw=>rw
 |x::l,rw=>n4 l (oC x.2++rw)
theorem Hu:∀(l:List ic) {m n:List b3},m.Sublist n->(n4 l m).Sublist (n4 l n)
 |[],_,_,h=>h
 |x::l,_,_,h=>Hu l ((yb _).append h)
theorem uO:∀(cw:List Pos) (xs:List ic) (s:bC),cw.length=xs.length->(fH s cw xs).rw=n4 xs s.rw
 |[],[],_,_=>rfl
 |[],_::_,_,h=>by simp at h
 |_::_,[],_,h=>by simp at h
 |p::cw,x::xs,s,h=>by
  simp only[fH,n4];rw[uO cw xs _ (by simpa using h)];cases p<;>rfl
def yV (x:ic):Prop:=∀r,x.2=some r->r.v=x.1
theorem A5 {N:Nat} {W0:al} {ρ:aX} {W:al} {hp:List b4} (s:bC):∀(cw:List Pos) (acc rw:List b3) (l:List ic) (rest:List b3),mQ N W0 ρ W hp (acc++rw)->ru P s cw rw=some (l,rest)->mQ N W0 ρ W hp (n4 l (acc++rest))∧(∀x∈l,yV x)∧cw.length=l.length
 |[],acc,rw,l,rest,h,bP=>by
  have e:=bm bP;injection e with a7 bh
  subst a7 bh;exact⟨h,fun x j=>(by cases j),rfl⟩
 |p::cw,acc,rw,l,rest,h,bP=>by
  simp only[ru] at bP;split at bP
  ·rename_i x rh ml;split at bP
   ·rename_i fx je aO;have e:=bm bP;injection e with a7 bh
    subst a7 bh
    have key:mQ N W0 ρ W hp ((oC x.2++acc)++rh)∧yV x:=by
     cases p with
     |az t=>
      simp only[pU] at ml;obtain⟨y,bE,e⟩:=hI.1 ml;injection e with a7 bh
      subst a7 bh;exact⟨h,fun r aw=>by cases aw⟩
     |cell m off=>
      simp only[pU] at ml;split at ml
      ·obtain⟨y,bE,e⟩:=hI.1 ml;injection e with a7 bh
       subst a7 bh;exact⟨h,fun r aw=>by cases aw⟩
      ·cases ml
     |row t ty=>
      simp only[pU] at ml;split at ml
      ·split at ml
       ·rename_i v aB r Hv dZ hi;have e:=bm ml;injection e with a7 bh
        subst a7 bh;obtain⟨g1,g2⟩:=MZ h hi;exact⟨g1,fun fF kc=>by obtain rfl:=bm kc;exact g2⟩
       ·cases ml
      ·cases ml
     |rb m off ty=>
      simp only[pU] at ml;split at ml
      ·split at ml
       ·split at ml
        ·rename_i v aB r Hv dZ hi;have e:=bm ml;injection e with a7 bh
         subst a7 bh;obtain⟨g1,g2⟩:=MZ h hi;exact⟨g1,fun fF kc=>by obtain rfl:=bm kc;exact g2⟩
        ·cases ml
       ·cases ml
      ·cases ml
    obtain⟨i1,i2,i3⟩:=A5 s cw (oC x.2++acc) rh fx je key.1 aO;refine⟨by simp only[n4];rw[<-jW];exact i1,fun y bE=>?_,by simp[i3]⟩;rcases dh.1 bE with e|e
    ·subst e;exact key.2
    ·exact i2 y e
   ·cases bP
  ·cases bP
def wG:Value->Nat
 | .slice _ n _=>n
 |_=>0
theorem b3.at.len {ar:Nat} {ρ:aX} {r:b3} {w:World} (h:r.at ar ρ w):(r.n.i ρ).toNat=wG (r.v.ak ρ):=by
 rcases h.1.2 with⟨J,an⟩|⟨g,cap,cur,J,_⟩
 ·rw[J,an];rfl
 ·rw[J];rfl
def nJ (ρ:aX) (r:b3):Value×TypeId×Nat×List Value:=(r.v.ak ρ,r.e,r.sz,dF ρ r.xs)
structure nK (ρ ρ':aX) (s s':bC):Prop where
 len:s.n=s'.n
 az:∀t:Nat,(gB s.az t).map (af.ak ρ)=(gB s'.az t).map (af.ak ρ')
 ms:s.hp.map (·.m)=s'.hp.map (·.m)
 hp:s.hp.map (fun b=>(aR ρ.M b.m 0,b.ty,af.b2 ρ b.cs))=s'.hp.map (fun b=>(aR ρ'.M b.m 0,b.ty,af.b2 ρ' b.cs))
 ro:s.ro.map (fun b=>(aR ρ.M b.m 0,b.ty,af.b2 ρ b.cs))=s'.ro.map (fun b=>(aR ρ'.M b.m 0,b.ty,af.b2 ρ' b.cs))
 rw:s.rw.map (nJ ρ)=s'.rw.map (nJ ρ')
 A6:∀r∈s'.rw,(r.n.i ρ').toNat=wG (r.v.ak ρ')
theorem nK.holds {N:Nat} {W0:al} {ρ ρ':aX} {s s':bC} {a:Act} {W:al} (h:Holds N W0 ρ s a W) (k:nK ρ ρ' s s') (aH:ρ'.cT=s'.c) (bP:ρ'.ew) (aA:et.holds ρ' s'.kn):Holds N W0 ρ' s' a W:=by
 have iP:∀b∈s'.hp,∃cm∈s.hp,aR ρ.M cm.m 0=aR ρ'.M b.m 0∧cm.ty=b.ty∧af.b2 ρ cm.cs=af.b2 ρ' b.cs:=fun b I=>by
  have:(aR ρ'.M b.m 0,b.ty,af.b2 ρ' b.cs)∈s.hp.map (fun b=>(aR ρ.M b.m 0,b.ty,af.b2 ρ b.cs)):=by
   rw[k.hp];exact h7.2 ⟨b,I,rfl⟩
  obtain⟨cm,bk,e⟩:=h7.1 this;simp only[vF] at e;exact⟨cm,bk,e.1,e.2.1,e.2.2⟩
 have M0:∀b∈s'.ro,∃cm∈s.ro,aR ρ.M cm.m 0=aR ρ'.M b.m 0∧cm.ty=b.ty∧af.b2 ρ cm.cs=af.b2 ρ' b.cs:=fun b I=>by
  have:(aR ρ'.M b.m 0,b.ty,af.b2 ρ' b.cs)∈s.ro.map (fun b=>(aR ρ.M b.m 0,b.ty,af.b2 ρ b.cs)):=by
   rw[k.ro];exact h7.2 ⟨b,I,rfl⟩
  obtain⟨cm,bk,e⟩:=h7.1 this;simp only[vF] at e;exact⟨cm,bk,e.1,e.2.1,e.2.2⟩
 have M1:∀r∈s'.rw,∃o5∈s.rw,nJ ρ o5=nJ ρ' r:=fun r aw=>by
  have:nJ ρ' r∈s.rw.map (nJ ρ):=by rw[k.rw];exact h7.2 ⟨r,aw,rfl⟩
  obtain⟨o5,bk,e⟩:=h7.1 this;exact⟨o5,bk,e⟩
 refine⟨aH,bP,?_,by rw[h.len,k.len],h.iC,fun b I=>?_,fun b I=>?_,fun r aw=>?_,fun b I=>?_,fun b I=>?_,fun r aw dA dC=>?_,?_,?_,aA,h.sub,h.mK,h.ext⟩
 ·intro x y j;cases x with
  |tmp t=>
   simp only[dU] at j;have:=k.az t;rw[j] at this;cases bc:gB s.az t with
   |none=>rw[bc] at this;cases this
   |some z=>
    rw[bc] at this;have J:=h.az (.tmp t) z bc;rw[J];simpa using this
  |const v=>simp only[dU] at j;obtain rfl:=bm j;have:=h.az (.const v) _ rfl;rw[this,qm,qm]
  |global g=>simp only[dU] at j;obtain rfl:=bm j;exact h.az (.global g) _ rfl
  |func f=>simp only[dU] at j;obtain rfl:=bm j;exact h.az (.func f) _ rfl
 ·obtain⟨cm,bk,a7,bh,c8⟩:=iP b I;have:=h.hp cm bk;unfold b4.at at*;rw[<-a7,<-bh,<-c8];exact this
 ·obtain⟨cm,bk,a7,bh,c8⟩:=M0 b I;have:=h.ro cm bk;unfold b4.at at*;rw[<-a7,<-bh,<-c8];exact this
 ·obtain⟨o5,bk,e⟩:=M1 r aw;have J:=h.rw o5 bk;simp only[nJ,vF] at e;obtain⟨a7,bh,c8,gj⟩:=e;have cB:=k.A6 r aw;have uB:=J.len;unfold b3.at at*;rw[<-bh,<-c8,cB,<-a7,<-uB,<-gj];exact J
 ·obtain⟨cm,bk,a7,bh,c8⟩:=M0 b I;rw[<-a7];exact h.iP cm bk
 ·obtain⟨cm,bk,a7,bh,c8⟩:=iP b I;rw[<-a7];exact h.own cm bk
 ·obtain⟨o5,bk,e⟩:=M1 r aw;simp only[nJ,vF] at e;have:dk ρ o5=some dA:=by unfold dk at*;rw[e.1];exact dC
  refine⟨(h.gS o5 bk dA this).1,fun b I=>?_⟩;obtain⟨cm,an,a7,_⟩:=iP b I;rw[<-a7];exact(h.gS o5 bk dA this).2 cm an
 ·have J:(s.hp.map fun b=>aR ρ.M b.m 0)=s'.hp.map fun b=>aR ρ'.M b.m 0:=by
   have:=congrArg (List.map Prod.fst) k.hp;simpa[List.map_map,Function.comp_def] using this
  have an:(s.hp.map fun b=>aR ρ.M b.m 0).Pairwise (· ≠ ·):=vA.2 h.dc;rw[J] at an;exact vA.1 an
 ·have J:s.rw.map (dk ρ)=s'.rw.map (dk ρ'):=by
   have:=congrArg (List.map fun x=>Value.ownBlock x.1) k.rw;simp only[List.map_map,Function.comp_def,nJ] at this;exact this
  have an:(s.rw.map (dk ρ)).Pairwise fun x y=>∀k,x=some k->y≠some k:=vA.2 h.lA
  rw[J] at an;exact vA.1 an
theorem Hw (ρ:aX):∀(hp:List b4) (m off:Nat) (x:af),(tm hp m off x).map (·.m)=hp.map (·.m)
 |[],_,_,_=>rfl
 |b::l,m,off,x=>by
  simp only[tm];split
  ·simp
  ·simp[Hw ρ l m off x]
theorem WT (ρ:aX) (l:List af) (n:Nat) (x:af):af.b2 ρ (l.set n x)=(af.b2 ρ l).set n (x.ak ρ):=by simp[af.jF,List.map_set]
theorem Hx {ρ ρ':aX} {x lD:af} (j:x.ak ρ=lD.ak ρ') (m off:Nat):∀(l fx:List b4),l.map (·.m)=fx.map (·.m)->(l.map fun b=>(aR ρ.M b.m 0,b.ty,af.b2 ρ b.cs))=(fx.map fun b=>(aR ρ'.M b.m 0,b.ty,af.b2 ρ' b.cs))->
  ((tm l m off x).map fun b=>(aR ρ.M b.m 0,b.ty,af.b2 ρ b.cs))=((tm fx m off lD).map fun b=>(aR ρ'.M b.m 0,b.ty,af.b2 ρ' b.cs))
 |[],[],_,_=>rfl
 |[],_::_,h,_=>by simp at h
 |_::_,[],h,_=>by simp at h
 |b::l,pI::fx,h,k=>by
  simp only[jo,ue] at h k;simp only[tm];rw[h.1];split
  ·simp only[jo,WT,j];have:=k.1;simp only[vF] at this;rw[h.1] at this;rw[this.1,this.2.1,this.2.2,k.2]
  ·simp only[jo];have:=k.1;rw[h.1] at this;rw[h.1,this,Hx j m off l fx h.2 k.2]
def wH (ρ ρ':aX):List ic->List ic->Prop
 |[],[]=>True
 |x::l,y::m=>x.1.ak ρ=y.1.ak ρ'∧(match x.2,y.2 with
  |some r,some q=>nJ ρ r=nJ ρ' q∧(q.n.i ρ').toNat=wG (q.v.ak ρ')
  |none,none=>True
  |_,_=>False)∧wH ρ ρ' l m
 |_,_=>False
theorem nK.rr {ρ ρ':aX} {s s':bC} (k:nK ρ ρ' s s') (p:Pos) {x lD:ic} (j:x.1.ak ρ=lD.1.ak ρ') (aw:match x.2,lD.2 with
  |some r,some q=>nJ ρ r=nJ ρ' q∧(q.n.i ρ').toNat=wG (q.v.ak ρ')
  |none,none=>True
  |_,_=>False):nK ρ ρ' (rr s p x) (rr s' p lD):=by
 have lU:(oC x.2++s.rw).map (nJ ρ)=(oC lD.2++s'.rw).map (nJ ρ')∧∀r∈oC lD.2++s'.rw,(r.n.i ρ').toNat=wG (r.v.ak ρ'):=by
  obtain⟨v,o⟩:=x;obtain⟨uD,hb⟩:=lD;cases o<;>cases hb<;>simp only at aw
  ·exact⟨k.rw,k.A6⟩
  ·refine⟨by simp only[oC,qg,sU,jo,aw.1,k.rw],fun r kc=>?_⟩;rcases dh.1 kc with e|e
   ·subst e;exact aw.2
   ·exact k.A6 r e
 have A7:∀(t:Nat),∀u:Nat,(gB ((t,some x.1)::s.az) u).map (af.ak ρ)=(gB ((t,some lD.1)::s'.az) u).map (af.ak ρ'):=fun t u=>by
  by_cases e:t=u
  ·subst e;rw[s5,s5];simp[j]
  ·rw[vY _ _ e,vY _ _ e];exact k.az u
 cases p with
 |az t=>exact⟨k.len,A7 t,k.ms,k.hp,k.ro,lU.1,lU.2⟩
 |row t ty=>exact⟨k.len,A7 t,k.ms,k.hp,k.ro,lU.1,lU.2⟩
 |cell m off=>exact⟨k.len,k.az,by simp[cK.rr,Hw ρ,k.ms],Hx j m off _ _ k.ms k.hp,k.ro,lU.1,lU.2⟩
 |rb m off ty=>exact⟨k.len,k.az,by simp[cK.rr,Hw ρ,k.ms],Hx j m off _ _ k.ms k.hp,k.ro,lU.1,lU.2⟩
theorem nK.fH {ρ ρ':aX}:∀(cw:List Pos) {s s':bC} (k:nK ρ ρ' s s') (xs A1:List ic),wH ρ ρ' xs A1->nK ρ ρ' (fH s cw xs) (fH s' cw A1)
 |[],_,_,k,_,_,_=>by simp only[cK.fH];exact k
 |p::cw,_,_,k,[],[],_=>by simp only[cK.fH];exact k
 |p::cw,_,_,k,[],_::_,h=>by simp[wH] at h
 |p::cw,_,_,k,_::_,[],h=>by simp[wH] at h
 |p::cw,_,_,k,x::xs,lD::A1,h=>by
  simp only[wH] at h;simp only[cK.fH];exact nK.fH cw (k.rr p h.1 h.2.1) xs A1 h.2.2
theorem Hy {ρ ρ':aX}:∀{xs gJ:List ic},pe xs gJ=true->af.b2 ρ (rv xs)=af.b2 ρ' (rv gJ)->hL ρ (nI xs)=hL ρ' (nI gJ)->(∀x∈xs,yV x)->
  (∀y∈gJ,yV y∧∀q,y.2=some q->(q.n.i ρ').toNat=wG (q.v.ak ρ'))->wH ρ ρ' xs gJ
 |[],[],_,_,_,_,_=>trivial
 |[],_::_,h,_,_,_,_=>by simp[pe] at h
 |_::_,[],h,_,_,_,_=>by simp[pe] at h
 |(v,o)::xs,(uD,hb)::gJ,h,a_,aw,j,bE=>by
  simp only[pe,bT] at h;simp only[rv,jo,af.b2,ue] at a_;have fb:=j _ (c6 ..);have M3:=bE _ (c6 ..);have rest:hL ρ (nI xs)=hL ρ' (nI gJ)->wH ρ ρ' xs gJ:=fun kc=>Hy h.2 a_.2 kc (fun x gE=>j x (dq _ gE)) (fun y GR=>bE y (dq _ GR))
  cases o<;>cases hb<;>simp only at h
  ·exact⟨a_.1,trivial,rest aw⟩
  ·exact absurd h.1 (by simp)
  ·exact absurd h.1 (by simp)
  ·rename_i r q;simp only[nI,rW,oC,qg,sU,hL,jo,ue] at aw;simp only[bT,decide_eq_true_eq] at h;refine⟨a_.1,⟨?_,M3.2 q rfl⟩,rest aw.2⟩;simp only[nJ,vF];refine⟨?_,h.1.1,h.1.2,aw.1⟩;rw[fb r rfl,M3.1 q rfl];exact a_.1
theorem wI:∀(cw:List Pos) (s:bC) (xs:List ic),(fH s cw xs).kn=s.kn∧(fH s cw xs).c=s.c∧(fH s cw xs).fh=s.fh
 |[],s,xs=>by simp[fH]
 |p::cw,s,[]=>by simp[fH]
 |p::cw,s,x::xs=>by
  simp only[fH];obtain⟨J,an,aI⟩:=wI cw (rr s p x) xs;rw[J,an,aI];cases p<;>simp[rr]
theorem M4:∀(l:List Nat) (az:eJ) (t:Nat),gB (gV az l) t=gB az t∨gB (gV az l) t=none
 |[],_,_=>.inl rfl
 |u::l,az,t=>by
  simp only[gV];rcases M4 l ((u,none)::az) t with h|h
  ·by_cases e:u=t
   ·subst e;right;rw[h,s5]
   ·left;rw[h,vY _ _ e]
  ·exact .inr h
theorem Hz {f:Option af->Bool} (bs:f none=true):∀(l:List Nat) (az:eJ),az.all (fun p=>f p.2)=true->(gV az l).all (fun p=>f p.2)=true
 |[],_,h=>h
 |u::l,az,h=>Hz bs l ((u,none)::az) (by simp only[qe,bs,eX];exact h)
theorem M5 {a b:eJ}:∀{l:eJ},DN a b l=true->∀p∈l,∀x,gB b p.1=some x->gB a p.1=some x
 |[],_,_,hp,_,_=>by cases hp
 |(k,v)::l,h,p,hp,x,j=>by
  simp only[DN,bT] at h;rcases dh.1 hp with e|e
  ·subst e;have J:=h.1;rw[j] at J;cases bl:gB a k with
   |none=>rw[bl] at J;cases J
   |some y=>rw[bl] at J;rw[af.jc J]
  ·exact M5 h.2 p e x j
theorem WU {a b:eJ} (h:MY a b=true) (t:Nat) (x:af) (j:gB b t=some x):gB a t=some x:=by
 obtain⟨p,hp,e,_⟩:=CW j;subst e;exact M5 h p hp x j
theorem A8:∀{a b:List b4},wE a b=true->a=b
 |[],[],_=>rfl
 |[],_::_,h=>by simp[wE] at h
 |_::_,[],h=>by simp[wE] at h
 |⟨m,ty,cs⟩::l,⟨wi,DP,vW⟩::r,h=>by
  simp only[wE,bT] at h;obtain⟨⟨⟨J,an⟩,aI⟩,cc⟩:=h;have a7:=of_decide_eq_true J;have bh:=of_decide_eq_true an;have c8:=af.s_ aI;subst a7 bh c8;rw[A8 cc]
theorem Holds.cover {N:Nat} {W0:al} {ρ:aX} {s' s:bC} {a:Act} {W:al} (h:Holds N W0 ρ s' a W) (aH:cover s' s=true) (aw:mQ N W0 ρ W s'.hp s.rw) (aA:et.holds ρ s.kn):Holds N W0 ρ {s with c:=s'.c} a W:=by
 simp only[cK.cover,bT] at aH;have c2:=WU aH.1.1;have c3:=A8 aH.1.2;have c4:=A8 aH.2.1;have aJ:=eE aH.2.2;have k9:∀b∈s.hp,b∈s'.hp:=fun b I=>by rw[<-c3] at I;exact vC I
 refine⟨h.cT,h.ew,?_,by rw[h.len,aJ],h.iC,fun b I=>h.hp b (k9 b I),fun b I=>h.ro b (by rw[c4];exact I),fun r kc=>(aw.eB r kc).1,fun b I=>h.iP b (by rw[c4];exact I),fun b I=>h.own b (k9 b I),fun r kc k dC=>⟨((aw.eB r kc).2 k dC).1,fun b I=>((aw.eB r kc).2 k dC).2 b (k9 b I)⟩,?_,aw.e2,aA,h.sub,h.mK,h.ext⟩
 ·intro x y j;cases x with
  |tmp t=>exact h.az (.tmp t) y (c2 t y j)
  |const v=>exact h.az (.const v) y j
  |global g=>exact h.az (.global g) y j
  |func f=>exact h.az (.func f) y j
 ·show s.hp.Pairwise _;rw[<-c3];exact h.dc.sublist (List.drop_sublist _ _)
theorem nK.M6 {N:Nat} {W0:al} {ρ d e:aX} {s:bC} {w:World} (aH:ρ.cT=s.c) (bc:s.ok=true) (aw:hR N ρ s.rw w):nK (ρ.push d) (ρ.push e) s s:=by
 simp only[bC.ok,bT] at bc;obtain⟨⟨⟨⟨ec,fc⟩,iQ⟩,hv⟩,fS⟩:=bc;rw[<-aH] at ec fc iQ hv
 have M7:∀l:List b4,l.all (b4.ok ρ.cT)=true->l.map (fun b=>(aR (ρ.push d).M b.m 0,b.ty,af.b2 (ρ.push d) b.cs))=l.map (fun b=>(aR (ρ.push e).M b.m 0,b.ty,af.b2 (ρ.push e) b.cs)):=fun l aO=>
  List.map_congr_left fun b I=>by
   have:=ep.1 aO b I;simp only[b4.ok,bT] at this;have hm:=of_decide_eq_true this.1;rw[o6 hm,o6 hm,af.sY ρ d b.cs this.2,af.sY ρ e b.cs this.2]
 refine⟨rfl,fun t=>?_,rfl,M7 _ fc,M7 _ iQ,List.map_congr_left fun r kc=>?_,fun r kc=>?_⟩
 ·cases bb:gB s.az t with
  |none=>rfl
  |some x=>
   obtain⟨p,hp,_,an⟩:=CW bb;have:=ep.1 ec _ hp;rw[an] at this;simp only[l6];rw[af.push ρ d x this,af.push ρ e x this]
 ·have J:=b3.push (d:=d) (ep.1 hv r kc);have an:=b3.push (d:=e) (ep.1 hv r kc);simp only[nJ,J.1,J.2.2,an.1,an.2.2]
 ·have an:=b3.push (d:=e) (ep.1 hv r kc);rw[an.1,an.2.1];exact(aw r kc).len
theorem et.push {ρ d:aX} {s:bC} (aH:ρ.cT=s.c) (bc:s.ok=true) (h:et.holds ρ s.kn):et.holds (ρ.push d) s.kn:=by
 simp only[bC.ok,bT] at bc;obtain⟨_,fS⟩:=bc;rw[<-aH] at fS;intro p hp;have:=ep.1 fS p hp;rw[(E.push ρ d p.1 this).2.1];exact h p hp
theorem HA:∀{hp:List b4} {m off:Nat} {b:b4} {x:af},jG hp m=some b->b.cs[off]? =some x->tm hp m off x=hp
 |[],_,_,_,_,h,_=>by cases h
 |a::l,m,off,b,x,h,j=>by
  simp only[jG] at h;simp only[tm];split at h
  ·rename_i e;obtain rfl:=bm h;rw[if_pos e]
   have:a.cs.set off x=a.cs:=by
    apply ye;intro i;rw[List.getElem?_set]
    by_cases bh:off=i
    ·subst bh;rw[if_pos rfl];split
     ·exact j.symm
     ·rename_i aO;rw[qd (by omega)]
    ·rw[if_neg bh]
   rw[this]
  ·rename_i e;rw[if_neg e,HA h j]
structure iU (s' s:bC):Prop where
 len:s.n=s'.n
 az:∀(t:Nat) (x:af),gB s.az t=some x->gB s'.az t=some x
 hp:s.hp=s'.hp
 ro:s.ro=s'.ro
theorem M8 {mZ:bC}:∀(cw:List Pos) (s:bC) (rw:List b3) (xs:List ic) (rest:List b3),ru P mZ cw rw=some (xs,rest)->iU mZ s->iU mZ (fH s cw xs)
 |[],s,rw,xs,rest,_,h=>by simp only[fH];exact h
 |p::cw,s,rw,xs,rest,bP,h=>by
  simp only[ru] at bP;split at bP
  ·rename_i x rh j;split at bP
   ·rename_i l je aO;have e:=bm bP;injection e with a7 bh
    subst a7 bh;simp only[fH];refine M8 cw _ rh l je aO ?_
    have A7:∀(t:Nat),gB mZ.az t=some x.1->∀(u:Nat) (y:af),gB ((t,some x.1)::s.az) u=some y->gB mZ.az u=some y:=fun t bk u y bE=>by
     by_cases e:t=u
     ·subst e;rw[s5] at bE;rw[<-bm bE];exact bk
     ·rw[vY _ _ e] at bE;exact h.az u y bE
    cases p with
    |az t=>
     simp only[pU] at j;obtain⟨y,bE,e⟩:=hI.1 j;injection e with a7 bh
     subst a7;exact⟨h.len,A7 t bE,h.hp,h.ro⟩
    |row t ty=>
     simp only[pU] at j;split at j
     ·rename_i v aB;split at j
      ·have e:=bm j;injection e with a7 bh
       subst a7;exact⟨h.len,A7 t aB,h.hp,h.ro⟩
      ·cases j
     ·cases j
    |cell m off=>
     simp only[pU] at j;split at j
     ·rename_i b I;obtain⟨y,bE,e⟩:=hI.1 j;injection e with a7 bh
      subst a7;refine⟨h.len,h.az,?_,h.ro⟩;simp only[rr];rw[h.hp,HA I bE]
     ·cases j
    |rb m off ty=>
     simp only[pU] at j;split at j
     ·rename_i b I;split at j
      ·rename_i y bE;split at j
       ·have e:=bm j;injection e with a7 bh
        subst a7;refine⟨h.len,h.az,?_,h.ro⟩;simp only[rr];rw[h.hp,HA I bE]
       ·cases j
      ·cases j
     ·cases j
   ·cases bP
  ·cases bP
theorem Holds.eP {N:Nat} {W0:al} {ρ:aX} {s' s:bC} {a:Act} {W:al} (h:Holds N W0 ρ s' a W) (k:iU s' s) (aw:mQ N W0 ρ W s'.hp s.rw) (aA:et.holds ρ s.kn):Holds N W0 ρ {s with c:=s'.c} a W:=by
 refine⟨h.cT,h.ew,?_,by rw[h.len,k.len],h.iC,?_,fun b I=>h.ro b (by rw[<-k.ro];exact I),fun r kc=>(aw.eB r kc).1,fun b I=>h.iP b (by rw[<-k.ro];exact I),?_,fun r kc dA dC=>⟨((aw.eB r kc).2 dA dC).1,fun b I=>((aw.eB r kc).2 dA dC).2 b (by rw[<-k.hp];exact I)⟩,?_,aw.e2,aA,h.sub,h.mK,h.ext⟩
 ·intro x y j;cases x with
  |tmp t=>exact h.az (.tmp t) y (k.az t y j)
  |const v=>exact h.az (.const v) y j
  |global g=>exact h.az (.global g) y j
  |func f=>exact h.az (.func f) y j
 ·show fA ρ s.hp W.w;rw[k.hp];exact h.hp
 ·show∀b∈s.hp,_;rw[k.hp];exact h.own
 ·show s.hp.Pairwise _;rw[k.hp];exact h.dc
theorem HB:∀(l:List ic) (c:dj) (r:List ic×dj),A0 l c=some r->∀y∈r.1,yV y∧∀q,y.2=some q->∀ρ:aX,(q.n.i ρ).toNat=wG (q.v.ak ρ)
 |[],c,r,h=>by obtain rfl:=bm h;exact fun y bE=>(by cases bE)
 |x::l,c,r,h=>by
  simp only[A0] at h;split at h
  ·rename_i y bG bE;split at h
   ·rename_i m oo hm;obtain rfl:=bm h;intro z cS;rcases dh.1 cS with e|e
    ·subst e;unfold MW at bE;split at bE
     ·have e:=bm bE;injection e with a7 bh
      subst a7;exact⟨fun q bg=>by obtain rfl:=bm bg;rfl,fun q bg ρ=>by obtain rfl:=bm bg;rfl⟩
     ·obtain⟨p,_,e⟩:=hI.1 bE;injection e with a7 bh
      subst a7;exact⟨fun q bg=>(by cases bg),fun q bg=>(by cases bg)⟩
    ·exact HB l _ _ hm z e
   ·cases h
  ·cases h
theorem HC:∀{a b:List ic},pe a b=true->a.length=b.length
 |[],[],_=>rfl
 |[],_::_,h=>by simp[pe] at h
 |_::_,[],h=>by simp[pe] at h
 |_::l,_::m,h=>by simp only[pe,bT] at h;simp[HC h.2]
theorem M9 {N:Nat} {W0:al} {R:Ending->World->Prop} {b:Code} {A2:bC->(X->bC->Option Tree)->Option Tree} (WV:True)
  (cF:∀(s:bC) (K:X->bC->Option Tree) (t:Tree) (L:ha) (ρ:aX) (a:Act) (W:al) (Q:Exit->Act->World->Prop),k_ W0 R Q->A2 s K=some t->Holds N W0 ρ s a W->s.fh=L.length->t.ak P N R L ρ W->pV P N W0 R L ρ W K Q->b.wp P Q a W.w):
  ∀(n:Nat) (s:bC) (K:X->bC->Option Tree) (t:Tree) (L:ha) (ρ:aX) (a:Act) (W:al) (Q:Exit->Act->World->Prop),k_ W0 R Q->DO A2 n s K=some t->Holds N W0 ρ s a W->s.fh=L.length->t.ak P N R L ρ W->pV P N W0 R L ρ W K Q->Code.rounds P b Q n a W.w
 |0,_,_,_,_,_,_,_,_,_,j,_,_,_,_=>by cases j
 |n+1,s,K,t,L,ρ,a,W,Q,b8,j,aY,aO,bb,cy=>by
  rw[rounds_succ];simp only[DO] at j;refine cF s _ t L ρ a W _ (b8.wF _) j aY aO bb ?_;intro z s' cR e M bB W' J gE gC an aI;cases z with
  |iJ=>exact M9 WV cF n s' K cR (L++M) (ρ.push e) bB W' Q b8 J an gC aI (cy.step gE)
  |exit id=>exact cy (.exit id) s' cR e M bB W' J gE gC an aI
  |ret=>exact cy .ret s' cR e M bB W' J gE gC an aI
theorem M_:∀(l:List ic) (rw:List b3) (r:b3),r∈rw->r∈n4 l rw
 |[],_,_,h=>h
 |x::l,rw,r,h=>M_ l _ r (ub _ h)
theorem HD:∀(l:List ic) (rw:List b3) (r:b3),r∈nI l->r∈n4 l rw
 |[],_,_,h=>by cases h
 |x::l,rw,r,h=>by
  simp only[nI,rW] at h;simp only[n4];rcases mE.1 h with J|J
  ·exact M_ l _ r (ua _ J)
  ·exact HD l _ r J
theorem HE:∀{rw:List b3} {v:af} {r:b3},r∈o7 rw v->r∈rw
 |[],_,_,h=>h
 |a::l,v,r,h=>by
  simp only[o7] at h;split at h
  ·exact dq _ h
  ·rcases dh.1 h with e|e
   ·subst e;exact c6 ..
   ·exact dq _ (HE e)
theorem HF (s:bC):∀(cw:List Pos) (rw:List b3) (l:List ic) (rest:List b3),ru P s cw rw=some (l,rest)->∀r∈rest,r∈rw
 |[],rw,l,rest,bP=>by
  have e:=bm bP;injection e with a7 bh
  subst bh;exact fun r aw=>aw
 |p::cw,rw,l,rest,bP=>by
  simp only[ru] at bP;split at bP
  ·rename_i x rh j;split at bP
   ·rename_i fx je aO;have e:=bm bP;injection e with a7 bh
    subst bh;intro r aw;have J:=HF s cw rh fx je aO r aw;cases p with
    |az t=>
     simp only[pU] at j;obtain⟨y,bE,e⟩:=hI.1 j;injection e with a7 bh
     subst bh;exact J
    |cell m off=>
     simp only[pU] at j;split at j
     ·obtain⟨y,bE,e⟩:=hI.1 j;injection e with a7 bh
      subst bh;exact J
     ·cases j
    |row t ty=>
     simp only[pU] at j;split at j
     ·split at j
      ·rename_i v aB j6 Hv dZ hi;have e:=bm j;injection e with a7 bh
       subst bh;unfold rowOf at hi
       (repeat' split at hi)<;>first
        |(cases hi;done)
        |(have e:=bm hi;injection e with a7 bh;injection bh with bh c8;subst bh;first|exact J|exact HE J)
      ·cases j
     ·cases j
    |rb m off ty=>
     simp only[pU] at j;split at j
     ·split at j
      ·split at j
       ·rename_i v aB j6 Hv dZ hi;have e:=bm j;injection e with a7 bh
        subst bh;unfold rowOf at hi
        (repeat' split at hi)<;>first
         |(cases hi;done)
         |(have e:=bm hi;injection e with a7 bh;injection bh with bh c8;subst bh;first|exact J|exact HE J)
       ·cases j
      ·cases j
     ·cases j
   ·cases bP
  ·cases bP
theorem Holds.freeze {N:Nat} {W0:al} {ρ:aX} {s:bC} {a:Act} {W W':al} (h:Holds N W0 ρ s a W) (hw:W'.w=W.w) (x:Ext W W') {fY:List b4} (bf:∀b,W'.aV b->W.aV b∨∃x∈fY,b=aR ρ.M x.m 0∧N<=b)
  (lb:∀b∈s.hp,∀x∈fY,aR ρ.M b.m 0≠aR ρ.M x.m 0) (lU:∀r∈s.rw,∀k,dk ρ r=some k->∀x∈fY,k≠aR ρ.M x.m 0):Holds N W0 ρ s a W':=by
 refine⟨h.cT,h.ew,h.az,h.len,h.iC,by rw[hw];exact h.hp,by rw[hw];exact h.ro,by rw[hw];exact h.rw,h.iP,fun b I a8=>?_,fun r aw k aA=>⟨fun a8=>?_,(h.gS r aw k aA).2⟩,h.dc,h.lA,h.kn,fun b a8=>?_,h.mK,h.ext.trans x⟩
 ·rcases bf _ a8 with J|⟨y,bE,e,_⟩
  ·exact h.own b I J
  ·exact lb b I y bE e
 ·rcases bf _ a8 with J|⟨y,bE,e,_⟩
  ·exact(h.gS r aw k aA).1 J
  ·exact lU r aw k aA y bE e
 ·rcases bf _ a8 with J|⟨y,bE,_,e⟩
  ·exact h.sub b J
  ·exact .inr e
theorem Holds.Na {N:Nat} {W0:al} {ρ:aX} {s:bC} {a:Act} {W W':al} (h:Holds N W0 ρ s a W) (hw:W'.w=W.w) (x:Ext W W') {rs:List b3} (bf:∀b,W'.aV b->W.aV b∨∃r∈rs,dk ρ r=some b∧N<=b)
  (lb:∀b∈s.hp,∀r∈rs,dk ρ r≠some (aR ρ.M b.m 0)) (lU:∀q∈s.rw,∀k,dk ρ q=some k->∀r∈rs,dk ρ r≠some k):Holds N W0 ρ s a W':=by
 refine⟨h.cT,h.ew,h.az,h.len,h.iC,by rw[hw];exact h.hp,by rw[hw];exact h.ro,by rw[hw];exact h.rw,h.iP,fun b I a8=>?_,fun r aw k aA=>⟨fun a8=>?_,(h.gS r aw k aA).2⟩,h.dc,h.lA,h.kn,fun b a8=>?_,h.mK,h.ext.trans x⟩
 ·rcases bf _ a8 with J|⟨y,bE,e,_⟩
  ·exact h.own b I J
  ·exact lb b I y bE e
 ·rcases bf _ a8 with J|⟨y,bE,e,_⟩
  ·exact(h.gS r aw k aA).1 J
  ·exact lU r aw k aA y bE e
 ·rcases bf _ a8 with J|⟨y,bE,_,e⟩
  ·exact h.sub b J
  ·exact .inr e
theorem uP:∀(l:List ic) (m:List b3),n4 l m=n4 l []++m
 |[],_=>rfl
 |x::l,m=>by
  show n4 l (oC x.2++m)=n4 l (oC x.2++[])++m;rw[uP l (oC x.2++m),uP l (oC x.2++[]),mC,jW]
theorem Nb {ρ:aX} {l:List ic} {rest je:List b3} {k:Nat} (h:(n4 l je).Pairwise (yD ρ)) (aw:je.drop k=rest):∀q∈n4 l rest,∀b,dk ρ q=some b->∀r∈je.take k,dk ρ r≠some b:=by
 intro q bg b I r r9 e;rw[uP,<-vG k je,aw,vB] at h;rw[uP] at bg;rcases mE.1 bg with J|J
 ·exact h.2.2 q J r (ua _ r9) b I e
 ·exact(vB.1 h.2.1).2.2 r r9 q J b e I
theorem DQ {inl:na} (bf:uG P inl) {N:Nat} {W0:al} {R:Ending->World->Prop} {cf:ds}:∀(c:Code) (s:bC) (K:X->bC->Option Tree) (t:Tree) (L:ha) (ρ:aX) (a:Act) (W:al) (Q:Exit->Act->World->Prop),k_ W0 R Q->
  kU P cf inl c s K=some t->Holds N W0 ρ s a W->s.fh=L.length->t.ak P N R L ρ W->pV P N W0 R L ρ W K Q->c.wp P Q a W.w:=by
 intro c;induction c with
 |skip=>
  intro s K t L ρ a W Q b8 j aY aO bb cy;refine wp_skip ?_;exact cy .iJ s t {} [] a W j (Ext.refl W) (by simpa using aO) (by rw[o_];exact aY) (by rw[o_,mC];exact bb)
 |label l=>
  intro s K t L ρ a W Q b8 j aY aO bb cy;refine wp_label ?_;exact cy .iJ s t {} [] a W j (Ext.refl W) (by simpa using aO) (by rw[o_];exact aY) (by rw[o_,mC];exact bb)
 |exit id=>
  intro s K t L ρ a W Q b8 j aY aO bb cy;refine wp_exit ?_;exact cy (.exit id) s t {} [] a W j (Ext.refl W) (by simpa using aO) (by rw[o_];exact aY) (by rw[o_,mC];exact bb)
 |ret=>
  intro s K t L ρ a W Q b8 j aY aO bb cy;refine wp_ret ?_;exact cy .ret s t {} [] a W j (Ext.refl W) (by simpa using aO) (by rw[o_];exact aY) (by rw[o_,mC];exact bb)
 |seq x y q3 sX=>
  intro s K t L ρ a W Q b8 j aY aO bb cy;refine wp_seq ?_;simp only[kU] at j;split at j
  ·refine q3 s _ t L ρ a W _ (b8.wF _) j aY aO bb ?_;intro z s' cR e M bB W' J gE gC an aI;cases z with
   |iJ=>exact sX s' K cR (L++M) (ρ.push e) bB W' Q b8 J an gC aI (cy.step gE)
   |exit id=>exact cy (.exit id) s' cR e M bB W' J gE gC an aI
   |ret=>exact cy .ret s' cR e M bB W' J gE gC an aI
  ·rename_i cw HG;split at j
   ·rename_i mP rest yW;split at j
    ·rename_i fJ bG HH;split at j
     ·rename_i bV;simp only[bT] at bV;split at j
      ·rename_i ry A3 HI wJ;obtain rfl:=bm j;obtain⟨eV,qH,HJ⟩:=bb;obtain⟨DR,Nc,DS⟩:=A5 (W0:=W0) (W:=W) (hp:=s.hp) s cw [] s.rw mP rest (by simpa using aY.A4) yW;simp only[sU] at DR;have A9:∀r∈rest,r∈s.rw:=HF s cw s.rw mP rest yW
       have wK:bC.ok {s with az:=gV s.az (gx x),rw:=rest}=true:=by
        have bk:=bV.1.1;simp only[bC.ok,bT] at bk ⊢;refine⟨⟨⟨⟨?_,bk.1.1.1.2⟩,bk.1.1.2⟩,ep.2 fun r aw=>ep.1 bk.1.2 r (A9 r aw)⟩,bk.2⟩;exact Hz (f:=af.okO s.c) rfl _ _ bk.1.1.1.1
       have HK:cw.length=fJ.length:=DS.trans (HC bV.2);have A_:=HB mP s.c _ HH;have fO:Holds N W0 ρ {s with fh:=s.fh+1} a W:=⟨aY.cT,aY.ew,aY.az,aY.len,aY.iC,aY.hp,aY.ro,aY.rw,aY.iP,aY.own,aY.gS,aY.dc,aY.lA,aY.kn,aY.sub,aY.mK,aY.ext⟩;refine q3 {s with fh:=s.fh+1} _ ry (L++[eV]) ρ a W _ (b8.wF _) HI fO (by simp[aO]) qH ?_;intro z s' cR dy M rz ht J gE gC an aI;cases z with
       |iJ=>
        dsimp only at J;split at J
        ·rename_i kd je HL;split at J
         ·rename_i rA;simp only[bT] at rA;obtain rfl:=bm J;obtain⟨b0,bZ,eG⟩:=A5 (W0:=W0) (W:=ht) (hp:=s'.hp) s' cw [] s'.rw kd je (by simpa using an.A4) HL;simp only[sU] at b0;obtain⟨WW,wL,Ba,HM,aI⟩:=Lf aI (fun b I=>an.hp b (rY I));obtain⟨cq,Bb,Bc,HN,aI⟩:=Lg aI (fun r aw=>by rw[wL];exact(b0.eB r (by rw[uP];exact ub _ (rY aw))).1);have Bd:cq.w=ht.w:=Bb.trans wL;have bo:=Ba.trans Bc;have cc:ha.at (L++[eV]++M) s.fh _ _ cq:=aI
          have yS:(L++[eV]++M)[s.fh]? =some eV:=by
           rw[aO,jW,Ac (e9 _)];simp
          unfold ha.at at cc;rw[yS] at cc;have oE:=DM rA.1.2
          have Be:mQ N W0 (ρ.push dy) ht s'.hp (fH {s with az:=gV s.az (gx x),rw:=rest} cw kd).rw:=by
           rw[uO cw kd _ eG];exact b0.sub (Hu _ (by rw[<-oE];exact List.drop_sublist _ _))
          have bu:=an.cover rA.1.1 Be (by rw[(wI cw _ kd).1];exact et.push (s:={s with az:=gV s.az (gx x),rw:=rest}) aY.cT wK aY.kn)
          have Bf:s'.hp.drop (s'.hp.length-(fH {s with az:=gV s.az (gx x),rw:=rest} cw kd).hp.length)=(fH {s with az:=gV s.az (gx x),rw:=rest} cw kd).hp:=by
           have:=rA.1.1;simp only[cK.cover,bT] at this;exact A8 this.1.2
          have fW:=an.dc;rw[<-vG (s'.hp.length-(fH {s with az:=gV s.az (gx x),rw:=rest} cw kd).hp.length) s'.hp,vB] at fW
          have HO:=bu.freeze wL Ba HM (fun y I x j e=>by
           have eI:y∈(fH {s with az:=gV s.az (gx _),rw:=rest} cw kd).hp:=I;rw[<-Bf] at eI;exact fW.2.2 x j y eI e.symm) (fun r aw k aA x j e=>by
           exact(Be.eB r aw).2 k aA|>.2 x (rY j) e.symm)
          have k7:=HO.Na Bb Bc HN (fun y I r aw e=>by
           have eI:y∈(fH {s with az:=gV s.az (gx _),rw:=rest} cw kd).hp:=I;rw[<-Bf] at eI;exact((b0.eB r (by rw[uP];exact ub _ (rY aw))).2 _ e).2 y (vC eI) rfl) (fun q bg b I r aw=>by
           have wj:q∈(fH {s with az:=gV s.az (gx _),rw:=rest} cw kd).rw:=bg;rw[uO cw kd _ eG] at wj;exact Nb b0.e2 oE q wj b I r aw)
          
          have DT:Ext W cq:=gE.trans bo;obtain⟨d,a_,HP,HQ,ft⟩:=(HJ _ _ cq DT cc).out
          have ke:nK (ρ.push dy) (ρ.push d) (fH {s with az:=gV s.az (gx x),rw:=rest} cw kd) (fH {s with az:=gV s.az (gx x),rw:=rest} cw fJ):=
           (nK.M6 (W0:=W0) (w:=W.w) (s:={s with az:=gV s.az (gx x),rw:=rest}) aY.cT wK (fun r aw=>aY.rw r (A9 r aw))).fH cw kd fJ (Hy rA.2 HP.symm HQ.symm bZ fun y bE=>⟨(A_ y bE).1,fun q bg=>(A_ y bE).2 q bg _⟩)
          have HR:(ρ.push d).cT=s.c.add (bG.eP s.c):=by rw[aX.F5,aY.cT,a_.1]
          have Bg:Holds N W0 (ρ.push d) {fH {s with az:=gV s.az (gx x),rw:=rest} cw fJ with c:=s.c.add (bG.eP s.c)} rz cq:=by
           refine nK.holds k7 ⟨ke.len,ke.az,ke.ms,ke.hp,ke.ro,ke.rw,ke.A6⟩ HR (aX.Gp aY.ew a_.2) ?_;show et.holds _ (fH _ cw fJ).kn;rw[(wI cw _ fJ).1];exact et.push (s:={s with az:=gV s.az (gx x),rw:=rest}) aY.cT wK aY.kn
          have uQ:hR N (ρ.push d) (nI fJ) cq.w:=fun r aw=>Bg.rw r (by
           show r∈(fH _ cw fJ).rw;rw[uO cw fJ _ HK];exact HD fJ rest r aw)
          have uL:pV P N W0 R L (ρ.push d) cq K Q:=by
           have:=cy.step (M:=[]) (d:=d) DT;rw[mC] at this;exact this
          show y.wp P Q rz ht.w;rw[<-Bd];refine sX _ K A3 L (ρ.push d) rz cq Q b8 wJ Bg ?_ (ft uQ) uL;show(fH _ cw fJ).fh=_;rw[(wI cw _ fJ).2.2];exact aO
         ·cases J
        ·cases J
       |exit i=>
        exact cy (.exit i) s' cR dy ([eV]++M) rz ht J gE (by rw[<-jW];exact gC) an (by rw[<-jW];exact aI)
       |ret=>
        exact cy .ret s' cR dy ([eV]++M) rz ht J gE (by rw[<-jW];exact gC) an (by rw[<-jW];exact aI)
      ·cases j
     ·cases j
    ·cases j
   ·cases j
 |cond c x y q3 sX=>
  intro s K t L ρ a W Q b8 j aY aO bb cy;simp only[kU] at j;split at j
  ·rename_i e he
   have aH:a.eval c= .bool (e.b ρ):=by
    obtain⟨mZ,lE,ni⟩:=hI.1 he;rw[aY.az c _ lE,<-CV aY.kn,ni];rfl
   split at j
   ·rename_i a_;rw[lO aY.kn e a_] at aH;exact wp_cond_true aH (q3 s K t L ρ a W Q b8 j aY aO bb cy)
   ·rename_i a_;rw[lO aY.kn e a_] at aH;exact wp_cond_false aH (sX s K t L ρ a W Q b8 j aY aO bb cy)
   ·split at j
    ·rename_i t1 t2 J an;obtain rfl:=bm j;cases I:e.b ρ
     ·rw[I] at aH;exact wp_cond_false aH (sX _ K t2 L ρ a W Q b8 an (aY.jY I) aO (bb.2 I) cy)
     ·rw[I] at aH;exact wp_cond_true aH (q3 _ K t1 L ρ a W Q b8 J (aY.jY I) aO (bb.1 I) cy)
    ·cases j
  ·cases j
 |block id b cF=>
  intro s K t L ρ a W Q b8 j aY aO bb cy;refine wp_block ?_;refine cF s _ t L ρ a W _ (b8.oD _) j aY aO bb ?_;intro z s' cR e M bB W' J gE gC an aI;cases z with
  |iJ=>exact cy .iJ s' cR e M bB W' J gE gC an aI
  |ret=>exact cy .ret s' cR e M bB W' J gE gC an aI
  |exit i=>
   simp only[X.out,Exit.inBlock];dsimp only at J;split at J
   ·rename_i a8;rw[if_pos a8];exact cy .iJ s' cR e M bB W' J gE gC an aI
   ·rename_i a8;rw[if_neg a8];exact cy (.exit i) s' cR e M bB W' J gE gC an aI
 |region id ops draw=>
  intro s K t L ρ a W Q b8 j aY aO bb cy
  have uL:ng P N W0 R L ρ W s.fh (K .iJ) (Q .normal):=fun s' cR e bB W' J gE gC an aI=>
   cy .iJ s' cR e [] bB W' J gE (by rw[mC,gC,aO]) an (by rw[mC];exact aI)
  simp only[kU] at j;split at j
  ·rename_i a_;have a_:draw=true:=a_;subst a_;exact Ww bf b8 j aY bb uL
  ·rename_i a_;have a_:draw=false:=by simpa using a_
   subst a_;refine wp_region_list ?_;split at j
   ·rename_i u hu;obtain rfl:=bm j;exact WE hu aY bb uL
   ·exact la bf b8 _ _ s t ρ a W j aY bb uL
 |loop b cF=>
  intro s K t L ρ a W Q b8 j aY aO bb cy;simp only[kU] at j;split at j
  ·rename_i k aA;split at j
   ·exact wp_loop_rounds _ (M9 trivial (fun s K t L ρ a W Q b8 j aY aO bb cy=>cF s K t L ρ a W Q b8 j aY aO bb cy) _ s K t L ρ a W Q b8 j aY aO bb cy)
   ·split at j
    ·rename_i mP rest yW;split at j
     ·rename_i fJ bG HH;split at j
      ·rename_i bV;simp only[bT] at bV;split at j
       ·rename_i A3 wJ;obtain rfl:=bm j;obtain⟨Inv,ar,WX,HJ⟩:=bb;generalize HG:ds.find cf.ei k=cw at*;obtain⟨DR,Nc,DS⟩:=A5 (W0:=W0) (W:=W) (hp:=s.hp) s cw [] s.rw mP rest (by simpa using aY.A4) yW;simp only[sU] at DR
        have GJ:iU s {s with az:=gV s.az (gx b),rw:=rest}:=by
         refine⟨rfl,fun t x h=>?_,rfl,rfl⟩;rcases M4 (gx b) s.az t with J|J
         ·dsimp only at h;rw[J] at h;exact h
         ·dsimp only at h;rw[J] at h;cases h
        have A9:∀r∈rest,r∈s.rw:=HF s cw s.rw mP rest yW
        have wK:bC.ok {s with az:=gV s.az (gx b),rw:=rest}=true:=by
         have bk:=bV.1.1;simp only[bC.ok,bT] at bk ⊢;refine⟨⟨⟨⟨?_,bk.1.1.1.2⟩,bk.1.1.2⟩,ep.2 fun r aw=>ep.1 bk.1.2 r (A9 r aw)⟩,bk.2⟩;exact Hz (f:=af.okO s.c) rfl _ _ bk.1.1.1.1
        have HK:cw.length=fJ.length:=DS.trans (HC bV.2);have A_:=HB mP s.c _ HH
        refine wp_loop_ghost (fun n bB w'=>∃(W':al) (e:aX) (j2:List ic),W'.w=w'∧Ext W W'∧pe j2 fJ=true∧(∀x∈j2,yV x)∧
         Holds N W0 (ρ.push e) {fH {s with az:=gV s.az (gx b),rw:=rest} cw j2 with c:=(ρ.push e).cT} bB W'∧Inv n (af.b2 (ρ.push e) (rv j2)) (hL (ρ.push e) (nI j2)) W') ar ?_ ?_
        ·refine⟨W,{},mP,rfl,Ext.refl W,bV.2,Nc,?_,by rw[o_];exact WX⟩;have J:=aY.eP (M8 cw _ s.rw mP rest yW GJ) (by rw[uO cw mP _ DS];exact DR) (by rw[(wI cw _ mP).1];exact aY.kn);rw[o_,aY.cT];exact J
        ·rintro n bB w' ⟨W',e,j2,rfl,yX,n5,WY,WZ,W2⟩;obtain⟨d,a_,HP,HQ,ft⟩:=(HJ n _ _ W' yX W2).out
         have ke:nK (ρ.push e) (ρ.push d) (fH {s with az:=gV s.az (gx b),rw:=rest} cw j2) (fH {s with az:=gV s.az (gx b),rw:=rest} cw fJ):=
          (nK.M6 (W0:=W0) (w:=W.w) (s:={s with az:=gV s.az (gx b),rw:=rest}) aY.cT wK (fun r aw=>aY.rw r (A9 r aw))).fH cw j2 fJ (Hy n5 HP.symm HQ.symm WY fun y bE=>⟨(A_ y bE).1,fun q bg=>(A_ y bE).2 q bg _⟩)
         have HR:(ρ.push d).cT=s.c.add (bG.eP s.c):=by rw[aX.F5,aY.cT,a_.1]
         have Bg:Holds N W0 (ρ.push d) {fH {s with az:=gV s.az (gx b),rw:=rest} cw fJ with c:=s.c.add (bG.eP s.c),fh:=s.fh+1} bB W':=by
          refine nK.holds WZ ⟨ke.len,ke.az,ke.ms,ke.hp,ke.ro,ke.rw,ke.A6⟩ HR (aX.Gp aY.ew a_.2) ?_;show et.holds _ (fH _ cw fJ).kn;rw[(wI cw _ fJ).1];exact et.push (s:={s with az:=gV s.az (gx b),rw:=rest}) aY.cT wK aY.kn
         have uQ:hR N (ρ.push d) (nI fJ) W'.w:=fun r aw=>Bg.rw r (by
          show r∈(fH _ cw fJ).rw;rw[uO cw fJ _ HK];exact HD fJ rest r aw)
         refine cF _ _ A3 _ (ρ.push d) bB W' _ (b8.wF _) wJ Bg ?_ (ft uQ) ?_
         ·simp[aO]
         ·intro z s' cR dy M rz ht J gE gC an aI;cases z with
          |iJ=>
           dsimp only at J;split at J
           ·rename_i kd je HL;split at J
            ·rename_i rA;simp only[bT] at rA;obtain rfl:=bm J;rw[nh] at an aI;obtain⟨b0,bZ,eG⟩:=A5 (W0:=W0) (W:=ht) (hp:=s'.hp) s' cw [] s'.rw kd je (by simpa using an.A4) HL;simp only[sU] at b0;obtain⟨WW,wL,Ba,HM,aI⟩:=Lf aI (fun b I=>an.hp b (rY I));obtain⟨cq,Bb,Bc,HN,aI⟩:=Lg aI (fun r aw=>by rw[wL];exact(b0.eB r (by rw[uP];exact ub _ (rY aw))).1);have Bd:cq.w=ht.w:=Bb.trans wL;have bo:=Ba.trans Bc;have cc:ha.at (L++[_]++M) s.fh _ _ cq:=aI
             have yS:(L++[fun lz fG ht=>∃fZ,fZ<n∧Inv fZ lz fG ht]++M)[s.fh]? =some (fun lz fG ht=>∃fZ,fZ<n∧Inv fZ lz fG ht):=by
              rw[aO,jW,Ac (e9 _)];simp
             unfold ha.at at cc;rw[yS] at cc;obtain⟨fZ,ur,W3⟩:=cc;refine⟨fZ,ur,cq,d.push dy,kd,Bd,yX.trans (gE.trans bo),rA.2,bZ,?_,W3⟩;have oE:=DM rA.1.2
             have Be:mQ N W0 (ρ.push (d.push dy)) ht s'.hp (fH {s with az:=gV s.az (gx b),rw:=rest} cw kd).rw:=by
              rw[uO cw kd _ eG];exact b0.sub (Hu _ (by rw[<-oE];exact List.drop_sublist _ _))
             have bu:=an.cover rA.1.1 Be (by rw[(wI cw _ kd).1];exact et.push (s:={s with az:=gV s.az (gx b),rw:=rest}) aY.cT wK aY.kn)
             have Bf:s'.hp.drop (s'.hp.length-(fH {s with az:=gV s.az (gx b),rw:=rest} cw kd).hp.length)=(fH {s with az:=gV s.az (gx b),rw:=rest} cw kd).hp:=by
              have:=rA.1.1;simp only[cK.cover,bT] at this;exact A8 this.1.2
             have fW:=an.dc;rw[<-vG (s'.hp.length-(fH {s with az:=gV s.az (gx b),rw:=rest} cw kd).hp.length) s'.hp,vB] at fW
             have HO:=bu.freeze wL Ba HM (fun y I x j e=>by
              have eI:y∈(fH {s with az:=gV s.az (gx b),rw:=rest} cw kd).hp:=I;rw[<-Bf] at eI;exact fW.2.2 x j y eI e.symm) (fun r aw k aA x j e=>by
              exact(Be.eB r aw).2 k aA|>.2 x (rY j) e.symm)
             have k7:=HO.Na Bb Bc HN (fun y I r aw e=>by
              have eI:y∈(fH {s with az:=gV s.az (gx _),rw:=rest} cw kd).hp:=I;rw[<-Bf] at eI;exact((b0.eB r (by rw[uP];exact ub _ (rY aw))).2 _ e).2 y (vC eI) rfl) (fun q bg b I r aw=>by
              have wj:q∈(fH {s with az:=gV s.az (gx _),rw:=rest} cw kd).rw:=bg;rw[uO cw kd _ eG] at wj;exact Nb b0.e2 oE q wj b I r aw)
             have hs:=an.cT;rw[hs];exact k7
            ·cases J
           ·cases J
          |exit i=>
           have:=cy (.exit i) s' cR (d.push dy) ([fun lz fG ht=>∃fZ,fZ<n∧Inv fZ lz fG ht]++M) rz ht J (yX.trans gE) (by rw[<-jW];exact gC) (by rw[<-nh];exact an) (by rw[<-nh,<-jW];exact aI);exact this
          |ret=>
           have:=cy .ret s' cR (d.push dy) ([fun lz fG ht=>∃fZ,fZ<n∧Inv fZ lz fG ht]++M) rz ht J (yX.trans gE) (by rw[<-jW];exact gC) (by rw[<-nh];exact an) (by rw[<-nh,<-jW];exact aI);exact this
       ·cases j
      ·cases j
     ·cases j
    ·cases j
  ·cases j
 |rangeFunc=>intro s K t L ρ a W Q b8 j;simp[kU] at j
 |scope=>intro s K t L ρ a W Q b8 j;simp[kU] at j
 |goto=>intro s K t L ρ a W Q b8 j;simp[kU] at j
 |refuse=>intro s K t L ρ a W Q b8 j;simp[kU] at j
variable {P:Program}
def so (P:Program) (s:bC):List ResultVar->Option (List af)
 |[]=>some []
 |r::l=>match (match r with
   | .tmp t=>gB s.az t
   | .cell a t=>match gB s.az a with
    |some (.ptr m o)=>match jG (s.hp++s.ro) m with
     |some b=>vQ P t b.cs o
     |none=>none
    |_=>none),so P s l with
  |some x,some r=>some (x::r)
  |_,_=>none
def sq:List af->af
 |[s]=>s
 |l=>.cU l
def Bh (tmps:Array Value):ResultVar->Sem Value
 | .tmp t=>pure (tmps.getD t undef)
 | .cell a t=>do loadVar t (<-asAddr (tmps.getD a undef))
theorem W4 (fn:Func) (tmps:Array Value):results fn tmps=(do let vs<-fn.results.mapM (Bh tmps);pure (if h:vs.size=1 then vs[0] else .tuple vs)):=by
 unfold results;congr 1
theorem Nd {N:Nat} {W0:al} {ρ:aX} {s:bC} {a:Act} {W:al} (h:Holds N W0 ρ s a W):∀(l:List ResultVar) (r:List af),so P s l=some r->
  (l.mapM (m:=Sem) (Bh a.tmps)).run P W.w= .ok (af.b2 ρ r) W.w
 |[],r,aw=>by obtain rfl:=bm aw;simp[af.b2]
 |x::l,r,aw=>by
  simp only[so] at aw;split at aw
  ·rename_i y fF bE kc;obtain rfl:=bm aw;have cF:=Nd h l fF kc
   have iS:(Bh a.tmps x).run P W.w= .ok (y.ak ρ) W.w:=by
    cases x with
    |tmp t=>
     have J:=h.az (.tmp t) y bE;simp only[Act.eval] at J;simp only[Bh,Sem.run_pure,J]
    |cell c t=>
     dsimp only at bE;split at bE
     ·rename_i m o aH;split at bE
      ·rename_i b I;have J:=h.az (.tmp c) _ aH;simp only[Act.eval,af.ak] at J;obtain⟨hm,rfl⟩:=mH I;have an:=F6 (ρ:=ρ) bE (se h.hp h.ro b hm);simp only[Bh,J,asAddr,Sem.run_bind,Sem.run_pure,Result.andThen_ok,an]
      ·cases bE
     ·cases bE
   simp only[List.mapM_cons,Sem.run_bind,iS,Result.andThen_ok,cF,Sem.run_pure,af.b2]
  ·cases aw
theorem HS {N:Nat} {W0:al} {ρ:aX} {s:bC} {a:Act} {W:al} (h:Holds N W0 ρ s a W) {fn:Func} {r:List af} (aw:so P s fn.results.toList=some r):
  (results fn a.tmps).run P W.w= .ok ((sq r).ak ρ) W.w:=by
 have J:=Nd (P:=P) h fn.results.toList r aw;rw[W4,Array.mapM_eq_mapM_toList];simp only[Sem.run_bind,Sem.run_map];rw[J];simp only[Result.andThen_ok]
 match r with
 |[]=>simp[sq,af.ak,af.b2]
 |[x]=>simp[sq,af.b2]
 |x::y::l=>simp[sq,af.ak,af.b2]
def Bi:Nat->List af->eJ
 |_,[]=>[]
 |k,s::l=>(k,some s)::Bi (k+1) l
theorem HT:∀(l:List af) (k t:Nat),gB (Bi k l) t=if k<=t then l[t-k]? else none
 |[],k,t=>by simp[Bi,gB]
 |s::l,k,t=>by
  simp only[Bi]
  by_cases h:k=t
  ·subst h;rw[s5];simp
  ·rw[vY _ _ h,HT l (k+1) t]
   by_cases J:k<=t
   ·rw[if_pos J,if_pos (by omega),show t-k=(t-(k+1))+1 from by omega,rZ]
   ·rw[if_neg J,if_neg (by omega)]
def sr (args:List af) (n:Nat) (hp ro:List b4) (rw:List b3) (c:dj):bC:={n:=if n<args.length then args.length else n,az:=Bi 0 args,hp:=hp,ro:=ro,rw:=rw,kn:=[],c:=c,fh:=0}
def Bj (P:Program) (cf:ds) (inl:na) (fn:Func) (args:List af) (hp ro:List b4) (rw:List b3) (c:dj):Option Tree:=
 match fn.body with
 |some kG=>kU P cf inl kG (sr args fn.ntmps hp ro rw c) fun x s=>match x with
  | .exit _=>none
  |_=>match so P s fn.results.toList with
   |some r=>some (.ret (sq r) (mb s.hp r++s.hp.filter fun b=>(hp.map (·.m)).contains b.m) (mb s.ro r) s.rw)
   |none=>none
 |none=>none
def tn (P:Program) (cf:ds):Nat->na
 |0=>fun _ _ _ _=>none
 |d+1=>fun f args ro c=>if cf.inl.contains f then(match P.funcs[f]? with
  |some fn=>Bj P {cf with ei:=[]} (tn P cf d) fn args [] ro [] c
  |none=>none) else none
def cN (P:Program) (cf:ds) (fn:Func) (args:List af) (hp ro:List b4) (c:dj):Option Tree:=Bj P cf (tn P cf cf.depth) fn args hp ro [] c
def Nf (P:Program) (cf:ds) (fn:Func) (args:List af) (ro:List b4) (rw:List b3) (c:dj):Option Tree:=Bj P cf (tn P cf cf.depth) fn args [] ro rw c
theorem Ng {N:Nat} (args:List af) (n:Nat) (ρ:aX) (bP:ρ.ew) (hp ro:List b4) (rw:List b3) (W:al) (eA:N<=W.w.heap.size) (lU:hR N ρ rw W.w) (Bk:∀r∈rw,∀k,dk ρ r=some k->¬W.aV k∧∀b∈hp,aR ρ.M b.m 0≠k) (Bl:rw.Pairwise fun r q=>∀k,dk ρ r=some k->dk ρ q≠some k) (lb:fA ρ hp W.w) (fB:∀b∈hp,¬W.aV (aR ρ.M b.m 0)) (fW:hp.Pairwise fun a b=>aR ρ.M a.m 0≠aR ρ.M b.m 0) (kE:fA ρ ro W.w) (tp:∀b∈ro,W.aV (aR ρ.M b.m 0)):
  Holds N W ρ (sr args n hp ro rw ρ.cT) {tmps:=(af.b2 ρ args).toArray++Array.replicate (n-(af.b2 ρ args).toArray.size) undef,defers:=[]} W:=by
 have eU:(af.b2 ρ args).length=args.length:=by simp[af.jF]
 refine⟨rfl,bP,?_,?_,rfl,lb,kE,lU,tp,fB,Bk,fW,Bl,fun p hp=>(by cases hp),fun b I=>.inl I,eA,Ext.refl W⟩
 ·intro x y j;cases x with
  |tmp t=>
   simp only[dU,sr,HT,dr,if_true,Nat.sub_zero] at j;simp only[Act.eval,mF];have h:t<args.length:=(nU.1 j).1
   have e:((af.b2 ρ args).toArray++Array.replicate (n-(af.b2 ρ args).toArray.size) undef)[t]? =(af.b2 ρ args)[t]? :=by
    rw[Array.getElem?_append_left (by simpa[eU] using h)];simp
   rw[e,dens_getElem?,j];rfl
  |const v=>simp only[dU] at j;obtain rfl:=bm j;rw[qm];rfl
  |global g=>simp only[dU] at j;obtain rfl:=bm j;rfl
  |func f=>simp only[dU] at j;obtain rfl:=bm j;simp[Act.eval,af.ak,af.b2]
 ·simp only[sr,Array.size_append,List.size_toArray,eU,Array.size_replicate];split<;>omega
theorem yY {hp:List b4} {r:List af}:∀b∈mb hp r,b∈hp:=fun b I=>(lJ.1 I).1
theorem yZ {inl:na} (bf:uG P inl) {f:FuncId} {fn:Func} (bs:P.funcs[f]? =some fn) (cf:ds) (args:List af) (hp ro:List b4) (rw:List b3) (ρ:aX) (t:Tree) (j:Bj P cf inl fn args hp ro rw ρ.cT=some t) (bP:ρ.ew) {N:Nat} {W:al} (eA:N<=W.w.heap.size) (lU:hR N ρ rw W.w) (Bk:∀r∈rw,∀k,dk ρ r=some k->¬W.aV k∧∀b∈hp,aR ρ.M b.m 0≠k) (Bl:rw.Pairwise fun r q=>∀k,dk ρ r=some k->dk ρ q≠some k)
  {R:Ending->World->Prop} (lb:fA ρ hp W.w) (fB:∀b∈hp,¬W.aV (aR ρ.M b.m 0)) (fW:hp.Pairwise fun a b=>aR ρ.M a.m 0≠aR ρ.M b.m 0) (kE:fA ρ ro W.w) (tp:∀b∈ro,W.aV (aR ρ.M b.m 0)) (ft:t.ak P N R [] ρ W):bK P f (af.b2 ρ args).toArray W R:=by
 unfold Bj at j;split at j
 ·rename_i kG I;refine calls_of_wp bs I ?_
  have b8:k_ W R (bodyPost P fn fun e w'=>cO W w'∧R e w'):=⟨fun cD a w' J an aI=>⟨J,an,aI⟩,fun cD a d v w' h=>by
   obtain⟨J,an⟩:=h;exact⟨by cases d<;>exact J,an⟩⟩
  refine DQ bf kG (sr args fn.ntmps hp ro rw ρ.cT) _ t [] ρ _ W _ b8 j (Ng args fn.ntmps ρ bP hp ro rw W eA lU Bk Bl lb fB fW kE tp) rfl ft ?_;intro x s' cR e M bB W' J gE gC an aI
  have gy:∀r,so P s' fn.results.toList=some r->cR= .ret (sq r) (mb s'.hp r++s'.hp.filter fun b=>(hp.map (·.m)).contains b.m) (mb s'.ro r) s'.rw->
    bB.defers=[]∧∃v,(results fn bB.tmps).run P W'.w= .ok v W'.w∧(cO W W'.w∧R (.returned v) W'.w):=by
   rintro r aw rfl;refine⟨an.iC,_,HS an aw,cO.CZ an.ext,?_⟩;refine aI (fun b I=>?_) (fun b I=>an.ro b (yY b I)) an.rw ⟨an.lA,fun r aw k aA=>(an.gS r aw k aA).1⟩;rcases mE.1 I with cc|cc
   ·exact an.hp b (yY b cc)
   ·exact an.hp b (lJ.1 cc).1
  cases x with
  |exit i=>cases J
  |iJ=>
   dsimp only at J;split at J
   ·rename_i r aw;exact gy r aw (bm J).symm
   ·cases J
  |ret=>
   dsimp only at J;split at J
   ·rename_i r aw;exact gy r aw (bm J).symm
   ·cases J
 ·cases j
theorem tq (cf:ds):∀d,uG P (tn P cf d)
 |0=>fun f args ro c t h=>by cases h
 |d+1=>fun f args ro c t h ρ W R aH bP kE ft=>by
  simp only[tn] at h;split at h
  ·split at h
   ·rename_i fn j7;subst aH;exact yZ (tq cf d) j7 _ args [] ro [] ρ t h bP (e9 _) (fun r aw=>by cases aw) (fun r aw=>by cases aw) List.Pairwise.nil (fun b I=>by cases I) (fun b I=>by cases I) List.Pairwise.nil kE (fun b I=>kE.lt I) ft
   ·cases h
  ·cases h
theorem dP {f:FuncId} {fn:Func} (bs:P.funcs[f]? =some fn) (cf:ds) (args:List af) (ρ:aX) (t:Tree) (j:cN P cf fn args [] [] ρ.cT=some t) (bP:ρ.ew) {W:al} {R:Ending->World->Prop}
  (ft:t.ak P W.w.heap.size R [] ρ W):bK P f (af.b2 ρ args).toArray W R:=
 yZ (tq cf cf.depth) bs cf args [] [] [] ρ t j bP (e9 _) (fun r aw=>by cases aw) (fun r aw=>by cases aw) List.Pairwise.nil (fun b I=>by cases I) (fun b I=>by cases I) List.Pairwise.nil (fun b I=>by cases I) (fun b I=>by cases I) ft
theorem mm {f:FuncId} {fn:Func} (bs:P.funcs[f]? =some fn) (cf:ds) (args:List af) (hp:List b4) (ρ:aX) (t:Tree) (j:cN P cf fn args hp [] ρ.cT=some t) (bP:ρ.ew) {W:al} {R:Ending->World->Prop}
  (lb:fA ρ hp W.w) (fB:∀b∈hp,¬W.aV (aR ρ.M b.m 0)) (fW:hp.Pairwise fun a b=>aR ρ.M a.m 0≠aR ρ.M b.m 0) (ft:t.ak P W.w.heap.size R [] ρ W):bK P f (af.b2 ρ args).toArray W R:=
 yZ (tq cf cf.depth) bs cf args hp [] [] ρ t j bP (e9 _) (fun r aw=>by cases aw) (fun r aw=>by cases aw) List.Pairwise.nil lb fB fW (fun b I=>by cases I) (fun b I=>by cases I) ft
theorem kf {f:FuncId} {fn:Func} (bs:P.funcs[f]? =some fn) (cf:ds) (args:List af) (ro:List b4) (ρ:aX) (t:Tree) (j:cN P cf fn args [] ro ρ.cT=some t) (bP:ρ.ew) {W:al} {R:Ending->World->Prop}
  (kE:fA ρ ro W.w) (tp:∀b∈ro,W.aV (aR ρ.M b.m 0)) (ft:t.ak P W.w.heap.size R [] ρ W):bK P f (af.b2 ρ args).toArray W R:=
 yZ (tq cf cf.depth) bs cf args [] ro [] ρ t j bP (e9 _) (fun r aw=>by cases aw) (fun r aw=>by cases aw) List.Pairwise.nil (fun b I=>by cases I) (fun b I=>by cases I) List.Pairwise.nil kE tp ft
theorem W5 {f:FuncId} {fn:Func} (bs:P.funcs[f]? =some fn) (cf:ds) (args:List af) (ro:List b4) (rw:List b3) (ρ:aX) (t:Tree) (j:Nf P cf fn args ro rw ρ.cT=some t) (bP:ρ.ew) {W:al} {R:Ending->World->Prop}
  (kE:fA ρ ro W.w) (tp:∀b∈ro,W.aV (aR ρ.M b.m 0)) (lU:hR 0 ρ rw W.w) (Bk:∀r∈rw,∀k,dk ρ r=some k->¬W.aV k) (Bl:rw.Pairwise fun r q=>∀k,dk ρ r=some k->dk ρ q≠some k) (ft:t.ak P 0 R [] ρ W):bK P f (af.b2 ρ args).toArray W R:=
 yZ (tq cf cf.depth) bs cf args [] ro rw ρ t j bP (dr _) lU (fun r aw k aA=>⟨Bk r aw k aA,fun b I=>by cases I⟩) Bl (fun b I=>by cases I) (fun b I=>by cases I) List.Pairwise.nil kE tp ft
def al.of (w:World):al:=⟨w,fun _=>False,fun _ h=>h.elim⟩
theorem da.out {f:FuncId} {args:Array Value} {W:al} {v:Value} (h:da P f args W v):Calls P f args W.w fun e w'=>e= .returned v∧Below W.w.heap.size W.w w':=
 Calls.mono h fun e w' ⟨aA,u,he,hu⟩=>⟨by rw[he,hu],aA.below⟩
theorem da.kA {f:FuncId} {args:Array Value} {W:al} {v:Value} (h:Calls P f args W.w fun e w'=>e= .returned v∧Below W.w.heap.size W.w w'):da P f args W v:=
 Calls.mono h fun e w' ⟨he,I⟩=>⟨cO.kA I,v,he,rfl⟩
section
variable {P:Program} {ar:Nat} {R:Ending->World->Prop} {L:ha} {W:al} {ρ:aX}
theorem aP {s hp ro rw} (h:fA ρ hp W.w->fA ρ ro W.w->hR ar ρ rw W.w->R (.returned (s.ak ρ)) W.w):(Tree.ret s hp ro rw).ak P ar R L ρ W:=fun a b c _=>h a b c
theorem W6 {s hp ro rw} (h:fA ρ hp W.w->fA ρ ro W.w->hR ar ρ rw W.w->((rw.Pairwise fun r q=>∀k,dk ρ r=some k->dk ρ q≠some k)∧∀r∈rw,∀k,dk ρ r=some k->¬W.aV k)->R (.returned (s.ak ρ)) W.w):(Tree.ret s hp ro rw).ak P ar R L ρ W:=h
theorem HU {s} (h:R (.panicked [{v:=s.ak ρ,recovered:=false}]) W.w):(Tree.mJ s).ak P ar R L ρ W:=h
theorem aK {c a b} (h:c.b ρ=true->a.ak P ar R L ρ W) (k:c.b ρ=false->b.ak P ar R L ρ W):(Tree.aC c a b).ak P ar R L ρ W:=⟨h,k⟩
theorem qI {c a b} (e:c.b ρ=true) (h:a.ak P ar R L ρ W):(Tree.aC c a b).ak P ar R L ρ W:=⟨fun _=>h,fun dy=>absurd (e.symm.trans dy) (by decide)⟩
theorem tr {c a b} (e:c.b ρ=false) (h:b.ak P ar R L ρ W):(Tree.aC c a b).ak P ar R L ρ W:=⟨fun dy=>absurd (e.symm.trans dy) (by decide),fun _=>h⟩
theorem a6 {c t} (e:c.b ρ=true) (h:t.ak P ar R L ρ W):(Tree.a1 c t).ak P ar R L ρ W:=⟨e,h⟩
theorem bY {t} (h:∀m W',ar<=m->Ext W W'->t.ak P ar R L (ρ.push {M:=[m]}) W'):(Tree.new t).ak P ar R L ρ W:=h
theorem bS {t} (h:∀W',Ext W W'->t.ak P ar R L ρ W'):(Tree.wr t).ak P ar R L ρ W:=h
theorem cj {t} (h:∀W',Ext W W'->t.ak P ar R L ρ W'):(Tree.grow t).ak P ar R L ρ W:=h
theorem hj {n t} (h:∀a c W',(0<n.i ρ->a.isSome=true)->Ext W W'->t.ak P ar R L (ρ.push {A:=[a],N:=[c]}) W'):(Tree.eu n t).ak P ar R L ρ W:=h
theorem tt {a lo a8 c sz t} (h:t.ak P ar R L (ρ.push {A:=[jw (aR ρ.A a none) (lo.i ρ).toNat (c.i ρ).toNat sz],N:=[(a8.i ρ).toNat-(lo.i ρ).toNat,(c.i ρ).toNat-(lo.i ρ).toNat]}) W):(Tree.sub a lo a8 c sz t).ak P ar R L ρ W:=h
theorem Bm {a t} (h:t.ak P ar R L (ρ.push {A:=[some a]}) W):(Tree.m_ a t).ak P ar R L ρ W:=h
theorem oF {a b} (h:a.ak P ar R L ρ W) (k:b.ak P ar R L ρ W):(Tree.lP a b).ak P ar R L ρ W:=⟨h,k⟩
theorem W7 {ty cs t} (h:∀m W',ar<=m->Ext W W'->W'.aV m->W'.w.heap[m]? =some (.cells (af.b2 ρ cs).toArray ty)->t.ak P ar R L (ρ.push {A:=[some ⟨m,0,none⟩]}) W'):(Tree.s9 ty cs t).ak P ar R L ρ W:=h
theorem qJ {a n c sz rw t} (l:List Value) (J:l.length=(n.i ρ).toNat*sz) (an:∀u∈l,u.oneCell'=true) (aI:aR ρ.A a none=none->n.i ρ<=0∧c.i ρ<=0)
  (cc:∀ad,aR ρ.A a none=some ad->∀W',Ext W W'->∀(aj:Nat) u,l[aj]? =some u->W'.w.cell? (ad.add aj)=some u) (h:t.ak P ar R L (ρ.push {L:=[l]}) W):(Tree.cells a n c sz rw t).ak P ar R L ρ W:=⟨l,J,an,aI,fun ad e W' x _=>cc ad e W' x,h⟩
theorem jA {f args hp rw mu dm c t} (h:fA ρ hp W.w->hR ar ρ rw W.w->bK P f (af.b2 ρ args).toArray (W.fz (qs ρ mu)) fun e w'=>match e with
   | .returned v=>gr c fun d=>v=dm.ak (ρ.push d)∧fA (ρ.push d) mu w'∧∀W',W'.w=w'->Ext W W'->s8 W.w.heap.size W'->t.ak P ar R L (ρ.push d) W'
   | .panicked cD=>R (.panicked cD) w'
   | .outgrown=>False):(Tree.call f args hp rw mu dm c t).ak P ar R L ρ W:=fun I _ aw=>h I aw
theorem nL {f args hp rw mu dm c t} (h:fA ρ hp W.w->Ar ρ W hp mu->hR ar ρ rw W.w->bK P f (af.b2 ρ args).toArray (W.fz (qs ρ mu)) fun e w'=>match e with
   | .returned v=>gr c fun d=>v=dm.ak (ρ.push d)∧fA (ρ.push d) mu w'∧∀W',W'.w=w'->Ext W W'->s8 W.w.heap.size W'->t.ak P ar R L (ρ.push d) W'
   | .panicked cD=>R (.panicked cD) w'
   | .outgrown=>False):(Tree.call f args hp rw mu dm c t).ak P ar R L ρ W:=h
theorem iV {f args hp rw dm c t} {R':Value->World->Prop} (h:fA ρ hp W.w->hR ar ρ rw W.w->gR P f (af.b2 ρ args).toArray W.all R')
  (k:∀v w',cO W.all w'->R' v w'->gr c fun d=>v=dm.ak (ρ.push d)∧∀W',W'.w=w'->Ext W W'->s8 W.w.heap.size W'->t.ak P ar R L (ρ.push d) W'):(Tree.call f args hp rw [] dm c t).ak P ar R L ρ W:=
 fun I _ aw=>bK.mono ((h I aw).eP (V:=W.fz []) rfl fun b I=>I.1) fun e w' aA ⟨v,he,aB⟩=>by
  subst he;have dC:cO W.all w':=aA.eP rfl fun b I=>⟨I,by simp[qs]⟩
  obtain⟨d,a_,J,an⟩:=(k v w' dC aB).out;have qx:fA (ρ.push d) [] w':=fun b I=>by cases I
  exact gr.mk a_ ⟨J,qx,an⟩
theorem b5 {f args hp rw dm c t v} (h:fA ρ hp W.w->hR ar ρ rw W.w->da P f (af.b2 ρ args).toArray W v) (k:gr c fun d=>v=dm.ak (ρ.push d)∧∀W',Ext W W'->t.ak P ar R L (ρ.push d) W'):(Tree.call f args hp rw [] dm c t).ak P ar R L ρ W:=
 iV h fun u w' _ hu=>by
  subst hu;obtain⟨d,a_,J,an⟩:=k.out;exact gr.mk a_ ⟨J,fun W' _ x _=>an W' x⟩
theorem DU {f args hp rw dm iB c t} {R':Value->World->Prop} (h:fA ρ hp W.w->hR ar ρ rw W.w->gR P f (af.b2 ρ args).toArray W.all R')
  (k:∀v w',cO W.all w'->R' v w'->gr c fun d=>v=dm.ak (ρ.push d)∧Aq ar W.w.heap.size [] (ρ.push d) iB w'∧∀W',W'.w=w'->Ext W W'->Gl W.w.heap.size (iO (ρ.push d) iB) W'->t.ak P ar R L (ρ.push d) W'):(Tree.oi f args hp rw [] dm iB c t).ak P ar R L ρ W:=
 fun I aw=>bK.mono ((h I aw).eP (V:=W.fz []) rfl fun b I=>I.1) fun e w' aA ⟨v,he,aB⟩=>by
  subst he;exact k v w' (aA.eP rfl fun b I=>⟨I,fun hm=>by cases hm⟩) aB
theorem eC {fY t} (h:∀W',W'.w=W.w->Ext W W'->(∀b∈fY,ar<=aR ρ.M b.m 0->W'.aV (aR ρ.M b.m 0))->fA ρ fY W'.w->t.ak P ar R L ρ W'):(Tree.eM fY t).ak P ar R L ρ W:=h
theorem Nh {rs t} (h:∀W',W'.w=W.w->Ext W W'->(∀r∈rs,∀k,dk ρ r=some k->W'.aV k)->hR ar ρ rs W'.w->t.ak P ar R L ρ W'):(Tree.yx rs t).ak P ar R L ρ W:=h
theorem oG {xs i o z vs t} (h:∀W',Ext W W'->t.ak P ar R L (ρ.push {L:=[hg (dF ρ xs) ((i.i ρ).toNat*z+o) (af.b2 ρ vs)]}) W'):(Tree.j0 xs i o z vs t).ak P ar R L ρ W:=h
theorem DV {n ρ:_} {ks:List Nat} {r:b3} {w:World} (bk:ar<=n) (h:w.ownsRow n r.e r.sz (r.v.ak ρ) (r.n.i ρ).toNat (dF ρ r.xs)) (J:∀u∈dF ρ r.xs,u.oneCell'=true):Aq ar n ks ρ [r] w:=
 ⟨fun q bg=>by obtain rfl:=bd.1 bg;exact⟨⟨h.1,h.2.imp id fun⟨g,cap,cur,a,b,c⟩=>⟨g,cap,cur,a,iz bk b,c⟩⟩,J⟩,
  fun q bg k aA=>by obtain rfl:=bd.1 bg;exact .inl (World.ownsRow.lt h k aA).1,jE _ _⟩
theorem lF {f args hp rw dm c t} (h:gr c fun d=>(∀W',Ext W W'->fA ρ hp W'.w->hR ar ρ rw W'.w->da P f (af.b2 ρ args).toArray W' (dm.ak (ρ.push d)))∧t.ak P ar R L (ρ.push d) W):(Tree.jZ f args hp rw dm c t).ak P ar R L ρ W:=h
theorem cI {ty p dm c t} (h:gr c fun d=>(∀W',Ext W W'->(Instr.loadAt ty (p.ak ρ)).run P W'.w= .ok (dm.ak (ρ.push d)) W'.w)∧t.ak P ar R L (ρ.push d) W):(Tree.cl ty p dm c t).ak P ar R L ρ W:=h
theorem pW {ty p dm r c t} (h:gr c fun d=>(∀w,r.at ar ρ w->(Instr.loadAt ty (p.ak ρ)).run P w= .ok (dm.ak (ρ.push d)) w)∧t.ak P ar R L (ρ.push d) W):(Tree.j1 ty p dm r c t).ak P ar R L ρ W:=h
theorem dJ {init Ap fJ oj c t} (Inv:Nat->List Value->List (List Value)->al->Prop) (n:Nat) (h:Inv n (af.b2 ρ init) (hL ρ Ap) W)
  (k:∀n vs ls W',Ext W W'->Inv n vs ls W'->gr c fun d=>af.b2 (ρ.push d) fJ=vs∧hL (ρ.push d) oj=ls∧
    (hR ar (ρ.push d) oj W'.w->t.ak P ar R (L++[fun lz fG ht=>∃fZ,fZ<n∧Inv fZ lz fG ht]) (ρ.push d) W')):(Tree.loop init Ap fJ oj c t).ak P ar R L ρ W:=⟨Inv,n,h,k⟩
theorem W8 {e t} (h:∀m c W',Ext W W'->W'.aV m->m<W'.w.heap.size->(∀aj,aj<(e.t ρ).size->W'.w.cell? ⟨m,aj,none⟩=some (.int .u8 ((e.t ρ).data.toList.getD aj 0).toNat))->(e.t ρ).size<=c->t.ak P ar R L (ρ.push {A:=[some ⟨m,0,none⟩],N:=[c]}) W'):(Tree.q9 e t).ak P ar R L ρ W:=h
theorem kV {a fJ oj c t} (eV:List Value->List (List Value)->al->Prop) (h:a.ak P ar R (L++[eV]) ρ W)
  (k:∀vs ls W',Ext W W'->eV vs ls W'->gr c fun d=>af.b2 (ρ.push d) fJ=vs∧hL (ρ.push d) oj=ls∧(hR ar (ρ.push d) oj W'.w->t.ak P ar R L (ρ.push d) W')):(Tree.join a fJ oj c t).ak P ar R L ρ W:=⟨eV,h,k⟩
theorem b1 {n j2 rows} (h:L.at n (af.b2 ρ j2) (hL ρ rows) W):(Tree.again n j2 rows).ak P ar R L ρ W:=h
end
end Go.cK
end
end
section
namespace Go.cK
open Go Go.RowKit
abbrev aq (n:Nat):af:=.int .i64 (.aN n)
abbrev aL (n:Nat):af:=.int .u8 (.aN n)
abbrev ag (n:Nat):af:=.str (.br n)
abbrev ba (n:Nat):af:=.bool (.bv n)
abbrev ai (a n c:Nat):af:=.bt a (.aW n) (.aW c)
abbrev bI (n:Int):af:=.int .i64 (.aE n)
abbrev di (n:Int):af:=.int .u8 (.aE n)
abbrev cY (b:Bool):af:=.bool (.dB b)
abbrev ek:af:=.str (.bN [])
abbrev bR (e:E):E:=.un .not e
abbrev bX (a b:E):E:=.aF .add a b
abbrev HV (a b:E):E:=.aF .sub a b
abbrev axP (a b:E):E:=.aF .mul a b
abbrev bO (a b:E):E:=.aF .lt a b
abbrev bQ (a b:E):E:=.aF .le a b
abbrev aZ (a b:E):E:=.aF .dz a b
abbrev cL (a b:E):E:=.aF .gp a b
abbrev bW (a b:E):E:=.aF .fE a b
abbrev DW (a b:E):E:=.aF .beq a b
abbrev axQ (a b:E):E:=.aF .cat a b
abbrev eW (a b:E):E:=.aF .fI a b
abbrev axR (a b:E):E:=.aF .uh a b
abbrev kg (a b:E):E:=.aF .hJ a b
abbrev Ni (a b:E):E:=.aF .max a b
abbrev axS (a b:E):E:=.aF .quo a b
abbrev axT (a b:E):E:=.aF .rem a b
abbrev ae (n:Nat):E:=.aN n
abbrev aG (n:Nat):E:=.aW n
abbrev b9 (n:Nat):E:=.br n
abbrev cG (n:Nat):E:=.bv n
abbrev ah (n:Int):E:=.aE n
abbrev cW:ds:={ex:=false,inl:=[],ei:=[],k5:=[],mu:=[],gT:=[],lQ:=[],jJ:=[],fN:=false,mc:=[],kB:=[],j3:=[],rws:=[]}
abbrev cg:dj:=⟨1,0,0,0,0,0,0,0⟩
abbrev dv:dj:=⟨0,0,1,0,0,0,0,0⟩
abbrev ga:dj:=⟨0,2,0,0,0,1,0,0⟩
abbrev gL:dj:=⟨4,4,1,4,0,2,0,0⟩
abbrev ie:dj:=⟨0,0,0,1,0,0,0,0⟩
abbrev iu:dj:=⟨4,4,2,4,0,2,0,0⟩
abbrev mn:dj:=⟨2,0,0,0,0,0,0,0⟩
abbrev pX:dj:=⟨1,2,0,0,0,1,0,1⟩
abbrev rB:dj:=⟨2,0,1,1,0,0,0,0⟩
abbrev rC:dj:=⟨0,6,0,1,0,3,0,0⟩
abbrev tu:dj:=⟨1,6,0,1,0,3,0,0⟩
abbrev uR:dj:=⟨3,4,0,2,0,2,0,0⟩
abbrev uS:dj:=⟨0,2,0,0,0,1,0,1⟩
abbrev wM:dj:=⟨2,0,0,2,0,0,0,0⟩
abbrev y0:dj:=⟨4,4,1,4,0,2,1,0⟩
abbrev y1:dj:=⟨0,12,0,1,0,6,1,0⟩
abbrev Bn:dj:=⟨1,2,0,0,0,1,1,0⟩
abbrev Bo:dj:=⟨3,2,0,2,0,1,0,0⟩
abbrev DX:dj:=⟨0,2,0,1,0,1,1,0⟩
abbrev DY:dj:=⟨0,2,1,0,0,1,0,0⟩
abbrev DZ:dj:=⟨0,2,0,1,0,1,0,0⟩
abbrev D0:dj:=⟨1,4,0,0,0,2,0,2⟩
abbrev D1:dj:=⟨0,0,0,0,0,0,0,0⟩
end Go.cK
namespace Go.Proofs.YtkpjmlnhhggenaaGreatDoor
open Tryz Go Go.RowKit Go.cK
abbrev Nj:b3:=⟨(.bt 1 (bX (aG 0) (ah 1)) (aG 2)),(bX (aG 0) (ah 1)),135,2,[.l 0,(.s (aL 0)),(.s (ag 3))]⟩
abbrev W9:Tree:=(.grow (.aC (cL (bQ (ah 48) (kg (b9 0) (ae 0))) (bQ (kg (b9 0) (ae 0)) (ah 57))) (.again 0 [(.int .i64 (.un (.wrap .i64) (bX (ae 0) (ah 1))))] []) (.ret (aq 0) [] [] [])))
abbrev W_:Tree:=(.a1 (bW (bR (bO (ae 0) (.un .len (b9 0)))) (bQ (ah 0) (ae 0))) (.a1 (bW (bR (bO (ae 0) (.un .len (b9 0)))) (bO (ae 0) (.un .len (b9 0)))) (.aC (bO (ae 0) (.un .len (b9 0))) W9 (.ret (aq 0) [] [] []))))
abbrev Nk:Tree:=
(.loop [bI 0] [] [aq 0] [] cg W_)
theorem Xa:cN prog {cW with inl:=[141,142,143,148],ei:=[⟨2,[.az 5]⟩]} f144 [ag 0,(.fn 141 [])] [] [] ie=some Nk:=by kernel_rfl
theorem Xb (t0:ByteArray) (W:al) (R:Ending->World->Prop) (h:Nk.ak prog W.w.heap.size R [] {T:=[t0]} W):bK prog 144 #[.string t0,.func (.func 141) #[] #[]] W R:=
 dP func144 _ _ {T:=[t0]} _ Xa (fun v aB=>by cases aB) h
abbrev Xc:Tree:=(.grow (.aC (bW (cL (bQ (ah 97) (kg (b9 0) (ae 0))) (bQ (kg (b9 0) (ae 0)) (ah 122))) (aZ (kg (b9 0) (ae 0)) (ah 95))) (.again 0 [(.int .i64 (.un (.wrap .i64) (bX (ae 0) (ah 1))))] []) (.ret (aq 0) [] [] [])))
abbrev Xd:Tree:=(.aC (bR (cL (bQ (ah 48) (kg (b9 0) (ae 0))) (bQ (kg (b9 0) (ae 0)) (ah 57)))) Xc (.grow (.again 0 [(.int .i64 (.un (.wrap .i64) (bX (ae 0) (ah 1))))] [])))
abbrev Xe:Tree:=(.a1 (bW (bR (bO (ae 0) (.un .len (b9 0)))) (bQ (ah 0) (ae 0))) (.a1 (bW (bR (bO (ae 0) (.un .len (b9 0)))) (bO (ae 0) (.un .len (b9 0)))) (.aC (bO (ae 0) (.un .len (b9 0))) Xd (.ret (aq 0) [] [] []))))
abbrev Nl:Tree:=
(.loop [bI 0] [] [aq 0] [] cg Xe)
theorem Xf:cN prog {cW with inl:=[141,142,143,148],ei:=[⟨2,[.az 5]⟩]} f144 [ag 0,(.fn 143 [])] [] [] ie=some Nl:=by kernel_rfl
theorem Xg (t0:ByteArray) (W:al) (R:Ending->World->Prop) (h:Nl.ak prog W.w.heap.size R [] {T:=[t0]} W):bK prog 144 #[.string t0,.func (.func 143) #[] #[]] W R:=
 dP func144 _ _ {T:=[t0]} _ Xf (fun v aB=>by cases aB) h
abbrev Xh:Tree:=(.grow (.aC (cL (cL (bQ (ah 32) (kg (b9 0) (ae 0))) (bQ (kg (b9 0) (ae 0)) (ah 126))) (bR (aZ (kg (b9 0) (ae 0)) (ah 39)))) (.again 0 [(.int .i64 (.un (.wrap .i64) (bX (ae 0) (ah 1))))] []) (.ret (aq 0) [] [] [])))
abbrev Xi:Tree:=(.a1 (bW (bR (bO (ae 0) (.un .len (b9 0)))) (bQ (ah 0) (ae 0))) (.a1 (bW (bR (bO (ae 0) (.un .len (b9 0)))) (bO (ae 0) (.un .len (b9 0)))) (.aC (bO (ae 0) (.un .len (b9 0))) Xh (.ret (aq 0) [] [] []))))
abbrev Nn:Tree:=
(.loop [bI 0] [] [aq 0] [] cg Xi)
theorem Xj:cN prog {cW with inl:=[141,142,143,148],ei:=[⟨2,[.az 5]⟩]} f144 [ag 0,(.fn 148 [])] [] [] ie=some Nn:=by kernel_rfl
theorem Xk (t0:ByteArray) (W:al) (R:Ending->World->Prop) (h:Nn.ak prog W.w.heap.size R [] {T:=[t0]} W):bK prog 144 #[.string t0,.func (.func 148) #[] #[]] W R:=
 dP func144 _ _ {T:=[t0]} _ Xj (fun v aB=>by cases aB) h
abbrev Xl:Tree:=(.a1 (bW (bR (cL (aZ (ae 2) (.un .len (b9 0))) (bR (aZ (.un .len (b9 0)) (ah 1))))) (bQ (ah 0) (ah 0))) (.a1 (bW (bR (cL (aZ (ae 2) (.un .len (b9 0))) (bR (aZ (.un .len (b9 0)) (ah 1))))) (bO (ah 0) (.un .len (b9 0)))) (.ret (.bool (cL (aZ (ae 2) (.un .len (b9 0))) (bW (aZ (.un .len (b9 0)) (ah 1)) (bR (aZ (kg (b9 0) (ah 0)) (ah 48)))))) [] [] [])))
abbrev Xm:Tree:=(.call 144 [ag 0,(.fn 141 [])] [] [] [] (aq 2) cg Xl)
abbrev Xn:Tree:=(.call 147 [ag 0,bI 10,bI 64] [] [] [] (.cU [aq 1,.var 0]) ⟨1,0,0,0,1,0,0,0⟩ (.a1 (.qj 0) (.aC (.fg 0) Xm (.ret (cY false) [] [] []))))
abbrev Xo:Tree:=(.ret (.bool (cL (aZ (ae 1) (.un .len (b9 0))) (bQ (.un .len (b9 0)) (ah 12)))) [] [] [])
abbrev Xp:Tree:=(.call 144 [ag 0,(.fn 143 [])] [] [] [] (aq 1) cg Xo)
abbrev Xq:Tree:=(.grow (.aC (cL (bQ (ah 97) (kg (b9 0) (ah 0))) (bQ (kg (b9 0) (ah 0)) (ah 122))) Xp (.ret (cY false) [] [] [])))
abbrev Xr:Tree:=(.a1 (bW (eW (b9 0) (.bN [])) (bQ (ah 0) (ah 0))) (.a1 (bW (eW (b9 0) (.bN [])) (bO (ah 0) (.un .len (b9 0)))) (.aC (bR (eW (b9 0) (.bN []))) Xq (.ret (cY false) [] [] []))))
abbrev Xs:Tree:=(.ret (.bool (cL (aZ (ae 1) (.un .len (b9 0))) (bQ (.un .len (b9 0)) (ah 40)))) [] [] [])
abbrev Xt:Tree:=(.call 144 [ag 0,(.fn 148 [])] [] [] [] (aq 1) cg Xs)
abbrev Xu:Tree:=(.m_ ⟨3,0,none⟩ (.call 59 [(.bt 0 (ah 14) (ah 14)),ag 0] [] [] [] (ba 0) dv (.ret (ba 0) [] [] [])))
abbrev Xv:Tree:=(.aC (aZ (ae 0) (ah 3)) Xt (.aC (aZ (ae 0) (ah 4)) Xu (.ret (cY false) [] [] [])))
abbrev No:Tree:=
(.new (.aC (aZ (ae 0) (ah 1)) Xn (.aC (aZ (ae 0) (ah 2)) Xr Xv)))
theorem Xw:cN prog {cW with inl:=[141,142,143,148]} f107 [(.agg [aL 0,ag 0])] [] [] ⟨1,0,0,1,0,0,0,0⟩=some No:=by kernel_rfl
theorem Xx (i0:Int) (t0:ByteArray) (W:al) (R:Ending->World->Prop) (h:No.ak prog W.w.heap.size R [] {aV:=[i0],T:=[t0]} W):bK prog 107 #[.agg #[.int .u8 i0,.string t0]] W R:=
 dP func107 _ _ {aV:=[i0],T:=[t0]} _ Xw (fun v aB=>by cases aB) h
abbrev Xy:Tree:=(.a1 (bQ (ah 0) (ae 0)) (.a1 (bQ (ae 0) (.un .len (b9 0))) (.grow (.wr (.grow (.ret (.cU [(.agg [di 1,(.str (.cut (b9 0) (ah 0) (ae 0)))]),aq 0]) [] [] []))))))
abbrev Xz:Tree:=(.call 144 [ag 0,(.fn 141 [])] [] [] [] (aq 0) cg Xy)
abbrev XA:Tree:=(.a1 (bQ (ah 0) (ae 0)) (.a1 (bQ (ae 0) (.un .len (b9 0))) (.grow (.wr (.grow (.ret (.cU [(.agg [di 2,(.str (.cut (b9 0) (ah 0) (ae 0)))]),aq 0]) [] [] []))))))
abbrev XB:Tree:=(.call 144 [ag 0,(.fn 143 [])] [] [] [] (aq 0) cg XA)
abbrev Np:Tree:=(.wr (.ret (.cU [(.agg [di 0,ek]),bI 0]) [] [] []))
abbrev XC:Tree:=(.wr (.ret (.cU [(.agg [di 3,ag 1]),(.int .i64 (.un (.wrap .i64) (bX (.un .len (b9 1)) (ah 2))))]) [] [] []))
abbrev XD:Tree:=(.a1 (bQ (ah 0) (ah 1)) (.a1 (bQ (ah 1) (.un .len (b9 0))) (.a1 (bQ (.un .len (b9 0)) (.un .len (b9 0))) (.call 145 [(.str (.cut (b9 0) (ah 1) (.un .len (b9 0)))),(.str (.bN [39]))] [] [] [] (.cU [ag 1,ag 2,ba 0]) ⟨0,0,1,2,0,0,0,0⟩ (.aC (bR (cG 0)) Np XC)))))
abbrev XE:Tree:=(.wr (.ret (.cU [(.agg [di 4,ag 1]),(.int .i64 (.un .len (b9 1)))]) [] [] []))
abbrev XF:Tree:=(.wr (.ret (.cU [(.agg [di 4,ag 2]),(.int .i64 (.un .len (b9 2)))]) [] [] []))
abbrev XG:Tree:=(.wr (.ret (.cU [(.agg [di 4,ag 3]),(.int .i64 (.un .len (b9 3)))]) [] [] []))
abbrev XH:Tree:=(.wr (.ret (.cU [(.agg [di 4,ag 4]),(.int .i64 (.un .len (b9 4)))]) [] [] []))
abbrev XI:Tree:=(.wr (.ret (.cU [(.agg [di 4,ag 5]),(.int .i64 (.un .len (b9 5)))]) [] [] []))
abbrev XJ:Tree:=(.wr (.ret (.cU [(.agg [di 4,ag 6]),(.int .i64 (.un .len (b9 6)))]) [] [] []))
abbrev XK:Tree:=(.wr (.ret (.cU [(.agg [di 4,ag 7]),(.int .i64 (.un .len (b9 7)))]) [] [] []))
abbrev XL:Tree:=(.wr (.ret (.cU [(.agg [di 4,ag 8]),(.int .i64 (.un .len (b9 8)))]) [] [] []))
abbrev XM:Tree:=(.wr (.ret (.cU [(.agg [di 4,ag 9]),(.int .i64 (.un .len (b9 9)))]) [] [] []))
abbrev XN:Tree:=(.wr (.ret (.cU [(.agg [di 4,ag 10]),(.int .i64 (.un .len (b9 10)))]) [] [] []))
abbrev XO:Tree:=(.wr (.ret (.cU [(.agg [di 4,ag 11]),(.int .i64 (.un .len (b9 11)))]) [] [] []))
abbrev XP:Tree:=(.wr (.ret (.cU [(.agg [di 4,ag 12]),(.int .i64 (.un .len (b9 12)))]) [] [] []))
abbrev XQ:Tree:=(.wr (.ret (.cU [(.agg [di 4,ag 13]),(.int .i64 (.un .len (b9 13)))]) [] [] []))
abbrev XR:Tree:=(.wr (.ret (.cU [(.agg [di 4,ag 14]),(.int .i64 (.un .len (b9 14)))]) [] [] []))
abbrev XS:Tree:=(.call 146 [ag 0,ag 14] [] [] [] (ba 13) dv (.aC (cG 13) XR Np))
abbrev XT:Tree:=(.call 146 [ag 0,ag 13] [] [] [] (ba 12) dv (.aC (cG 12) XQ XS))
abbrev XU:Tree:=(.call 146 [ag 0,ag 12] [] [] [] (ba 11) dv (.aC (cG 11) XP XT))
abbrev XV:Tree:=(.call 146 [ag 0,ag 11] [] [] [] (ba 10) dv (.aC (cG 10) XO XU))
abbrev XW:Tree:=(.call 146 [ag 0,ag 10] [] [] [] (ba 9) dv (.aC (cG 9) XN XV))
abbrev XX:Tree:=(.call 146 [ag 0,ag 9] [] [] [] (ba 8) dv (.aC (cG 8) XM XW))
abbrev XY:Tree:=(.call 146 [ag 0,ag 8] [] [] [] (ba 7) dv (.aC (cG 7) XL XX))
abbrev XZ:Tree:=(.call 146 [ag 0,ag 7] [] [] [] (ba 6) dv (.aC (cG 6) XK XY))
abbrev X0:Tree:=(.call 146 [ag 0,ag 6] [] [] [] (ba 5) dv (.aC (cG 5) XJ XZ))
abbrev X1:Tree:=(.call 146 [ag 0,ag 5] [] [] [] (ba 4) dv (.aC (cG 4) XI X0))
abbrev X2:Tree:=(.call 146 [ag 0,ag 4] [] [] [] (ba 3) dv (.aC (cG 3) XH X1))
abbrev X3:Tree:=(.call 146 [ag 0,ag 3] [] [] [] (ba 2) dv (.aC (cG 2) XG X2))
abbrev X4:Tree:=(.call 146 [ag 0,ag 2] [] [] [] (ba 1) dv (.aC (cG 1) XF X3))
abbrev X5:Tree:=(.call 146 [ag 0,ag 1] [] [] [] (ba 0) dv (.aC (cG 0) XE X4))
abbrev X6:Tree:=(.cl 179 (.val (.pointer (some ⟨3,0,none⟩))) (.agg [ag 1,ag 2,ag 3,ag 4,ag 5,ag 6,ag 7,ag 8,ag 9,ag 10,ag 11,ag 12,ag 13,ag 14]) ⟨0,0,0,14,0,0,0,0⟩ X5)
abbrev X7:Tree:=(.new (.wr (.grow (.aC (cL (bQ (ah 97) (kg (b9 0) (ah 0))) (bQ (kg (b9 0) (ah 0)) (ah 122))) XB (.aC (aZ (kg (b9 0) (ah 0)) (ah 39)) XD X6)))))
abbrev Nq:Tree:=
(.new (.new (.new (.wr (.a1 (bQ (ah 0) (ah 0)) (.a1 (bO (ah 0) (.un .len (b9 0))) (.grow (.aC (cL (bQ (ah 48) (kg (b9 0) (ah 0))) (bQ (kg (b9 0) (ah 0)) (ah 57))) Xz X7))))))))
theorem X8:cN prog {cW with inl:=[141,142,143,148],k5:=[(2,3),(14,15)],gT:=[0]} f106 [ag 0] [] [] ie=some Nq:=by kernel_rfl
theorem X9 (t0:ByteArray) (W:al) (R:Ending->World->Prop) (h:Nq.ak prog W.w.heap.size R [] {T:=[t0]} W):bK prog 106 #[.string t0] W R:=
 dP func106 _ _ {T:=[t0]} _ X8 (fun v aB=>by cases aB) h
abbrev Nr:Tree:=(.ret (.cU [.db,bI 4]) [] [] [⟨ai 0 0 1,aG 0,135,2,[.l 0]⟩])
abbrev X_:Tree:=(.eM [⟨1,135,[aL 0,ag 3]⟩,⟨0,135,[aL 0,ag 3]⟩] (.again 0 [ag 4,(.bt 1 (bX (aG 0) (ah 1)) (aG 2))] [Nj]))
abbrev Ya:Tree:=(.new (.a1 (bQ (bX (aG 0) (ah 1)) (ah 5864062014805)) (.eu (bX (aG 0) (ah 1)) (.a1 (bQ (ah 0) (ae 1)) (.a1 (bQ (ae 1) (.un .len (b9 2))) (.a1 (bQ (.un .len (b9 2)) (.un .len (b9 2))) (.call 105 [(.str (.cut (b9 2) (ae 1) (.un .len (b9 2)))),(.str (.bN [32]))] [] [Nj] [] (ag 4) ie X_)))))))
abbrev Yb:Tree:=(.call 107 [(.agg [aL 0,ag 3])] [] [⟨ai 0 0 1,aG 0,135,2,[.l 0]⟩] [] (ba 0) dv (.aC (bR (cG 0)) Nr Ya))
abbrev Yc:Tree:=(.call 106 [ag 2] [] [⟨ai 0 0 1,aG 0,135,2,[.l 0]⟩] [] (.cU [(.agg [aL 0,ag 3]),aq 1]) ⟨2,0,0,1,0,0,0,0⟩ (.new (.wr (.aC (bR (aZ (ae 1) (ah 0))) Yb Nr))))
abbrev Yd:Tree:=(.ret (.cU [ai 0 0 1,bI 0]) [] [] [⟨ai 0 0 1,aG 0,135,2,[.l 0]⟩])
abbrev Ye:Tree:=(.loop [ag 1,.db] [⟨.db,ah 0,135,2,[]⟩] [ag 2,ai 0 0 1] [⟨ai 0 0 1,aG 0,135,2,[.l 0]⟩] ⟨0,2,0,1,0,1,0,1⟩ (.aC (bR (eW (b9 2) (.bN []))) Yc Yd))
abbrev Yf:Tree:=(.call 105 [ag 0,(.str (.bN [32]))] [] [] [] (ag 1) ie Ye)
abbrev Ns:Tree:=
(.aC (bO (ah 100) (.un .len (b9 0))) (.ret (.cU [.db,bI 40]) [] [] []) Yf)
theorem Yg:cN prog {cW with inl:=[141,142,143,148],ei:=[⟨5,[.az 0,.row 4 83]⟩]} f50 [ag 0] [] [] ie=some Ns:=by kernel_rfl
theorem Yh (t0:ByteArray) (W:al) (R:Ending->World->Prop) (h:Ns.ak prog W.w.heap.size R [] {T:=[t0]} W):bK prog 50 #[.string t0] W R:=
 dP func50 _ _ {T:=[t0]} _ Yg (fun v aB=>by cases aB) h
end Go.Proofs.YtkpjmlnhhggenaaGreatDoor
end
section
namespace Go.Proofs
open Tryz Go.Shelf
def Yi:Go.Shelf.Ren:=⟨fun|161=>105|231=>137|227=>138|233=>139|235=>140|228=>164|197=>165|151=>166|260=>181|152=>182|137=>189|119=>190|224=>191|225=>192|217=>193|266=>200|n=>n,fun|9=>9|4=>4|3=>3|5=>5|117=>170|116=>169|0=>0|124=>173|105=>198|21=>21|119=>220|46=>66|139=>223|138=>222|n=>n,fun|3=>5|4=>6|n=>n⟩
theorem Yj:Go.Proofs.Lays.n161 prog Yi:={
 mixed:=by kernel_rfl
 f119:=func190.trans (congrArg some (by kernel_rfl))
 f137:=func189.trans (congrArg some (by kernel_rfl))
 f151:=func166.trans (congrArg some (by kernel_rfl))
 f152:=func182.trans (congrArg some (by kernel_rfl))
 f161:=func105.trans (congrArg some (by kernel_rfl))
 f197:=func165.trans (congrArg some (by kernel_rfl))
 f217:=func193.trans (congrArg some (by kernel_rfl))
 f224:=func191.trans (congrArg some (by kernel_rfl))
 f225:=func192.trans (congrArg some (by kernel_rfl))
 f227:=func138.trans (congrArg some (by kernel_rfl))
 f228:=func164.trans (congrArg some (by kernel_rfl))
 f231:=func137.trans (congrArg some (by kernel_rfl))
 f233:=func139.trans (congrArg some (by kernel_rfl))
 f235:=func140.trans (congrArg some (by kernel_rfl))
 f260:=func181.trans (congrArg some (by kernel_rfl))
 f266:=func200.trans (congrArg some (by kernel_rfl))
 t0:=underlying0
 a0:=isAgg0
 z0:=sizeOf0
 v0:=zeroValue0
 t3:=underlying3
 a3:=isAgg3
 z3:=sizeOf3
 v3:=zeroValue3
 t4:=underlying4
 a4:=isAgg4
 z4:=sizeOf4
 v4:=zeroValue4
 t5:=underlying5
 a5:=isAgg5
 z5:=sizeOf5
 v5:=zeroValue5
 t9:=underlying9
 a9:=isAgg9
 z9:=sizeOf9
 v9:=zeroValue9
 t21:=underlying21
 a21:=isAgg21
 z21:=sizeOf21
 v21:=zeroValue21
 t46:=underlying66
 a46:=isAgg66
 z46:=sizeOf66
 v46:=zeroValue66
 t105:=underlying198
 a105:=isAgg198
 z105:=sizeOf198
 v105:=zeroValue198
 t116:=underlying169
 a116:=isAgg169
 z116:=sizeOf169
 t117:=underlying170
 a117:=isAgg170
 z117:=sizeOf170
 v117:=zeroValue170
 t119:=underlying220
 a119:=isAgg220
 z119:=sizeOf220
 t124:=underlying173
 a124:=isAgg173
 z124:=sizeOf173
 v124:=zeroValue173
 t138:=underlying222
 a138:=isAgg222
 z138:=sizeOf222
 v138:=zeroValue222
 t139:=underlying223
 a139:=isAgg223
 z139:=sizeOf223
 v139:=zeroValue223
 g3:=by kernel_rfl
 g4:=by kernel_rfl}
open Go.RowKit in
theorem strings_TrimLeft_one (s:ByteArray) (c:UInt8) (aH:c.toNat<128) (w:World):
  Calls prog 105 #[.string s,.string ⟨#[c]⟩] w fun e w'=>e= .returned (.string ⟨(Lib.trimLeftB s.data.toList c).toArray⟩)∧w'=w:=Any.strings_TrimLeft_one Yj s c aH w
def Yk:Go.Shelf.Ren:=⟨fun|174=>147|247=>169|245=>170|287=>184|279=>185|280=>186|281=>187|282=>188|321=>195|322=>196|316=>197|171=>199|205=>198|243=>202|246=>203|283=>204|284=>205|285=>206|286=>207|129=>209|317=>208|318=>210|319=>211|320=>212|337=>213|338=>214|n=>n,fun|9=>9|3=>3|2=>2|75=>182|85=>183|4=>4|167=>213|5=>5|53=>214|175=>215|46=>66|168=>217|37=>77|0=>0|210=>229|21=>21|127=>235|145=>238|143=>236|171=>240|173=>243|212=>246|51=>232|20=>20|213=>247|232=>250|233=>251|80=>252|n=>n,fun|15=>8|16=>9|17=>10|18=>11|19=>12|n=>n⟩
theorem HW:Go.Proofs.LaysC.n174 prog Yk:={
 mixed:=by kernel_rfl
 f129:=func209.trans (congrArg some (by kernel_rfl))
 f171:=func199.trans (congrArg some (by kernel_rfl))
 f174:=func147.trans (congrArg some (by kernel_rfl))
 f205:=func198.trans (congrArg some (by kernel_rfl))
 f243:=func202.trans (congrArg some (by kernel_rfl))
 f245:=func170.trans (congrArg some (by kernel_rfl))
 f246:=func203.trans (congrArg some (by kernel_rfl))
 f247:=func169.trans (congrArg some (by kernel_rfl))
 f279:=func185.trans (congrArg some (by kernel_rfl))
 f280:=func186.trans (congrArg some (by kernel_rfl))
 f281:=func187.trans (congrArg some (by kernel_rfl))
 f282:=func188.trans (congrArg some (by kernel_rfl))
 f283:=func204.trans (congrArg some (by kernel_rfl))
 f284:=func205.trans (congrArg some (by kernel_rfl))
 f285:=func206.trans (congrArg some (by kernel_rfl))
 f286:=func207.trans (congrArg some (by kernel_rfl))
 f287:=func184.trans (congrArg some (by kernel_rfl))
 f316:=func197.trans (congrArg some (by kernel_rfl))
 f317:=func208.trans (congrArg some (by kernel_rfl))
 f318:=func210.trans (congrArg some (by kernel_rfl))
 f319:=func211.trans (congrArg some (by kernel_rfl))
 f320:=func212.trans (congrArg some (by kernel_rfl))
 f321:=func195.trans (congrArg some (by kernel_rfl))
 f322:=func196.trans (congrArg some (by kernel_rfl))
 f337:=func213.trans (congrArg some (by kernel_rfl))
 f338:=func214.trans (congrArg some (by kernel_rfl))
 t0:=underlying0
 a0:=isAgg0
 z0:=sizeOf0
 v0:=zeroValue0
 t2:=underlying2
 a2:=isAgg2
 z2:=sizeOf2
 v2:=zeroValue2
 t3:=underlying3
 a3:=isAgg3
 z3:=sizeOf3
 v3:=zeroValue3
 t4:=underlying4
 a4:=isAgg4
 z4:=sizeOf4
 v4:=zeroValue4
 t5:=underlying5
 a5:=isAgg5
 z5:=sizeOf5
 v5:=zeroValue5
 t9:=underlying9
 a9:=isAgg9
 z9:=sizeOf9
 v9:=zeroValue9
 t20:=underlying20
 a20:=isAgg20
 z20:=sizeOf20
 v20:=zeroValue20
 t21:=underlying21
 a21:=isAgg21
 z21:=sizeOf21
 v21:=zeroValue21
 t37:=underlying77
 a37:=isAgg77
 z37:=sizeOf77
 v37:=zeroValue77
 t46:=underlying66
 a46:=isAgg66
 z46:=sizeOf66
 v46:=zeroValue66
 t51:=underlying232
 a51:=isAgg232
 z51:=sizeOf232
 v51:=zeroValue232
 t53:=underlying214
 a53:=isAgg214
 z53:=sizeOf214
 v53:=zeroValue214
 t75:=underlying182
 a75:=isAgg182
 z75:=sizeOf182
 v75:=zeroValue182
 t85:=underlying183
 a85:=isAgg183
 z85:=sizeOf183
 v85:=zeroValue183
 t127:=underlying235
 a127:=isAgg235
 z127:=sizeOf235
 v127:=zeroValue235
 t143:=underlying236
 a143:=isAgg236
 z143:=sizeOf236
 v143:=zeroValue236
 t145:=underlying238
 a145:=isAgg238
 z145:=sizeOf238
 v145:=zeroValue238
 t167:=underlying213
 a167:=isAgg213
 z167:=sizeOf213
 v167:=zeroValue213
 t168:=underlying217
 a168:=isAgg217
 z168:=sizeOf217
 v168:=zeroValue217
 t171:=underlying240
 a171:=isAgg240
 z171:=sizeOf240
 v171:=zeroValue240
 t173:=underlying243
 a173:=isAgg243
 z173:=sizeOf243
 v173:=zeroValue243
 t175:=underlying215
 a175:=isAgg215
 z175:=sizeOf215
 v175:=zeroValue215
 t210:=underlying229
 a210:=isAgg229
 z210:=sizeOf229
 v210:=zeroValue229
 t212:=underlying246
 a212:=isAgg246
 z212:=sizeOf246
 v212:=zeroValue246
 t213:=underlying247
 a213:=isAgg247
 z213:=sizeOf247
 t232:=underlying250
 a232:=isAgg250
 z232:=sizeOf250
 v232:=zeroValue250
 t233:=underlying251
 a233:=isAgg251
 z233:=sizeOf251
 v233:=zeroValue251
 g15:=by kernel_rfl
 g16:=by kernel_rfl
 g17:=by kernel_rfl
 g18:=by kernel_rfl
 g19:=by kernel_rfl
 t80:=underlying252
 a80:=isAgg252
 z80:=sizeOf252
 v80:=zeroValue252
 i0:=by kernel_rfl
 i2:=by kernel_rfl
 i3:=by kernel_rfl
 i4:=by kernel_rfl
 i5:=by kernel_rfl
 i9:=by kernel_rfl
 i20:=by kernel_rfl
 i21:=by kernel_rfl
 i37:=by kernel_rfl
 i46:=by kernel_rfl
 i51:=by kernel_rfl
 i53:=by kernel_rfl
 i75:=by kernel_rfl
 i80:=by kernel_rfl
 i85:=by kernel_rfl
 i127:=by kernel_rfl
 i143:=by kernel_rfl
 i145:=by kernel_rfl
 i167:=by kernel_rfl
 i168:=by kernel_rfl
 i171:=by kernel_rfl
 i173:=by kernel_rfl
 i175:=by kernel_rfl
 i210:=by kernel_rfl
 i212:=by kernel_rfl
 i232:=by kernel_rfl
 i233:=by kernel_rfl
 m15:=by kernel_rfl
 m16:=by kernel_rfl
 m17:=by kernel_rfl
 m18:=by kernel_rfl
 m19:=by kernel_rfl
 c0:=by kernel_rfl
 c2:=by kernel_rfl
 c3:=by kernel_rfl
 c4:=by kernel_rfl
 c5:=by kernel_rfl
 c9:=by kernel_rfl
 c20:=by kernel_rfl
 c21:=by kernel_rfl
 c37:=by kernel_rfl
 c46:=by kernel_rfl
 c51:=by kernel_rfl
 c53:=by kernel_rfl
 c75:=by kernel_rfl
 c80:=by kernel_rfl
 c85:=by kernel_rfl
 c127:=by kernel_rfl
 c143:=by kernel_rfl
 c145:=by kernel_rfl
 c167:=by kernel_rfl
 c168:=by kernel_rfl
 c171:=by kernel_rfl
 c173:=by kernel_rfl
 c175:=by kernel_rfl
 c210:=by kernel_rfl
 c212:=by kernel_rfl
 c213:=by kernel_rfl
 c232:=by kernel_rfl
 c233:=by kernel_rfl}
open Go.RowKit in
theorem strconv_ParseInt_10_at64_ok (s:ByteArray) (Yl:s.size<=9223372036854775806) (v:Int) (h:Lib.parseIntB 64 s.data.toList= .ok v) (w:World):
  Calls prog 147 #[.string s,.int .i64 10,.int .i64 64] w fun e w'=>e= .returned (.tuple #[.int .i64 v,.nilIface])∧(w'=w∨∃t,w'=Lib.bytesWorld w 5 t):=Any.strconv_ParseInt_10_at64_ok HW s Yl v h w
open Go.RowKit in
theorem strconv_ParseInt_10_at64_syntax_var (s:ByteArray) (tv:s.size<=281474976710656) (h:Lib.parseIntB 64 s.data.toList=Lib.parseIntB 64 []) (nM:TypeId) (p:Value) (w:World) (nN:w.var? prog "strconv.ErrSyntax" =some #[.iface nM p]):
  Calls prog 147 #[.string s,.int .i64 10,.int .i64 64] w fun e w'=>∃N,e= .returned (.tuple #[.int .i64 (0),.iface 217 (.pointer (some ⟨N,0,none⟩))])∧w.heap.size<=N∧w'.heap[N]? =some (.cells #[.string ⟨#[80,97,114,115,101,73,110,116]⟩,.string s,.iface nM p] 229 (0,0))∧Below w.heap.size w w':=Any.strconv_ParseInt_10_at64_syntax_var HW s tv h nM p w nN
open Go.RowKit in
theorem strconv_ParseInt_10_at64_range_var (s:ByteArray) (tv:s.size<=281474976710656) (h:Lib.parseIntB 64 s.data.toList= .range) (nM:TypeId) (p:Value) (w:World) (nN:w.var? prog "strconv.ErrRange" =some #[.iface nM p]):
  Calls prog 147 #[.string s,.int .i64 10,.int .i64 64] w fun e w'=>∃N,e= .returned (.tuple #[.int .i64 (Lib.intSat 64 s.data.toList),.iface 217 (.pointer (some ⟨N,0,none⟩))])∧w.heap.size<=N∧w'.heap[N]? =some (.cells #[.string ⟨#[80,97,114,115,101,73,110,116]⟩,.string s,.iface nM p] 229 (0,0))∧Below w.heap.size w w':=Any.strconv_ParseInt_10_at64_range_var HW s tv h nM p w nN
def Ym:Go.Shelf.Ren:=⟨fun|145=>145|220=>167|219=>183|217=>193|225=>192|224=>191|267=>194|266=>200|314=>201|n=>n,fun|9=>9|4=>4|59=>177|3=>3|5=>5|46=>66|146=>233|51=>232|n=>n,fun|1=>7|n=>n⟩
theorem Yn:Go.Proofs.Lays.n145 prog Ym:={
 mixed:=by kernel_rfl
 f145:=func145.trans (congrArg some (by kernel_rfl))
 f217:=func193.trans (congrArg some (by kernel_rfl))
 f219:=func183.trans (congrArg some (by kernel_rfl))
 f220:=func167.trans (congrArg some (by kernel_rfl))
 f224:=func191.trans (congrArg some (by kernel_rfl))
 f225:=func192.trans (congrArg some (by kernel_rfl))
 f266:=func200.trans (congrArg some (by kernel_rfl))
 f267:=func194.trans (congrArg some (by kernel_rfl))
 f314:=func201.trans (congrArg some (by kernel_rfl))
 t3:=underlying3
 a3:=isAgg3
 z3:=sizeOf3
 v3:=zeroValue3
 t4:=underlying4
 a4:=isAgg4
 z4:=sizeOf4
 v4:=zeroValue4
 t5:=underlying5
 a5:=isAgg5
 z5:=sizeOf5
 v5:=zeroValue5
 t9:=underlying9
 a9:=isAgg9
 z9:=sizeOf9
 v9:=zeroValue9
 t46:=underlying66
 a46:=isAgg66
 z46:=sizeOf66
 v46:=zeroValue66
 t51:=underlying232
 a51:=isAgg232
 z51:=sizeOf232
 v51:=zeroValue232
 t59:=underlying177
 a59:=isAgg177
 z59:=sizeOf177
 v59:=zeroValue177
 t146:=underlying233
 a146:=isAgg233
 z146:=sizeOf233
 v146:=zeroValue233
 g1:=by kernel_rfl}
open Go.RowKit Go.Lib in
theorem strings_Cut (s sep:ByteArray) (m:Int) (w:World) (bD:s.size<4294967281) (hm:w.cell? ⟨7,0,none⟩=some (.int .i64 m)):
  Calls prog 145 #[.string s,.string sep] w fun e w'=>e= .returned (.tuple #[.string ⟨(Lib.cut s.data.toList sep.data.toList).1.toArray⟩,.string ⟨(Lib.cut s.data.toList sep.data.toList).2.1.toArray⟩,.bool (Lib.cut s.data.toList sep.data.toList).2.2])∧∃n,w'=w.drewN n:=Any.strings_Cut Yn s sep m w bD hm
def Yo:Go.Shelf.Ren:=⟨fun|99=>146|206=>168|n=>n,fun|9=>9|4=>4|3=>3|n=>n,fun|n=>n⟩
theorem Yp:Go.Proofs.Lays.n99 prog Yo:={
 mixed:=by kernel_rfl
 f99:=func146.trans (congrArg some (by kernel_rfl))
 f206:=func168.trans (congrArg some (by kernel_rfl))
 t3:=underlying3
 a3:=isAgg3
 z3:=sizeOf3
 v3:=zeroValue3
 t4:=underlying4
 a4:=isAgg4
 z4:=sizeOf4
 v4:=zeroValue4
 t9:=underlying9
 a9:=isAgg9
 z9:=sizeOf9
 v9:=zeroValue9}
open Go.RowKit Go.Lib in
theorem strings_HasPrefix (s p:ByteArray) (w:World):
  Calls prog 146 #[.string s,.string p] w fun e w'=>e= .returned (.bool (Lib.hasPrefix s.data.toList p.data.toList))∧w'=w:=Any.strings_HasPrefix Yp s p w
def Yq:Go.Shelf.Ren:=⟨fun|110=>59|109=>116|n=>n,fun|31=>23|9=>9|4=>4|3=>3|0=>0|n=>n,fun|n=>n⟩
theorem Yr:Go.Proofs.Lays.n110 prog Yq:={
 mixed:=by kernel_rfl
 f109:=func116.trans (congrArg some (by kernel_rfl))
 f110:=func59.trans (congrArg some (by kernel_rfl))
 t0:=underlying0
 a0:=isAgg0
 z0:=sizeOf0
 v0:=zeroValue0
 t3:=underlying3
 a3:=isAgg3
 z3:=sizeOf3
 v3:=zeroValue3
 t4:=underlying4
 a4:=isAgg4
 z4:=sizeOf4
 v4:=zeroValue4
 t9:=underlying9
 a9:=isAgg9
 z9:=sizeOf9
 v9:=zeroValue9
 t31:=underlying23
 a31:=isAgg23
 z31:=sizeOf23
 v31:=zeroValue23}
open Go.Lib in
theorem slices_Contains_string (b off n c:Nat) (zs:List ByteArray) (x:ByteArray) (w:World) (cS:n<=zs.length) (Ys:n<=9223372036854775807) (aH:∀aj,aj<zs.length->w.cell? ⟨b,off+aj,none⟩=some (.string (zs.getD aj ByteArray.empty))):
  Calls prog 59 #[.slice (some ⟨b,off,none⟩) n c,.string x] w fun e w'=>e= .returned (.bool (Lib.containsS (zs.take n) x))∧w'=w:=Any.slices_Contains_string Yr b off n c zs x w cS Ys aH
end Go.Proofs
end
section
namespace ax
open Go
abbrev aM:=List UInt8
def eR (c:UInt8):Bool:=decide (48<=(c.toNat:Int))&&decide ((c.toNat:Int)<=57)
def h1 (c:UInt8):Bool:=decide (97<=(c.toNat:Int))&&decide ((c.toNat:Int)<=122)
def fK (c:UInt8):Bool:=(eR c||h1 c)||((c.toNat:Int)==95)
def oH (c:UInt8):Bool:=(decide (32<=(c.toNat:Int))&&decide ((c.toNat:Int)<=126))&&!((c.toNat:Int)==39)
def run (p:UInt8->Bool) (l:aM):Nat:=(l.takeWhile p).length
def eN:List aM:=[[60,61],[61,61],[33,61],[124],[38],[60],[43],[45],[42],[47],[37],[33],[40],[41]]
def y2:Lib.NumEnd Int->Bool
 | .ok _=>true
 |_=>false
def lf (l:aM):Bool:=y2 (Lib.parseIntB 64 l)&&((run eR l==l.length)&&((l.length==1)|| !(l.head?==some 48)))
def uT (l:aM):Bool:=match l with
 |[]=>false
 |c::_=>h1 c&&((run fK l==l.length)&&decide (l.length<=12))
def wN (l:aM):Bool:=(run oH l==l.length)&&decide (l.length<=40)
def en (k:Int) (l:aM):Bool:=if k=1 then lf l else if k=2 then uT l else if k=3 then wN l else if k=4 then eN.contains l else false
structure cJ where
 k:Int
 t:aM
 deriving DecidableEq
def none:cJ×Nat:=(⟨0,[]⟩,0)
def lg (l:aM):Option aM:=if(l.takeWhile (· != 39)).length<l.length then some (l.takeWhile (· != 39)) else Option.none
def first:aM->cJ×Nat
 |[]=>none
 |c::r=>
  if eR c then(⟨1,(c::r).take (run eR (c::r))⟩,run eR (c::r))
  else if h1 c then(⟨2,(c::r).take (run fK (c::r))⟩,run fK (c::r))
  else if c=39 then(match lg r with
   |some q=>(⟨3,q⟩,q.length+2)
   |Option.none=>none)
  else match eN.find? fun x=>x.isPrefixOf (c::r) with
   |some x=>(⟨4,x⟩,x.length)
   |Option.none=>none
def iW (l:aM):aM:=l.dropWhile (· ==32)
def h2:Nat->aM->Option (List cJ)
 |0,_=>Option.none
 |_+1,[]=>some []
 |n+1,c::r=>if(first (c::r)).2=0|| !(en (first (c::r)).1.k (first (c::r)).1.t) then Option.none else(h2 n (iW ((c::r).drop (first (c::r)).2))).map ((first (c::r)).1:: ·)
def fl (l:aM):List cJ×Int:=if 100<l.length then([],40) else match h2 (l.length+1) (iW l) with
 |some ts=>(ts,0)
 |Option.none=>([],4)
def text (t:cJ):aM:=if t.k=3 then 39::(t.t++[39]) else t.t
theorem wO (p:UInt8->Bool) (l:aM):run p l<=l.length:=by unfold run;exact(List.takeWhile_sublist _).length_le
theorem pf {p:UInt8->Bool} {c:UInt8} {l:aM} (h:p c=true):run p (c::l)=run p l+1:=by simp[run,vH,h]
theorem uU {p:UInt8->Bool} {c:UInt8} {l:aM} (h:p c=false):run p (c::l)=0:=by simp[run,vH,h]
theorem wP (p:UInt8->Bool):run p []=0:=rfl
theorem ss (l:aM):(iW l).length<=l.length:=(List.dropWhile_sublist _).length_le
theorem Nt:∀l:aM,Lib.index l [39]=if(l.takeWhile (· != 39)).length<l.length then((l.takeWhile (· != 39)).length:Int) else-1
 |[]=>rfl
 |b::r=>by
  have cF:=Nt r;unfold Lib.index
  by_cases h:b=39
  ·subst h;simp[vH]
  ·have J:(b != 39)=true:=by simpa using h
   have an:([39]:aM).isPrefixOf (b::r)=false:=by simp[List.isPrefixOf];exact fun e=>h e.symm
   rw[an,cF];simp only[vH,J,if_true,e5,rX,if_false]
   by_cases aO:(r.takeWhile (· != 39)).length<r.length
   ·have aI:(((r.takeWhile (· != 39)).length:Int)== -1)=false:=by rw[beq_eq_false_iff_ne];omega
    simp[aO,aI]
   ·simp[aO]
theorem Nu (p:UInt8->Bool) (l:aM):l.take (l.takeWhile p).length=l.takeWhile p:=by
 induction l with
 |nil=>rfl
 |cons c r cF=>by_cases h:p c=true<;>simp[vH,h,cF]
theorem Yt (l:aM):(Lib.cut l [39]).2.2=(lg l).isSome∧((lg l).isSome=true->lg l=some (Lib.cut l [39]).1):=by
 unfold Lib.cut lg;rw[Nt]
 by_cases h:(l.takeWhile (· != 39)).length<l.length
 ·simp only[h,if_true];have bk:(0:Int)<=((l.takeWhile (· != 39)).length:Int):=by omega
  simp[bk,Nu]
 ·simp[h]
theorem HX {l q:aM} (h:lg l=some q):q.length<l.length:=by
 unfold lg at h;split at h
 ·rename_i aO;obtain rfl:=bm h;exact aO
 ·cases h
end ax
end
