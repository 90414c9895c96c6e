/- Texts of the claim, one behind the other: TtRead RnTells VcVn1 RnSe RnVars RnNode VcVl4 VlCopy RnSeen RnPl RnSays VnP RnStarts. -/
import Derived.Test.YtkpjmlnhhggenaaGreatDoorQn6
import Derived.Test.YtkpjmlnhhggenaaGreatDoorQn3
import Derived.Test.YtkpjmlnhhggenaaGreatDoorQn4
import Derived.Test.YtkpjmlnhhggenaaGreatDoorProg
import Derived.Test.YtkpjmlnhhggenaaGreatDoorQn2
set_option linter.unusedSimpArgs false
set_option linter.unusedVariables false
set_option maxRecDepth 100000
section
namespace aS
open Go
open ax hiding none run first
theorem zL {α β:Type} {o hb:Option α} {f g:α->Option β} (h:o=hb) (k:∀a,hb=some a->f a=g a):o.bind f=hb.bind g:=by
 subst h;cases o with
 |none=>rfl
 |some a=>exact k a rfl
theorem Fq:∀n:Nat,(∀ts,3*ts.length+1<=n->eB (n+1) ts=eB n ts)∧(∀m ts,3*ts.length+2<=n->e2 (n+1) m ts=e2 n m ts)∧(∀m l x ts,3*ts.length+1<=n->loop (n+1) m l x ts=loop n m l x ts)
 |0=>⟨fun _ h=>by omega,fun _ _ h=>by omega,fun _ _ _ _ h=>by omega⟩
 |n+1=>by
  obtain⟨J,an,aI⟩:=Fq n;refine⟨fun ts aO=>?_,fun m ts aO=>?_,fun m l x ts aO=>?_⟩
  ·cases ts with
   |nil=>simp only[eB]
   |cons t r=>
    simp only[e5] at aO;have a7:=J r (by omega);have bh:=an 1 r (by omega);rw[eB,eB,a7,bh]
    have c8:((eo [40] r).bind fun gk=>(e2 (n+1) 1 gk).bind fun p=>(eo [41] p.2).map fun q=>(kh 16 p.1,q))=(eo [40] r).bind fun gk=>(e2 n 1 gk).bind fun p=>(eo [41] p.2).map fun q=>(kh 16 p.1,q):=
     zL rfl fun gk aw=>by rw[an 1 gk (by have:=(rG aw).1;omega)]
    rw[c8]
  ·rw[e2,e2,J ts (by omega)];refine zL rfl fun p hp=>?_
   obtain⟨e,r⟩:=p;have:=(D8 hp).1;exact aI _ _ _ _ (by show 3*r.length+1<=n;omega)
  ·cases ts with
   |nil=>simp only[loop]
   |cons t r=>
    simp only[e5] at aO;rw[loop,loop]
    by_cases aA:t.k=4
    ·rw[if_pos aA,if_pos aA];cases I:qM t.t 0 with
     |none=>rfl
     |some b=>
      dsimp only
      by_cases aH:b.2.2<m∨l<b.2.2
      ·rw[if_pos aH,if_pos aH]
      ·rw[if_neg aH,if_neg aH,an _ r (by omega)];refine zL rfl fun p hp=>?_
       obtain⟨e,fF⟩:=p;have:=(y3 hp).1;exact aI _ _ _ _ (by show 3*fF.length+1<=n;omega)
    ·rw[if_neg aA,if_neg aA]
theorem apP {n:Nat} {ts:List cJ} (h:3*ts.length+1<=n):eB n ts=eB (3*ts.length+1) ts:=by
 induction n with
 |zero=>omega
 |succ n cF=>
  by_cases e:n+1=3*ts.length+1
  ·rw[e]
  ·rw[(Fq n).1 ts (by omega),cF (by omega)]
theorem JT {n:Nat} {m:Int} {ts:List cJ} (h:3*ts.length+2<=n):e2 n m ts=e2 (3*ts.length+2) m ts:=by
 induction n with
 |zero=>omega
 |succ n cF=>
  by_cases e:n+1=3*ts.length+2
  ·rw[e]
  ·rw[(Fq n).2.1 m ts (by omega),cF (by omega)]
theorem S1 {n:Nat} {m l:Int} {x:de} {ts:List cJ} (h:3*ts.length+1<=n):loop n m l x ts=loop (3*ts.length+1) m l x ts:=by
 induction n with
 |zero=>omega
 |succ n cF=>
  by_cases e:n+1=3*ts.length+1
  ·rw[e]
  ·rw[(Fq n).2.2 m l x ts (by omega),cF (by omega)]
def One (ts:List cJ):Option (de×List cJ):=eB (3*ts.length+1) ts
def hX (m:Int) (ts:List cJ):Option (de×List cJ):=e2 (3*ts.length+2) m ts
def Loop (m l:Int) (x:de) (ts:List cJ):Option (de×List cJ):=loop (3*ts.length+1) m l x ts
def gX (t:cJ):Option (Int×Int):=if t.k=4 then(qM t.t 0).map (·.2) else none
theorem apQ:One []=none:=rfl
theorem apR (t:cJ) (r:List cJ):One (t::r)=
  if t.k=4 then
   (if t.t=[45] then(One r).map fun p=>(kh 3 p.1,p.2)
   else if t.t=[33] then(One r).map fun p=>(kh 4 p.1,p.2)
   else if t.t=[40] then(hX 1 r).bind fun p=>(eo [41] p.2).map fun q=>(p.1,q)
   else none)
  else if t.k=1 then some (lW 1 (pk t.t) [],r)
  else if t.k=3 then some (lW 3 0 t.t,r)
  else if t.t=[121,101,115] then some (lW 2 1 [],r)
  else if t.t=[110,111] then some (lW 2 0 [],r)
  else if t.t=[108,101,110] then(eo [40] r).bind fun gk=>(hX 1 gk).bind fun p=>(eo [41] p.2).map fun q=>(kh 16 p.1,q)
  else some (name t.t,r):=by
 unfold One hX;rw[show 3*(t::r).length+1=(3*r.length+3)+1 from by simp only[e5];omega,eB,apP (n:=3*r.length+3) (ts:=r) (by omega),JT (n:=3*r.length+3) (ts:=r) (by omega)]
 have c8:((eo [40] r).bind fun gk=>(e2 (3*r.length+3) 1 gk).bind fun p=>(eo [41] p.2).map fun q=>(kh 16 p.1,q))=(eo [40] r).bind fun gk=>(e2 (3*gk.length+2) 1 gk).bind fun p=>(eo [41] p.2).map fun q=>(kh 16 p.1,q):=
  zL rfl fun gk aw=>by rw[JT (n:=3*r.length+3) (ts:=gk) (by have:=(rG aw).1;omega)]
 rw[c8]
theorem JU (m:Int) (ts:List cJ):hX m ts=(One ts).bind fun p=>Loop m 7 p.1 p.2:=by
 unfold One hX Loop;rw[e2];refine zL rfl fun p hp=>?_
 obtain⟨e,r⟩:=p;have:=(D8 hp).1;exact S1 (by show 3*r.length+1<=_;omega)
theorem Fs (m l:Int) (x:de):Loop m l x []=some (x,[]):=rfl
theorem xU (m l:Int) (x:de) (t:cJ) (r:List cJ):Loop m l x (t::r)=match gX t with
  |none=>some (x,t::r)
  |some b=>if b.2<m∨l<b.2 then some (x,t::r) else(hX (b.2+1) r).bind fun p=>Loop m (if b.2=3 then 2 else b.2) (qL b.1 x p.1) p.2:=by
 unfold Loop hX gX;rw[show 3*(t::r).length+1=(3*r.length+3)+1 from by simp only[e5];omega,loop]
 by_cases aA:t.k=4
 ·rw[if_pos aA,if_pos aA];cases I:qM t.t 0 with
  |none=>rfl
  |some b=>
   simp only[l6]
   by_cases aH:b.2.2<m∨l<b.2.2
   ·rw[if_pos aH,if_pos aH]
   ·rw[if_neg aH,if_neg aH,JT (n:=3*r.length+3) (ts:=r) (by omega)];refine zL rfl fun p hp=>?_
    obtain⟨e,fF⟩:=p;have:=(y3 hp).1;exact S1 (by show 3*fF.length+1<=_;omega)
 ·rw[if_neg aA,if_neg aA]
theorem JV {m:Int} {ts r:List cJ} {e:de} (h:hX m ts=some (e,r)):iU ts r:=y3 h
theorem JW {t:cJ} {b:Int×Int} (h:gX t=some b):t.k=4∧1<=b.2∧b.2<=5:=by
 unfold gX at h;split at h
 ·rename_i aA;obtain⟨c,aH,rfl⟩:=hI.1 h;have hm:=Ad aH;have bb:∀b∈binds,1<=b.2.2∧b.2.2<=5:=by decide
  exact⟨aA,bb c hm⟩
 ·cases h
def vq (m:Int):List cJ->Prop
 |[]=>True
 |t::_=>∀b,gX t=some b->b.2<m
def S2:List cJ->Prop
 |[]=>False
 |t::_=>∃b,gX t=some b∧b.2=3
def Rel (m:Int) (o hb:Option (de×List cJ)):Prop:=match o with
 |some p=>hb=some p∧vq m p.2
 |none=>hb=none∨(m<=3∧∃x r,hb=some (x,r)∧S2 r)
theorem apS (m:Int) (hm:1<=m) (Ft:m<=5):∀(n:Nat) (l:Int) (x:de) (ts:List cJ),ts.length<=n->(m<=l)->
  (Loop (m+1) l x ts=none->Loop m l x ts=none)∧∀y r,Loop (m+1) l x ts=some (y,r)->∃fx,m<=fx∧Loop m l x ts=Loop m fx y r∧(∀t s,r=t::s->∀b,gX t=some b->b.2<m+1∨fx<b.2):=by
 intro n;induction n with
 |zero=>
  intro l x ts aO Co;obtain rfl:ts=[]:=sW.1 (by omega);refine⟨fun h=>by simp[Fs] at h,fun y r h=>?_⟩;rw[Fs] at h;obtain⟨rfl,rfl⟩:=fD (bm h);exact⟨l,Co,rfl,fun t s h=>by cases h⟩
 |succ n cF=>
  intro l x ts aO Co;cases ts with
  |nil=>
   refine⟨fun h=>by simp[Fs] at h,fun y r h=>?_⟩;rw[Fs] at h;obtain⟨rfl,rfl⟩:=fD (bm h);exact⟨l,Co,rfl,fun t s h=>by cases h⟩
  |cons t r=>
   simp only[e5] at aO;rw[xU (m+1)];cases I:gX t with
   |none=>
    refine⟨fun h=>(by cases h),fun y fF h=>?_⟩;obtain⟨rfl,rfl⟩:=fD (bm h);refine⟨l,Co,rfl,fun cR s' h b eI=>?_⟩;obtain⟨rfl,rfl⟩:=ug h;rw[I] at eI;cases eI
   |some b=>
    dsimp only
    by_cases aH:b.2<m+1∨l<b.2
    ·rw[if_pos aH];refine⟨fun h=>(by cases h),fun y fF h=>?_⟩;obtain⟨rfl,rfl⟩:=fD (bm h);refine⟨l,Co,rfl,fun cR s' h pI eI=>?_⟩;obtain⟨rfl,rfl⟩:=ug h;rw[I] at eI;obtain rfl:=bm eI;exact aH
    ·rw[if_neg aH]
     have e:Loop m l x (t::r)=(hX (b.2+1) r).bind fun p=>Loop m (if b.2=3 then 2 else b.2) (qL b.1 x p.1) p.2:=by
      rw[xU m,I];dsimp only;rw[if_neg (by omega)]
     rw[e];cases hp:hX (b.2+1) r with
     |none=>exact⟨fun _=>rfl,fun y fF h=>by cases h⟩
     |some p=>
      have tf:p.2.length<r.length:=(JV (e:=p.1) (r:=p.2) hp).1;simp only[lK];exact cF _ _ _ (by omega) (by split<;>omega)
theorem apT {m:Int} (hm:1<=m) (Ft:m<=5) {ts:List cJ} {o:Option (de×List cJ)} (h:Rel (m+1) o (hX (m+1) ts)):match o with
  |some p=>vq (m+1) p.2∧∃l,m<=l∧hX m ts=Loop m l p.1 p.2
  |none=>Rel m none (hX m ts):=by
 have key:(hX (m+1) ts=none->hX m ts=none)∧∀y r,hX (m+1) ts=some (y,r)->∃fx,m<=fx∧hX m ts=Loop m fx y r∧(∀t s,r=t::s->∀b,gX t=some b->b.2<m+1∨fx<b.2):=by
  rw[JU m,JU (m+1)];cases One ts with
  |none=>exact⟨fun _=>rfl,fun y r h=>by cases h⟩
  |some p=>exact apS m hm Ft _ 7 p.1 p.2 (e9 _) (by omega)
 cases o with
 |some p=>
  obtain⟨J,an⟩:=h;obtain⟨l,aO,e,_⟩:=key.2 p.1 p.2 J;exact⟨an,l,aO,e⟩
 |none=>
  rcases h with h|⟨aI,x,r,h,xV⟩
  ·exact .inl (key.1 h)
  ·obtain⟨l,aO,e,jH⟩:=key.2 x r h;refine .inr ⟨by omega,x,r,?_,xV⟩;cases r with
   |nil=>cases xV
   |cons t s=>
    obtain⟨b,I,ayw⟩:=xV;rw[e,xU,I];have:=jH t s rfl b I;dsimp only;rw[if_pos (by omega)]
theorem S3 {m l:Int} {x:de} {r:List cJ} (bD:vq m r):Loop m l x r=some (x,r):=by
 cases r with
 |nil=>rfl
 |cons t s=>
  rw[xU];cases I:gX t with
  |none=>rfl
  |some b=>dsimp only;rw[if_pos (.inl (bD b I))]
theorem S4 {m l:Int} {x:de} {t:cJ} {r:List cJ} {b:Int×Int} (I:gX t=some b) (J:b.2=m) (an:m<=l):Loop m l x (t::r)=(hX (m+1) r).bind fun p=>Loop m (if m=3 then 2 else m) (qL b.1 x p.1) p.2:=by
 rw[xU,I];dsimp only;rw[if_neg (by omega),J]
theorem apU {l:Int} {x:de} {t:cJ} {r:List cJ} {b:Int×Int} (I:gX t=some b) (J:b.2=3) (an:l=2):Rel 3 none (Loop 3 l x (t::r)):=by
 refine .inr ⟨by omega,x,t::r,?_,b,I,J⟩;rw[xU,I];dsimp only;rw[if_pos (by omega)]
theorem apV {m l:Int} {x:de} {t:cJ} {r:List cJ} {b:Int×Int} (hm:1<=m) (I:gX t=some b) (J:b.2=m) (an:m<=l) (h:Rel (m+1) none (hX (m+1) r)):Rel m none (Loop m l x (t::r)):=by
 rw[S4 I J an];rcases h with h|⟨aI,y,s,h,xV⟩
 ·rw[h];exact .inl rfl
 ·rw[h];refine .inr ⟨by omega,qL b.1 x y,s,?_,xV⟩;cases s with
  |nil=>cases xV
  |cons cR s'=>
   obtain⟨c,aH,pn⟩:=xV;simp only[lK];rw[xU,aH];dsimp only;rw[if_pos (by right;rw[if_neg (by omega)];omega)]
theorem apW {r:List cJ} (h:S2 r):eo [41] r=none:=by
 cases r with
 |nil=>cases h
 |cons t s=>
  obtain⟨b,I,aI⟩:=h;unfold gX at I;split at I
  ·rename_i aA;simp only[eo];rw[if_neg];rintro⟨_,e⟩;rw[e] at I;have:qM [41] 0=none:=by decide
   rw[this] at I;cases I
  ·cases I
theorem S5 {α:Type} {o:Option (de×List cJ)} {ts:List cJ} (h:Rel 1 o (hX 1 ts)) (f:de->List cJ->α):((hX 1 ts).bind fun p=>(eo [41] p.2).map fun q=>f p.1 q)=o.bind fun p=>(eo [41] p.2).map fun q=>f p.1 q:=by
 cases o with
 |some p=>rw[h.1]
 |none=>
  rcases h with h|⟨_,x,r,h,I⟩
  ·rw[h]
  ·rw[h];simp[apW I]
def Cp:Option (de×List cJ)->Option de
 |some (e,[])=>some e
 |_=>none
theorem apX (ts:List cJ):whole ts=Cp (hX 1 ts):=by
 unfold whole hX Cp;rfl
theorem apY {m:Int} {o hb:Option (de×List cJ)} (h:Rel m o hb):Cp hb=Cp o:=by
 cases o with
 |some p=>rw[h.1]
 |none=>
  rcases h with h|⟨_,x,r,h,I⟩
  ·rw[h]
  ·rw[h];cases r with
   |nil=>cases I
   |cons t s=>rfl
theorem apZ {o:Option (de×List cJ)} {ts:List cJ} (h:Rel 1 o (hX 1 ts)):whole ts=Cp o:=by
 rw[apX,apY h]
theorem ap0 (ts:List cJ) (aO:∀p,One ts=some p->True):hX 6 ts=One ts:=by
 rw[JU];cases One ts with
 |none=>rfl
 |some p=>
  refine S3 ?_;cases hp:p.2 with
  |nil=>trivial
  |cons t s=>exact fun b I=>by have:=JW I;omega
end aS
namespace aS
open Go
open ax hiding none run first
theorem ap1 {l:aM} (h:lf l=true):pk l=(val 0 l:Nat)∧val 0 l<2^63∧∀c∈l,eR c=true:=by
 have bk:l≠[]:=by rintro rfl;rw[SL] at h;cases h
 have a_:∀c∈l,eR c=true:=by
  unfold lf at h;simp only[bT,beq_iff_eq] at h;exact Fl.1 h.2.1
 have hp:val 0 l<2^63:=by
  unfold lf at h;simp only[bT] at h;have:=h.1;rw[JN bk a_] at this;exact of_decide_eq_true this
 refine⟨?_,hp,a_⟩;cases l with
 |nil=>exact absurd rfl bk
 |cons c r=>
  have aH:=vo.1 (a_ c (c6 ..));have JO:¬c.toNat=43:=by omega
  have JP:¬c.toNat=45:=by omega
  simp only[pk,Lib.parseIntB,JO,JP,or_self,if_false,Lib.parseUintB,reduceCtorEq,not_false_eq_true,true_and,false_and];rcases JM (c::r) 0 a_ with e|⟨e,aB⟩
  ·rw[e];simp only;rw[if_neg (by omega)]
  ·omega
def ap2:List (List aM):=[[[124]],[[38]],[[60],[60,61],[61,61],[33,61]],[[43],[45]],[[42],[47],[37]]]
def gn (l:Nat):List aM:=ap2.getD l []
def qY (s:aM):Int:=match qM s 0 with
 |some b=>b.2.1
 |none=>0
theorem JX:∀l,l<5->∀s∈gn l,s≠[]∧qM s 0=some (s,qY s,(l:Int)+1):=by decide
theorem S6:∀b∈binds,b.1∈gn (b.2.2-1).toNat∧¬b.2.1=0:=by decide
theorem ap3 {l:aM} (h:∀b∈binds,¬l=b.1):qM l 0=Option.none:=List.find?_eq_none.2 fun b I=>by
 have J:=h b I;have an:=(S6 b I).2;simp only[h8,beq_iff_eq,not_or];exact⟨fun e=>J e.symm,an⟩
theorem S7 {l:Nat} (aO:l<5) {s:aM} (bD:s∈gn l) {q r:List cJ} (h:eo s q=some r):∃t,q=t::r∧gX t=some (qY s,(l:Int)+1):=by
 cases q with
 |nil=>cases h
 |cons t q=>
  simp only[eo] at h;split at h
  ·rename_i aA;obtain rfl:=bm h;refine⟨t,rfl,?_⟩;unfold gX;rw[if_pos aA.1,aA.2,(JX l aO s bD).2];rfl
  ·cases h
theorem ap4 {l:Nat} (aO:l<5) {q:List cJ} (h:vq ((l:Int)+2) q) (cB:∀s∈gn l,eo s q=none):vq ((l:Int)+1) q:=by
 cases q with
 |nil=>trivial
 |cons t q=>
  intro b I;have an:=h b I;have hm:=JW I;rcases Int.lt_or_le b.2 ((l:Int)+1) with aI|aI
  ·exact aI
  ·exfalso;have cc:b.2=(l:Int)+1:=by omega
   unfold gX at I;rw[if_pos hm.1] at I;obtain⟨c,aH,rfl⟩:=hI.1 I;have im:=Ad aH;have hp:=List.find?_some aH;obtain⟨b0,bZ⟩:=S6 c im
   have e:c.1=t.t:=by
    simp only[h8,beq_iff_eq] at hp;exact hp.resolve_right bZ
   rw[show(c.2.2-1).toNat=l from by omega,e] at b0;have:=cB _ b0;simp[eo,hm.1] at this
end aS
namespace Go.Proofs.YtkpjmlnhhggenaaGreatDoor
open Go.Proofs.Tryz Go Go.RowKit Go.cK
def ap5 (m:Nat) (gI:Bool) (a:Option Addr) (c:Nat) (ts:List ax.cJ) (s:ax.aM) (e:Ending) (w':World):Prop:=∃bB bG r b,e= .returned (.bool b)∧w'.heap[m]? =some (.cells #[.slice bB r.length bG,.bool gI] 160)∧jj a c ts bB bG r∧
 ((b=true∧aS.eo s ts=some r)∨(b=false∧aS.eo s ts=none∧r=ts∧bB=a∧bG=c))
theorem ap6:hr prog 5=some false:=by kernel_rfl
theorem S8:hr prog 9=some false:=by kernel_rfl
theorem xW (m:Nat) (gI:Bool) (a:Option Addr) (c:Nat) (ts:List ax.cJ) (s:ByteArray) (W:al) (hm:W.w.heap[m]? =some (.cells #[.slice a ts.length c,.bool gI] 160)) (bf:¬W.aV m) (cC:ts≠[]->p1 W a c ts):
  bK prog 160 #[.pointer (some ⟨m,0,none⟩),.string s] W (ap5 m gI a c ts s.data.toList):=by
 refine am0 ts.length c gI s a m W _ hm bf ?_;cases ts with
 |nil=>
  refine a6 rfl (a6 rfl (a6 rfl (aK (fun c0=>?_) fun _=>aP fun I _ _=>?_)))
  ·cases c0
  ·exact⟨a,c,[],false,rfl,I _ (bd.2 rfl),jj.refl _ _ _,.inr ⟨rfl,rfl,rfl,rfl,rfl⟩⟩
 |cons t r=>
  have cC:=cC (by simp);have j:(t::r)[0]? =some t:=rfl;have c1:=b_.dL cC (by simp);refine a6 ?_ (a6 ?_ (a6 ?_ (aK (fun _=>cI ⟨t.k,fun W' x=>?_,?_⟩) fun c0=>?_)))
  ·simp only[U];rw[c1];simp
  ·simp[U,er]
  ·simp only[U];rw[dW (by simp only[e5];omega)];simp
  ·exact ed (P:=prog) rE cC ap6 (k:=0) j (by decide) (u:=.int .u8 t.k) rfl x
  ·simp only[aU];refine aK (fun aJ=>cI ⟨⟨t.t.toArray⟩,fun W' x=>?_,?_⟩) fun aJ=>aP fun I _ _=>?_
   ·exact ed (P:=prog) rE cC S8 (k:=1) j (by decide) (u:=.string ⟨t.t.toArray⟩) rfl x
   ·simp only[aU];have aA:t.k=4:=by simpa[U] using aJ
    refine aK (fun c2=>?_) fun c2=>aP fun I _ _=>?_
    ·have he:t.t=s.data.toList:=by simpa[U] using c2
     refine a6 ?_ (tt (bS fun _ _=>aP fun I _ _=>?_))
     ·simp only[U];exact c_ (by simp only[e5];omega)
     ·refine⟨jw a 1 c 2,c-1,r,true,rfl,?_,Br a c t r,.inl ⟨rfl,by simp[aS.eo,he,aA]⟩⟩;have:=I _ (bd.2 rfl);simpa[U,b4.at] using this
    ·have iA:¬t.t=s.data.toList:=by simpa[U] using c2
     exact⟨a,c,t::r,false,rfl,I _ (bd.2 rfl),jj.refl _ _ _,.inr ⟨rfl,by simp[aS.eo,iA],rfl,rfl,rfl⟩⟩
   ·have aA:¬t.k=4:=by simpa[U] using aJ
    exact⟨a,c,t::r,false,rfl,I _ (bd.2 rfl),jj.refl _ _ _,.inr ⟨rfl,by simp[aS.eo,aA],rfl,rfl,rfl⟩⟩
  ·simp only[U,c7,e5] at c0;omega
theorem ap7 (t:ByteArray) (h:ax.lf t.data.toList=true) (W:al) (bb:t.size<=1000000):da prog 178 #[.string t] W (.int .i64 (aS.pk t.data.toList)):=by
 obtain⟨J,an,aI⟩:=aS.ap1 h;have bD:=kH t;refine ani t W.all _ ?_;refine dJ (fun aj vs ls _=>∃i n:Nat,vs=[.int .i64 (n:Int),.int .i64 (i:Int)]∧ls=[]∧i<=t.size∧aj=t.size-i∧ax.val n (t.data.toList.drop i)=ax.val 0 t.data.toList) t.size ⟨0,0,rfl,rfl,dr _,rfl,rfl⟩ ?_;rintro aj vs ls W' x ⟨i,n,rfl,rfl,a8,rfl,aB⟩;refine⟨(n:Int),(i:Int),rfl,rfl,fun _=>aK (fun c=>?_) fun c=>aP fun _ _ _=>⟨_,rfl,?_⟩⟩
 ·simp only[U,cX] at c;have aO:i<t.data.toList.length:=by omega
  have iX:=qK t.data.toList i aO;have im:aR t.data.toList i 0∈t.data.toList:=vC (i:=i) (by rw[iX];exact c6 ..);have aH:=ax.vo.1 (aI _ im);rw[iX,ax.xP] at aB;generalize pd:aR t.data.toList i 0=cD at*;have I:=ax.Cj (t.data.toList.drop (i+1)) (n*10+ax.jU cD);have hp:0<10^(t.data.toList.drop (i+1)).length:=Nat.pow_pos (by decide);have hle:n*10+ax.jU cD<=ax.val 0 t.data.toList:=by rw[<-aB];exact iz (Nat.le_mul_of_pos_right _ hp) I
  refine a6 ?_ (b1 ⟨t.size-(i+1),by omega,i+1,n*10+ax.jU cD,?_,rfl,by omega,rfl,aB⟩)
  ·simp only[U];exact c_ (by omega)
  ·simp only[U];rw[pd];have a_:ax.jU cD=cD.toNat-48:=rfl
   have a7:IntKind.u8.wrap ((cD.toNat:Int)-48)=(ax.jU cD:Nat):=by
    rw[a_];simp[IntKind.wrap,IntKind.bits,IntKind.signed];omega
   have De:ax.jU cD<=9:=by omega
   rw[a7,cE (x:=((ax.jU cD:Nat):Int)) (by omega) (by omega),cE (x:=(n:Int)*10) (by omega) (by omega),cE (by omega) (by omega),cE (by omega) (by omega)];congr 2
 ·simp only[U,c7] at c;rw[fV (by omega),ax.Fk] at aB;simp only[U];rw[J,aB]
theorem ap8 (s:ByteArray) (W:al):da prog 161 #[.string s] W (.int .u8 (aS.qY s.data.toList)):=by
 refine ane s W.all _ ?_
 repeat' (first|(with_reducible refine aK (fun _=>?_) (fun _=>?_))|(with_reducible refine bY fun _ _ _ _=>?_)|(with_reducible refine bS fun _ _=>?_)|(with_reducible refine cj fun _ _=>?_)|(with_reducible refine aP fun _ _ _=>?_))
 all_goals refine⟨_,rfl,?_⟩
 all_goals simp only[U] at*
 all_goals generalize s.data.toList=l at*
 all_goals simp only[beq_iff_eq,beq_eq_false_iff_ne,ne_eq] at*
 all_goals (try (subst_vars;rfl))
 unfold aS.qY
 rw[aS.ap3 fun b I=>by
  simp only[aS.binds,dh,eT,or_false] at I;rcases I with rfl|rfl|rfl|rfl|rfl|rfl|rfl|rfl|rfl|rfl|rfl<;>exact fun e=>absurd e.symm (by assumption)]
end Go.Proofs.YtkpjmlnhhggenaaGreatDoor
namespace Go.Proofs.YtkpjmlnhhggenaaGreatDoor
open Go.Proofs.Tryz Go Go.RowKit Go.cK
def Fu (ar m:Nat) (a:Option Addr) (c:Nat) (ts:List ax.cJ) (o:Option (aS.de×List ax.cJ)) (e:Ending) (w':World):Prop:=
 ∃(op k n:Int) (t aT:ByteArray) (dt:Option Addr) (len dp:Nat) (bB:Option Addr) (bG:Nat) (r:List ax.cJ) (b:Bool),
  e= .returned (.agg #[.int .u8 op,.int .u8 k,.int .i64 n,.string t,.string aT,.slice dt len dp])∧w'.heap[m]? =some (.cells #[.slice bB r.length bG,.bool b] 160)∧jj a c ts bB bG r∧
  ((o=none∧b=true)∨∃x,o=some (x,r)∧b=false∧dT w' (fun b=>ar<=b) x [.int .u8 op,.int .u8 k,.int .i64 n,.string t,.string aT,.slice dt len dp])
def Fv (n:Nat):Prop:=∀(m:Nat) (a:Option Addr) (c:Nat) (ts:List ax.cJ) (W:al),W.w.heap[m]? =some (.cells #[.slice a ts.length c,.bool false] 160)->¬W.aV m->(ts≠[]->p1 W a c ts)->mo ts->ts.length<=100->8*ts.length+1<=n->
 bK prog 158 #[.pointer (some ⟨m,0,none⟩)] W (Fu W.w.heap.size m a c ts (aS.One ts))
def Fw (n:Nat):Prop:=∀(l:Nat) (m:Nat) (a:Option Addr) (c:Nat) (ts:List ax.cJ) (W:al),l<=5->W.w.heap[m]? =some (.cells #[.slice a ts.length c,.bool false] 160)->¬W.aV m->(ts≠[]->p1 W a c ts)->mo ts->ts.length<=100->8*ts.length+(7-l)<=n->
 bK prog 126 #[.pointer (some ⟨m,0,none⟩),.int .i64 (l:Nat)] W (fun e w'=>∃o,aS.Rel ((l:Int)+1) o (aS.hX ((l:Int)+1) ts)∧Fu W.w.heap.size m a c ts o e w')
theorem ap9 {t:ax.cJ} (h:ax.en t.k t.t=true):t.k=1∨t.k=2∨t.k=3∨t.k=4:=by
 unfold ax.en at h
 by_cases J:t.k=1
 ·exact .inl J
 by_cases an:t.k=2
 ·exact .inr (.inl an)
 by_cases aI:t.k=3
 ·exact .inr (.inr (.inl aI))
 by_cases cc:t.k=4
 ·exact .inr (.inr (.inr cc))
 rw[if_neg J,if_neg an,if_neg aI,if_neg cc] at h;cases h
theorem ap_:hr prog 192=some true:=by kernel_rfl
theorem aqa:hK prog 192=some 2:=by kernel_rfl
theorem aqb (n:Nat) (cF:Fv n) (uH:Fw n):Fv (n+1):=by
 intro m a c ts W hm bf cC fj JY cB;refine anO ts.length c false a m W _ hm bf ?_;cases ts with
 |nil=>
  refine bY fun m1 W1 _ bM=>qI rfl (bS fun _ _=>bS fun cn bH=>aP fun I _ _=>?_)
  exact⟨0,0,0,⟨#[]⟩,⟨#[]⟩,none,0,0,a,c,[],true,rfl,I _ (bd.2 rfl),jj.refl _ _ _,.inl ⟨aS.apQ,rfl⟩⟩
 |cons t r=>
 have cC:=cC (by simp);have eU:8*r.length+9<=n+1:=by simp only[e5] at cB;omega
 have oI:r.length<=100:=by simp only[e5] at JY;omega
 have iS:=aS.apR t r;refine bY fun m1 W1 _ bM=>tr (by simp[U];omega) (jA fun I _=>bK.mono (xW m false a c (t::r) ⟨#[45]⟩ (W1.fz [m]) (I _ (bd.2 rfl)) (jO W1 m) (fun _=>cC.ext (iv bM bf))) fun e w' aA ⟨bn,aJ,gk,fk,he,aY,ni,n0⟩=>?_)
 subst he;refine⟨gk.length,aJ,fk,false,bn,rfl,fun b I=>by obtain rfl:=bd.1 I;exact aY,fun cn bh dG bz=>?_⟩;have bH:=aD bM dG;simp only[aU];refine aK (fun wT=>?_) fun wT=>?_
 ·
  have aH:aS.eo [45] (t::r)=some gk:=by
   rcases n0 with⟨_,h⟩|⟨h,_⟩
   ·exact h
   ·rw[show fk=true from wT] at h;cases h
  obtain⟨cc,bb,rfl⟩:=y8 aH;have b8:aS.One (t::gk)=(aS.One gk).map fun p=>(aS.kh 3 p.1,p.2):=by rw[iS,if_pos cc,if_pos bb]
  refine jA fun I _=>bK.mono (cF m bn aJ gk (cn.fz [m]) (I _ (bd.2 rfl)) (jO cn m) (fun _=>(ni W cC).ext (iv bH bf)) fj.tail oI (by omega)) fun e w' aA ⟨op,k,dd,cR,aT,dt,len,dp,bB,bG,q,gI,he,aY,bD,bc⟩=>?_
  subst he;refine⟨op,k,dd,len,dp,q.length,bG,gI,cR,aT,dt,bB,rfl,fun b I=>by obtain rfl:=bd.1 I;exact aY,fun cq c8 eK bJ=>?_⟩;have bo:=aD bH eK;simp only[aU];refine bY fun m2 dH jK cd=>bS fun dI cA=>aP fun I _ _=>?_
  have J:=I _ (c6 ..);have an:=I _ (dq _ (c6 ..));refine⟨3,0,0,⟨#[]⟩,⟨#[]⟩,some ⟨m2,0,none⟩,1,1,bB,bG,q,gI,rfl,an,ni.trans bD,?_⟩;rcases bc with⟨bc,hA⟩|⟨x,bc,hA,j⟩
  ·exact .inl ⟨by rw[b8,bc];rfl,hA⟩
  ·have hk:=dT.h3 j c8 bJ (by exact bH.size);exact .inr ⟨aS.kh 3 x,by rw[b8,bc];rfl,hA,dT.eB J jK ((hk.ext cd).ext cA).new 3⟩
 have wU:aS.eo [45] (t::r)=none∧gk=t::r∧bn=a∧aJ=c:=by
  rcases n0 with⟨h,_⟩|⟨_,h⟩
  ·rw[show fk=false from wT] at h;cases h
  ·exact h
 obtain⟨wU,rfl,rfl,rfl⟩:=wU;refine jA fun I _=>bK.mono (xW m false bn aJ (t::r) ⟨#[33]⟩ (cn.fz [m]) (I _ (bd.2 rfl)) (jO cn m) (fun _=>cC.ext (iv bH bf))) fun e w' aA ⟨a2,c2,j6,kx,he,aY,mj,sf⟩=>?_
 subst he;refine⟨j6.length,c2,kx,false,a2,rfl,fun b I=>by obtain rfl:=bd.1 I;exact aY,fun cq c8 eK bJ=>?_⟩;have bo:=aD bH eK;simp only[aU];refine aK (fun wV=>?_) fun wV=>?_
 ·
  have aH:aS.eo [33] (t::r)=some j6:=by
   rcases sf with⟨_,h⟩|⟨h,_⟩
   ·exact h
   ·rw[show kx=true from wV] at h;cases h
  obtain⟨cc,bb,rfl⟩:=y8 aH;have b8:aS.One (t::j6)=(aS.One j6).map fun p=>(aS.kh 4 p.1,p.2):=by rw[iS,if_pos cc,if_neg (by rw[bb];decide),if_pos bb]
  refine jA fun I _=>bK.mono (cF m a2 c2 j6 (cq.fz [m]) (I _ (bd.2 rfl)) (jO cq m) (fun _=>(mj W cC).ext (iv bo bf)) fj.tail oI (by omega)) fun e w' aA ⟨op,k,dd,cR,aT,dt,len,dp,bB,bG,q,gI,he,aY,bD,bc⟩=>?_
  subst he;refine⟨op,k,dd,len,dp,q.length,bG,gI,cR,aT,dt,bB,rfl,fun b I=>by obtain rfl:=bd.1 I;exact aY,fun dH gj dO cH=>?_⟩;have cd:=aD bo dO;simp only[aU];refine bY fun m2 dI jK cA=>bS fun cV bU=>aP fun I _ _=>?_
  have J:=I _ (c6 ..);have an:=I _ (dq _ (c6 ..));refine⟨4,0,0,⟨#[]⟩,⟨#[]⟩,some ⟨m2,0,none⟩,1,1,bB,bG,q,gI,rfl,an,mj.trans bD,?_⟩;rcases bc with⟨bc,hA⟩|⟨x,bc,hA,j⟩
  ·exact .inl ⟨by rw[b8,bc];rfl,hA⟩
  ·have hk:=dT.h3 j gj cH (by exact bo.size);exact .inr ⟨aS.kh 4 x,by rw[b8,bc];rfl,hA,dT.eB J jK ((hk.ext cA).ext bU).new 4⟩
 have wW:aS.eo [33] (t::r)=none∧j6=t::r∧a2=bn∧c2=aJ:=by
  rcases sf with⟨h,_⟩|⟨_,h⟩
  ·rw[show kx=false from wV] at h;cases h
  ·exact h
 obtain⟨wW,rfl,rfl,rfl⟩:=wW
 have aqc:∀V,Ext cq V->_:=fun V fC=>tz (W:=W) cC ap_ aqa (i:=0) (vs:=[.int .u8 t.k,.string ⟨t.t.toArray⟩]) rfl (by decide) (fun aj cu=>by
  match aj,cu with
  |0,_=>rfl
  |1,_=>rfl) (aD bo fC)
 refine a6 ?_ (a6 rfl (a6 ?_ (cI ⟨t.k,⟨t.t.toArray⟩,fun V fC=>?_,?_⟩)))
 ·simp only[E.b,aR,aX.push];exact b_.dL cC (by simp)
 ·simp only[U];exact dW (by simp only[e5];omega)
 ·have:=aqc V fC;simp only[U] at this ⊢;exact this
 simp only[aU];refine bY fun m4 dH _ dO=>bS fun dI ej=>?_
 have cA:=aD bo (aD dO ej);have k9:=Br a2 c2 t r;have xX:(⟨t.t.toArray⟩:ByteArray).data.toList=t.t:=by simp
 refine aK (fun c3=>?_) fun c3=>aK (fun c4=>?_) fun c4=>?_
 ·
  have c3:t.k=2∧t.t=[108,101,110]:=by simpa[U] using c3
  have b8:aS.One (t::r)=(aS.eo [40] r).bind fun gk=>(aS.hX 1 gk).bind fun p=>(aS.eo [41] p.2).map fun q=>(aS.kh 16 p.1,q):=by
   rw[iS,if_neg (by omega),if_neg (by omega),if_neg (by omega),if_neg (by rw[c3.2];decide),if_neg (by rw[c3.2];decide),if_pos c3.2]
  refine a6 ?_ (tt (bS fun cV jk=>?_))
  ·simp only[U];exact c_ (by simp only[e5];omega)
  have bU:=aD cA jk;refine jA fun I _=>bK.mono (xW m false (jw a2 1 c2 2) (c2-1) r ⟨#[40]⟩ (cV.fz [m]) (by have:=I _ (bd.2 rfl);show cV.w.heap[m]? =_;simpa[U,b4.at] using this) (jO cV m) (fun _=>(k9 W cC).ext (iv bU bf))) fun e w' aA ⟨a3,tE,jP,jd,he,aY,kI,pn⟩=>?_
  subst he;refine⟨jP.length,tE,jd,false,a3,rfl,fun b I=>by obtain rfl:=bd.1 I;exact aY,fun dQ DK l1 e1=>?_⟩;have df:=aD bU l1;simp only[aU];refine aK (fun kq=>bS fun _ _=>bS fun dX jB=>aP fun I _ _=>?_) fun kq=>?_
  ·have kq:jd=false:=by simpa[U] using kq
   have gv:aS.eo [40] r=none:=by
    rcases pn with⟨h,_⟩|⟨_,h,_⟩
    ·rw[kq] at h;cases h
    ·exact h
   exact⟨0,0,0,⟨#[]⟩,⟨#[]⟩,none,0,0,a3,tE,jP,true,rfl,I _ (bd.2 rfl),k9.trans kI,.inl ⟨by rw[b8,gv];rfl,rfl⟩⟩
  have kq:jd=true:=by simpa[U] using kq
  have xY:aS.eo [40] r=some jP:=by
   rcases pn with⟨_,h⟩|⟨h,_⟩
   ·exact h
   ·rw[kq] at h;cases h
  have yL:=aS.rG xY;refine jA fun I _=>bK.mono (uH 0 m a3 tE jP (dQ.fz [m]) (by omega) (I _ (bd.2 rfl)) (jO dQ m) (fun _=>((k9.trans kI) W cC).ext (iv df bf)) (fj.tail.eP yL.2) (by omega) (by omega)) fun e w' aA ⟨o,hrel,op,k,dd,cR,aT,dt,len,dp,bB,bG,q,gI,he,aY,bD,bc⟩=>?_
  subst he;refine⟨op,k,dd,len,dp,q.length,bG,gI,cR,aT,dt,bB,rfl,fun b I=>by obtain rfl:=bd.1 I;exact aY,fun dX sl jB gG=>?_⟩;have dK:=aD df jB;have hrel:aS.Rel 1 o (aS.hX 1 jP):=hrel
  have xZ:aS.One (t::r)=o.bind fun p=>(aS.eo [41] p.2).map fun q=>(aS.kh 16 p.1,q):=by
   rw[b8,xY,lK];exact aS.S5 hrel fun e q=>(aS.kh 16 e,q)
  simp only[aU];have wY:=(((k9.trans kI).trans bD) W cC);refine bY fun m5 fm Ft kJ=>bS fun fU iY=>?_
  have fu:=aD dK (aD kJ iY);refine jA fun I _=>bK.mono (xW m gI bB bG q ⟨#[41]⟩ (fU.fz [m]) (I _ (bd.2 rfl)) (jO fU m) (fun _=>wY.ext (iv fu bf))) fun e w' aA ⟨a9,c9,tU,x0,he,JZ,x1,Cq⟩=>?_
  subst he;refine⟨tU.length,c9,x0,gI,a9,rfl,fun b I=>by obtain rfl:=bd.1 I;exact JZ,fun jQ Ej mq hG=>?_⟩;have ki:=aD fu mq;simp only[aU];refine aK (fun oU=>bS fun lX aqd=>bY fun m6 lY S9 vj=>bS fun kk Cb=>aP fun I _ _=>?_) fun oU=>bY fun m6 lY S9 vj=>bS fun kk Cb=>aP fun I _ _=>?_
  ·have oU:x0=false:=by simpa[U] using oU
   have gv:aS.eo [41] q=none:=by
    rcases Cq with⟨h,_⟩|⟨_,h,_⟩
    ·rw[oU] at h;cases h
    ·exact h
   refine⟨16,0,0,⟨#[]⟩,⟨#[]⟩,some ⟨m6,0,none⟩,1,1,a9,c9,tU,true,rfl,I _ (dq _ (c6 ..)),((k9.trans kI).trans bD).trans x1,.inl ⟨?_,rfl⟩⟩;rw[xZ];rcases bc with⟨bc,_⟩|⟨x,bc,_⟩
   ·rw[bc];rfl
   ·rw[bc,lK,gv];rfl
  ·have oU:x0=true:=by simpa[U] using oU
   have J0:aS.eo [41] q=some tU:=by
    rcases Cq with⟨_,h⟩|⟨h,_⟩
    ·exact h
    ·rw[oU] at h;cases h
   have J:=I _ (c6 ..);have an:=I _ (dq _ (c6 ..));refine⟨16,0,0,⟨#[]⟩,⟨#[]⟩,some ⟨m6,0,none⟩,1,1,a9,c9,tU,gI,rfl,an,((k9.trans kI).trans bD).trans x1,?_⟩;rcases bc with⟨bc,hA⟩|⟨x,bc,hA,j⟩
   ·exact .inl ⟨by rw[xZ,bc];rfl,hA⟩
   ·have hk:=dT.h3 j sl gG (by exact df.size);exact .inr ⟨aS.kh 16 x,by rw[xZ,bc,lK,J0];rfl,hA,dT.eB J S9 (hk.ext (aD kJ (aD iY (aD mq (aD vj Cb))))).new 16⟩
 ·
  have c4:t.k=4:=by simpa[U] using c4
  have aqe:=y9 wU c4;have aqf:=y9 wW c4
  have b8:aS.One (t::r)=if t.t=[40] then(aS.hX 1 r).bind fun p=>(aS.eo [41] p.2).map fun q=>(p.1,q) else none:=by
   rw[iS,if_pos c4,if_neg aqe,if_neg aqf]
  refine jA fun I _=>bK.mono (xW m false a2 c2 (t::r) ⟨#[40]⟩ (dI.fz [m]) (I _ (bd.2 rfl)) (jO dI m) (fun _=>cC.ext (iv cA bf))) fun e w' aA ⟨a3,tE,jP,jd,he,aY,kI,pn⟩=>?_
  subst he;refine⟨jP.length,tE,jd,false,a3,rfl,fun b I=>by obtain rfl:=bd.1 I;exact aY,fun dQ DK l1 e1=>?_⟩;have df:=aD cA l1;simp only[aU];refine aK (fun kq=>bS fun _ _=>bS fun dX jB=>aP fun I _ _=>?_) fun kq=>?_
  ·have kq:jd=false:=by simpa[U] using kq
   have gv:aS.eo [40] (t::r)=none:=by
    rcases pn with⟨h,_⟩|⟨_,h,_⟩
    ·rw[kq] at h;cases h
    ·exact h
   exact⟨0,0,0,⟨#[]⟩,⟨#[]⟩,none,0,0,a3,tE,jP,true,rfl,I _ (bd.2 rfl),kI,.inl ⟨by rw[b8,if_neg (y9 gv c4)],rfl⟩⟩
  have kq:jd=true:=by simpa[U] using kq
  have xY:aS.eo [40] (t::r)=some jP:=by
   rcases pn with⟨_,h⟩|⟨h,_⟩
   ·exact h
   ·rw[kq] at h;cases h
  obtain⟨_,bb,rfl⟩:=y8 xY;rw[if_pos bb] at b8;refine jA fun I _=>bK.mono (uH 0 m a3 tE jP (dQ.fz [m]) (by omega) (I _ (bd.2 rfl)) (jO dQ m) (fun _=>(kI W cC).ext (iv df bf)) fj.tail oI (by omega)) fun e w' aA ⟨o,hrel,op,k,dd,cR,aT,dt,len,dp,bB,bG,q,gI,he,aY,bD,bc⟩=>?_
  subst he;refine⟨op,k,dd,len,dp,q.length,bG,gI,cR,aT,dt,bB,rfl,fun b I=>by obtain rfl:=bd.1 I;exact aY,fun dX sl jB gG=>?_⟩;have dK:=aD df jB;have hrel:aS.Rel 1 o (aS.hX 1 jP):=hrel
  have xZ:aS.One (t::jP)=o.bind fun p=>(aS.eo [41] p.2).map fun q=>(p.1,q):=by
   rw[b8];exact aS.S5 hrel fun e q=>(e,q)
  simp only[aU];have wY:=((kI.trans bD) W cC);refine bY fun m5 fm Ft kJ=>bS fun fU iY=>?_
  have fu:=aD dK (aD kJ iY);refine jA fun I _=>bK.mono (xW m gI bB bG q ⟨#[41]⟩ (fU.fz [m]) (I _ (bd.2 rfl)) (jO fU m) (fun _=>wY.ext (iv fu bf))) fun e w' aA ⟨a9,c9,tU,x0,he,JZ,x1,Cq⟩=>?_
  subst he;refine⟨tU.length,c9,x0,gI,a9,rfl,fun b I=>by obtain rfl:=bd.1 I;exact JZ,fun jQ Ej mq hG=>?_⟩;simp only[aU];refine aK (fun oU=>bS fun lX aqd=>bS fun lY vj=>aP fun I _ _=>?_) fun oU=>bS fun lY vj=>aP fun I _ _=>?_
  ·have oU:x0=false:=by simpa[U] using oU
   have gv:aS.eo [41] q=none:=by
    rcases Cq with⟨h,_⟩|⟨_,h,_⟩
    ·rw[oU] at h;cases h
    ·exact h
   refine⟨op,k,dd,cR,aT,dt,len,dp,a9,c9,tU,true,rfl,I _ (c6 ..),(kI.trans bD).trans x1,.inl ⟨?_,rfl⟩⟩;rw[xZ];rcases bc with⟨bc,_⟩|⟨x,bc,_⟩
   ·rw[bc];rfl
   ·rw[bc,lK,gv];rfl
  ·have oU:x0=true:=by simpa[U] using oU
   have J0:aS.eo [41] q=some tU:=by
    rcases Cq with⟨_,h⟩|⟨h,_⟩
    ·exact h
    ·rw[oU] at h;cases h
   refine⟨op,k,dd,cR,aT,dt,len,dp,a9,c9,tU,gI,rfl,I _ (c6 ..),(kI.trans bD).trans x1,?_⟩;rcases bc with⟨bc,hA⟩|⟨x,bc,hA,j⟩
   ·exact .inl ⟨by rw[xZ,bc];rfl,hA⟩
   ·have hk:=dT.h3 j sl gG (by exact df.size);exact .inr ⟨x,by rw[xZ,bc,lK,J0];rfl,hA,(hk.ext (aD kJ (aD iY (aD mq vj)))).new⟩
 ·
  have c3:¬(t.k=2∧t.t=[108,101,110]):=by
   intro h;simp[U,h.1,h.2] at c3
  have c4:¬t.k=4:=by simpa[U] using c4
  have J1:=fj t (c6 ..);rw[if_neg c4] at iS;refine a6 ?_ (tt (bS fun cV jk=>?_))
  ·simp only[U];exact c_ (by simp only[e5];omega)
  have gy:∀(op k dd:Int) (cR aT:ax.aM) (V:al),V.w.heap[m]? =some (.cells #[.slice (jw a2 1 c2 2) r.length (c2-1),.bool false] 160)->aS.One (t::r)=some (.mk op k dd cR aT [],r)->Fu W.w.heap.size m a2 c2 (t::r) (aS.One (t::r)) (.returned (.agg #[.int .u8 op,.int .u8 k,.int .i64 dd,.string ⟨cR.toArray⟩,.string ⟨aT.toArray⟩,.slice none 0 0])) V.w:=fun op k dd cR aT V aY he=>
   ⟨op,k,dd,⟨cR.toArray⟩,⟨aT.toArray⟩,none,0,0,jw a2 1 c2 2,c2-1,r,false,rfl,aY,k9,.inr ⟨_,he,rfl,dT.lW _ _ op k dd cR aT⟩⟩
  have oD:∀{V:al} {ρ:aX} {b:b4},b.at ρ V.w->b.at ρ V.w:=fun h=>h
  refine aK (fun c5=>?_) fun c5=>aK (fun bw=>bS fun dQ l1=>aP fun I _ _=>?_) fun bw=>aK (fun cv=>aK (fun cZ=>cj fun dQ l1=>bS fun dX jB=>aP fun I _ _=>?_) fun cZ=>cj fun dQ l1=>bS fun dX jB=>aP fun I _ _=>?_) fun cv=>bS fun dQ l1=>aP fun I _ _=>?_
  ·have c5:t.k=1:=by simpa[U] using c5
   have Cr:ax.lf t.t=true:=by have:=J1.1;unfold ax.en at this;rw[if_pos c5] at this;exact this
   have bg:=ap7 ⟨t.t.toArray⟩ (by rw[xX];exact Cr) cV (by rw[<-kH,xX];have:=J1.2;omega);rw[xX] at bg;refine b5 (fun _ _=>bg) ⟨aS.pk t.t,rfl,fun dQ l1=>cj fun dX jB=>bS fun fm kJ=>aP fun I _ _=>?_⟩;refine gy 1 1 (aS.pk t.t) [] [] fm ?_ (by rw[iS,if_pos c5];rfl);have:=I _ (bd.2 rfl);simpa[U,b4.at] using this
  ·have c5:¬t.k=1:=by simpa[U] using c5
   have bw:t.k=3:=by simpa[U] using bw
   refine gy 1 3 0 t.t [] dQ ?_ (by rw[iS,if_neg c5,if_pos bw];rfl);have:=I _ (bd.2 rfl);simpa[U,b4.at] using this
  ·have c5:¬t.k=1:=by simpa[U] using c5
   have bw:¬t.k=3:=by simpa[U] using bw
   have cZ:t.t=[121,101,115]:=by simpa[U] using cZ
   refine gy 1 2 1 [] [] dX ?_ (by rw[iS,if_neg c5,if_neg bw,if_pos cZ];rfl);have:=I _ (bd.2 rfl);simpa[U,b4.at] using this
  ·have c5:¬t.k=1:=by simpa[U] using c5
   have bw:¬t.k=3:=by simpa[U] using bw
   have cZ:¬t.t=[121,101,115]:=by simpa[U] using cZ
   have cv:t.t=[110,111]:=by
    have:t.t=[121,101,115]∨t.t=[110,111]:=by simpa[U] using cv
    exact this.resolve_left cZ
   refine gy 1 2 0 [] [] dX ?_ (by rw[iS,if_neg c5,if_neg bw,if_neg cZ,if_pos cv];rfl);have:=I _ (bd.2 rfl);simpa[U,b4.at] using this
  ·have c5:¬t.k=1:=by simpa[U] using c5
   have bw:¬t.k=3:=by simpa[U] using bw
   have cv:¬t.t=[121,101,115]∧¬t.t=[110,111]:=by simpa[U] using cv
   have aA:t.k=2:=by rcases ap9 J1.1 with h|h|h|h<;>omega
   refine gy 2 0 0 [] t.t dQ ?_ (by rw[iS,if_neg c5,if_neg bw,if_neg cv.1,if_neg cv.2,if_neg fun e=>c3 ⟨aA,e⟩];rfl);have:=I _ (bd.2 rfl);simpa[U,b4.at] using this
end Go.Proofs.YtkpjmlnhhggenaaGreatDoor
namespace Go.Proofs.YtkpjmlnhhggenaaGreatDoor
open Go.Proofs.Tryz Go Go.RowKit Go.cK
def x2 (p:Nat->Option Addr):List Value:=[.slice (p 0) 1 1,.slice (p 1) 1 1,.slice (p 2) 4 4,.slice (p 3) 2 2,.slice (p 4) 3 3]
def vr (s:ax.aM):List Value:=[.string ⟨s.toArray⟩]
def S_ (a b c d e:Option Addr):Nat->Option Addr
 |0=>a
 |1=>b
 |2=>c
 |3=>d
 |_=>e
theorem aqg (W:al):gR prog 159 #[] W.all fun v w'=>∃(a:Option Addr) (p:Nat->Option Addr),v= .slice a 5 5∧eD w' (fun b=>W.w.heap.size<=b) a 5 5 1 (x2 p)∧
  ∀l,l<5->eD w' (fun b=>W.w.heap.size<=b) (p l) (aS.gn l).length (aS.gn l).length 1 ((aS.gn l).flatMap vr):=by
 refine am2 W.all _ ?_;refine bY fun m0 W1 bk _=>bY fun m1 cn J _=>bY fun m2 cq an _=>bY fun m3 dH aI _=>bY fun m4 dI cc _=>bY fun m5 cV bu _=>aP fun I _ _=>?_
 have xL:cV.w.heap[m5]? =some (.cells (x2 (S_ (some ⟨m0,0,none⟩) (some ⟨m1,0,none⟩) (some ⟨m2,0,none⟩) (some ⟨m3,0,none⟩) (some ⟨m4,0,none⟩))).toArray 23):=I _ (c6 ..);have vk:cV.w.heap[m4]? =some (.cells ((aS.gn 4).flatMap vr).toArray 9):=I _ (dq _ (c6 ..));have jd:cV.w.heap[m3]? =some (.cells ((aS.gn 3).flatMap vr).toArray 9):=I _ (dq _ (dq _ (c6 ..)));have kx:cV.w.heap[m2]? =some (.cells ((aS.gn 2).flatMap vr).toArray 9):=I _ (dq _ (dq _ (dq _ (c6 ..))));have fk:cV.w.heap[m1]? =some (.cells ((aS.gn 1).flatMap vr).toArray 9):=I _ (dq _ (dq _ (dq _ (dq _ (c6 ..)))));have cm:cV.w.heap[m0]? =some (.cells ((aS.gn 0).flatMap vr).toArray 9):=I _ (dq _ (dq _ (dq _ (dq _ (dq _ (c6 ..))))));refine⟨_,rfl,some ⟨m5,0,none⟩,(S_ (some ⟨m0,0,none⟩) (some ⟨m1,0,none⟩) (some ⟨m2,0,none⟩) (some ⟨m3,0,none⟩) (some ⟨m4,0,none⟩)),rfl,uX xL bu rfl,fun l aO=>?_⟩
 match l,aO with
 |0,_=>exact uX cm bk rfl
 |1,_=>exact uX fk J rfl
 |2,_=>exact uX kx an rfl
 |3,_=>exact uX jd aI rfl
 |4,_=>exact uX vk cc rfl
theorem aqh (r:List ax.cJ):aS.vq 6 r:=by
 cases r with
 |nil=>trivial
 |cons t s=>exact fun b I=>by have:=aS.JW I;omega
theorem aqi (ts:List ax.cJ):aS.Rel 6 (aS.One ts) (aS.hX 6 ts):=by
 rw[aS.ap0 ts fun _ _=>trivial];cases aS.One ts with
 |none=>exact .inl rfl
 |some p=>exact⟨rfl,aqh _⟩
def Ta (ar:Nat) (M:Int) (ts:List ax.cJ) (V:al) (n9:Nat) (q:List ax.cJ) (b:Bool) (vs:List Value):Prop:=
 (b=true∧aS.Rel M none (aS.hX M ts))∨(b=false∧∃x lZ,qN V ar x vs∧aS.vq (M+1) q∧(n9=0->M<=lZ)∧(0<n9->lZ=if M=3 then 2 else M)∧aS.hX M ts=aS.Loop M lZ x q∧mo q∧n9+q.length<=ts.length)
theorem aqj (p:Nat->Option Addr):∀l,l<5->(x2 p)[l]? =some (.slice (p l) (aS.gn l).length (aS.gn l).length)
 |0,_=>rfl
 |1,_=>rfl
 |2,_=>rfl
 |3,_=>rfl
 |4,_=>rfl
 |n+5,h=>by omega
theorem aqk:hr prog 23=some false:=by kernel_rfl
set_option maxHeartbeats 1000000 in
theorem aql (n:Nat) (aqm:Fv n) (cF:Fw n):Fw (n+1):=by
 intro l m a c ts W aO hm bf cC fj JY cB;refine an9 (l:Int) ts.length c false a m W _ hm bf ?_;refine bY fun m1 W1 _ bM=>?_
 by_cases aqn:l=5
 ·subst aqn;refine qI rfl (jA fun I _=>bK.mono (aqm m a c ts (W1.fz [m]) (I _ (bd.2 rfl)) (jO W1 m) (fun h=>(cC h).ext (iv bM bf)) fj JY (by omega)) fun e w' aA ⟨op,k,dd,cR,aT,dt,len,dp,bB,bG,q,gI,he,aY,bD,bc⟩=>?_);subst he;refine⟨op,k,dd,len,dp,q.length,bG,gI,cR,aT,dt,bB,rfl,fun b I=>by obtain rfl:=bd.1 I;exact aY,fun cn bh dG bz=>?_⟩;simp only[aU];refine bS fun cq eK=>aP fun I _ _=>⟨aS.One ts,aqi ts,op,k,dd,cR,aT,dt,len,dp,bB,bG,q,gI,rfl,I _ (bd.2 rfl),bD,?_⟩
  rcases bc with bc|⟨x,bc,hA,j⟩
  ·exact .inl bc
  ·exact .inr ⟨x,bc,hA,((dT.h3 j bh bz (by exact bM.size)).ext eK).new⟩
 have vt:l<5:=by omega
 have hw:IntKind.i64.wrap ((l:Int)+1)=((l+1:Nat):Int):=by rw[cE (by omega) (by omega)];rfl
 obtain⟨M,gK⟩:∃M:Int,M=(l:Int)+1:=⟨_,rfl⟩;have aqo:(((l+1:Nat):Int)+1)=M+1:=by omega
 have J2:1<=M∧M<=5:=by omega
 have kF:(aS.gn l).length<=4:=(show∀l,l<5->(aS.gn l).length<=4 by decide) l vt
 have Tb:∀(V:al) (bB:Option Addr) (bG:Nat) (q:List ax.cJ),Ext W V->V.w.heap[m]? =some (.cells #[.slice bB q.length bG,.bool false] 160)->jj a c ts bB bG q->mo q->q.length<=ts.length->
   bK prog 126 #[.pointer (some ⟨m,0,none⟩),.int .i64 (IntKind.i64.wrap ((l:Int)+1))] (V.fz [m]) (fun e w'=>∃o,aS.Rel (M+1) o (aS.hX (M+1) q)∧Fu V.w.heap.size m bB bG q o e w'):=fun V bB bG q fC aY bD bg zM=>by
  rw[hw,<-aqo];exact cF (l+1) m bB bG q (V.fz [m]) (by omega) aY (jO V m) (fun h=>(bD W (cC fun e=>h (sW.1 (by rw[e] at zM;simpa using zM)))).ext (iv fC bf)) bg (by omega) (by omega)
 rw[show((l:Int)+1)=M from gK.symm];refine tr (by simp only[U,kr,c7];omega) (jA fun I _=>bK.mono (Tb W1 a c ts bM (I _ (bd.2 rfl)) (jj.refl _ _ _) fj (e9 _)) fun e w' aA ⟨o,hrel,op,k,dd,cR,aT,dt,len,dp,bB,bG,q,gI,he,aY,bD,bc⟩=>?_);subst he;refine⟨op,k,dd,len,dp,q.length,bG,gI,cR,aT,dt,bB,rfl,fun b I=>by obtain rfl:=bd.1 I;exact aY,fun cn bh dG bz=>?_⟩;have bH:=aD bM dG;simp only[aU];refine bY fun m2 cq jK eK=>bS fun dH dO=>?_
 have cd:=aD (aD bH eK) dO;have J3:=aS.apT J2.1 J2.2 hrel
 have first:Ta W.w.heap.size M ts dH 0 q gI [.int .u8 op,.int .u8 k,.int .i64 dd,.string cR,.string aT,.slice dt len dp]:=by
  rcases bc with⟨bc,hA⟩|⟨x,bc,hA,j⟩
  ·subst bc;exact .inl ⟨hA,J3⟩
  ·subst bc;obtain⟨J,lZ,an,aI⟩:=J3;have Tc:=aS.JV (m:=M+1) (ts:=ts) (e:=x) (r:=q) hrel.1;have hk:=dT.h3 j bh bz (by exact bM.size);exact .inr ⟨hA,x,lZ,(hk.ext eK).ext dO,J,fun _=>an,fun h=>absurd h (by decide),aI,fj.eP Tc.2,by have:=Tc.1;omega⟩
 refine dJ (fun aj vs ls V=>∃(n9:Nat) (op k dd:Int) (t aT:ByteArray) (dt:Option Addr) (len dp:Nat) (q:List ax.cJ) (l0:Option Addr) (jN:Nat) (gI:Bool),vs=[.int .i64 (n9:Nat),.slice l0 q.length jN,.bool gI,.int .u8 op,.int .u8 k,.int .i64 dd,.string t,.string aT,.slice dt len dp]∧ls=[]∧aj=(if gI=true then 0 else q.length+1)∧
  jj a c ts l0 jN q∧Ta W.w.heap.size M ts V n9 q gI [.int .u8 op,.int .u8 k,.int .i64 dd,.string t,.string aT,.slice dt len dp]) (if gI=true then 0 else q.length+1) ⟨0,op,k,dd,cR,aT,dt,len,dp,q,bB,bG,gI,rfl,rfl,rfl,bD,first⟩ ?_
 clear first J3 bc bD aY hrel
 rintro aj vs ls V fC ⟨n9,op,k,dd,t,aT,dt,len,dp,q,l0,jN,gI,rfl,rfl,rfl,bD,hinv⟩;have Ee:=aD cd fC;refine⟨(n9:Int),op,k,dd,q.length,jN,len,dp,gI,t,aT,l0,dt,rfl,rfl,fun _=>?_⟩;simp only[aU];refine aK (fun c0=>?_) fun c0=>?_
 rotate_left
 ·
  have hA:gI=true:=by
   rcases hinv with⟨h,_⟩|⟨h,x,lZ,_,_,_,_,_,_,an⟩
   ·exact h
   ·subst h;simp only[U,qi,Bool.and_true,c7] at c0;omega
  refine bS fun jR iH=>aP fun I _ _=>⟨none,?_,op,k,dd,t,aT,dt,len,dp,l0,jN,q,gI,rfl,I _ (bd.2 rfl),bD,.inl ⟨rfl,hA⟩⟩
  rcases hinv with⟨_,h⟩|⟨h,_⟩
  ·exact h
  ·rw[hA] at h;cases h
 have hA:gI=false:=by
  simp only[U,bT,hq] at c0;exact c0.2
 subst hA;rcases hinv with⟨h,_⟩|⟨_,x,lZ,hk,jH,yw,mg,Fx,bg,zM⟩
 ·cases h
 refine iV (fun _ _=>aqg V) fun v w' _ ⟨J4,p,aB,ee,b8⟩=>⟨5,5,J4,aB,fun jR a7 iH aQ=>?_⟩
 have Td:b_ jR J4 5 5 1 (x2 p):=eD.h3 ee a7 aQ;have Te:b_ jR (p l) (aS.gn l).length (aS.gn l).length 1 ((aS.gn l).flatMap vr):=eD.h3 (b8 l vt) a7 aQ;simp only[aU];refine a6 ?_ (a6 ?_ (a6 ?_ (cI ⟨(aS.gn l).length,(aS.gn l).length,p l,fun dE hd=>?_,?_⟩)))
 ·simp only[E.b,aR,aX.push];exact b_.dL Td (by omega)
 ·simp only[U];exact c_ (by omega)
 ·simp only[U];exact dW (by omega)
 ·have aqp:b_ jR J4 5 5 1 ((x2 p).flatMap fun v=>[v]):=by
   have e:(x2 p).flatMap (fun v=>[v])=x2 p:=rfl;rw[e];exact Td
  have j:=aqj p l vt;have:=ed (P:=prog) (f:=fun v:Value=>[v]) (fun _=>rfl) aqp aqk (k:=0) j (by decide) (u:=.slice (p l) (aS.gn l).length (aS.gn l).length) rfl hd;simp only[U] at this ⊢;exact this
 simp only[aU]
 refine dJ (fun aj vs ls _=>∃(i:Nat) (mA:ax.aM) (k8:List ax.cJ) (vu:Option Addr) (vv:Nat),vs=[.string ⟨mA.toArray⟩,.int .i64 (i:Nat),.slice vu k8.length vv,.bool false]∧ls=[]∧aj=(aS.gn l).length-i∧i<=(aS.gn l).length∧jj a c ts vu vv k8∧
  ((mA=[]∧k8=q∧∀s∈(aS.gn l).take i,aS.eo s q=none)∨(mA∈aS.gn l∧aS.eo mA q=some k8))) (aS.gn l).length ⟨0,[],q,l0,jN,rfl,rfl,rfl,dr _,bD,.inl ⟨rfl,rfl,fun s bD=>by simp at bD⟩⟩ ?_
 rintro aj vs ls oK Fy ⟨i,mA,k8,vu,vv,rfl,rfl,rfl,a8,kY,uV⟩;have J5:=aD Ee (aD iH Fy);refine⟨(i:Int),k8.length,vv,false,⟨mA.toArray⟩,vu,rfl,rfl,fun _=>?_⟩;simp only[aU];have xX:(⟨mA.toArray⟩:ByteArray).data.toList=mA:=by simp
 refine aK (fun aJ=>?_) fun aJ=>?_
 ·
  have aJ:i<(aS.gn l).length∧mA=[]:=by
   simp only[U,bT,cX,xX,beq_iff_eq] at aJ;exact⟨by omega,aJ.2⟩
  obtain⟨cp,rfl⟩:=aJ
  have aqq:k8=q∧∀s∈(aS.gn l).take i,aS.eo s q=none:=by
   rcases uV with⟨_,h⟩|⟨h,_⟩
   ·exact h
   ·exact absurd rfl (aS.JX l vt _ h).1
  obtain⟨rfl,gv⟩:=aqq;have zN:(aS.gn l)[i]? =some (aS.gn l)[i]:=dn cp;have im:(aS.gn l)[i]∈aS.gn l:=h9 cp;have aqr:(⟨(aS.gn l)[i].toArray⟩:ByteArray).data.toList=(aS.gn l)[i]:=by simp
  have tR:∀dE,Ext oK dE->_:=fun dE hd=>ed (P:=prog) (f:=vr) (fun _=>rfl) Te S8 (k:=0) zN (by decide) (u:=.string ⟨(aS.gn l)[i].toArray⟩) rfl (aD Fy hd)
  refine a6 ?_ (a6 ?_ (cI ⟨⟨(aS.gn l)[i].toArray⟩,fun dE hd=>?_,?_⟩))
  ·simp only[E.b,aR,aX.push];exact b_.dL Te (by omega)
  ·simp only[U];exact c_ (by omega)
  ·have:=tR dE hd;simp only[U] at this ⊢;exact this
  simp only[aU];refine jA fun I _=>bK.mono (xW m false vu vv k8 ⟨(aS.gn l)[i].toArray⟩ (oK.fz [m]) (I _ (bd.2 rfl)) (jO oK m) (fun h=>(kY W (cC fun e=>h (sW.1 (by rw[e] at zM;simp only[yg] at zM;omega)))).ext (iv J5 bf))) fun e w' aA ⟨a3,c3,jP,jd,he,aY,kI,pn⟩=>?_
  subst he;rw[aqr] at pn;refine⟨jP.length,c3,jd,false,a3,rfl,fun b I=>by obtain rfl:=bd.1 I;exact aY,fun sy c8 wZ bJ=>?_⟩;simp only[aU];refine aK (fun kq=>cI ⟨⟨(aS.gn l)[i].toArray⟩,fun dE hd=>?_,?_⟩) fun kq=>b1 ⟨(aS.gn l).length-(i+1),by omega,i+1,[],jP,a3,c3,?_,rfl,rfl,by omega,kY.trans kI,.inl ⟨rfl,?_,?_⟩⟩
  ·have:=tR dE (aD wZ hd);simp only[U] at this ⊢;exact this
  ·simp only[aU];have kq:jd=true:=kq;refine b1 ⟨(aS.gn l).length-(i+1),by omega,i+1,(aS.gn l)[i],jP,a3,c3,?_,rfl,rfl,by omega,kY.trans kI,.inr ⟨im,?_⟩⟩
   ·simp only[U];rw[cE (by omega) (by omega)];rfl
   ·rcases pn with⟨_,h⟩|⟨h,_⟩
    ·exact h
    ·rw[kq] at h;cases h
  ·simp only[U];rw[cE (by omega) (by omega)];rfl
  ·have kq:jd=false:=kq;rcases pn with⟨h,_⟩|⟨_,_,h,_⟩
   ·rw[kq] at h;cases h
   ·exact h
  ·have kq:jd=false:=kq;intro s bD;rw[List.take_add_one,zN] at bD;rcases mE.1 bD with h|h
   ·exact gv s h
   ·obtain rfl:s=(aS.gn l)[i]:=by simpa using h
    rcases pn with⟨h,_⟩|⟨_,h,_⟩
    ·rw[kq] at h;cases h
    ·exact h
 ·
  have aqs:mA=[]->i=(aS.gn l).length:=by
   rintro rfl;simp only[U,r1,c7] at aJ;rcases aJ with h|h
   ·omega
   ·cases h
  have ou:M=(l:Int)+1:=gK;refine aK (fun c2=>bS fun sy wZ=>bS fun rH J6=>aP fun I _ _=>?_) fun c2=>?_
  ·rcases uV with⟨rfl,rfl,gv⟩|⟨im,J7⟩
   ·rw[aqs rfl,List.take_length] at gv
    have Tf:aS.vq M k8:=by
     rw[ou];exact aS.ap4 vt (by rw[show(l:Int)+2=M+1 from by omega];exact jH) gv
    refine⟨some (x,k8),⟨by rw[Fx];exact aS.S3 Tf,Tf⟩,op,k,dd,t,aT,dt,len,dp,vu,vv,k8,false,rfl,I _ (bd.2 rfl),kY,.inr ⟨x,rfl,rfl,(hk.ext (aD iH (aD Fy (aD wZ J6)))).new⟩⟩
   ·obtain⟨t1,rfl,tJ⟩:=aS.S7 vt im J7;have iA:=(aS.JX l vt _ im).1
    have c2:l=2∧0<n9:=by
     simp only[U,xX,h8,bT,beq_iff_eq,cX] at c2;rcases c2 with h|h
     ·exact absurd h iA
     ·exact⟨by omega,by omega⟩
    have Tg:M=3:=by omega
    have tv:=mg c2.2;rw[if_pos Tg] at tv;refine⟨none,?_,op,k,dd,t,aT,dt,len,dp,vu,vv,k8,true,rfl,?_,kY,.inl ⟨rfl,rfl⟩⟩
    ·rw[Fx,Tg];exact aS.apU tJ (by show(l:Int)+1=3;omega) tv
    ·have:=I _ (bd.2 rfl);have e:(mA==[])=false:=by rw[beq_eq_false_iff_ne];exact iA
     simpa[U,b4.at,e,iA] using this
  ·rcases uV with⟨rfl,rfl,gv⟩|⟨im,J7⟩
   ·simp[U] at c2
   obtain⟨t1,rfl,tJ⟩:=aS.S7 vt im J7
   have c2:¬(l=2∧0<n9):=by
    rintro⟨J,an⟩;have a7:eg 0 (n9:Int)=true:=dW (by omega);simp[U,J,a7] at c2
   have tv:M<=lZ:=by
    rcases Nat.eq_zero_or_pos n9 with h|h
    ·exact yw h
    ·rw[mg h]
     by_cases aI:M=3
     ·exact absurd ⟨by omega,h⟩ c2
     ·rw[if_neg aI];omega
   have Th:((aS.qY mA,(l:Int)+1):Int×Int).2=M:=ou.symm;have gb:=aS.S4 (x:=x) (l:=lZ) (r:=k8) tJ Th tv;simp only[e5] at zM;rw[show((l:Int)+1)=M from ou.symm] at*;refine jA fun I _=>bK.mono (Tb oK vu vv k8 J5 (I _ (bd.2 rfl)) kY bg.tail (by omega)) fun e w' aA ⟨o,hrel,oL,dA,p2,cR,nk,oM,oN,oO,bB,bG,fF,aqt,he,aY,kI,bc⟩=>?_
   subst he;refine⟨oL,dA,p2,oN,oO,fF.length,bG,aqt,cR,nk,oM,bB,rfl,fun b I=>by obtain rfl:=bd.1 I;exact aY,fun sy c8 wZ bJ=>?_⟩;simp only[aU];refine bY fun m3 rH Ie J6=>bS fun po aqu=>?_
   refine lF ⟨aS.qY mA,fun dE _ _ _=>by have:=ap8 ⟨mA.toArray⟩ dE;rw[xX] at this;exact this,?_⟩;refine cj fun y_ l1=>bY fun m4 uZ uY jB=>cj fun Eh kJ=>bS fun Bv iY=>eC fun rI Ej mq Bw Bx=>b1 ?_
   have z3:=aD iH (aD Fy wZ);have Ti:=aD J6 (aD aqu (aD l1 (aD jB (aD kJ (aD iY mq)))))
   have aB:∀b:Bool,[Value.int .i64 (IntKind.i64.wrap ((n9:Int)+1)),.slice bB fF.length bG,.bool b,.int .u8 (aS.qY mA),.int .u8 0,.int .i64 0,.string ⟨#[]⟩,.string ⟨#[]⟩,.slice (some ⟨m4,0,none⟩) 2 2]=[.int .i64 ((n9+1:Nat):Int),.slice bB fF.length bG,.bool b,.int .u8 (aS.qY mA),.int .u8 0,.int .i64 0,.string ⟨#[]⟩,.string ⟨#[]⟩,.slice (some ⟨m4,0,none⟩) 2 2]:=fun b=>by
    rw[cE (by omega) (by omega)];rfl
   rcases bc with⟨bc,hA⟩|⟨y,bc,hA,bE⟩
   ·subst bc hA;refine⟨0,by simp,n9+1,aS.qY mA,0,0,⟨#[]⟩,⟨#[]⟩,some ⟨m4,0,none⟩,2,2,fF,bB,bG,true,aB true,rfl,rfl,kY.trans kI,.inl ⟨rfl,?_⟩⟩;rw[Fx];exact aS.apV J2.1 tJ Th tv hrel
   ·subst bc hA;have fr:=aS.JV (m:=M+1) (ts:=k8) (e:=y) (r:=fF) hrel.1;have Rd:=fr.1;have aqv:=dT.h3 bE c8 bJ (by exact J5.size);refine⟨fF.length+1,by simp only[e5];simp;omega,n9+1,aS.qY mA,0,0,⟨#[]⟩,⟨#[]⟩,some ⟨m4,0,none⟩,2,2,fF,bB,bG,false,aB false,rfl,by simp,kY.trans kI,.inr ⟨rfl,aS.qL (aS.qY mA) x y,if M=3 then 2 else M,?_,hrel.2,fun h=>absurd h (by omega),fun _=>rfl,?_,bg.tail.eP fr.2,by omega⟩⟩
    ·have za:rI.w.heap[m4]? =some (.cells ([.int .u8 op,.int .u8 k,.int .i64 dd,.string t,.string aT,.slice dt len dp]++[.int .u8 oL,.int .u8 dA,.int .i64 p2,.string cR,.string nk,.slice oM oN oO]:List Value).toArray 56):=Bx _ (c6 ..);exact dT.e2 za ⟨Bw _ (c6 ..) uY,uY⟩ (hk.ext (aD z3 Ti)) (aqv.ext Ti) (aS.qY mA)
    ·rw[Fx,gb,hrel.1];rfl
theorem aqw:∀n:Nat,Fv n∧Fw n:=by
 intro n;induction n with
 |zero=>exact⟨fun m a c ts W _ _ _ _ _ h=>by omega,fun l m a c ts W aO _ _ _ _ _ h=>by omega⟩
 |succ n cF=>exact⟨aqb n cF.1 cF.2,aql n cF.1 cF.2⟩
end Go.Proofs.YtkpjmlnhhggenaaGreatDoor
namespace Go.Proofs.YtkpjmlnhhggenaaGreatDoor
open Go.Proofs.Tryz Go Go.RowKit Go.cK
theorem aqx (n:Nat):∀(x:aS.de) (vs:List Value) (W:al),aS.gF x<=n->n<=1000000->aS.iZ x=true->iK W x vs->da prog 127 #[.agg vs.toArray] W (.int .i64 (aS.gF x:Nat)):=by
 induction n with
 |zero=>intro x vs W h;cases x;simp[aS.gF] at h
 |succ n cF=>
  intro x vs W a_ cB fL j;obtain⟨op,k,dd,t,aT,args⟩:=x;have j:=j.ext W.dw;simp only[iK,dT] at j;obtain⟨a,c,ls,rfl,c1,fe⟩:=j;simp only[aS.gF] at a_;simp only[aS.iZ,bT,decide_eq_true_eq] at fL;refine aoe op k dd args.length c ⟨t.toArray⟩ ⟨aT.toArray⟩ a W.all _ ?_;refine bY fun m W1 _ bM=>dJ (fun aj vs ls _=>∃i:Nat,vs=[.int .i64 (aS.kW (args.take i):Nat),.int .i64 (i:Nat)]∧ls=[]∧i<=args.length∧aj=args.length-i) args.length ⟨0,by simp[aS.kW,U],rfl,dr _,rfl⟩ ?_
  rintro aj vs fG cn bH ⟨i,rfl,rfl,a8,rfl⟩;have gM:=aD bM bH;refine⟨((aS.kW (args.take i):Nat):Int),(i:Int),rfl,rfl,fun _=>?_⟩;have hle:=aS.Oe args i;refine aK (fun aJ=>?_) fun aJ=>?_
  ·simp only[U,cX] at aJ;have cp:i<args.length:=by omega
   have j:args[i]? =some args[i]:=dn cp;obtain⟨us,hu,bP⟩:=tx fe j;obtain⟨oL,dA,p2,cR,nk,oM,oN,oO,rfl⟩:=hu.mL;have bD:=aS.Od (h9 cp);refine a6 ?_ (a6 ?_ (cI ⟨oL,dA,p2,oN,oO,cR,nk,oM,fun cq bo=>?_,?_⟩))
   ·simp only[E.b,aR,aX.push];exact b_.dL c1 (by omega)
   ·simp only[U];exact c_ (by omega)
   ·have:=tz (W:=W.all) c1 u1 tA rfl (by decide) bP (aD gM bo);simp only[U] at this ⊢;exact this
   ·simp only[aU];have qP:iK W.all args[i] _:=hu;have bg:∀V,Ext cn V->_:=fun V fC=>cF args[i] _ V (by omega) (by omega) (aS.u0 fL.2 (h9 cp)) (qP.ext (aD gM fC))
    refine b5 (fun _ _=>bg cn (Ext.refl _)) ⟨((aS.gF args[i]:Nat):Int),rfl,fun dI cA=>?_⟩;simp only[aU];refine b1 ⟨args.length-(i+1),by omega,i+1,?_,rfl,by omega,rfl⟩;simp only[U];have bb:args.take (i+1)=args.take i++[args[i]]:=by rw[List.take_add_one,j];rfl
    rw[bb,aS.Oc,cE (by omega) (by omega)];congr 2
    ·congr 1;omega
  ·simp only[U,c7] at aJ;obtain rfl:i=args.length:=by omega
   refine aP fun _ _ _=>⟨_,rfl,?_⟩
   simp only[U,List.take_length,aS.gF] at hle ⊢;rw[cE (by omega) (by omega)];rfl
theorem J8 (w:World) (eV:Nat->Prop):dT w eV aS.none_ [.int .u8 0,.int .u8 0,.int .i64 0,.string ⟨#[]⟩,.string ⟨#[]⟩,.slice none 0 0]:=dT.lW w eV 0 0 0 [] []
theorem aqy (t:ByteArray) (W:al) (bb:t.size<=1000000):gR prog 78 #[.string t] W.all fun v w'=>∃op k n mi aT dt len dp,v= .tuple #[.agg #[.int .u8 op,.int .u8 k,.int .i64 n,.string mi,.string aT,.slice dt len dp],.int .i64 (aS.fT t.data.toList).2]∧
  dT w' (fun b=>W.w.heap.size<=b) (aS.fT t.data.toList).1 [.int .u8 op,.int .u8 k,.int .i64 n,.string mi,.string aT,.slice dt len dp]:=by
 refine aom t W.all _ ?_;refine bY fun m W1 _ bM=>iV (fun _ _=>apN t W1) fun v w' _ ⟨a,c,aB,cC⟩=>⟨(ax.fl t.data.toList).2,(ax.fl t.data.toList).1.length,c,a,aB,fun cn bh dG bz=>?_⟩
 have bH:=aD bM dG;have sx:p1 cn a c (ax.fl t.data.toList).1:=eD.h3 cC bh bz;simp only[aU];refine aK (fun c0=>bS fun _ _=>aP fun _ _ _=>⟨_,rfl,0,0,0,⟨#[]⟩,⟨#[]⟩,none,0,0,?_,?_⟩) fun c0=>?_
 ·have c0:¬(ax.fl t.data.toList).2=0:=by simpa[U] using c0
  simp only[aS.fT,c0,if_false];rfl
 ·have c0:¬(ax.fl t.data.toList).2=0:=by simpa[U] using c0
  simp only[aS.fT,c0,if_false];exact J8 _ _
 ·have aqz:(ax.fl t.data.toList).2=0:=by simpa[U] using c0
  have eU:=Et t.data.toList;have Tj:=zb t.data.toList;generalize hz:(ax.fl t.data.toList).1=ts at*;refine bY fun ly cq GC bo=>?_
  refine jA fun I _=>?_
  have za:cq.w.heap[ly]? =some (.cells #[.slice a ts.length c,.bool false] 160):=I _ (bd.2 rfl)
  have Ec:ts≠[]->p1 (cq.fz [ly]) a c ts:=fun iA=>by
   have h:=sx.ext bo;obtain⟨J,an,aI⟩:=h;refine⟨J,an,aI.imp id ?_⟩;rintro⟨b,o,e,bf,zz,aH⟩;refine⟨b,o,e,⟨zz,fun hm=>?_⟩,zz,aH⟩;rw[bd] at hm;subst hm;cases ts with
   |nil=>exact iA rfl
   |cons t r=>
    have bk:=aH 0 (.int .u8 t.k) rfl;simp only[World.cell?,za] at bk
    match o,bk with
    |0,bk=>simp at bk
    |1,bk=>simp at bk
    |o+2,bk=>simp at bk
  refine bK.mono ((aqw (8*ts.length+7)).2 0 ly a c ts (cq.fz [ly]) (by omega) za (jO cq ly) Ec Tj eU (by omega)) fun e w' aA ⟨o,hrel,op,k,dd,cR,aT,dt,len,dp,bB,bG,q,gI,he,aY,bD,bc⟩=>?_
  subst he;refine⟨op,k,dd,len,dp,q.length,bG,gI,cR,aT,dt,bB,rfl,fun b I=>by obtain rfl:=bd.1 I;exact aY,fun dH gj dO cH=>?_⟩;have hrel:aS.Rel 1 o (aS.hX 1 ts):=hrel;have J9:=aS.apZ hrel
  have fy:aS.fT t.data.toList=match aS.whole ts with
    |none=>(aS.none_,4)
    |some e=>if 16<aS.gF e then(aS.none_,40) else(e,0):=by
   unfold aS.fT;rw[if_pos aqz,hz];cases aS.whole ts<;>rfl
  have cd:=aD bH (aD bo dO);simp only[aU];refine bY fun m2 dI _ cA=>bS fun cV bU=>aK (fun aJ=>bS fun _ _=>aP fun _ _ _=>⟨_,rfl,0,0,0,⟨#[]⟩,⟨#[]⟩,none,0,0,?_,?_⟩) fun aJ=>?_
  ·have aJ:gI=true∨0<q.length:=by
    simp only[U,h8,cX] at aJ;exact aJ.imp id (by omega)
   have gv:aS.whole ts=none:=by
    rw[J9];rcases bc with⟨rfl,_⟩|⟨x,rfl,hA,_⟩
    ·rfl
    ·cases q with
     |nil=>rw[hA] at aJ;simp at aJ
     |cons t r=>rfl
   rw[fy,gv];rfl
  ·have aJ:gI=true∨0<q.length:=by
    simp only[U,h8,cX] at aJ;exact aJ.imp id (by omega)
   have gv:aS.whole ts=none:=by
    rw[J9];rcases bc with⟨rfl,_⟩|⟨x,rfl,hA,_⟩
    ·rfl
    ·cases q with
     |nil=>rw[hA] at aJ;simp at aJ
     |cons t r=>rfl
   rw[fy,gv];exact J8 _ _
  have aJ:gI=false∧q=[]:=by
   simp only[U,k1,c7] at aJ;exact⟨aJ.1,sW.1 (by omega)⟩
  obtain⟨rfl,rfl⟩:=aJ;rcases bc with⟨_,h⟩|⟨x,rfl,_,j⟩
  ·cases h
  have xY:aS.whole ts=some x:=by rw[J9];rfl
  obtain⟨fL,aaA⟩:=Eu Tj xY;have hk:=dT.h3 j gj cH (by exact(aD bH bo).size);have Eg:=(hk.ext cA).ext bU;rw[xY] at fy;refine b5 (fun _ _=>aqx 1000000 x _ cV (by omega) (e9 _) fL Eg.i) ⟨((aS.gF x:Nat):Int),rfl,fun dQ df=>?_⟩;simp only[aU];refine aK (fun c2=>bS fun _ _=>aP fun _ _ _=>⟨_,rfl,0,0,0,⟨#[]⟩,⟨#[]⟩,none,0,0,?_,?_⟩) fun c2=>bS fun dX dK=>aP fun _ _ _=>⟨_,rfl,op,k,dd,cR,aT,dt,len,dp,?_,?_⟩
  ·have c2:16<aS.gF x:=by simp only[U,cX] at c2;omega
   rw[fy];dsimp only;rw[if_pos c2];rfl
  ·have c2:16<aS.gF x:=by simp only[U,cX] at c2;omega
   rw[fy];dsimp only;rw[if_pos c2];exact J8 _ _
  ·have c2:¬16<aS.gF x:=by simp only[U,c7] at c2;omega
   rw[fy];dsimp only;rw[if_neg c2];rfl
  ·have c2:¬16<aS.gF x:=by simp only[U,c7] at c2;omega
   rw[fy];dsimp only;rw[if_neg c2];exact((Eg.ext df).ext dK).new
theorem aqA (t:ax.aM):aS.iZ (aS.fT t).1=true∧aS.gF (aS.fT t).1<=200:=by
 unfold aS.fT;split
 ·cases h:aS.whole (ax.fl t).1 with
  |none=>exact⟨by simp[aS.none_,aS.iZ,aS.qO],by simp[aS.none_,aS.gF,aS.kW]⟩
  |some x=>
   obtain⟨J,an⟩:=Eu (zb t) h;have:=Et t;dsimp only;split
   ·exact⟨by simp[aS.none_,aS.iZ,aS.qO],by simp[aS.none_,aS.gF,aS.kW]⟩
   ·exact⟨J,by show aS.gF x<=200;omega⟩
 ·exact⟨by simp[aS.none_,aS.iZ,aS.qO],by simp[aS.none_,aS.gF,aS.kW]⟩
end Go.Proofs.YtkpjmlnhhggenaaGreatDoor
end
section
namespace J_
open Go Go.RowKit
theorem Tk (n:Int):IntKind.i64.wrap n=wrap64 n:=by rw[IntKind.wrap_i64,fv.aaQ]
end J_
namespace bF
theorem Fz {op:Int} (h:1<=op∧op<=16) (J:¬op=1) (an:¬op=2):(qR op=1∧(op=3∨op=4∨op=16))∨(qR op=2∧5<=op∧op<=15):=by
 have:op=3∨op=4∨op=5∨op=6∨op=7∨op=8∨op=9∨op=10∨op=11∨op=12∨op=13∨op=14∨op=15∨op=16:=by omega
 rcases this with rfl|rfl|rfl|rfl|rfl|rfl|rfl|rfl|rfl|rfl|rfl|rfl|rfl|rfl<;>decide
end bF
namespace bF
open Go
theorem Tl {k:Int} (h:(mS k).2=0):1<=(mS k).1∧(mS k).1<=3:=by
 unfold mS at h ⊢;split at h
 ·cases h
 ·rw[if_neg (by assumption)];dsimp only;omega
theorem aqB {vars:List Var} {aT:ax.aM} (h:(named vars aT).2=0):1<=(named vars aT).1∧(named vars aT).1<=3:=by
 unfold named at h ⊢;cases e:vars.find? (fun v=>v.name==aT) with
 |none=>rw[e] at h;cases h
 |some v=>rw[e] at h;exact Tl h
theorem aqC {o:Int} {l:List Int} (h:(sorted o l).2=0):1<=(sorted o l).1∧(sorted o l).1<=3:=by
 unfold sorted at h ⊢;cases e:(kK o).find? fun s=>l.all (· ==s.1) with
 |none=>rw[e] at h;cases h
 |some s=>
  have hm:=Ad e;have bb:∀l∈nm,∀s∈l,1<=s.2∧s.2<=3:=by decide
  unfold kK at hm;rw[oe] at hm;cases aO:nm[o.toNat]? with
  |none=>rw[aO] at hm;cases hm
  |some r=>rw[aO] at hm;exact bb r (k2 aO) s hm
theorem Tm {vars:List Var} {e:aS.de} (h:(gm vars e).2=0):1<=(gm vars e).1∧(gm vars e).1<=3:=by
 obtain⟨op,k,n,t,aT,l⟩:=e;rw[gm] at h ⊢;split
 ·rw[if_pos (by assumption)] at h;exact Tl h
 ·rw[if_neg (by assumption)] at h;split
  ·rw[if_pos (by assumption)] at h;exact aqB h
  ·rw[if_neg (by assumption)] at h;cases aO:jS vars l with
   |error f=>rw[aO] at h;exact absurd h (I1 aO)
   |ok r=>rw[aO] at h;exact aqC h
def x3 (op:Int):Int:=if op=1∨op=2 then 0 else if(op=3∨op=4)∨op=16 then 1 else if 4<op∧op<16 then 2 else-1
theorem aqD (op:Int) (n:Nat):((n:Int)=x3 op)↔((1<=op∧op<=16)∧(n:Int)=qR op):=by
 unfold x3;constructor
 ·intro h;have J:1<=op∧op<=16:=by(repeat' split at h)<;>omega
  refine⟨J,?_⟩;have:op=1∨op=2∨op=3∨op=4∨op=5∨op=6∨op=7∨op=8∨op=9∨op=10∨op=11∨op=12∨op=13∨op=14∨op=15∨op=16:=by omega
  rcases this with rfl|rfl|rfl|rfl|rfl|rfl|rfl|rfl|rfl|rfl|rfl|rfl|rfl|rfl|rfl|rfl<;>exact h
 ·rintro⟨J,h⟩;have:op=1∨op=2∨op=3∨op=4∨op=5∨op=6∨op=7∨op=8∨op=9∨op=10∨op=11∨op=12∨op=13∨op=14∨op=15∨op=16:=by omega
  rcases this with rfl|rfl|rfl|rfl|rfl|rfl|rfl|rfl|rfl|rfl|rfl|rfl|rfl|rfl|rfl|rfl<;>exact h
end bF
namespace Go.Proofs.YtkpjmlnhhggenaaGreatDoor
open Go.Proofs.Tryz Go Go.RowKit Go.cK
theorem Tn (k n:Int) (t:ByteArray) (bb:t.size<=9223372036854775806) (W:al):da prog 122 #[.agg #[.int .u8 k,.int .i64 n,.string t]] W (.bool (fv.en ⟨k,n,t⟩)):=by
 refine aoA k n t W.all _ ?_;refine bY fun m W' _ x=>?_
 have bD:=kH t;refine aK (fun c=>aP fun _ _ _=>⟨_,rfl,?_⟩) fun c0=>aK (fun c=>aP fun _ _ _=>⟨_,rfl,?_⟩) fun aJ=>aK (fun c=>aP fun _ _ _=>⟨_,rfl,?_⟩) fun c2=>aK (fun c3=>?_) fun c3=>aP fun _ _ _=>⟨_,rfl,?_⟩
 ·have c:k=0:=by simpa[U] using c
  subst c;simp[U,fv.en]
 ·have c:k=1:=by simpa[U] using c
  subst c;simp[U,fv.en]
 ·have c:k=2:=by simpa[U] using c
  subst c;simp[U,fv.en]
 ·have c3:k=3:=by simpa[U] using c3
  subst c3;refine dJ (fun aj vs ls _=>∃i:Nat,vs=[.int .i64 (i:Int)]∧ls=[]∧i<=t.size∧aj=t.size-i∧(t.data.toList.drop i).all fv.p3=t.data.toList.all fv.p3) t.size ⟨0,by simp[U],rfl,dr _,rfl,rfl⟩ ?_;rintro aj vs ls W' x ⟨i,rfl,rfl,a8,rfl,bl⟩;refine⟨(i:Int),rfl,rfl,fun _=>aK (fun c=>?_) fun c=>?_⟩
  ·simp only[U,cX] at c;have aO:i<t.data.toList.length:=by omega
   have a_:=qK t.data.toList i aO;refine a6 ?_ (aK (fun c2=>aP fun _ _ _=>⟨_,rfl,?_⟩) fun c2=>b1 ⟨t.size-(i+1),by omega,i+1,?_,rfl,by omega,rfl,?_⟩)
   ·simp only[U];exact c_ (by omega)
   ·simp only[U] at c2;rw[a_,qe] at bl;have aA:fv.p3 (aR t.data.toList i 0)=false:=by unfold fv.p3;simp only[eg] at c2;simp[c2]
    rw[aA,jX] at bl;show Value.bool false=_;simp[fv.en,fv.plain,<-bl]
   ·simp only[U];rw[cE (by omega) (by omega)];rfl
   ·simp only[U] at c2;rw[a_,qe] at bl;have aA:fv.p3 (aR t.data.toList i 0)=true:=by unfold fv.p3;simp only[eg] at c2;simp at c2 ⊢;omega
    rw[aA,eX] at bl;exact bl
  ·refine aP fun _ _ _=>⟨_,rfl,?_⟩
   simp only[U,c7] at c;rw[fV (by omega)] at bl;simp only[U];simp[fv.en,fv.plain,<-bl,er,bD]
 ·have fy:¬k=0:=by simpa[U] using c0
  have a7:¬k=1:=by simpa[U] using aJ
  have bh:¬k=2:=by simpa[U] using c2
  have c8:¬k=3:=by simpa[U] using c3
  simp[fv.en,fy,a7,bh,c8,af.ak,E.b]
theorem aqE (op:Int) (W:al):da prog 180 #[.int .u8 op] W (.int .i64 (bF.x3 op)):=by
 refine aoE op W.all _ ?_
 repeat' (first|(with_reducible refine aK (fun _=>?_) (fun _=>?_))|(with_reducible refine bY fun _ _ _ _=>?_)|(with_reducible refine bS fun _ _=>?_)|(with_reducible refine cj fun _ _=>?_)|(with_reducible refine aP fun _ _ _=>?_))
 all_goals refine⟨_,rfl,?_⟩
 all_goals simp only[U] at*
 all_goals simp only[h8,bT,k1,r1,beq_iff_eq,beq_eq_false_iff_ne,ne_eq,cX,c7] at*
 all_goals unfold bF.x3
 ·rw[if_pos (by assumption)]
 ·rw[if_neg (by omega),if_pos (by assumption)]
 ·rw[if_neg (by omega),if_neg (by omega),if_pos (by assumption)]
 ·rw[if_neg (by omega),if_neg (by omega),if_neg (by omega)]
theorem aqF:∀(n:Nat) (x:aS.de) (vs:List Value) (W:al),n<=1000->aS.iZ x=true->iK W x vs->da prog 162 #[.agg vs.toArray,.int .i64 (n:Nat)] W (.bool (bF.whole n x)):=by
 intro n;induction n with
 |zero=>
  intro x vs W _ _ j;obtain⟨op,k,dd,t,aT,dt,len,dp,rfl⟩:=j.mL;refine Sy op k dd ((0:Nat):Int) len dp t aT dt W.all _ ?_;exact bY fun _ _ _ _=>tr rfl (cj fun _ _=>aP fun _ _ _=>⟨_,rfl,rfl⟩)
 |succ n cF=>
  intro x vs W cB fL j;obtain⟨op,k,dd,t,aT,args⟩:=x;have j:=j.ext W.dw;simp only[iK,dT] at j;obtain⟨dt,dp,ls,rfl,c1,fe⟩:=j;simp only[aS.iZ,bT,decide_eq_true_eq] at fL;obtain⟨⟨ke,h0,w2,u4,ps⟩,fL⟩:=fL;have Ka:=bF.aqD op args.length;refine Sy op k dd ((n+1:Nat):Int) args.length dp ⟨t.toArray⟩ ⟨aT.toArray⟩ dt W.all _ ?_;refine bY fun m0 W1 _ bM=>qI ?_ (lF ⟨bF.x3 op,fun V _ _ _=>aqE op V,aK (fun aJ=>?_) fun aJ=>?_⟩)
  ·simp only[U,hq];rw[c7];omega
  ·simp only[U,bT,beq_iff_eq] at aJ;obtain⟨J,an⟩:=Ka.1 aJ.1;refine lF ⟨fv.en ⟨k,dd,⟨t.toArray⟩⟩,fun V _ _ _=>Tn k dd ⟨t.toArray⟩ (by rw[<-kH];exact iz h0 (by decide)) V,cj fun cn bH=>aK (fun c2=>aP fun _ _ _=>⟨_,rfl,?_⟩) fun c2=>?_⟩
   ·have c2:fv.en ⟨k,dd,⟨t.toArray⟩⟩=false:=by simpa[U] using c2
    simp[U,bF.whole,c2,aJ.2]
   ·have c2:fv.en ⟨k,dd,⟨t.toArray⟩⟩=true:=by simpa[U] using c2
    have gb:bF.whole (n+1) (.mk op k dd t aT args)=args.all (bF.whole n):=by
     rw[bF.whole,c2];simp[J.1,J.2,an]
    have bH:=aD bM bH;refine dJ (fun aj vs ls _=>∃i:Nat,vs=[.int .i64 (i:Nat)]∧ls=[]∧i<=args.length∧aj=args.length-i∧args.all (bF.whole n)=(args.drop i).all (bF.whole n)) args.length ⟨0,by simp[U],rfl,dr _,rfl,rfl⟩ ?_;rintro aj vs fG cq bo ⟨i,rfl,rfl,a8,rfl,bl⟩;have eK:=aD bH bo;refine⟨(i:Int),rfl,rfl,fun _=>aK (fun c3=>?_) fun c3=>aP fun _ _ _=>⟨_,rfl,?_⟩⟩
    ·simp only[U,cX] at c3;have cp:i<args.length:=by omega
     have zN:args[i]? =some args[i]:=dn cp;obtain⟨us,hu,bP⟩:=tx fe zN;have x4:iK W.all args[i] us:=hu;obtain⟨ec,b0,aQ,t1,Cs,Ct,Cu,Cv,rfl⟩:=hu.mL;rw[h4 cp,qe] at bl;refine a6 ?_ (a6 ?_ (cI ⟨ec,b0,aQ,Cu,Cv,t1,Cs,Ct,fun V fC=>?_,?_⟩))
     ·simp only[E.b,aR,aX.push];exact b_.dL c1 (by omega)
     ·simp only[U];exact c_ (by omega)
     ·have:=tz (W:=W.all) c1 u1 tA rfl (by decide) bP (aD eK fC);simp only[U] at this ⊢;exact this
     simp only[aU];refine b5 (v:=.bool (bF.whole n args[i])) (fun _ _=>?_) ⟨bF.whole n args[i],rfl,fun dH cd=>aK (fun c4=>aP fun _ _ _=>⟨_,rfl,?_⟩) fun c4=>b1 ⟨args.length-(i+1),by omega,i+1,?_,rfl,by omega,rfl,?_⟩⟩
     ·have bg:=cF args[i] _ cq (by omega) (aS.u0 fL (h9 cp)) (x4.ext eK);simp only[af.b2,af.ak,E.i,aR,aU] at bg ⊢;rw[show IntKind.i64.wrap (((n+1:Nat):Int)-1)=(n:Int) from by rw[J_.Tk,fv.Fit.wrap ⟨by omega,by omega⟩];omega];exact bg
     ·have c4:bF.whole n args[i]=false:=by simpa[U] using c4
      rw[gb,bl,c4];simp[U]
     ·simp only[U];rw[cE (by omega) (by omega)];rfl
     ·have c4:bF.whole n args[i]=true:=by simpa[U] using c4
      rw[bl,c4,eX]
    ·simp only[U,c7] at c3;rw[gb,bl,fV (by omega)];rfl
  ·refine cj fun cn bH=>aK (fun c2=>aP fun _ _ _=>⟨_,rfl,?_⟩) fun c2=>?_
   ·have c2:¬(args.length:Int)=bF.x3 op:=by simpa[U] using c2
    rw[Ka] at c2;show Value.bool false=_;rw[bF.whole]
    by_cases J:1<=op∧op<=16
    ·have:((args.length:Int)==bF.qR op)=false:=by rw[beq_eq_false_iff_ne];exact fun h=>c2 ⟨J,h⟩
     simp[this]
    ·have:(decide (1<=op)&&decide (op<=16))=false:=by rw[r1,decide_eq_false_iff_not,decide_eq_false_iff_not];omega
     simp[this]
   ·have c2:(args.length:Int)=bF.x3 op:=by simpa[U] using c2
    have aJ:¬op=1:=by
     simp only[U,r1,beq_eq_false_iff_ne,ne_eq] at aJ;rcases aJ with h|h
     ·exact absurd c2 h
     ·exact h
    obtain⟨J,an⟩:=Ka.1 c2
    have gb:bF.whole (n+1) (.mk op k dd t aT args)=args.all (bF.whole n):=by
     rw[bF.whole];simp[J.1,J.2,an,aJ]
    have bH:=aD bM bH;refine dJ (fun aj vs ls _=>∃i:Nat,vs=[.int .i64 (i:Nat)]∧ls=[]∧i<=args.length∧aj=args.length-i∧args.all (bF.whole n)=(args.drop i).all (bF.whole n)) args.length ⟨0,by simp[U],rfl,dr _,rfl,rfl⟩ ?_;rintro aj vs fG cq bo ⟨i,rfl,rfl,a8,rfl,bl⟩;have eK:=aD bH bo;refine⟨(i:Int),rfl,rfl,fun _=>aK (fun c3=>?_) fun c3=>aP fun _ _ _=>⟨_,rfl,?_⟩⟩
    ·simp only[U,cX] at c3;have cp:i<args.length:=by omega
     have zN:args[i]? =some args[i]:=dn cp;obtain⟨us,hu,bP⟩:=tx fe zN;have x4:iK W.all args[i] us:=hu;obtain⟨ec,b0,aQ,t1,Cs,Ct,Cu,Cv,rfl⟩:=hu.mL;rw[h4 cp,qe] at bl;refine a6 ?_ (a6 ?_ (cI ⟨ec,b0,aQ,Cu,Cv,t1,Cs,Ct,fun V fC=>?_,?_⟩))
     ·simp only[E.b,aR,aX.push];exact b_.dL c1 (by omega)
     ·simp only[U];exact c_ (by omega)
     ·have:=tz (W:=W.all) c1 u1 tA rfl (by decide) bP (aD eK fC);simp only[U] at this ⊢;exact this
     simp only[aU];refine b5 (v:=.bool (bF.whole n args[i])) (fun _ _=>?_) ⟨bF.whole n args[i],rfl,fun dH cd=>aK (fun c4=>aP fun _ _ _=>⟨_,rfl,?_⟩) fun c4=>b1 ⟨args.length-(i+1),by omega,i+1,?_,rfl,by omega,rfl,?_⟩⟩
     ·have bg:=cF args[i] _ cq (by omega) (aS.u0 fL (h9 cp)) (x4.ext eK);simp only[af.b2,af.ak,E.i,aR,aU] at bg ⊢;rw[show IntKind.i64.wrap (((n+1:Nat):Int)-1)=(n:Int) from by rw[J_.Tk,fv.Fit.wrap ⟨by omega,by omega⟩];omega];exact bg
     ·have c4:bF.whole n args[i]=false:=by simpa[U] using c4
      rw[gb,bl,c4];simp[U]
     ·simp only[U];rw[cE (by omega) (by omega)];rfl
     ·have c4:bF.whole n args[i]=true:=by simpa[U] using c4
      rw[bl,c4,eX]
    ·simp only[U,c7] at c3;rw[gb,bl,fV (by omega)];rfl
theorem aqG (x:aS.de) (vs:List Value) (W:al) (fL:aS.iZ x=true) (j:iK W x vs):da prog 128 #[.agg vs.toArray] W (.bool (bF.whole 16 x)):=by
 obtain⟨op,k,dd,t,aT,dt,len,dp,rfl⟩:=j.mL;refine aoT op k dd len dp t aT dt W.all _ ?_;refine bY fun m0 W1 _ bM=>b5 (fun _ _=>aqF 16 x _ W1 (by decide) fL (j.ext (aD W.dw bM))) ⟨bF.whole 16 x,rfl,fun cn bH=>aP fun _ _ _=>⟨_,rfl,rfl⟩⟩
theorem aqH:∀(n:Nat) (x:aS.de) (vs:List Value) (vars:List bF.Var) (a:Option Addr) (c:Nat) (W:al),aS.iZ x=true->bF.whole n x=true->vars.length<=1000000->iK W x vs->pt W a c vars->
  da prog 129 #[.agg vs.toArray,.slice a vars.length c] W (BC (bF.gm vars x)):=by
 intro n;induction n with
 |zero=>intro x vs vars a c W _ h;cases h
 |succ n cF=>
  intro x vs vars a c W fL To n5 j ct;obtain⟨op,k,dd,t,aT,args⟩:=x;have j:=j.ext W.dw;have ct:=ct.all;simp only[iK,dT] at j;obtain⟨dt,dp,ls,rfl,c1,fe⟩:=j;simp only[aS.iZ,bT,decide_eq_true_eq] at fL;obtain⟨⟨ke,h0,w2,u4,ps⟩,fL⟩:=fL;simp only[bF.whole,bT,decide_eq_true_eq,h8,bne_iff_ne,ne_eq,beq_iff_eq] at To;obtain⟨nO,h5,Ez,FA⟩:=To;refine apo op k dd args.length dp vars.length c ⟨t.toArray⟩ ⟨aT.toArray⟩ dt a W.all _ ?_;refine bY fun m0 cn fi dG=>aK (fun aJ=>aK (fun c2=>aP fun _ _ _=>⟨_,rfl,?_⟩) fun c2=>aP fun _ _ _=>⟨_,rfl,?_⟩) fun aJ=>aK (fun c2=>?_) fun c2=>?_
  ·have aJ:op=1:=by simpa[U] using aJ
   have c2:k=0:=by simpa[U] using c2
   rw[bF.gm,if_pos aJ,bF.mS,if_pos (by omega)];rfl
  ·have aJ:op=1:=by simpa[U] using aJ
   have c2:¬k=0:=by simpa[U] using c2
   have aA:k=1∨k=2∨k=3:=by
    have hm:=Ez.resolve_left (by simp[aJ])
    by_cases J:k=1
    ·exact .inl J
    by_cases an:k=2
    ·exact .inr (.inl an)
    by_cases aI:k=3
    ·exact .inr (.inr aI)
    simp[fv.en,c2,J,an,aI] at hm
   rw[bF.gm,if_pos aJ,bF.mS,if_neg (by omega)];rfl
  ·have aJ:¬op=1:=by simpa[U] using aJ
   have c2:op=2:=by simpa[U] using c2
   have gb:bF.gm vars (.mk op k dd t aT args)=match vars.find? (fun v=>v.name==aT) with|some v=>bF.mS v.k|none=>(0,22):=by rw[bF.gm,if_neg aJ,if_pos c2,bF.named];cases vars.find? (fun v=>v.name==aT)<;>rfl
   refine dJ (fun aj vs ls _=>∃i:Nat,vs=[.int .i64 (i:Nat)]∧ls=[]∧i<=vars.length∧aj=vars.length-i∧vars.find? (fun v=>v.name==aT)=(vars.drop i).find? fun v=>v.name==aT) vars.length ⟨0,by simp[U],rfl,dr _,rfl,rfl⟩ ?_;rintro aj vs fG cq bo ⟨i,rfl,rfl,a8,rfl,bl⟩;have eK:=aD dG bo;refine⟨(i:Int),rfl,rfl,fun _=>aK (fun c3=>?_) fun c3=>aP fun _ _ _=>⟨_,rfl,?_⟩⟩
   ·simp only[U,cX] at c3;have cp:i<vars.length:=by omega
    have j:vars[i]? =some vars[i]:=dn cp;rw[h4 cp] at bl;have tR:∀V,Ext cq V->_:=fun V fC=>ed (P:=prog) mv ct pr (k:=1) j (by decide) (u:=.int .u8 vars[i].k) rfl (aD eK fC)
    refine a6 ?_ (a6 ?_ (cI ⟨⟨vars[i].name.toArray⟩,fun V fC=>?_,?_⟩))
    ·simp only[E.b,aR,aX.push];exact b_.dL ct (by omega)
    ·simp only[U];exact c_ (by omega)
    ·have:=ed (P:=prog) mv ct nP (k:=0) j (by decide) (u:=.string ⟨vars[i].name.toArray⟩) rfl (aD eK fC);simp only[U] at this ⊢;exact this
    simp only[aU];refine cj fun dH cd=>aK (fun c4=>cI ⟨vars[i].k,fun V fC=>?_,?_⟩) fun c4=>b1 ⟨vars.length-(i+1),by omega,i+1,?_,rfl,by omega,rfl,?_⟩
    ·have:=tR V (aD cd fC);simp only[U] at this ⊢;exact this
    ·simp only[aU];simp only[U,tC] at c4;rw[gb,bl,hY,c4];refine aK (fun c5=>cI ⟨vars[i].k,fun V fC=>?_,aK (fun bw=>aP fun _ _ _=>⟨_,rfl,?_⟩) fun bw=>cI ⟨vars[i].k,fun V fC=>?_,aP fun _ _ _=>⟨_,rfl,?_⟩⟩⟩) fun c5=>aP fun _ _ _=>⟨_,rfl,?_⟩
     ·have:=tR V (aD cd fC);simp only[U] at this ⊢;exact this
     ·simp only[U,cX] at bw;dsimp only;rw[bF.mS,if_pos (by omega)];rfl
     ·have:=tR V (aD cd fC);simp only[U] at this ⊢;exact this
     ·simp only[U,c7] at bw;simp only[U,hq,c7] at c5;dsimp only;rw[bF.mS,if_neg (by omega)];rfl
     ·simp only[U,kt,cX] at c5;dsimp only;rw[bF.mS,if_pos (by omega)];rfl
    ·simp only[U];rw[cE (by omega) (by omega)];rfl
    ·simp only[U,tC] at c4;rw[bl,hY,c4]
   ·simp only[U,c7] at c3;rw[gb,bl,fV (by omega)];rfl
  ·have aJ:¬op=1:=by simpa[U] using aJ
   have c2:¬op=2:=by simpa[U] using c2
   have eA:1<=args.length:=by rcases bF.Fz nO aJ c2 with⟨e,_⟩|⟨e,_⟩<;>omega
   obtain⟨zO,rest,tV⟩:∃x r,args=x::r:=by
    cases args with
    |nil=>simp at eA
    |cons x r=>exact⟨x,r,rfl⟩
   have aqI:args[0]? =some zO:=by rw[tV];rfl
   have im:zO∈args:=by rw[tV];exact c6 ..
   obtain⟨us,hu,bP⟩:=tx fe aqI;have x4:iK W.all zO us:=hu;obtain⟨ec,b0,aQ,t1,Cs,Ct,Cu,Cv,rfl⟩:=hu.mL;have aqJ:=aS.u0 fL im;have mz:=bF.Ir FA im;obtain⟨A,ee⟩:∃A,A=bF.gm vars zO:=⟨_,rfl⟩;have Cw:=bF.Tm (vars:=vars) (e:=zO);rw[<-ee] at Cw;refine a6 ?_ (a6 rfl (a6 ?_ (cI ⟨ec,b0,aQ,Cu,Cv,t1,Cs,Ct,fun V fC=>?_,?_⟩)))
   ·simp only[E.b,aR,aX.push];exact b_.dL c1 (by omega)
   ·simp only[U];exact dW (by omega)
   ·have:=tz (W:=W.all) c1 u1 tA rfl (by decide) bP (aD dG fC);simp only[U] at this ⊢;exact this
   simp only[aU];have bg:=cF zO _ vars a c cn aqJ mz n5 (x4.ext dG) (ct.ext dG);rw[<-ee] at bg;refine b5 (fun _ _=>bg) ⟨A.1,A.2,rfl,fun cq bo=>?_⟩;have eK:=aD dG bo;simp only[aU];refine aK (fun c0=>aP fun _ _ _=>⟨_,rfl,?_⟩) fun c0=>?_
   ·have c0:¬A.2=0:=by simpa[U] using c0
    rw[bF.gm,if_neg aJ,if_neg c2,tV];simp only[bF.jS,<-ee];rw[if_neg c0];rfl
   have c0:A.2=0:=by simpa[U] using c0
   have Cw:=Cw c0;refine aK (fun c5=>?_) fun c5=>?_
   ·have c5:args.length=2:=by
     simp only[U,beq_iff_eq] at c5;omega
    obtain⟨bH,aw⟩:∃y,rest=[y]:=by
     rw[tV] at c5
     match rest,c5 with
     |[y],_=>exact⟨y,rfl⟩
    subst aw;have aqK:args[1]? =some bH:=by rw[tV];rfl
    have Tp:bH∈args:=by rw[tV];simp
    obtain⟨aqL,Kb,zP⟩:=tx fe aqK;have qP:iK W.all bH aqL:=Kb;obtain⟨fc,bZ,bz,t2,m2,aqM,aqN,aqO,rfl⟩:=Kb.mL;have aqP:=aS.u0 fL Tp;have xT:=bF.Ir FA Tp;obtain⟨B,ji⟩:∃B,B=bF.gm vars bH:=⟨_,rfl⟩;have FB:=bF.Tm (vars:=vars) (e:=bH);rw[<-ji] at FB;have sb:eg 1 ((args.length:Nat):Int)=true:=dW (by omega);refine a6 rfl (a6 (by simp only[U];exact sb) (cI ⟨fc,bZ,bz,aqN,aqO,t2,m2,aqM,fun V fC=>?_,?_⟩))
    ·have:=tz (W:=W.all) c1 u1 tA rfl (by decide) zP (aD eK fC);simp only[U] at this ⊢;exact this
    simp only[aU];have bg:=cF bH _ vars a c cq aqP xT n5 (qP.ext eK) (ct.ext eK);rw[<-ji] at bg;refine b5 (fun _ _=>bg) ⟨B.1,B.2,rfl,fun dH cd=>?_⟩;simp only[aU]
    have gb:bF.gm vars (.mk op k dd t aT args)=if B.2=0 then bF.sorted op [A.1,B.1] else(0,B.2):=by
     rw[bF.gm,if_neg aJ,if_neg c2,tV];simp only[bF.jS,<-ee,<-ji];rw[if_pos c0]
     by_cases I:B.2=0
     ·rw[if_pos I,if_pos I]
     ·rw[if_neg I,if_neg I]
    rw[gb];refine aK (fun d=>aP fun _ _ _=>⟨_,rfl,?_⟩) fun d=>?_
    ·have d:¬B.2=0:=by simpa[U] using d
     rw[if_neg d];rfl
    have d:B.2=0:=by simpa[U] using d
    have FB:=FB d;rw[if_pos d];have bu:5<=op∧op<=15:=by rcases bF.Fz nO aJ c2 with⟨e,_⟩|⟨e,h⟩<;>omega
    clear bg gb qP Kb zP bP hu x4 c1 fe ct cF h5 Ez eA FA fL ee ji;obtain⟨x5,aqQ⟩:=A;obtain⟨Kc,ayx⟩:=B;dsimp only at Cw FB ⊢;have bc:op=5∨op=6∨op=7∨op=8∨op=9∨op=10∨op=11∨op=12∨op=13∨op=14∨op=15:=by omega
    have Kd:x5=1∨x5=2∨x5=3:=by omega
    have aqR:Kc=1∨Kc=2∨Kc=3:=by omega
    rcases bc with rfl|rfl|rfl|rfl|rfl|rfl|rfl|rfl|rfl|rfl|rfl
    all_goals (repeat (with_reducible refine tr rfl ?_))
    all_goals (first|with_reducible refine qI rfl ?_|skip)
    all_goals (rcases Kd with rfl|rfl|rfl<;>rcases aqR with rfl|rfl|rfl)
    all_goals (first|(refine qI rfl (aP fun _ _ _=>⟨_,rfl,rfl⟩))|(refine tr rfl (aP fun _ _ _=>⟨_,rfl,rfl⟩)))
   ·have c5:args.length=1:=by
     have h:¬args.length=2:=by simp only[U,beq_eq_false_iff_ne,ne_eq] at c5;omega
     rcases bF.Fz nO aJ c2 with⟨e,_⟩|⟨e,_⟩<;>omega
    have aw:rest=[]:=by rw[tV] at c5;simpa using c5
    have gb:bF.gm vars (.mk op k dd t aT args)=bF.sorted op [A.1]:=by
     rw[bF.gm,if_neg aJ,if_neg c2,tV,aw];simp only[bF.jS,<-ee];rw[if_pos c0]
    rw[gb];have bu:op=3∨op=4∨op=16:=by rcases bF.Fz nO aJ c2 with⟨e,h⟩|⟨e,h⟩<;>omega
    clear bg gb bP hu x4 c1 fe ct cF h5 Ez eA FA fL ee;obtain⟨x5,aqQ⟩:=A;dsimp only at Cw ⊢;have Kd:x5=1∨x5=2∨x5=3:=by omega
    rcases bu with rfl|rfl|rfl
    all_goals (repeat (with_reducible refine tr rfl ?_))
    all_goals (first|with_reducible refine qI rfl ?_|skip)
    all_goals (rcases Kd with rfl|rfl|rfl)
    all_goals (first|(refine qI rfl (aP fun _ _ _=>⟨_,rfl,rfl⟩))|(refine tr rfl (aP fun _ _ _=>⟨_,rfl,rfl⟩)))
theorem aqS (x:aS.de) (vs:List Value) (vars:List bF.Var) (a:Option Addr) (c:Nat) (W:al) (fL:aS.iZ x=true) (n5:vars.length<=1000000) (j:iK W x vs) (ct:pt W a c vars):
  da prog 79 #[.agg vs.toArray,.slice a vars.length c] W (BC (bF.type vars x)):=by
 obtain⟨op,k,dd,t,aT,dt,len,dp,rfl⟩:=j.mL;refine aps op k dd len dp vars.length c t aT dt a W.all _ ?_;refine bY fun m0 W1 _ bM=>?_
 have bM:=aD W.dw bM;refine b5 (fun _ _=>aqG x _ W1 fL (j.ext bM)) ⟨bF.whole 16 x,rfl,fun cn bH=>aK (fun aJ=>aP fun _ _ _=>⟨_,rfl,?_⟩) fun aJ=>?_⟩
 ·have aJ:bF.whole 16 x=false:=by simpa[U] using aJ
  unfold bF.type;rw[aJ];rfl
 ·have aJ:bF.whole 16 x=true:=by simpa[U] using aJ
  have bH:=aD bM bH;refine b5 (fun _ _=>aqH 16 x _ vars a c cn fL aJ n5 (j.ext bH) (ct.ext bH)) ⟨(bF.gm vars x).1,(bF.gm vars x).2,rfl,fun _ _=>aP fun _ _ _=>⟨_,rfl,?_⟩⟩;unfold bF.type;rw[if_pos aJ];rfl
end Go.Proofs.YtkpjmlnhhggenaaGreatDoor
namespace Go.Proofs.YtkpjmlnhhggenaaGreatDoor
open Go.Proofs.Tryz Go Go.RowKit Go.cK
def FC (s:ax.aM) (vars:List bF.Var) (kind:Int):Int:=if(aS.fT s).2=0 then(if(bF.type vars (aS.fT s).1).2=0∧¬(bF.type vars (aS.fT s).1).1=kind then 23 else(bF.type vars (aS.fT s).1).2) else(aS.fT s).2
theorem aqT (t:ByteArray) (bb:t.size<=1000000) (vars:List bF.Var) (a:Option Addr) (c:Nat) (kind:Int) (W:al) (n5:vars.length<=1000000) (ct:pt W a c vars):
  da prog 41 #[.string t,.slice a vars.length c,.int .u8 kind] W (.int .i64 (FC t.data.toList vars kind)):=by
 have ct:=ct.all;obtain⟨fL,_⟩:=aqA t.data.toList;refine aor kind vars.length c t a W.all _ ?_;refine iV (fun _ _=>aqy t W.all bb) fun v w' _ ⟨op,k,n,mi,aT,dt,len,dp,aB,hk⟩=>⟨op,k,n,(aS.fT t.data.toList).2,len,dp,mi,aT,dt,aB,fun W1 a7 iH aQ=>?_⟩
 have aqU:iK W1 (aS.fT t.data.toList).1 _:=(dT.h3 hk a7 aQ (e9 _)).i;simp only[aU];refine bY fun m2 cn _ bH=>bS fun cq bo=>aK (fun c0=>aP fun _ _ _=>⟨_,rfl,?_⟩) fun c0=>?_
 ·have c0:¬(aS.fT t.data.toList).2=0:=by simpa[U] using c0
  unfold FC;rw[if_neg c0];rfl
 have c0:(aS.fT t.data.toList).2=0:=by simpa[U] using c0
 have eK:=aD iH (aD bH bo);refine b5 (fun _ _=>aqS _ _ vars a c cq fL n5 (aqU.ext (aD bH bo)) (ct.ext eK)) ⟨(bF.type vars (aS.fT t.data.toList).1).1,(bF.type vars (aS.fT t.data.toList).1).2,rfl,fun dH cd=>aK (fun aJ=>aP fun _ _ _=>⟨_,rfl,?_⟩) fun aJ=>aP fun _ _ _=>⟨_,rfl,?_⟩⟩
 ·have aJ:(bF.type vars (aS.fT t.data.toList).1).2=0∧¬(bF.type vars (aS.fT t.data.toList).1).1=kind:=by simpa[U] using aJ
  unfold FC;rw[if_pos c0,if_pos aJ];rfl
 ·have aJ:¬((bF.type vars (aS.fT t.data.toList).1).2=0∧¬(bF.type vars (aS.fT t.data.toList).1).1=kind):=by
   intro h;simp[U,h.1,h.2] at aJ
  unfold FC;rw[if_pos c0,if_neg aJ];rfl
abbrev Tq:b4:=⟨2,25,[ag 5,aL 11,aq 12,aq 13,aL 14,ag 6,ag 7,ag 8,ba 1,ai 5 10 11,ai 6 12 13]⟩
abbrev Tr:b4:=⟨2,25,[ag 5,aL 10,aq 11,aq 12,aL 13,ag 6,ag 7,ag 8,ba 1,ai 5 10 11,ai 6 12 13]⟩
abbrev Ts:b4:=⟨1,25,[ag 1,aL 1,aq 2,aq 3,aL 4,ag 2,ag 3,ag 4,ba 0,ai 3 6 7,ai 4 8 9]⟩
abbrev Ke:b4:=⟨1,25,[ag 1,aL 2,aq 3,aq 4,aL 5,ag 2,ag 3,ag 4,ba 0,ai 3 6 7,ai 4 8 9]⟩
abbrev Tt:b4:=⟨1,25,[ag 1,aL 5,aq 6,aq 7,aL 8,ag 2,ag 3,ag 4,ba 0,ai 3 6 7,ai 4 8 9]⟩
abbrev Kf:af:=(.agg [ag 0,aL 0,aq 1,aq 2,aL 3,ag 1,ag 2,ag 3,ba 0,ai 0 0 1,ai 1 2 3])
abbrev Tu:af:=(.agg [ag 1,aL 3,aq 4,aq 5,aL 6,ag 2,ag 3,ag 4,ba 1,ai 3 6 7,ai 4 8 9])
abbrev Tv:af:=(.agg [ag 1,aL 1,aq 2,aq 3,aL 4,ag 2,ag 3,ag 4,ba 0,ai 3 6 7,ai 4 8 9])
abbrev Tw:af:=(.agg [ag 1,aL 2,aq 3,aq 4,aL 5,ag 2,ag 3,ag 4,ba 0,ai 3 6 7,ai 4 8 9])
abbrev Tx:b3:=⟨(.bt 7 (bX (aG 10) (aG 12)) (aG 14)),(bX (aG 10) (aG 12)),41,4,[.l 2,.l 3]⟩
abbrev k0:af:=(.agg [ag 0,ai 0 0 1,ai 1 2 3,ai 2 4 5])
abbrev tW:af:=(.agg [ag 0,ai 1 2 3,ai 2 4 5,ai 3 6 7])
abbrev Kg:b4:=⟨2,33,[aq 9,aq 10,ag 5,ba 1]⟩
abbrev Kh:b4:=⟨2,33,[aq 8,aq 9,ag 5,ba 1]⟩
abbrev aqV:Tree:=(.a1 (bQ (ah 0) (ae 0)) (.aC (cL (bR (cL (bQ (ah 97) (kg (b9 0) (ae 0))) (bQ (kg (b9 0) (ae 0)) (ah 122)))) (bW (aZ (ae 0) (ah 0)) (cL (bR (aZ (kg (b9 0) (ae 0)) (ah 95))) (bW (bO (kg (b9 0) (ae 0)) (ah 48)) (bO (ah 57) (kg (b9 0) (ae 0))))))) (.ret (cY false) [] [] []) (.again 0 [(.int .i64 (.un (.wrap .i64) (bX (ae 0) (ah 1))))] [])))
abbrev aqW:Tree:=(.loop [bI 0] [] [aq 0] [] cg (.aC (bO (ae 0) (.un .len (b9 0))) aqV (.ret (cY true) [] [] [])))
abbrev Ty:Tree:=
(.aC (bW (bW (bW (bW (bO (.un .len (b9 0)) (ah 1)) (bO (ah 12) (.un .len (b9 0)))) (eW (b9 0) (.bN [121,101,115]))) (eW (b9 0) (.bN [110,111]))) (eW (b9 0) (.bN [108,101,110]))) (.ret (cY false) [] [] []) aqW)
theorem aqX:cN prog {cW with ei:=[⟨4,[.az 3]⟩]} f68 [ag 0] [] [] ie=some Ty:=by kernel_rfl
theorem aqY (t0:ByteArray) (W:al) (R:Ending->World->Prop) (h:Ty.ak prog W.w.heap.size R [] {T:=[t0]} W):bK prog 68 #[.string t0] W R:=
 dP func68 _ _ {T:=[t0]} _ aqX (fun v aB=>by cases aB) h
abbrev aqZ:Tree:=(.ret (.bool (bW (bW (bW (bW (aZ (ae 1) (ah 0)) (aZ (ae 1) (ah 1))) (aZ (ae 1) (ah 4))) (aZ (ae 1) (ah 5))) (aZ (ae 1) (ah 7)))) [] [] [])
abbrev aq0:Tree:=(.ret (.bool (bW (bW (bW (aZ (ae 1) (ah 0)) (aZ (ae 1) (ah 1))) (aZ (ae 1) (ah 5))) (aZ (ae 1) (ah 6)))) [] [] [])
abbrev aq1:Tree:=(.ret (.bool (bW (bW (bW (aZ (ae 1) (ah 1)) (aZ (ae 1) (ah 2))) (aZ (ae 1) (ah 3))) (aZ (ae 1) (ah 6)))) [] [] [])
abbrev aq2:Tree:=(.ret (.bool (cL (cL (bQ (ah 3) (ae 0)) (bQ (ae 0) (ah 14))) (aZ (ae 1) (ah 0)))) [] [] [])
abbrev aq3:Tree:=(.aC (aZ (ae 0) (ah 15)) (.ret (.bool (cL (bQ (ah 1) (ae 1)) (bQ (ae 1) (ah 5)))) [] [] []) aq2)
abbrev aq4:Tree:=(.aC (aZ (ae 0) (ah 5)) aq0 (.aC (aZ (ae 0) (ah 6)) aq1 aq3))
abbrev Tz:Tree:=
(.aC (aZ (ae 0) (ah 1)) (.ret (.bool (bQ (ae 1) (ah 5))) [] [] []) (.aC (aZ (ae 0) (ah 2)) aqZ aq4))
theorem aq5:cN prog cW f123 [aL 0,aL 1] [] [] mn=some Tz:=by kernel_rfl
theorem aq6 (i0 i1:Int) (W:al) (R:Ending->World->Prop) (h:Tz.ak prog W.w.heap.size R [] {aV:=[i0,i1]} W):bK prog 123 #[.int .u8 i0,.int .u8 i1] W R:=
 dP func123 _ _ {aV:=[i0,i1]} _ aq5 (fun v aB=>by cases aB) h
abbrev TA:Tree:=
(.ret (.bool (bW (bW (bW (aZ (ae 0) (ah 3)) (aZ (ae 0) (ah 11))) (aZ (ae 0) (ah 12))) (aZ (ae 0) (ah 14)))) [] [] [])
theorem aq7:cN prog cW f74 [aL 0] [] [] cg=some TA:=by kernel_rfl
theorem aq8 (i0:Int) (W:al) (R:Ending->World->Prop) (h:TA.ak prog W.w.heap.size R [] {aV:=[i0]} W):bK prog 74 #[.int .u8 i0] W R:=
 dP func74 _ _ {aV:=[i0]} _ aq7 (fun v aB=>by cases aB) h
abbrev TB:Tree:=
(.ret (.bool (bW (bW (aZ (ae 0) (ah 11)) (aZ (ae 0) (ah 12))) (aZ (ae 0) (ah 13)))) [] [] [])
theorem aq9:cN prog cW f72 [aL 0] [] [] cg=some TB:=by kernel_rfl
theorem aq_ (i0:Int) (W:al) (R:Ending->World->Prop) (h:TB.ak prog W.w.heap.size R [] {aV:=[i0]} W):bK prog 72 #[.int .u8 i0] W R:=
 dP func72 _ _ {aV:=[i0]} _ aq9 (fun v aB=>by cases aB) h
abbrev ara:Tree:=(.grow (.aC (eW (b9 2) (b9 3)) (.ret (bI 4) [] [] []) (.again 1 [(.int .i64 (.un (.wrap .i64) (bX (ae 4) (ah 1))))] [])))
abbrev arb:Tree:=(.a1 (bQ (ah 0) (ae 4)) (.a1 (bO (ae 4) (aG 0)) (.cl 9 (.b6 0 (ae 4) 4 0) (ag 2) ie (.cl 9 (.b6 0 (ae 0) 4 0) (ag 3) ie ara))))
abbrev arc:Tree:=(.aC (bO (ae 4) (ae 0)) arb (.again 0 [(.int .i64 (.un (.wrap .i64) (bX (ae 0) (ah 1))))] []))
abbrev ard:Tree:=(.loop [bI 0] [] [aq 4] [] cg arc)
abbrev are:Tree:=(.cl 5 (.b6 0 (ae 0) 4 1) (aL 3) cg (.aC (aZ (ae 3) (ah 0)) (.ret (bI 4) [] [] []) ard))
abbrev arf:Tree:=(.call 122 [(.agg [aL 1,aq 2,ag 1])] [] [] [] (ba 1) dv (.aC (cG 1) are (.ret (bI 4) [] [] [])))
abbrev arh:Tree:=(.cl 39 (.b6 0 (ae 0) 4 1) (.agg [aL 1,aq 2,ag 1]) ⟨2,0,0,1,0,0,0,0⟩ arf)
abbrev ari:Tree:=(.call 68 [ag 0] [] [] [] (ba 0) dv (.aC (cG 0) arh (.ret (bI 4) [] [] [])))
abbrev arj:Tree:=(.a1 (.sm 0) (.a1 (bQ (ah 0) (ae 0)) (.cl 9 (.b6 0 (ae 0) 4 0) (ag 0) ie ari)))
abbrev ark:Tree:=(.loop [bI 0] [] [aq 0] [] cg (.aC (bO (ae 0) (aG 0)) arj (.ret (bI 0) [] [] [])))
abbrev TC:Tree:=
(.aC (bO (ah 8) (aG 0)) (.ret (bI 40) [] [] []) ark)
theorem arl:cN prog {cW with ei:=[⟨4,[.az 3]⟩,⟨9,[.az 4]⟩]} f69 [ai 0 0 1] [] [] ga=some TC:=by kernel_rfl
theorem arn (ar aQ:Nat) (a0:Option Addr) (W:al) (R:Ending->World->Prop) (h:TC.ak prog W.w.heap.size R [] {N:=[ar,aQ],A:=[a0]} W):bK prog 69 #[.slice a0 ar aQ] W R:=
 dP func69 _ _ {N:=[ar,aQ],A:=[a0]} _ arl (fun v aB=>by cases aB) h
abbrev Ki:Tree:=(.call 68 [ag 1] [] [] [] (ba 1) dv (.ret (ba 1) [] [] []))
abbrev aro:Tree:=(.ret (.bool (bW (cG 1) (cL (bW (aZ (ae 0) (ah 1)) (aZ (ae 0) (ah 15))) (eW (b9 1) (.bN []))))) [] [] [])
abbrev arp:Tree:=(.aC (bW (aZ (ae 3) (ah 4)) (aZ (ae 3) (ah 5))) (.call 68 [ag 1] [] [] [] (ba 1) dv aro) (.ret (.bool (eW (b9 1) (.bN []))) [] [] []))
abbrev arq:Tree:=(.aC (aZ (ae 3) (ah 1)) Ki (.aC (aZ (ae 3) (ah 6)) Ki arp))
abbrev TD:Tree:=
(.new (.aC (aZ (ae 0) (ah 14)) Ki arq))
theorem ars:cN prog cW f124 [Kf] [] [] gL=some TD:=by kernel_rfl
theorem art (i0 i1 i2 i3:Int) (ar aQ bz bJ:Nat) (cm:Bool) (t0 t1 t2 t3:ByteArray) (a0 bn:Option Addr) (W:al) (R:Ending->World->Prop) (h:TD.ak prog W.w.heap.size R [] {aV:=[i0,i1,i2,i3],N:=[ar,aQ,bz,bJ],B:=[cm],T:=[t0,t1,t2,t3],A:=[a0,bn]} W):bK prog 124 #[.agg #[.string t0,.int .u8 i0,.int .i64 i1,.int .i64 i2,.int .u8 i3,.string t1,.string t2,.string t3,.bool cm,.slice a0 ar aQ,.slice bn bz bJ]] W R:=
 dP func124 _ _ {aV:=[i0,i1,i2,i3],N:=[ar,aQ,bz,bJ],B:=[cm],T:=[t0,t1,t2,t3],A:=[a0,bn]} _ ars (fun v aB=>by cases aB) h
abbrev aru:Tree:=(.call 68 [ag 3] [] [] [] (ba 4) dv (.aC (bR (cG 4)) (.ret (bI 4) [] [] []) (.again 0 [] [])))
abbrev arv:Tree:=(.aC (bR (eW (b9 3) (.bN []))) (.ret (bI 4) [] [] []) (.again 0 [] []))
abbrev arw:Tree:=(.grow (.aC (eW (b9 5) (b9 6)) (.ret (bI 4) [] [] []) (.again 1 [(.int .i64 (.un (.wrap .i64) (bX (ae 5) (ah 1))))] [])))
abbrev arx:Tree:=(.a1 (bQ (ah 0) (ae 5)) (.a1 (bO (ae 5) (aG 2)) (.cl 9 (.b6 1 (ae 5) 1 0) (ag 5) ie (.cl 9 (.b6 1 (ae 4) 1 0) (ag 6) ie arw))))
abbrev ary:Tree:=(.aC (bO (ae 5) (ae 4)) arx (.again 0 [(.int .i64 (.un (.wrap .i64) (bX (ae 4) (ah 1))))] []))
abbrev arz:Tree:=(.loop [bI 0] [] [aq 5] [] cg ary)
abbrev arA:Tree:=(.call 68 [ag 4] [] [] [] (ba 5) dv (.aC (bR (cG 5)) (.ret (bI 4) [] [] []) arz))
abbrev arB:Tree:=(.a1 (.sm 1) (.a1 (bQ (ah 0) (ae 4)) (.cl 9 (.b6 1 (ae 4) 1 0) (ag 4) ie arA)))
abbrev arC:Tree:=(.call 69 [ai 0 0 1] [] [] [] (aq 5) cg (.ret (aq 5) [] [] []))
abbrev arD:Tree:=(.loop [bI 0] [] [aq 4] [] cg (.aC (bO (ae 4) (aG 2)) arB arC))
abbrev arE:Tree:=(.aC (bW (cL (bR (cG 4)) (bO (ah 0) (aG 0))) (cL (bR (aZ (ae 0) (ah 14))) (bO (ah 0) (aG 2)))) (.ret (bI 4) [] [] []) arD)
abbrev arF:Tree:=(.call 72 [aL 0] [] [] [] (ba 4) dv arE)
abbrev arG:Tree:=(.aC (bW (cL (cG 0) (bR (bW (bW (aZ (ae 0) (ah 15)) (aZ (ae 0) (ah 12))) (cL (aZ (ae 0) (ah 1)) (bR (aZ (ae 3) (ah 0))))))) (cL (cL (aZ (ae 0) (ah 15)) (aZ (ae 3) (ah 4))) (bR (cG 0)))) (.ret (bI 4) [] [] []) arF)
abbrev arH:Tree:=(.join (.aC (aZ (ae 0) (ah 4)) aru arv) [] [] D1 arG)
abbrev arI:Tree:=(.aC (bR (DW (bW (bW (bW (aZ (ae 0) (ah 4)) (aZ (ae 0) (ah 12))) (aZ (ae 3) (ah 2))) (aZ (ae 3) (ah 3))) (bR (eW (b9 2) (.bN []))))) (.ret (bI 4) [] [] []) arH)
abbrev arJ:Tree:=(.aC (bW (cL (aZ (ae 0) (ah 15)) (bO (ae 2) (ah 0))) (cL (bR (aZ (ae 0) (ah 15))) (bR (aZ (ae 2) (ah (-1)))))) (.ret (bI 4) [] [] []) arI)
abbrev arK:Tree:=(.call 124 [Kf] [] [] [] (ba 3) dv (.aC (bR (cG 3)) (.ret (bI 4) [] [] []) arJ))
abbrev arL:Tree:=(.call 123 [aL 0,aL 3] [] [] [] (ba 2) dv (.aC (cG 2) arK (.ret (bI 4) [] [] [])))
abbrev arM:Tree:=(.aC (bR (bW (bR (cG 1)) (bO (ae 1) (ah (-1))))) arL (.ret (bI 4) [] [] []))
abbrev TE:Tree:=
(.new (.aC (bW (bW (bO (ah 100) (.un .len (b9 2))) (bO (ah 8) (aG 0))) (bO (ah 8) (aG 2))) (.ret (bI 40) [] [] []) (.call 68 [ag 0] [] [] [] (ba 1) dv arM)))
theorem arN:cN prog {cW with ei:=[⟨18,[.az 5]⟩,⟨23,[.az 6]⟩],j3:=[⟨12,[]⟩]} f70 [Kf] [] [] gL=some TE:=by kernel_rfl
theorem arO (i0 i1 i2 i3:Int) (ar aQ bz bJ:Nat) (cm:Bool) (t0 t1 t2 t3:ByteArray) (a0 bn:Option Addr) (W:al) (R:Ending->World->Prop) (h:TE.ak prog W.w.heap.size R [] {aV:=[i0,i1,i2,i3],N:=[ar,aQ,bz,bJ],B:=[cm],T:=[t0,t1,t2,t3],A:=[a0,bn]} W):bK prog 70 #[.agg #[.string t0,.int .u8 i0,.int .i64 i1,.int .i64 i2,.int .u8 i3,.string t1,.string t2,.string t3,.bool cm,.slice a0 ar aQ,.slice bn bz bJ]] W R:=
 dP func70 _ _ {aV:=[i0,i1,i2,i3],N:=[ar,aQ,bz,bJ],B:=[cm],T:=[t0,t1,t2,t3],A:=[a0,bn]} _ arN (fun v aB=>by cases aB) h
abbrev arP:Tree:=(.aC (bW (bW (bO (ae 0) (ah 0)) (bO (ae 1) (ah 0))) (cL (cG 0) (bR (eW (b9 0) (.bN []))))) (.ret (bI 4) [] [] []) (.ret (bI 0) [] [] []))
abbrev TF:Tree:=
(.new (.aC (bO (ah 100) (.un .len (b9 0))) (.ret (bI 40) [] [] []) arP))
theorem arQ:cN prog cW f71 [(.agg [aq 0,aq 1,ag 0,ba 0])] [] [] rB=some TF:=by kernel_rfl
theorem arR (i0 i1:Int) (cm:Bool) (t0:ByteArray) (W:al) (R:Ending->World->Prop) (h:TF.ak prog W.w.heap.size R [] {aV:=[i0,i1],B:=[cm],T:=[t0]} W):bK prog 71 #[.agg #[.int .i64 i0,.int .i64 i1,.string t0,.bool cm]] W R:=
 dP func71 _ _ {aV:=[i0,i1],B:=[cm],T:=[t0]} _ arQ (fun v aB=>by cases aB) h
abbrev arS:Tree:=(.again 0 [aq 7,(.int .i64 (.un (.wrap .i64) (bX (ae 2) (ah 1))))] [])
abbrev arT:Tree:=(.call 70 [Tu] [] [] [] (aq 7) cg arS)
abbrev arU:Tree:=(.a1 (.sm 1) (.a1 (bQ (ah 0) (ae 2)) (.cl 25 (.b6 1 (ae 2) 11 0) Tu gL arT)))
abbrev arV:Tree:=(.again 1 [aq 7,(.int .i64 (.un (.wrap .i64) (bX (ae 4) (ah 1))))] [])
abbrev arW:Tree:=(.call 71 [(.agg [aq 5,aq 6,ag 1,ba 1])] [] [] [] (aq 7) cg arV)
abbrev arX:Tree:=(.a1 (.sm 2) (.a1 (bQ (ah 0) (ae 4)) (.cl 33 (.b6 2 (ae 4) 4 0) (.agg [aq 5,aq 6,ag 1,ba 1]) rB arW)))
abbrev arY:Tree:=(.aC (cL (bO (ae 4) (aG 4)) (aZ (ae 3) (ah 0))) arX (.ret (aq 3) [] [] []))
abbrev arZ:Tree:=(.loop [aq 1,bI 0] [] [aq 3,aq 4] [] mn arY)
abbrev ar0:Tree:=(.aC (cL (bO (ae 2) (aG 2)) (aZ (ae 1) (ah 0))) arU arZ)
abbrev ar1:Tree:=(.loop [aq 0,bI 0] [] [aq 1,aq 2] [] mn ar0)
abbrev ar2:Tree:=(.call 69 [ai 0 0 1] [] [] [] (aq 0) cg ar1)
abbrev ar3:Tree:=(.call 68 [ag 0] [] [] [] (ba 0) dv (.aC (bR (cG 0)) (.ret (bI 4) [] [] []) ar2))
abbrev TG:Tree:=
(.new (.aC (bW (bO (ah 40) (aG 2)) (bO (ah 80) (aG 4))) (.ret (bI 40) [] [] []) (.aC (bR (bO (aG 2) (ah 1))) ar3 (.ret (bI 4) [] [] []))))
theorem ar4:cN prog {cW with ei:=[⟨7,[.az 3,.az 4]⟩,⟨11,[.az 3,.az 5]⟩]} f36 [k0] [] [] rC=some TG:=by kernel_rfl
theorem ar5 (ar aQ bz bJ cH cM:Nat) (t0:ByteArray) (a0 bn a2:Option Addr) (W:al) (R:Ending->World->Prop) (h:TG.ak prog W.w.heap.size R [] {N:=[ar,aQ,bz,bJ,cH,cM],T:=[t0],A:=[a0,bn,a2]} W):bK prog 36 #[.agg #[.string t0,.slice a0 ar aQ,.slice bn bz bJ,.slice a2 cH cM]] W R:=
 dP func36 _ _ {N:=[ar,aQ,bz,bJ,cH,cM],T:=[t0],A:=[a0,bn,a2]} _ ar4 (fun v aB=>by cases aB) h
abbrev ar6:Tree:=(.aC (bW (bO (ae 1) (ah 0)) (bQ (ae 0) (ae 1))) (.ret (bI (-1)) [] [] []) (.ret (aq 1) [] [] []))
abbrev TH:Tree:=
(.new (.a1 (.sm 1) (.a1 (bQ (ah 0) (ae 0)) (.a1 (bO (ae 0) (aG 2)) (.cl 3 (.b6 1 (ae 0) 11 2) (aq 1) cg ar6)))))
theorem ar7:cN prog cW f80 [k0,aq 0] [] [] tu=some TH:=by kernel_rfl
theorem ar8 (i0:Int) (ar aQ bz bJ cH cM:Nat) (t0:ByteArray) (a0 bn a2:Option Addr) (W:al) (R:Ending->World->Prop) (h:TH.ak prog W.w.heap.size R [] {aV:=[i0],N:=[ar,aQ,bz,bJ,cH,cM],T:=[t0],A:=[a0,bn,a2]} W):bK prog 80 #[.agg #[.string t0,.slice a0 ar aQ,.slice bn bz bJ,.slice a2 cH cM],.int .i64 i0] W R:=
 dP func80 _ _ {aV:=[i0],N:=[ar,aQ,bz,bJ,cH,cM],T:=[t0],A:=[a0,bn,a2]} _ ar7 (fun v aB=>by cases aB) h
abbrev TI:Tree:=
(.new (.ret (.bool (cL (bQ (ah 0) (ae 0)) (bO (ae 0) (aG 2)))) [] [] []))
theorem ar9:cN prog cW f73 [k0,aq 0] [] [] tu=some TI:=by kernel_rfl
theorem ar_ (i0:Int) (ar aQ bz bJ cH cM:Nat) (t0:ByteArray) (a0 bn a2:Option Addr) (W:al) (R:Ending->World->Prop) (h:TI.ak prog W.w.heap.size R [] {aV:=[i0],N:=[ar,aQ,bz,bJ,cH,cM],T:=[t0],A:=[a0,bn,a2]} W):bK prog 73 #[.agg #[.string t0,.slice a0 ar aQ,.slice bn bz bJ,.slice a2 cH cM],.int .i64 i0] W R:=
 dP func73 _ _ {aV:=[i0],N:=[ar,aQ,bz,bJ,cH,cM],T:=[t0],A:=[a0,bn,a2]} _ ar9 (fun v aB=>by cases aB) h
abbrev asa:Tree:=(.a1 (bQ (aG 6) (ah 2932031007402)) (.cells 3 (aG 6) (aG 7) 4 [] (.eu (aG 6) (.again 1 [ai 4 6 8] [⟨ai 4 6 8,aG 6,41,4,[.l 0]⟩]))))
abbrev asb:Tree:=(.cl 22 (.b6 1 (ae 0) 11 9) (ai 3 6 7) ga asa)
abbrev asc:Tree:=(.aC (aZ (ae 2) (ah 12)) asb (.again 1 [.db] [⟨.db,ah 0,41,4,[]⟩]))
abbrev asd:Tree:=(.a1 (.sm 1) (.a1 (bQ (ah 0) (ae 0)) (.a1 (bO (ae 0) (aG 2)) (.cl 5 (.b6 1 (ae 0) 11 1) (aL 2) cg asc))))
abbrev ase:Tree:=(.again 1 [ai 3 6 7,aq 4] [⟨ai 3 6 7,aG 6,41,4,[.l 0]⟩])
abbrev asf:Tree:=(.call 80 [k0,aq 1] [] [⟨ai 3 6 7,aG 6,41,4,[.l 0]⟩] [] (aq 4) cg ase)
abbrev TJ:Tree:=(.again 1 [ai 3 6 7,aq 1] [⟨ai 3 6 7,aG 6,41,4,[.l 0]⟩])
abbrev asg:Tree:=(.cl 5 (.b6 1 (ae 1) 11 1) (aL 3) cg (.aC (aZ (ae 3) (ah 13)) asf TJ))
abbrev ash:Tree:=(.a1 (bW (bR (cL (aZ (ae 2) (ah 1)) (bQ (ah 0) (ae 1)))) (bQ (ah 0) (ae 1))) (.a1 (bW (bR (cL (aZ (ae 2) (ah 1)) (bQ (ah 0) (ae 1)))) (bO (ae 1) (aG 2))) (.aC (cL (aZ (ae 2) (ah 1)) (bQ (ah 0) (ae 1))) asg TJ)))
abbrev asi:Tree:=(.a1 (.sm 1) (.a1 (bQ (ah 0) (ae 0)) (.a1 (bO (ae 0) (aG 2)) (.cl 5 (.b6 1 (ae 0) 11 1) (aL 2) cg ash))))
abbrev asj:Tree:=(.again 1 [(.bt 7 (bX (aG 10) (aG 12)) (aG 14)),aq 4] [Tx])
abbrev asl:Tree:=(.a1 (bQ (bX (aG 10) (aG 12)) (ah 2932031007402)) (.cells 6 (aG 12) (aG 13) 4 [⟨ai 5 10 11,aG 10,41,4,[.l 2]⟩] (.eu (bX (aG 10) (aG 12)) (.call 80 [k0,aq 3] [] [Tx] [] (aq 4) cg asj))))
abbrev asm:Tree:=(.a1 (.sm 1) (.a1 (bO (ae 3) (aG 2)) (.cl 22 (.b6 1 (ae 3) 11 9) (ai 6 12 13) ga asl)))
abbrev asn:Tree:=(.again 0 [ai 5 10 11] [⟨ai 5 10 11,aG 10,41,4,[.l 2]⟩])
abbrev aso:Tree:=(.loop [ai 4 8 9,aq 2] [⟨ai 4 8 9,aG 8,41,4,[.l 1]⟩] [ai 5 10 11,aq 3] [⟨ai 5 10 11,aG 10,41,4,[.l 2]⟩] pX (.aC (bQ (ah 0) (ae 3)) asm asn))
abbrev asp:Tree:=(.join asi [ai 4 8 9,aq 2] [⟨ai 4 8 9,aG 8,41,4,[.l 1]⟩] pX aso)
abbrev asq:Tree:=(.join asd [ai 3 6 7] [⟨ai 3 6 7,aG 6,41,4,[.l 0]⟩] uS asp)
abbrev asr:Tree:=(.call 80 [k0,aq 0] [] [] [] (aq 1) cg asq)
abbrev ass:Tree:=(.call 73 [k0,aq 0] [] [] [] (ba 0) dv (.aC (cG 0) asr (.again 0 [.db] [⟨.db,ah 0,41,4,[]⟩])))
abbrev ast:Tree:=(.a1 (bQ (bX (aG 6) (aG 0)) (ah 2932031007402)) (.cells 0 (aG 0) (aG 1) 4 [⟨ai 3 6 7,aG 6,41,4,[.l 0]⟩] (.eu (bX (aG 6) (aG 0)) (.ret (.bt 4 (bX (aG 6) (aG 0)) (aG 8)) [] [] [⟨(.bt 4 (bX (aG 6) (aG 0)) (aG 8)),(bX (aG 6) (aG 0)),41,4,[.l 0,.l 1]⟩]))))
abbrev TK:Tree:=
(.new (.join ass [ai 3 6 7] [⟨ai 3 6 7,aG 6,41,4,[.l 0]⟩] uS ast))
theorem asu:cN prog {cW with ei:=[⟨8,[.row 5 22,.az 6]⟩],jJ:=[41],fN:=true,j3:=[⟨6,[.row 5 22]⟩,⟨8,[.row 5 22,.az 6]⟩,⟨11,[.row 5 22]⟩]} f42 [k0,aq 0] [] [] tu=some TK:=by kernel_rfl
theorem asv (i0:Int) (ar aQ bz bJ cH cM:Nat) (t0:ByteArray) (a0 bn a2:Option Addr) (W:al) (R:Ending->World->Prop) (h:TK.ak prog W.w.heap.size R [] {aV:=[i0],N:=[ar,aQ,bz,bJ,cH,cM],T:=[t0],A:=[a0,bn,a2]} W):bK prog 42 #[.agg #[.string t0,.slice a0 ar aQ,.slice bn bz bJ,.slice a2 cH cM],.int .i64 i0] W R:=
 dP func42 _ _ {aV:=[i0],N:=[ar,aQ,bz,bJ,cH,cM],T:=[t0],A:=[a0,bn,a2]} _ asu (fun v aB=>by cases aB) h
abbrev asw:Tree:=(.grow (.aC (eW (b9 5) (b9 1)) (.ret (cY false) [] [] []) (.again 1 [(.int .i64 (.un (.wrap .i64) (bX (ae 5) (ah 1))))] [])))
abbrev asx:Tree:=(.a1 (bQ (ah 0) (ae 5)) (.a1 (bO (ae 5) (aG 2)) (.cl 9 (.b6 1 (ae 5) 11 0) (ag 5) ie asw)))
abbrev TL:Tree:=(.eM [Ts] (.again 0 [(.int .i64 (.un (.wrap .i64) (bX (ae 0) (ah 1))))] []))
abbrev asy:Tree:=(.call 72 [aL 6] [] [] [] (ba 1) dv (.aC (bR (cG 1)) (.ret (cY false) [] [] []) TL))
abbrev asz:Tree:=(.aC (bR (aZ (ae 2) (ah (-1)))) (.ret (cY false) [] [] []) TL)
abbrev asA:Tree:=(.a1 (bW (bR (cL (bR (aZ (ae 2) (ah (-1)))) (bR (bW (bO (ae 2) (ah 0)) (bQ (ae 0) (ae 2)))))) (bQ (ah 0) (ae 2))) (.a1 (bW (bR (cL (bR (aZ (ae 2) (ah (-1)))) (bR (bW (bO (ae 2) (ah 0)) (bQ (ae 0) (ae 2)))))) (bO (ae 2) (aG 2))) (.aC (cL (bR (aZ (ae 2) (ah (-1)))) (bR (bW (bO (ae 2) (ah 0)) (bQ (ae 0) (ae 2))))) (.cl 5 (.b6 1 (ae 2) 11 1) (aL 6) cg asy) asz)))
abbrev asB:Tree:=(.new (.wr (.loop [bI 0] [] [aq 5] [] cg (.aC (bO (ae 5) (ae 0)) asx asA))))
abbrev asC:Tree:=(.a1 (.sm 1) (.a1 (bQ (ah 0) (ae 0)) (.cl 25 (.b6 1 (ae 0) 11 0) Tv gL asB)))
abbrev asD:Tree:=(.eM [Ke] (.again 1 [(.int .i64 (.un (.wrap .i64) (bX (ae 1) (ah 1))))] []))
abbrev asE:Tree:=(.grow (.aC (bR (aZ (ae 7) (ae 3))) (.ret (cY false) [] [] []) asD))
abbrev asF:Tree:=(.aC (cG 2) (.cl 3 (.b6 1 (ae 4) 11 2) (aq 7) cg asE) (.grow (.ret (cY false) [] [] [])))
abbrev asG:Tree:=(.jZ 74 [aL 6] [] [] (ba 2) dv asF)
abbrev asH:Tree:=(.a1 (bW (bR (cG 1)) (bQ (ah 0) (ae 4))) (.a1 (bW (bR (cG 1)) (bO (ae 4) (aG 2))) (.aC (cG 1) (.cl 5 (.b6 1 (ae 4) 11 1) (aL 6) cg asG) (.grow (.ret (cY false) [] [] [])))))
abbrev asI:Tree:=(.jZ 73 [k0,aq 4] [] [] (ba 1) dv asH)
abbrev asJ:Tree:=(.grow (.eM [Ke] (.again 1 [(.int .i64 (.un (.wrap .i64) (bX (ae 1) (ah 1))))] [])))
abbrev asK:Tree:=(.a1 (.sm 1) (.a1 (bQ (ah 0) (ae 1)) (.cl 25 (.b6 1 (ae 1) 11 0) Tw gL (.new (.wr (.aC (aZ (ae 2) (ah 15)) asI asJ))))))
abbrev asL:Tree:=(.eM [⟨3,25,[ag 6,aL 9,aq 10,aq 11,aL 12,ag 7,ag 8,ag 9,ba 4,ai 5 10 11,ai 6 12 13]⟩,⟨2,25,[ag 2,aL 5,aq 6,aq 7,aL 8,ag 3,ag 4,ag 5,ba 3,ai 3 6 7,ai 4 8 9]⟩,⟨1,33,[aq 3,aq 4,ag 1,ba 0]⟩] (.again 2 [(.int .i64 (.un (.wrap .i64) (bX (ae 2) (ah 1))))] []))
abbrev asM:Tree:=(.grow (.new (.grow (.new (.grow (.wr (.grow (.wr (.aC (bW (bW (bW (bW (bW (bW (bW (bR (aZ (ae 6) (ae 10))) (aZ (ae 9) (ah 1))) (aZ (ae 9) (ah 15))) (aZ (ae 9) (ah 13))) (cL (aZ (ae 9) (ah 6)) (aZ (ae 12) (ah 6)))) (aZ (ae 5) (ah 2))) (aZ (ae 5) (ah 13))) (cL (aZ (ae 5) (ah 5)) (aZ (ae 8) (ah 6)))) (.ret (cY false) [] [] []) asL)))))))))
abbrev asN:Tree:=(.eM [⟨3,25,[ag 2,aL 5,aq 6,aq 7,aL 8,ag 3,ag 4,ag 5,ba 3,ai 3 6 7,ai 4 8 9]⟩,⟨2,25,[ag 6,aL 9,aq 10,aq 11,aL 12,ag 7,ag 8,ag 9,ba 4,ai 5 10 11,ai 6 12 13]⟩,⟨1,33,[aq 3,aq 4,ag 1,ba 0]⟩] (.again 2 [(.int .i64 (.un (.wrap .i64) (bX (ae 2) (ah 1))))] []))
abbrev asO:Tree:=(.grow (.new (.grow (.new (.grow (.wr (.grow (.wr (.aC (bW (bW (bW (bW (bW (bW (bW (bR (aZ (ae 6) (ae 10))) (aZ (ae 9) (ah 1))) (aZ (ae 9) (ah 15))) (aZ (ae 9) (ah 13))) (cL (aZ (ae 9) (ah 6)) (aZ (ae 12) (ah 6)))) (aZ (ae 5) (ah 2))) (aZ (ae 5) (ah 13))) (cL (aZ (ae 5) (ah 5)) (aZ (ae 8) (ah 6)))) (.ret (cY false) [] [] []) asN)))))))))
abbrev asP:Tree:=(.a1 (bQ (ah 0) (ae 4)) (.a1 (bO (ae 4) (aG 2)) (.cl 25 (.b6 1 (ae 4) 11 0) (.agg [ag 6,aL 9,aq 10,aq 11,aL 12,ag 7,ag 8,ag 9,ba 4,ai 5 10 11,ai 6 12 13]) gL (.lP asM asO))))
abbrev asQ:Tree:=(.a1 (.sm 1) (.a1 (bQ (ah 0) (ae 3)) (.a1 (bO (ae 3) (aG 2)) (.cl 25 (.b6 1 (ae 3) 11 0) (.agg [ag 2,aL 5,aq 6,aq 7,aL 8,ag 3,ag 4,ag 5,ba 3,ai 3 6 7,ai 4 8 9]) gL asP))))
abbrev asR:Tree:=(.call 73 [k0,aq 4] [] [] [] (ba 2) dv (.aC (bR (cG 2)) (.ret (cY false) [] [] []) asQ))
abbrev asS:Tree:=(.new (.wr (.call 73 [k0,aq 3] [] [] [] (ba 1) dv (.aC (cG 1) asR (.ret (cY false) [] [] [])))))
abbrev asT:Tree:=(.a1 (.sm 2) (.a1 (bQ (ah 0) (ae 2)) (.cl 33 (.b6 2 (ae 2) 4 0) (.agg [aq 3,aq 4,ag 1,ba 0]) rB asS)))
abbrev asU:Tree:=(.loop [bI 0] [] [aq 2] [] cg (.aC (bO (ae 2) (aG 4)) asT (.ret (cY true) [] [] [])))
abbrev asV:Tree:=(.loop [bI 0] [] [aq 1] [] cg (.aC (bO (ae 1) (aG 2)) asK asU))
abbrev TM:Tree:=
(.new (.loop [bI 0] [] [aq 0] [] cg (.aC (bO (ae 0) (aG 2)) asC asV)))
theorem asW:cN prog {cW with ei:=[⟨2,[.az 3]⟩,⟨6,[.az 5]⟩,⟨13,[.az 6]⟩,⟨19,[.az 8]⟩],fN:=true,kB:=[(24,[2,3])]} f37 [k0] [] [] rC=some TM:=by kernel_rfl
theorem asX (ar aQ bz bJ cH cM:Nat) (t0:ByteArray) (a0 bn a2:Option Addr) (W:al) (R:Ending->World->Prop) (h:TM.ak prog W.w.heap.size R [] {N:=[ar,aQ,bz,bJ,cH,cM],T:=[t0],A:=[a0,bn,a2]} W):bK prog 37 #[.agg #[.string t0,.slice a0 ar aQ,.slice bn bz bJ,.slice a2 cH cM]] W R:=
 dP func37 _ _ {N:=[ar,aQ,bz,bJ,cH,cM],T:=[t0],A:=[a0,bn,a2]} _ asW (fun v aB=>by cases aB) h
abbrev asY:Tree:=(.aC (bR (cG 0)) (.again 0 [(.int .i64 (.un (.wrap .i64) (bX (ae 0) (ah 1))))] []) (.again 1 [aL 1] []))
abbrev asZ:Tree:=(.call 72 [aL 1] [] [] [] (ba 0) dv asY)
abbrev as0:Tree:=(.a1 (.sm 1) (.cl 5 (.b6 1 (ae 0) 11 1) (aL 1) cg asZ))
abbrev TN:Tree:=(.eM [Tt] (.again 1 [aq 2,aq 3,(.int .i64 (.un (.wrap .i64) (bX (ae 4) (ah 1))))] []))
abbrev as1:Tree:=(.again 2 [(.int .i64 (.un (.wrap .i64) (bX (ae 2) (ah 1)))),aq 3] [])
abbrev as2:Tree:=(.again 2 [aq 2,(.int .i64 (.un (.wrap .i64) (bX (ae 3) (ah 1))))] [])
abbrev as3:Tree:=(.eM [⟨2,25,[ag 5,aL 12,aq 13,aq 14,aL 15,ag 6,ag 7,ag 8,ba 1,ai 5 10 11,ai 6 12 13]⟩] (.again 2 [(.int .i64 (.un (.wrap .i64) (bX (ae 11) (ah 1))))] []))
abbrev as4:Tree:=(.new (.wr (.aC (cL (cL (cL (cL (aZ (ae 13) (ae 0)) (aZ (ae 12) (ah 1))) (aZ (ae 15) (ah 1))) (aZ (ae 8) (ah 1))) (eW (b9 6) (b9 2))) (.ret (cY false) [] [] []) as3)))
abbrev as5:Tree:=(.a1 (bQ (ah 0) (ae 11)) (.a1 (bO (ae 11) (aG 2)) (.cl 25 (.b6 1 (ae 11) 11 0) (.agg [ag 5,aL 12,aq 13,aq 14,aL 15,ag 6,ag 7,ag 8,ba 1,ai 5 10 11,ai 6 12 13]) gL as4)))
abbrev as6:Tree:=(.eM [Tt] (.again 1 [aq 9,aq 10,(.int .i64 (.un (.wrap .i64) (bX (ae 4) (ah 1))))] []))
abbrev as7:Tree:=(.aC (cL (bO (ae 11) (ae 4)) (bO (ae 0) (ah 0))) as5 as6)
abbrev as8:Tree:=(.loop [bI 0] [] [aq 11] [] cg as7)
abbrev as9:Tree:=(.aC (bW (cL (cL (bO (ae 0) (ah 0)) (bR (aZ (ae 8) (ah 0)))) (bW (bR (aZ (ae 8) (ah 1))) (cG 0))) (cL (cL (aZ (ae 1) (ah 13)) (aZ (ae 8) (ah 4))) (bR (cG 0)))) (.ret (cY false) [] [] []) as8)
abbrev as_:Tree:=(.join (.aC (aZ (ae 8) (ah 0)) as1 as2) [aq 9,aq 10] [] mn as9)
abbrev ata:Tree:=(.aC (cL (aZ (ae 1) (ah 12)) (bW (aZ (ae 5) (ah 1)) (aZ (ae 5) (ah 2)))) (.ret (cY false) [] [] []) (.aC (bR (aZ (ae 5) (ah 1))) TN as_))
abbrev atb:Tree:=(.a1 (.sm 1) (.a1 (bQ (ah 0) (ae 4)) (.cl 25 (.b6 1 (ae 4) 11 0) (.agg [ag 1,aL 5,aq 6,aq 7,aL 8,ag 2,ag 3,ag 4,ba 0,ai 3 6 7,ai 4 8 9]) gL (.new (.wr (.aC (bR (aZ (ae 6) (ae 0))) TN ata))))))
abbrev atc:Tree:=(.aC (bR (cL (bQ (ae 2) (ah 1)) (bQ (ah 1) (.un (.wrap .i64) (bX (ae 2) (ae 3)))))) (.ret (cY false) [] [] []) (.again 0 [(.int .i64 (.un (.wrap .i64) (bX (ae 0) (ah 1))))] []))
abbrev atd:Tree:=(.aC (bR (cL (aZ (ae 2) (ah 1)) (aZ (ae 3) (ah 0)))) (.ret (cY false) [] [] []) (.again 0 [(.int .i64 (.un (.wrap .i64) (bX (ae 0) (ah 1))))] []))
abbrev ate:Tree:=(.aC (bR (cL (aZ (ae 2) (ah 0)) (aZ (ae 3) (ah 1)))) (.ret (cY false) [] [] []) (.again 0 [(.int .i64 (.un (.wrap .i64) (bX (ae 0) (ah 1))))] []))
abbrev atf:Tree:=(.aC (aZ (ae 1) (ah 13)) ate (.again 0 [(.int .i64 (.un (.wrap .i64) (bX (ae 0) (ah 1))))] []))
abbrev atg:Tree:=(.aC (aZ (ae 1) (ah 0)) atc (.aC (aZ (ae 1) (ah 11)) atd atf))
abbrev ath:Tree:=(.loop [bI 0,bI 0,bI 0] [] [aq 2,aq 3,aq 4] [] ⟨3,0,0,0,0,0,0,0⟩ (.aC (bO (ae 4) (aG 2)) atb atg))
abbrev ati:Tree:=(.join (.aC (bQ (ah 0) (ae 0)) as0 (.again 1 [di 0] [])) [aL 1] [] cg ath)
abbrev TO:Tree:=
(.new (.loop [(bI (-1))] [] [aq 0] [] cg (.aC (bO (ae 0) (aG 2)) ati (.ret (cY true) [] [] []))))
theorem atj:cN prog {cW with ei:=[⟨2,[.az 3]⟩,⟨10,[.az 5,.az 6,.az 7]⟩,⟨23,[.az 9]⟩],j3:=[⟨8,[.az 4]⟩,⟨20,[.az 5,.az 6]⟩]} f38 [k0] [] [] rC=some TO:=by kernel_rfl
theorem atk (ar aQ bz bJ cH cM:Nat) (t0:ByteArray) (a0 bn a2:Option Addr) (W:al) (R:Ending->World->Prop) (h:TO.ak prog W.w.heap.size R [] {N:=[ar,aQ,bz,bJ,cH,cM],T:=[t0],A:=[a0,bn,a2]} W):bK prog 38 #[.agg #[.string t0,.slice a0 ar aQ,.slice bn bz bJ,.slice a2 cH cM]] W R:=
 dP func38 _ _ {N:=[ar,aQ,bz,bJ,cH,cM],T:=[t0],A:=[a0,bn,a2]} _ atj (fun v aB=>by cases aB) h
abbrev atl:Tree:=(.again 0 [(.int .i64 (.un (.wrap .i64) (bX (ae 1) (ah 1)))),(.int .i64 (.un (.wrap .i64) (bX (ae 2) (ah 1))))] [])
abbrev atm:Tree:=(.again 0 [aq 1,(.int .i64 (.un (.wrap .i64) (bX (ae 2) (ah 1))))] [])
abbrev atn:Tree:=(.a1 (.sm 2) (.a1 (bQ (ah 0) (ae 2)) (.cl 3 (.b6 2 (ae 2) 4 0) (aq 3) cg (.aC (aZ (ae 3) (ae 0)) atl atm))))
abbrev TP:Tree:=
(.new (.loop [bI 0,bI 0] [] [aq 1,aq 2] [] mn (.aC (bO (ae 2) (aG 4)) atn (.ret (aq 1) [] [] []))))
theorem ato:cN prog {cW with ei:=[⟨3,[.az 5,.az 6]⟩]} f76 [k0,aq 0] [] [] tu=some TP:=by kernel_rfl
theorem atp (i0:Int) (ar aQ bz bJ cH cM:Nat) (t0:ByteArray) (a0 bn a2:Option Addr) (W:al) (R:Ending->World->Prop) (h:TP.ak prog W.w.heap.size R [] {aV:=[i0],N:=[ar,aQ,bz,bJ,cH,cM],T:=[t0],A:=[a0,bn,a2]} W):bK prog 76 #[.agg #[.string t0,.slice a0 ar aQ,.slice bn bz bJ,.slice a2 cH cM],.int .i64 i0] W R:=
 dP func76 _ _ {aV:=[i0],N:=[ar,aQ,bz,bJ,cH,cM],T:=[t0],A:=[a0,bn,a2]} _ ato (fun v aB=>by cases aB) h
abbrev atq:Tree:=(.again 0 [(.int .i64 (.un (.wrap .i64) (bX (ae 1) (ah 1)))),(.int .i64 (.un (.wrap .i64) (bX (ae 2) (ah 1))))] [])
abbrev atr:Tree:=(.again 0 [aq 1,(.int .i64 (.un (.wrap .i64) (bX (ae 2) (ah 1))))] [])
abbrev ats:Tree:=(.a1 (.sm 2) (.a1 (bQ (ah 0) (ae 2)) (.cl 3 (.b6 2 (ae 2) 4 1) (aq 3) cg (.aC (aZ (ae 3) (ae 0)) atq atr))))
abbrev TQ:Tree:=
(.new (.loop [bI 0,bI 0] [] [aq 1,aq 2] [] mn (.aC (bO (ae 2) (aG 4)) ats (.ret (aq 1) [] [] []))))
theorem att:cN prog {cW with ei:=[⟨3,[.az 5,.az 6]⟩]} f75 [k0,aq 0] [] [] tu=some TQ:=by kernel_rfl
theorem atu (i0:Int) (ar aQ bz bJ cH cM:Nat) (t0:ByteArray) (a0 bn a2:Option Addr) (W:al) (R:Ending->World->Prop) (h:TQ.ak prog W.w.heap.size R [] {aV:=[i0],N:=[ar,aQ,bz,bJ,cH,cM],T:=[t0],A:=[a0,bn,a2]} W):bK prog 75 #[.agg #[.string t0,.slice a0 ar aQ,.slice bn bz bJ,.slice a2 cH cM],.int .i64 i0] W R:=
 dP func75 _ _ {aV:=[i0],N:=[ar,aQ,bz,bJ,cH,cM],T:=[t0],A:=[a0,bn,a2]} _ att (fun v aB=>by cases aB) h
abbrev Cx:Tree:=(.eM [Ts] (.again 0 [(.int .i64 (.un (.wrap .i64) (bX (ae 0) (ah 1))))] []))
abbrev atv:Tree:=(.cl 5 (.b6 1 (ae 2) 11 1) (aL 5) cg (.aC (aZ (ae 5) (ah 12)) Cx (.again 1 [] [])))
abbrev atw:Tree:=(.a1 (bW (bR (bQ (ah 0) (ae 2))) (bQ (ah 0) (ae 2))) (.a1 (bW (bR (bQ (ah 0) (ae 2))) (bO (ae 2) (aG 2))) (.aC (bQ (ah 0) (ae 2)) atv (.again 1 [] []))))
abbrev atx:Tree:=(.call 76 [k0,aq 0] [] [] [] (aq 6) cg (.aC (aZ (ae 6) (ah 0)) (.ret (cY false) [] [] []) Cx))
abbrev aty:Tree:=(.aC (cL (bR (aZ (ae 5) (ah 0))) (bR (bW (bW (bW (aZ (ae 1) (ah 2)) (aZ (ae 1) (ah 13))) (aZ (ae 1) (ah 15))) (cL (aZ (ae 1) (ah 5)) (aZ (ae 4) (ah 6)))))) atx (.aC (aZ (ae 5) (ah 0)) (.ret (cY false) [] [] []) Cx))
abbrev atz:Tree:=(.call 75 [k0,aq 0] [] [] [] (aq 5) cg aty)
abbrev atA:Tree:=(.call 76 [k0,aq 0] [] [] [] (aq 5) cg (.aC (aZ (ae 5) (ah 0)) (.ret (cY false) [] [] []) Cx))
abbrev atB:Tree:=(.aC (bR (bW (bW (bW (aZ (ae 1) (ah 2)) (aZ (ae 1) (ah 13))) (aZ (ae 1) (ah 15))) (cL (aZ (ae 1) (ah 5)) (aZ (ae 4) (ah 6))))) atA Cx)
abbrev atC:Tree:=(.aC (bR (bW (bW (bW (aZ (ae 1) (ah 1)) (aZ (ae 1) (ah 15))) (aZ (ae 1) (ah 13))) (cL (aZ (ae 1) (ah 6)) (aZ (ae 4) (ah 6))))) atz atB)
abbrev atD:Tree:=(.a1 (.sm 1) (.a1 (bQ (ah 0) (ae 0)) (.cl 25 (.b6 1 (ae 0) 11 0) Tv gL (.new (.wr (.join atw [] [] D1 atC))))))
abbrev atE:Tree:=(.eM [Kg] (.again 2 [aq 7,(.int .i64 (.un (.wrap .i64) (bX (ae 8) (ah 1))))] []))
abbrev atF:Tree:=(.aC (cG 1) (.again 3 [(.int .i64 (.un (.wrap .i64) (bX (ae 7) (ah 1))))] []) (.again 3 [aq 7] []))
abbrev atG:Tree:=(.eM [⟨3,25,[ag 6,aL 12,aq 13,aq 14,aL 15,ag 7,ag 8,ag 9,ba 2,ai 5 10 11,ai 6 12 13]⟩,Kg] (.again 2 [aq 11,(.int .i64 (.un (.wrap .i64) (bX (ae 8) (ah 1))))] []))
abbrev atH:Tree:=(.aC (bR (aZ (ae 16) (ah 1))) (.ret (cY false) [] [] []) atG)
abbrev atI:Tree:=(.call 75 [k0,aq 10] [] [] [] (aq 16) cg atH)
abbrev atJ:Tree:=(.new (.wr (.aC (aZ (ae 12) (ah 6)) atI (.ret (cY false) [] [] []))))
abbrev atK:Tree:=(.a1 (bQ (ah 0) (ae 10)) (.a1 (bO (ae 10) (aG 2)) (.cl 25 (.b6 1 (ae 10) 11 0) (.agg [ag 6,aL 12,aq 13,aq 14,aL 15,ag 7,ag 8,ag 9,ba 2,ai 5 10 11,ai 6 12 13]) gL atJ)))
abbrev atL:Tree:=(.eM [Kg] (.again 2 [aq 11,(.int .i64 (.un (.wrap .i64) (bX (ae 8) (ah 1))))] []))
abbrev atM:Tree:=(.aC (bW (cL (cL (bO (ah 1) (ae 6)) (bR (cG 1))) (eW (b9 5) (.bN []))) (cL (bR (bO (ah 1) (ae 6))) (bW (cG 1) (bR (eW (b9 5) (.bN [])))))) (.ret (cY false) [] [] []) (.aC (aZ (ae 2) (ah 10)) atK atL))
abbrev atN:Tree:=(.new (.wr (.aC (bR (aZ (ae 9) (ae 1))) atE (.join atF [aq 11] [] cg atM))))
abbrev atO:Tree:=(.a1 (.sm 2) (.a1 (bQ (ah 0) (ae 8)) (.cl 33 (.b6 2 (ae 8) 4 0) (.agg [aq 9,aq 10,ag 5,ba 1]) rB atN)))
abbrev zQ:Tree:=(.eM [Ke] (.again 1 [(.int .i64 (.un (.wrap .i64) (bX (ae 1) (ah 1))))] []))
abbrev atP:Tree:=(.call 76 [k0,aq 1] [] [] [] (aq 9) cg (.aC (bO (ae 9) (ah 2)) (.ret (cY false) [] [] []) zQ))
abbrev atQ:Tree:=(.eM [Tq] (.again 3 [(.int .i64 (.un (.wrap .i64) (bX (ae 9) (ah 1)))),(.int .i64 (.un (.wrap .i64) (bX (ae 10) (ah 1))))] []))
abbrev atS:Tree:=(.eM [Tq] (.again 3 [aq 9,(.int .i64 (.un (.wrap .i64) (bX (ae 10) (ah 1))))] []))
abbrev atT:Tree:=(.new (.wr (.aC (cL (cL (cL (aZ (ae 11) (ah 6)) (aZ (ae 14) (ah 6))) (aZ (ae 12) (ae 3))) (eW (b9 6) (b9 2))) atQ atS)))
abbrev atU:Tree:=(.a1 (bQ (ah 0) (ae 10)) (.cl 25 (.b6 1 (ae 10) 11 0) (.agg [ag 5,aL 11,aq 12,aq 13,aL 14,ag 6,ag 7,ag 8,ba 1,ai 5 10 11,ai 6 12 13]) gL atT))
abbrev atV:Tree:=(.aC (bR (aZ (ae 9) (ah 1))) (.ret (cY false) [] [] []) zQ)
abbrev atW:Tree:=(.loop [bI 0,bI 0] [] [aq 9,aq 10] [] mn (.aC (bO (ae 10) (aG 2)) atU atV))
abbrev atX:Tree:=(.aC (cL (aZ (ae 2) (ah 5)) (aZ (ae 5) (ah 6))) atW zQ)
abbrev atY:Tree:=(.aC (cL (bR (bO (ah 1) (ae 7))) (aZ (ae 2) (ah 10))) atP (.aC (bO (ah 1) (ae 7)) (.ret (cY false) [] [] []) atX))
abbrev atZ:Tree:=(.loop [bI 0,bI 0] [] [aq 7,aq 8] [] mn (.aC (bO (ae 8) (aG 4)) atO atY))
abbrev at0:Tree:=(.call 76 [k0,aq 1] [] [] [] (aq 6) cg atZ)
abbrev at1:Tree:=(.eM [Kh] (.again 2 [aq 6,(.int .i64 (.un (.wrap .i64) (bX (ae 7) (ah 1))))] []))
abbrev at2:Tree:=(.aC (cG 1) (.again 3 [(.int .i64 (.un (.wrap .i64) (bX (ae 6) (ah 1))))] []) (.again 3 [aq 6] []))
abbrev at3:Tree:=(.eM [⟨3,25,[ag 6,aL 11,aq 12,aq 13,aL 14,ag 7,ag 8,ag 9,ba 2,ai 5 10 11,ai 6 12 13]⟩,Kh] (.again 2 [aq 10,(.int .i64 (.un (.wrap .i64) (bX (ae 7) (ah 1))))] []))
abbrev at4:Tree:=(.aC (bR (aZ (ae 15) (ah 1))) (.ret (cY false) [] [] []) at3)
abbrev at5:Tree:=(.call 75 [k0,aq 9] [] [] [] (aq 15) cg at4)
abbrev at6:Tree:=(.new (.wr (.aC (aZ (ae 11) (ah 6)) at5 (.ret (cY false) [] [] []))))
abbrev at7:Tree:=(.a1 (bQ (ah 0) (ae 9)) (.a1 (bO (ae 9) (aG 2)) (.cl 25 (.b6 1 (ae 9) 11 0) (.agg [ag 6,aL 11,aq 12,aq 13,aL 14,ag 7,ag 8,ag 9,ba 2,ai 5 10 11,ai 6 12 13]) gL at6)))
abbrev aua:Tree:=(.eM [Kh] (.again 2 [aq 10,(.int .i64 (.un (.wrap .i64) (bX (ae 7) (ah 1))))] []))
abbrev aub:Tree:=(.aC (bW (cG 1) (bR (eW (b9 5) (.bN [])))) (.ret (cY false) [] [] []) (.aC (aZ (ae 2) (ah 10)) at7 aua))
abbrev auc:Tree:=(.new (.wr (.aC (bR (aZ (ae 8) (ae 1))) at1 (.join at2 [aq 10] [] cg aub))))
abbrev aud:Tree:=(.a1 (.sm 2) (.a1 (bQ (ah 0) (ae 7)) (.cl 33 (.b6 2 (ae 7) 4 0) (.agg [aq 8,aq 9,ag 5,ba 1]) rB auc)))
abbrev aue:Tree:=(.call 76 [k0,aq 1] [] [] [] (aq 8) cg (.aC (bO (ae 8) (ah 2)) (.ret (cY false) [] [] []) zQ))
abbrev auf:Tree:=(.eM [Tr] (.again 3 [(.int .i64 (.un (.wrap .i64) (bX (ae 8) (ah 1)))),(.int .i64 (.un (.wrap .i64) (bX (ae 9) (ah 1))))] []))
abbrev aug:Tree:=(.eM [Tr] (.again 3 [aq 8,(.int .i64 (.un (.wrap .i64) (bX (ae 9) (ah 1))))] []))
abbrev auh:Tree:=(.new (.wr (.aC (cL (cL (cL (aZ (ae 10) (ah 6)) (aZ (ae 13) (ah 6))) (aZ (ae 11) (ae 3))) (eW (b9 6) (b9 2))) auf aug)))
abbrev aui:Tree:=(.a1 (bQ (ah 0) (ae 9)) (.cl 25 (.b6 1 (ae 9) 11 0) (.agg [ag 5,aL 10,aq 11,aq 12,aL 13,ag 6,ag 7,ag 8,ba 1,ai 5 10 11,ai 6 12 13]) gL auh))
abbrev auj:Tree:=(.aC (bR (aZ (ae 8) (ah 1))) (.ret (cY false) [] [] []) zQ)
abbrev auk:Tree:=(.loop [bI 0,bI 0] [] [aq 8,aq 9] [] mn (.aC (bO (ae 9) (aG 2)) aui auj))
abbrev aul:Tree:=(.aC (cL (aZ (ae 2) (ah 5)) (aZ (ae 5) (ah 6))) auk zQ)
abbrev aum:Tree:=(.aC (cL (bR (bO (ah 1) (ae 6))) (aZ (ae 2) (ah 10))) aue (.aC (bO (ah 1) (ae 6)) (.ret (cY false) [] [] []) aul))
abbrev aun:Tree:=(.loop [bI 0,bI 0] [] [aq 6,aq 7] [] mn (.aC (bO (ae 7) (aG 4)) aud aum))
abbrev auo:Tree:=(.new (.wr (.aC (bW (aZ (ae 2) (ah 7)) (aZ (ae 2) (ah 9))) at0 aun)))
abbrev aup:Tree:=(.a1 (.sm 1) (.a1 (bQ (ah 0) (ae 1)) (.cl 25 (.b6 1 (ae 1) 11 0) Tw gL auo)))
abbrev auq:Tree:=(.loop [bI 0] [] [aq 1] [] cg (.aC (bO (ae 1) (aG 2)) aup (.ret (cY true) [] [] [])))
abbrev TR:Tree:=
(.new (.loop [bI 0] [] [aq 0] [] cg (.aC (bO (ae 0) (aG 2)) atD auq)))
theorem aur:cN prog {cW with ei:=[⟨2,[.az 3]⟩,⟨11,[.az 7]⟩,⟨17,[.az 10,.az 11]⟩,⟨34,[.az 14,.az 15]⟩],j3:=[⟨6,[]⟩,⟨23,[.az 10]⟩]} f39 [k0] [] [] rC=some TR:=by kernel_rfl
theorem aus (ar aQ bz bJ cH cM:Nat) (t0:ByteArray) (a0 bn a2:Option Addr) (W:al) (R:Ending->World->Prop) (h:TR.ak prog W.w.heap.size R [] {N:=[ar,aQ,bz,bJ,cH,cM],T:=[t0],A:=[a0,bn,a2]} W):bK prog 39 #[.agg #[.string t0,.slice a0 ar aQ,.slice bn bz bJ,.slice a2 cH cM]] W R:=
 dP func39 _ _ {N:=[ar,aQ,bz,bJ,cH,cM],T:=[t0],A:=[a0,bn,a2]} _ aur (fun v aB=>by cases aB) h
abbrev aut:Tree:=(.cl 5 (.b6 0 (ae 0) 4 1) (aL 1) cg (.ret (aL 1) [] [] []))
abbrev auu:Tree:=(.aC (eW (b9 1) (b9 0)) aut (.again 0 [(.int .i64 (.un (.wrap .i64) (bX (ae 0) (ah 1))))] []))
abbrev auv:Tree:=(.a1 (.sm 0) (.a1 (bQ (ah 0) (ae 0)) (.cl 9 (.b6 0 (ae 0) 4 0) (ag 1) ie auu)))
abbrev TS:Tree:=
(.loop [bI 0] [] [aq 0] [] cg (.aC (bO (ae 0) (aG 0)) auv (.ret (di 0) [] [] [])))
theorem auw:cN prog {cW with ei:=[⟨2,[.az 5]⟩]} f77 [ai 0 0 1,ag 0] [] [] DZ=some TS:=by kernel_rfl
theorem auy (ar aQ:Nat) (t0:ByteArray) (a0:Option Addr) (W:al) (R:Ending->World->Prop) (h:TS.ak prog W.w.heap.size R [] {N:=[ar,aQ],T:=[t0],A:=[a0]} W):bK prog 77 #[.slice a0 ar aQ,.string t0] W R:=
 dP func77 _ _ {N:=[ar,aQ],T:=[t0],A:=[a0]} _ auw (fun v aB=>by cases aB) h
abbrev auz:Tree:=(.call 41 [ag 3,ai 6 12 13,di 1] [] [] [] (aq 5) cg (.ret (aq 5) [] [] []))
abbrev auA:Tree:=(.call 41 [ag 3,ai 6 12 13,di 2] [] [] [] (aq 5) cg (.ret (aq 5) [] [] []))
abbrev auB:Tree:=(.jZ 41 [ag 3,ai 6 12 13,aL 6] [] [] (aq 7) cg (.grow (.ret (aq 7) [] [] [])))
abbrev auC:Tree:=(.jZ 77 [ai 6 12 13,ag 4] [] [] (aL 6) cg auB)
abbrev auD:Tree:=(.call 77 [ai 6 12 13,ag 4] [] [] [] (aL 5) cg (.aC (aZ (ae 5) (ah 0)) (.ret (bI 22) [] [] []) auC))
abbrev auE:Tree:=(.again 0 [aq 6,(.int .i64 (.un (.wrap .i64) (bX (ae 6) (ah 1))))] [])
abbrev auF:Tree:=(.again 0 [aq 5,(.int .i64 (.un (.wrap .i64) (bX (ae 6) (ah 1))))] [])
abbrev auG:Tree:=(.a1 (.sm 0) (.a1 (bQ (ah 0) (ae 6)) (.cl 9 (.b6 0 (ae 6) 4 0) (ag 5) ie (.grow (.aC (eW (b9 5) (b9 2)) auE auF)))))
abbrev auH:Tree:=(.new (.wr (.eM [⟨2,25,[ag 5,aL 8,aq 9,aq 10,aL 11,ag 6,ag 7,ag 8,ba 2,ai 9 18 19,ai 10 20 21]⟩] (.again 1 [(.bool (bW (cG 1) (cL (cL (aZ (ae 9) (ah (-1))) (aZ (ae 8) (ah 1))) (aZ (ae 11) (ah 0))))),(.int .i64 (.un (.wrap .i64) (bX (ae 7) (ah 1))))] []))))
abbrev auI:Tree:=(.a1 (.sm 8) (.a1 (bQ (ah 0) (ae 7)) (.a1 (bO (ae 7) (aG 16)) (.cl 25 (.b6 8 (ae 7) 11 0) (.agg [ag 5,aL 8,aq 9,aq 10,aL 11,ag 6,ag 7,ag 8,ba 2,ai 9 18 19,ai 10 20 21]) gL auH))))
abbrev auJ:Tree:=(.cl 28 (.b6 0 (ae 5) 4 2) (ai 8 16 17) ga auI)
abbrev auK:Tree:=(.aC (bR (aZ (ae 9) (ae 10))) (.ret (bI 23) [] [] []) (.again 2 [(.int .i64 (.un (.wrap .i64) (bX (ae 8) (ah 1))))] []))
abbrev auL:Tree:=(.grow (.aC (bW (aZ (ae 9) (ah 0)) (aZ (ae 10) (ah 0))) (.ret (bI 22) [] [] []) auK))
abbrev auM:Tree:=(.jZ 77 [ai 6 12 13,ag 6] [] [] (aL 10) cg auL)
abbrev auN:Tree:=(.jZ 77 [ai 8 16 17,ag 5] [] [] (aL 9) cg (.cl 9 (.b6 5 (ae 8) 1 0) (ag 6) ie auM))
abbrev auO:Tree:=(.a1 (.sm 5) (.a1 (bQ (ah 0) (ae 8)) (.cl 9 (.b6 5 (ae 8) 1 0) (ag 5) ie auN)))
abbrev auP:Tree:=(.cl 22 (.b6 0 (ae 5) 4 1) (ai 8 16 17) ga auO)
abbrev auQ:Tree:=(.loop [bI 0] [] [aq 8] [] cg (.aC (bO (ae 8) (aG 10)) auP (.ret (bI 0) [] [] [])))
abbrev auR:Tree:=(.aC (bO (ae 7) (aG 14)) auJ (.aC (bR (cG 1)) (.ret (bI 22) [] [] []) auQ))
abbrev auS:Tree:=(.a1 (.sm 0) (.a1 (bQ (ah 0) (ae 5)) (.a1 (bO (ae 5) (aG 0)) (.cl 28 (.b6 0 (ae 5) 4 2) (ai 7 14 15) ga auR))))
abbrev auT:Tree:=(.loop [cY false,bI 0] [] [ba 1,aq 7] [] ⟨1,0,1,0,0,0,0,0⟩ auS)
abbrev auU:Tree:=(.aC (cL (bO (ae 6) (aG 0)) (bO (ae 5) (ah 0))) auG (.aC (bO (ae 5) (ah 0)) (.ret (bI 22) [] [] []) auT))
abbrev auV:Tree:=(.loop [(bI (-1)),bI 0] [] [aq 5,aq 6] [] mn auU)
abbrev auW:Tree:=(.aC (bR (aZ (ae 1) (ah 14))) (.ret (bI 0) [] [] []) auV)
abbrev auX:Tree:=(.aC (bW (aZ (ae 4) (ah 3)) (aZ (ae 1) (ah 12))) auA (.aC (aZ (ae 1) (ah 4)) auD auW))
abbrev auY:Tree:=(.new (.wr (.call 42 [tW,aq 0] [] [] [] (ai 6 12 13) ga (.aC (aZ (ae 4) (ah 2)) auz auX))))
abbrev TT:Tree:=
(.new (.a1 (.sm 2) (.a1 (bQ (ah 0) (ae 0)) (.a1 (bO (ae 0) (aG 4)) (.cl 25 (.b6 2 (ae 0) 11 0) (.agg [ag 1,aL 1,aq 2,aq 3,aL 4,ag 2,ag 3,ag 4,ba 0,ai 4 8 9,ai 5 10 11]) gL auY)))))
theorem auZ:cN prog {cW with ei:=[⟨15,[.az 9,.az 10]⟩,⟨23,[.az 11,.az 12]⟩,⟨30,[.az 14]⟩]} f40 [ai 0 0 1,tW,aq 0] [] [] ⟨1,8,0,1,0,4,0,0⟩=some TT:=by kernel_rfl
theorem au0 (i0:Int) (ar aQ bz bJ cH cM e0 e1:Nat) (t0:ByteArray) (a0 bn a2 a3:Option Addr) (W:al) (R:Ending->World->Prop) (h:TT.ak prog W.w.heap.size R [] {aV:=[i0],N:=[ar,aQ,bz,bJ,cH,cM,e0,e1],T:=[t0],A:=[a0,bn,a2,a3]} W):bK prog 40 #[.slice a0 ar aQ,.agg #[.string t0,.slice bn bz bJ,.slice a2 cH cM,.slice a3 e0 e1],.int .i64 i0] W R:=
 dP func40 _ _ {aV:=[i0],N:=[ar,aQ,bz,bJ,cH,cM,e0,e1],T:=[t0],A:=[a0,bn,a2,a3]} _ auZ (fun v aB=>by cases aB) h
abbrev au1:Tree:=(.aC (bR (aZ (ae 2) (ah 0))) (.ret (aq 2) [] [] []) (.again 0 [(.int .i64 (.un (.wrap .i64) (bX (ae 1) (ah 1))))] []))
abbrev au2:Tree:=(.call 40 [ai 0 0 1,tW,aq 1] [] [] [] (aq 2) cg au1)
abbrev au3:Tree:=(.grow (.aC (bR (aZ (ae 4) (ah 0))) (.ret (aq 4) [] [] []) (.again 1 [(.int .i64 (.un (.wrap .i64) (bX (ae 2) (ah 1))))] [])))
abbrev au4:Tree:=(.jZ 41 [ag 2,ai 4 8 9,di 2] [] [] (aq 4) cg au3)
abbrev au5:Tree:=(.grow (.call 42 [tW,aq 3] [] [] [] (ai 4 8 9) ga au4))
abbrev au6:Tree:=(.cl 9 (.b6 3 (ae 2) 4 2) (ag 2) ie (.cl 3 (.b6 3 (ae 2) 4 0) (aq 3) cg au5))
abbrev au7:Tree:=(.aC (bR (eW (b9 1) (.bN []))) au6 (.again 1 [(.int .i64 (.un (.wrap .i64) (bX (ae 2) (ah 1))))] []))
abbrev au8:Tree:=(.a1 (.sm 3) (.a1 (bQ (ah 0) (ae 2)) (.cl 9 (.b6 3 (ae 2) 4 2) (ag 1) ie au7)))
abbrev au9:Tree:=(.loop [bI 0] [] [aq 2] [] cg (.aC (bO (ae 2) (aG 6)) au8 (.ret (bI 0) [] [] [])))
abbrev au_:Tree:=(.loop [bI 0] [] [aq 1] [] cg (.aC (bO (ae 1) (aG 4)) au2 au9))
abbrev ava:Tree:=(.call 39 [tW] [] [] [] (ba 2) dv (.aC (bR (cG 2)) (.ret (bI 4) [] [] []) au_))
abbrev avb:Tree:=(.call 38 [tW] [] [] [] (ba 1) dv (.aC (cG 1) ava (.ret (bI 4) [] [] [])))
abbrev avc:Tree:=(.call 37 [tW] [] [] [] (ba 0) dv (.aC (cG 0) avb (.ret (bI 4) [] [] [])))
abbrev avd:Tree:=(.aC (bR (aZ (ae 0) (ah 0))) (.ret (aq 0) [] [] []) avc)
abbrev TU:Tree:=
(.new (.call 36 [tW] [] [] [] (aq 0) cg avd))
theorem ave:cN prog {cW with ei:=[⟨7,[.az 6]⟩,⟨13,[.az 7]⟩]} f13 [ai 0 0 1,tW] [] [] ⟨0,8,0,1,0,4,0,0⟩=some TU:=by kernel_rfl
theorem avf (ar aQ bz bJ cH cM e0 e1:Nat) (t0:ByteArray) (a0 bn a2 a3:Option Addr) (W:al) (R:Ending->World->Prop) (h:TU.ak prog W.w.heap.size R [] {N:=[ar,aQ,bz,bJ,cH,cM,e0,e1],T:=[t0],A:=[a0,bn,a2,a3]} W):bK prog 13 #[.slice a0 ar aQ,.agg #[.string t0,.slice bn bz bJ,.slice a2 cH cM,.slice a3 e0 e1]] W R:=
 dP func13 _ _ {N:=[ar,aQ,bz,bJ,cH,cM,e0,e1],T:=[t0],A:=[a0,bn,a2,a3]} _ ave (fun v aB=>by cases aB) h
theorem avg (s:ab.aM) (i:Nat) (h:i<s.length):aR (⟨s.toArray⟩:ByteArray).data.toList i 0=s[i]:=by
 have e:(⟨s.toArray⟩:ByteArray).data.toList=s:=by simp
 rw[e];clear e;induction s generalizing i with
 |nil=>simp at h
 |cons c s cF=>cases i with
  |zero=>rfl
  |succ i=>exact cF i (by simpa using h)
def FD (i:Nat) (b:UInt8):Bool:=!(er 97 (b.toNat:Int)&&er (b.toNat:Int) 122)&&((i==0)||(!((b.toNat:Int)==95)&&(eg (b.toNat:Int) 48||eg 57 (b.toNat:Int))))
theorem avh (i:Nat) (b:UInt8):(ab.low b||(decide (0<i)&&ab.lR b))= !FD i b:=by
 unfold FD ab.low ab.lR er eg;rw[oc];simp only[h8,bT,decide_eq_true_eq,hq,r1,k1,kt,beq_eq_false_iff_ne,beq_iff_eq,decide_eq_false_iff_not];omega
theorem zR (s:ab.aM) (W:al):da prog 68 #[.string ⟨s.toArray⟩] W (.bool (ab.name s)):=by
 refine aqY ⟨s.toArray⟩ W.all _ ?_
 have aw:ab.qT.contains s=((s==[121,101,115]||s==[110,111])||s==[108,101,110]):=by
  unfold ab.qT;simp only[List.contains_cons,List.contains_nil,Bool.or_false,Bool.or_assoc]
 refine aK (fun aJ=>aP fun _ _ _=>⟨_,rfl,?_⟩) fun aJ=>?_
 ·have aJ:((((eg (s.length:Int) 1||eg 12 (s.length:Int))||s==[121,101,115])||s==[110,111])||s==[108,101,110])=true:=by
   simp only[U,lH] at aJ;exact aJ
  simp only[h8] at aJ;unfold ab.name;rcases aJ with (((c|c)|c)|c)|c
  ·simp only[cX] at c;have:s=[]:=sW.1 (by omega);subst this;rfl
  ·simp only[cX] at c;rw[decide_eq_true (by omega:12<s.length),gf];rfl
  ·rw[aw,c];simp;rfl
  ·rw[aw,c];simp;rfl
  ·rw[aw,c];simp;rfl
 ·have aJ:((((eg (s.length:Int) 1||eg 12 (s.length:Int))||s==[121,101,115])||s==[110,111])||s==[108,101,110])=false:=by
   simp only[U,lH] at aJ;exact aJ
  simp only[k1,c7] at aJ;obtain⟨⟨⟨⟨b0,bZ⟩,eG⟩,gu⟩,gU⟩:=aJ
  have iA:(s==[])=false:=by
   rw[beq_eq_false_iff_ne];intro e;subst e;simp at b0
  have w3:ab.name s=ab.nameAt 0 s:=by
   unfold ab.name;rw[aw,eG,gu,gU,iA,decide_eq_false (by omega:¬12<s.length)];rfl
  refine dJ (fun aj vs ls _=>∃i:Nat,vs=[.int .i64 (i:Nat)]∧ls=[]∧i<=s.length∧aj=s.length-i∧ab.nameAt 0 s=ab.nameAt i (s.drop i)) s.length ⟨0,by simp[U],rfl,dr _,rfl,rfl⟩ ?_;rintro aj vs ls cq bo ⟨i,rfl,rfl,a8,rfl,bl⟩;refine⟨(i:Int),rfl,rfl,fun _=>aK (fun c3=>?_) fun c3=>aP fun _ _ _=>⟨_,rfl,?_⟩⟩
  ·simp only[U,cX,lH] at c3;have cp:i<s.length:=by omega
   have hP:ab.nameAt 0 s=((ab.low s[i]||(decide (0<i)&&ab.lR s[i]))&&ab.nameAt (i+1) (s.drop (i+1))):=by rw[bl,h4 cp];rfl
   rw[avh] at hP
   have aH:∀x,((!(er 97 ((aR (⟨s.toArray⟩:ByteArray).data.toList i 0).toNat:Int)&&er ((aR (⟨s.toArray⟩:ByteArray).data.toList i 0).toNat:Int) 122))&&(((i:Int)==0)||(!(((aR (⟨s.toArray⟩:ByteArray).data.toList i 0).toNat:Int)==95)&&(eg ((aR (⟨s.toArray⟩:ByteArray).data.toList i 0).toNat:Int) 48||eg 57 ((aR (⟨s.toArray⟩:ByteArray).data.toList i 0).toNat:Int)))))=x->FD i s[i]=x:=by
    intro x j;rw[avg s i cp] at j;rw[<-j];unfold FD;have:((i:Int)==0)=(i==0):=by rw[oc];simp
    rw[this]
   refine a6 (eZ (by simp only[U];omega)) (aK (fun c4=>aP fun _ _ _=>⟨_,rfl,?_⟩) fun c4=>b1 ⟨s.length-(i+1),by omega,i+1,?_,rfl,by omega,rfl,?_⟩)
   ·have:=aH _ (by simpa only[U] using c4);rw[w3,hP,this];rfl
   ·simp only[U];rw[cE (by omega) (by omega)];rfl
   ·have:=aH _ (by simpa only[U] using c4);rw[hP,this];rfl
  ·simp only[U,c7,lH] at c3;rw[w3,bl,o1 (by omega)];rfl
theorem avi (k e:Int) (W:al):da prog 123 #[.int .u8 k,.int .u8 e] W (.bool (bq.event k e)):=by
 refine aq6 k e W.all _ ?_;have I:∀{x:Bool} {n:Int},((k==n)=x)->(x=true->k=n)∧(x=false->¬k=n):=fun h=>⟨fun j=>by rw[j] at h;simpa using h,fun j=>by rw[j] at h;simpa using h⟩
 refine aK (fun c=>aP fun _ _ _=>⟨_,rfl,?_⟩) fun c=>aK (fun d=>aP fun _ _ _=>⟨_,rfl,?_⟩) fun d=>aK (fun f=>aP fun _ _ _=>⟨_,rfl,?_⟩) fun f=>aK (fun g=>aP fun _ _ _=>⟨_,rfl,?_⟩) fun g=>aK (fun h=>aP fun _ _ _=>⟨_,rfl,?_⟩) fun h=>aP fun _ _ _=>⟨_,rfl,?_⟩
 ·have c:k=1:=by simpa[U] using c
  unfold bq.event;rw[if_pos c];rfl
 ·have c:¬k=1:=by simpa[U] using c
  have d:k=2:=by simpa[U] using d
  unfold bq.event;rw[if_neg c,if_pos d];rfl
 ·have c:¬k=1:=by simpa[U] using c
  have d:¬k=2:=by simpa[U] using d
  have f:k=5:=by simpa[U] using f
  unfold bq.event;rw[if_neg c,if_neg d,if_pos f];rfl
 ·have c:¬k=1:=by simpa[U] using c
  have d:¬k=2:=by simpa[U] using d
  have f:¬k=5:=by simpa[U] using f
  have g:k=6:=by simpa[U] using g
  unfold bq.event;rw[if_neg c,if_neg d,if_neg f,if_pos g];rfl
 ·have c:¬k=1:=by simpa[U] using c
  have d:¬k=2:=by simpa[U] using d
  have f:¬k=5:=by simpa[U] using f
  have g:¬k=6:=by simpa[U] using g
  have h:k=15:=by simpa[U] using h
  unfold bq.event;rw[if_neg c,if_neg d,if_neg f,if_neg g,if_pos h];rfl
 ·have c:¬k=1:=by simpa[U] using c
  have d:¬k=2:=by simpa[U] using d
  have f:¬k=5:=by simpa[U] using f
  have g:¬k=6:=by simpa[U] using g
  have h:¬k=15:=by simpa[U] using h
  unfold bq.event;rw[if_neg c,if_neg d,if_neg f,if_neg g,if_neg h];rfl
theorem avj (k:Int) (W:al):da prog 74 #[.int .u8 k] W (.bool (ab.act k)):=by
 refine aq8 k W.all _ (aP fun _ _ _=>⟨_,rfl,?_⟩);simp only[U,ab.act,List.contains_cons,List.contains_nil,Bool.or_false,Bool.or_assoc]
theorem Kj (k:Int) (W:al):da prog 72 #[.int .u8 k] W (.bool (ab.scope k)):=by
 refine aq_ k W.all _ (aP fun _ _ _=>⟨_,rfl,?_⟩);simp only[U,ab.scope,List.contains_cons,List.contains_nil,Bool.or_false,Bool.or_assoc]
theorem avk (f:ab.hQ) (W:al):da prog 71 #[.agg (ko f).toArray] W (.int .i64 (ab.km f)):=by
 refine arR f.dY f.to f.gN ⟨f.cond.toArray⟩ W.all _ ?_;refine bY fun m W1 _ bM=>aK (fun c=>aP fun _ _ _=>⟨_,rfl,?_⟩) fun c=>aK (fun d=>aP fun _ _ _=>⟨_,rfl,?_⟩) fun d=>aP fun _ _ _=>⟨_,rfl,?_⟩
 ·have c:100<f.cond.length:=by simp only[U,lH,cX] at c;omega
  unfold ab.km;rw[if_pos c];rfl
 ·have c:¬100<f.cond.length:=by simp only[U,lH,c7] at c;omega
  have d:((decide (f.dY<0)||decide (f.to<0))||(f.gN&&!(f.cond==[])))=true:=d;unfold ab.km;rw[if_neg c,if_pos d];rfl
 ·have c:¬100<f.cond.length:=by simp only[U,lH,c7] at c;omega
  have d:((decide (f.dY<0)||decide (f.to<0))||(f.gN&&!(f.cond==[])))=false:=d;unfold ab.km;rw[if_neg c,d];rfl
theorem Kk (p:cP) (i:Nat) (W:al) (hp:fw p W) (a8:i<p.ao.length):da prog 80 #[.agg (gA p).toArray,.int .i64 (i:Nat)] W (.int .i64 (au.dS p.av i)):=by
 have hp:=hp.ext W.dw;have h5:=hp.h6;refine ar8 (i:Int) p.vars.length p.bA p.ao.length p.eF p.bj.length p.ef ⟨p.aT.toArray⟩ p.bx p.eL p.ea W.all _ ?_;have j:p.ao[i]? =some p.ao[i]:=dn a8;generalize p.ao[i]=v at j;have fW:au.dc p.av i=v.n:=kZ j;refine bY fun m W1 _ bM=>a6 ?_ (a6 ?_ (a6 ?_ (cI ⟨v.n.bp,fun cV bU=>?_,aK (fun c=>aP fun _ _ _=>⟨_,rfl,?_⟩) fun c=>aP fun _ _ _=>⟨_,rfl,?_⟩⟩)))
 ·simp only[E.b,aR,aX.push];exact b_.dL hp.ns (by omega)
 ·exact eZ (by simp only[U];omega)
 ·simp only[U];exact dW (by omega)
 ·have:=ed (P:=prog) eO hp.ns nn (k:=2) j (by decide) (u:=.int .i64 v.n.bp) rfl (aD bM bU);simp only[U] at this ⊢;exact this
 ·have c:v.n.bp<0∨(i:Int)<=v.n.bp:=by simpa[U,eg,er] using c
  unfold au.dS;rw[fW,if_neg (by simp;omega)];rfl
 ·have c:0<=v.n.bp∧v.n.bp<(i:Int):=by simpa[U,eg,er] using c
  unfold au.dS;rw[fW,if_pos (by simp;omega)];rfl
theorem TV (p:cP) (i:Int) (W:al):da prog 73 #[.agg (gA p).toArray,.int .i64 i] W (.bool (er 0 i&&eg i p.ao.length)):=by
 refine ar_ i p.vars.length p.bA p.ao.length p.eF p.bj.length p.ef ⟨p.aT.toArray⟩ p.bx p.eL p.ea W.all _ ?_;exact bY fun m W1 _ bM=>aP fun _ _ _=>⟨_,rfl,rfl⟩
theorem avl (v:d_) (W:al):da prog 124 #[.agg (dN v).toArray] W (.bool (bq.key v.n)):=by
 refine art v.n.ay v.n.bp v.n.on v.n.ev v.n.vars.length v.bA v.n.bL.length v.ck v.n.cb ⟨v.n.aT.toArray⟩ ⟨v.n.key.toArray⟩ ⟨v.n.ca.toArray⟩ ⟨v.n.set.toArray⟩ v.bx v.ch W.all _ ?_;have aT:∀(dE:al),da prog 68 #[.string ⟨v.n.key.toArray⟩] dE (.bool (ab.name v.n.key)):=fun dE=>zR v.n.key dE
 have A:(v.n.ay=14∨v.n.ev=1∨v.n.ev=6)->bq.key v.n=ab.name v.n.key:=fun h=>by unfold bq.key;rw[if_pos h]
 refine bY fun m W1 _ bM=>aK (fun c=>b5 (fun _ _=>aT W1) ⟨_,rfl,fun cn _=>aP fun _ _ _=>⟨_,rfl,?_⟩⟩) fun c=>aK (fun d=>b5 (fun _ _=>aT W1) ⟨_,rfl,fun cn _=>aP fun _ _ _=>⟨_,rfl,?_⟩⟩) fun d=>
  aK (fun f=>b5 (fun _ _=>aT W1) ⟨_,rfl,fun cn _=>aP fun _ _ _=>⟨_,rfl,?_⟩⟩) fun f=>aK (fun g=>b5 (fun _ _=>aT W1) ⟨_,rfl,fun cn _=>aP fun _ _ _=>⟨_,rfl,?_⟩⟩) fun g=>aP fun _ _ _=>⟨_,rfl,?_⟩
 ·have c:v.n.ay=14:=by simpa[U] using c
  rw[A (.inl c)];rfl
 ·have d:v.n.ev=1:=by simpa[U] using d
  rw[A (.inr (.inl d))];rfl
 ·have f:v.n.ev=6:=by simpa[U] using f
  rw[A (.inr (.inr f))];rfl
 ·have c:¬v.n.ay=14:=by simpa[U] using c
  have d:¬v.n.ev=1:=by simpa[U] using d
  have f:¬v.n.ev=6:=by simpa[U] using f
  have g:v.n.ev=4∨v.n.ev=5:=by simpa[U] using g
  unfold bq.key;rw[if_neg (by omega),if_pos g];rfl
 ·have c:¬v.n.ay=14:=by simpa[U] using c
  have d:¬v.n.ev=1:=by simpa[U] using d
  have f:¬v.n.ev=6:=by simpa[U] using f
  have g:¬(v.n.ev=4∨v.n.ev=5):=by simpa[U] using g
  unfold bq.key;rw[if_neg (by omega),if_neg g];rfl
def zS (v:ab.Var):Prop:=v.t.length<=1000
theorem avm:hr prog 39=some true:=by kernel_rfl
theorem avn:hK prog 39=some 3:=by kernel_rfl
theorem avo {P:Program} {α:Type} {f:α->List Value} {sz:Nat} (bs:∀x,(f x).length=sz) (bk:0<sz) {W:al} {a:Option Addr} {n c:Nat} {l:List α} (h:b_ W a n c sz (l.flatMap f)) {t:TypeId} {m:Nat} (ee:hr P t=some true) (c1:hK P t=some m) {i k:Nat} {x:α} (j:l[i]? =some x) {vs:List Value} (aO:vs.length=m) (aA:k+m<=sz) (hu:((f x).drop k).take m=vs)
  {W':al} (sw:Ext W W'):(Instr.loadAt t (.pointer (some ((a.getD default).add (i*sz+k))))).run P W'.w= .ok (.agg vs.toArray) W'.w:=by
 obtain⟨J,an,aI⟩:=h.ext sw;have RE:=sv bs l;rcases aI with⟨_,rfl,rfl⟩|⟨b,o,rfl,bf,I,aH⟩
 ·exfalso;have a8:=(nU.1 j).1;rw[RE] at J;have:=Nat.eq_of_mul_eq_mul_right bk J;omega
 ·refine Bq ee c1 aO fun aj u cu=>?_
  have avp:aj<m:=by rw[<-aO];exact(nU.1 cu).1
  have qP:(f x)[k+aj]? =some u:=by
   rw[<-hu,oX,if_pos avp,sO] at cu;exact cu
  have:=aH (i*sz+(k+aj)) u (by rw[uW bs (k+aj) j (by omega)];exact qP);simp only[ny];rw[ky,ky,show o+(i*sz+k)+aj=o+(i*sz+(k+aj)) from by omega];exact this
theorem avq {l:List ab.Var} (h:¬8<l.length) (hu:ab.hE (·.name) ab.jl [] l=true):ab.vars l=0:=by unfold ab.vars;rw[if_neg h,if_pos hu]
theorem FE {l:List ab.Var} (h:¬8<l.length) (hu:ab.hE (·.name) ab.jl [] l=false):ab.vars l=4:=by unfold ab.vars;rw[if_neg h,if_neg (by rw[hu];decide)]
theorem TW (l:List ab.Var) (a:Option Addr) (c:Nat) (W:al) (bs:∀v∈l,zS v) (ct:b_ W a l.length c 4 (l.flatMap e7)):
  da prog 69 #[.slice a l.length c] W (.int .i64 (ab.vars l)):=by
 have ct:=ct.ext W.dw;refine arn l.length c a W.all _ ?_;refine aK (fun c0=>aP fun _ _ _=>⟨_,rfl,?_⟩) fun c0=>?_
 ·have c0:8<l.length:=by simp only[U,cX] at c0;omega
  unfold ab.vars;rw[if_pos c0];rfl
 have c0:¬8<l.length:=by simp only[U,c7] at c0;omega
 refine dJ (fun aj vs ls _=>∃i:Nat,vs=[.int .i64 (i:Nat)]∧ls=[]∧i<=l.length∧aj=l.length-i∧ab.hE (·.name) ab.jl [] l=ab.hE (·.name) ab.jl (l.take i) (l.drop i)) l.length ⟨0,by simp[U],rfl,dr _,rfl,rfl⟩ ?_;rintro aj vs ls cn bH ⟨i,rfl,rfl,a8,rfl,hu⟩;refine⟨(i:Int),rfl,rfl,fun _=>aK (fun c2=>?_) fun c2=>aP fun _ _ _=>⟨_,rfl,?_⟩⟩
 ·simp only[U,cX] at c2;have cp:i<l.length:=by omega
  have j:l[i]? =some l[i]:=dn cp;have a_:l.drop i=l[i]::l.drop (i+1):=mG cp;have fj:l.take (i+1)=l.take i++[l[i]]:=o0 cp;have TX:=bs _ (h9 cp);generalize l[i]=x at j a_ fj TX;rw[a_] at hu;simp only[ab.hE] at hu;rw[<-fj] at hu;refine a6 ?_ (a6 ?_ (cI ⟨⟨x.name.toArray⟩,fun cq bo=>?_,?_⟩))
  ·simp only[E.b,aR,aX.push];exact b_.dL ct (by omega)
  ·exact eZ (by simp only[U];omega)
  ·have:=ed (P:=prog) mv ct nP (k:=0) j (by decide) (u:=.string ⟨x.name.toArray⟩) rfl (aD bH bo);simp only[U] at this ⊢;exact this
  simp only[aU];refine b5 (fun _ _=>zR x.name cn) ⟨ab.name x.name,rfl,fun cq bo=>aK (fun c3=>?_) fun c3=>aP fun _ _ _=>⟨_,rfl,?_⟩⟩
  ·have c3:ab.name x.name=true:=c3;refine cI ⟨x.k,x.n,⟨x.t.toArray⟩,fun dH cd=>?_,?_⟩
   ·have:=avo (P:=prog) mv (by decide) ct avm avn (k:=1) (m:=3) j (vs:=[.int .u8 x.k,.int .i64 x.n,.string ⟨x.t.toArray⟩]) rfl (by decide) rfl (aD (aD bH bo) cd);simp only[U] at this ⊢;exact this
   simp only[aU];refine b5 (fun _ _=>Tn x.k x.n ⟨x.t.toArray⟩ (by rw[lH];unfold zS at TX;omega) cq) ⟨fv.en ⟨x.k,x.n,⟨x.t.toArray⟩⟩,rfl,fun dH cd=>aK (fun c4=>?_) fun c4=>aP fun _ _ _=>⟨_,rfl,?_⟩⟩
   ·have c4:fv.en ⟨x.k,x.n,⟨x.t.toArray⟩⟩=true:=c4;have dO:=aD (aD bH bo) cd;refine cI ⟨x.k,fun dI cA=>?_,aK (fun c5=>aP fun _ _ _=>⟨_,rfl,?_⟩) fun c5=>?_⟩
    ·have:=ed (P:=prog) mv ct pr (k:=1) j (by decide) (u:=.int .u8 x.k) rfl (aD dO cA);simp only[U] at this ⊢;exact this
    ·have c5:x.k=0:=by simpa[U] using c5
     have:ab.jl x=false:=by unfold ab.jl;rw[c3,c4,decide_eq_true c5];rfl
     rw[FE c0 (by rw[hu,this];rfl)];rfl
    ·have c5:¬x.k=0:=by simpa[U] using c5
     have bV:ab.jl x=true:=by unfold ab.jl;rw[c3,c4,decide_eq_false c5];rfl
     rw[bV,eX] at hu;refine dJ (fun aj vs ls _=>∃k:Nat,vs=[.int .i64 (k:Nat)]∧ls=[]∧k<=i∧aj=i-k∧((l.take k).any fun y=>y.name==x.name)=false) i ⟨0,by simp[U],rfl,dr _,rfl,by simp⟩ ?_;rintro aj vs ls dI cA ⟨k,rfl,rfl,aA,rfl,nt⟩;have ej:=aD dO cA;refine⟨(k:Int),rfl,rfl,fun _=>aK (fun bw=>?_) fun bw=>?_⟩
     ·simp only[U,cX] at bw;have e8:k<l.length:=by omega
      have jb:l[k]? =some l[k]:=dn e8;have kL:l.take (k+1)=l.take k++[l[k]]:=o0 e8
      have im:l[k]∈l.take i:=by
       have:(l.take i)[k]? =some l[k]:=by rw[oX,if_pos (by omega)];exact jb
       exact k2 this
      generalize l[k]=y at jb kL im;refine a6 (eZ (by simp only[U];omega)) (a6 (by simp only[U];exact dW (by omega)) (cI ⟨⟨y.name.toArray⟩,fun cV bU=>?_,cI ⟨⟨x.name.toArray⟩,fun cV bU=>?_,cj fun dQ df=>aK (fun cv=>aP fun _ _ _=>⟨_,rfl,?_⟩) fun cv=>b1 ⟨i-(k+1),by omega,k+1,?_,rfl,by omega,rfl,?_⟩⟩⟩))
      ·have:=ed (P:=prog) mv ct nP (k:=0) jb (by decide) (u:=.string ⟨y.name.toArray⟩) rfl (aD ej bU);simp only[U] at this ⊢;exact this
      ·have:=ed (P:=prog) mv ct nP (k:=0) j (by decide) (u:=.string ⟨x.name.toArray⟩) rfl (aD ej bU);simp only[U] at this ⊢;exact this
      ·have cv:(y.name==x.name)=true:=cv;have:((l.take i).any fun y=>y.name==x.name)=true:=List.any_eq_true.2 ⟨y,im,cv⟩;rw[FE c0 (by rw[hu,this];rfl)];rfl
      ·simp only[U];rw[cE (by omega) (by omega)];rfl
      ·have cv:(y.name==x.name)=false:=cv;rw[kL,List.any_append,nt];simp only[r0,List.any_nil,cv,Bool.or_self]
     ·simp only[U,c7] at bw;have aA:k=i:=by omega
      rw[aA] at nt;refine b1 ⟨l.length-(i+1),by omega,i+1,?_,rfl,by omega,rfl,?_⟩
      ·simp only[U];rw[cE (by omega) (by omega)];rfl
      ·rw[hu,nt];rfl
   ·have c4:fv.en ⟨x.k,x.n,⟨x.t.toArray⟩⟩=false:=c4;have:ab.jl x=false:=by unfold ab.jl;rw[c4];simp
    rw[FE c0 (by rw[hu,this];rfl)];rfl
  ·have c3:ab.name x.name=false:=c3;have:ab.jl x=false:=by unfold ab.jl;rw[c3];rfl
   rw[FE c0 (by rw[hu,this];rfl)];rfl
 ·simp only[U,c7] at c2;rw[o1 (by omega)] at hu;rw[avq c0 (by rw[hu];rfl)];rfl
theorem FF (s:ab.aM) (l:List ab.Var) (a:Option Addr) (c:Nat) (W:al) (aO:l.length<=1000000) (ct:b_ W a l.length c 4 (l.flatMap e7)):
  da prog 77 #[.slice a l.length c,.string ⟨s.toArray⟩] W (.int .u8 (au.named l s)):=by
 have ct:=ct.ext W.dw;refine auy l.length c ⟨s.toArray⟩ a W.all _ ?_;refine dJ (fun aj vs ls _=>∃i:Nat,vs=[.int .i64 (i:Nat)]∧ls=[]∧i<=l.length∧aj=l.length-i∧au.named l s=au.named (l.drop i) s) l.length ⟨0,by simp[U],rfl,dr _,rfl,rfl⟩ ?_;rintro aj vs ls cn bH ⟨i,rfl,rfl,a8,rfl,hu⟩;refine⟨(i:Int),rfl,rfl,fun _=>aK (fun c2=>?_) fun c2=>aP fun _ _ _=>⟨_,rfl,?_⟩⟩
 ·simp only[U,cX] at c2;have cp:i<l.length:=by omega
  have j:l[i]? =some l[i]:=dn cp;have a_:l.drop i=l[i]::l.drop (i+1):=mG cp;generalize l[i]=x at j a_;rw[a_] at hu;refine a6 ?_ (a6 ?_ (cI ⟨⟨x.name.toArray⟩,fun cq bo=>?_,aK (fun c3=>cI ⟨x.k,fun cq bo=>?_,aP fun _ _ _=>⟨_,rfl,?_⟩⟩) fun c3=>b1 ⟨l.length-(i+1),by omega,i+1,?_,rfl,by omega,rfl,?_⟩⟩))
  ·simp only[E.b,aR,aX.push];exact b_.dL ct (by omega)
  ·exact eZ (by simp only[U];omega)
  ·have:=ed (P:=prog) mv ct nP (k:=0) j (by decide) (u:=.string ⟨x.name.toArray⟩) rfl (aD bH bo);simp only[U] at this ⊢;exact this
  ·have:=ed (P:=prog) mv ct pr (k:=1) j (by decide) (u:=.int .u8 x.k) rfl (aD bH bo);simp only[U] at this ⊢;exact this
  ·have c3:(x.name==s)=true:=c3;rw[hu];unfold au.named;rw[hY,c3];rfl
  ·simp only[U];rw[cE (by omega) (by omega)];rfl
  ·have c3:(x.name==s)=false:=c3;rw[hu];unfold au.named;rw[hY,c3]
 ·simp only[U,c7] at c2;rw[hu,o1 (by omega)];rfl
theorem avr {n:ab.dM} (h:¬(100<n.ca.length∨8<n.vars.length∨8<n.bL.length)) (an:(bq.nS n&&(bq.vl n&&(bq.vm n&&ab.hE id ab.name [] n.bL)))=false):bq.gi n=4:=by
 unfold bq.gi;rw[if_neg h,if_neg (by rw[an];decide)]
set_option maxHeartbeats 1000000 in
theorem avs (v:d_) (W:al) (h:np v W) (bb:∀x∈v.n.vars,zS x):da prog 70 #[.agg (dN v).toArray] W (.int .i64 (bq.gi v.n)):=by
 have h:=h.ext W.dw;refine arO v.n.ay v.n.bp v.n.on v.n.ev v.n.vars.length v.bA v.n.bL.length v.ck v.n.cb ⟨v.n.aT.toArray⟩ ⟨v.n.key.toArray⟩ ⟨v.n.ca.toArray⟩ ⟨v.n.set.toArray⟩ v.bx v.ch W.all _ ?_;refine bY fun m W1 _ bM=>aK (fun c0=>aP fun _ _ _=>⟨_,rfl,?_⟩) fun c0=>?_
 ·have c0:100<v.n.ca.length∨8<v.n.vars.length∨8<v.n.bL.length:=by
   simp only[U,lH,h8,cX] at c0;omega
  unfold bq.gi;rw[if_pos c0];rfl
 have c0:¬(100<v.n.ca.length∨8<v.n.vars.length∨8<v.n.bL.length):=by
  simp only[U,lH,k1,c7] at c0;omega
 have no:(bq.nS v.n&&(bq.vl v.n&&(bq.vm v.n&&ab.hE id ab.name [] v.n.bL)))=false->Value.int .i64 4= .int .i64 (bq.gi v.n):=fun h=>by rw[avr c0 h]
 refine b5 (fun _ _=>zR v.n.aT W1) ⟨ab.name v.n.aT,rfl,fun cn bH=>aK (fun aJ=>?_) fun aJ=>aP fun _ _ _=>⟨_,rfl,no ?_⟩⟩;rotate_left
 ·have aJ:(!ab.name v.n.aT||eg v.n.bp (-1))=true:=by simpa only[U,kt] using aJ
  have:bq.nS v.n=false:=by
   unfold bq.nS;rcases Bool.or_eq_true_iff.1 aJ with c|c
   ·rw[show ab.name v.n.aT=false from by simpa using c];rfl
   ·rw[cX] at c;rw[decide_eq_false (by omega:¬ -1<=v.n.bp)];simp
  rw[this];rfl
 have aJ:ab.name v.n.aT=true∧ -1<=v.n.bp:=by
  simp only[U,hq,k1,kt,c7] at aJ;exact aJ
 have dG:=aD bM bH;simp only[aU];refine b5 (fun _ _=>avi v.n.ay v.n.ev cn) ⟨bq.event v.n.ay v.n.ev,rfl,fun cq bo=>aK (fun c2=>?_) fun c2=>aP fun _ _ _=>⟨_,rfl,no ?_⟩⟩;rotate_left
 ·have c2:bq.event v.n.ay v.n.ev=false:=c2;have:bq.nS v.n=false:=by unfold bq.nS;rw[c2];simp
  rw[this];rfl
 have c2:bq.event v.n.ay v.n.ev=true:=c2;have eK:=aD dG bo;simp only[aU];refine b5 (fun _ _=>avl v cq) ⟨bq.key v.n,rfl,fun dH cd=>aK (fun c3=>aP fun _ _ _=>⟨_,rfl,no ?_⟩) fun c3=>?_⟩
 ·have c3:bq.key v.n=false:=by simpa[U] using c3
  have:bq.nS v.n=false:=by unfold bq.nS;rw[c3];simp
  rw[this];rfl
 have c3:bq.key v.n=true:=by simpa[U] using c3
 have dO:=aD eK cd;simp only[aU];refine aK (fun c4=>aP fun _ _ _=>⟨_,rfl,no ?_⟩) fun c4=>?_
 ·have c4:bq.Ch v.n=false:=by unfold bq.Ch;rw[kt];exact c4
  have:bq.nS v.n=false:=by unfold bq.nS;rw[c4];simp
  rw[this];rfl
 have c4:bq.Ch v.n=true:=by unfold bq.Ch;rw[hq];exact c4
 refine aK (fun c5=>aP fun _ _ _=>⟨_,rfl,no ?_⟩) fun c5=>?_
 ·have c5:(!bq.Ci v.n)=true:=c5;have c5:bq.Ci v.n=false:=by simpa using c5
  have:bq.nS v.n=false:=by unfold bq.nS;rw[c5];simp
  rw[this];rfl
 have c5:(!bq.Ci v.n)=false:=c5;have c5:bq.Ci v.n=true:=by simpa using c5
 have head:bq.nS v.n=bq.xO v.n:=by unfold bq.nS;rw[aJ.1,decide_eq_true aJ.2,c2,c3,c4,c5];rfl
 refine kV (fun vs ls _=>vs=[]∧ls=[]∧bq.xO v.n=true) ?_ ?_
 ·refine aK (fun bw=>?_) fun bw=>?_
  ·have bw:v.n.ay=4:=by simpa[U] using bw
   refine b5 (fun _ _=>zR v.n.set dH) ⟨ab.name v.n.set,rfl,fun dI cA=>aK (fun cv=>aP fun _ _ _=>⟨_,rfl,no ?_⟩) fun cv=>b1 ⟨rfl,rfl,?_⟩⟩
   ·have cv:ab.name v.n.set=false:=by simpa[U] using cv
    rw[head];unfold bq.xO;rw[if_pos bw,cv];rfl
   ·have cv:ab.name v.n.set=true:=by simpa[U] using cv
    unfold bq.xO;rw[if_pos bw,cv]
  ·have bw:¬v.n.ay=4:=by simpa[U] using bw
   refine aK (fun cv=>aP fun _ _ _=>⟨_,rfl,no ?_⟩) fun cv=>b1 ⟨rfl,rfl,?_⟩
   ·have cv:(!(v.n.set==[]))=true:=cv;rw[head];unfold bq.xO;rw[if_neg bw,show(v.n.set==[])=false from by simpa using cv];rfl
   ·have cv:(!(v.n.set==[]))=false:=cv;unfold bq.xO;rw[if_neg bw];simpa using cv
 rintro vs ls V x ⟨rfl,rfl,avt⟩;have h:=h.ext (aD dO x);have head:bq.nS v.n=true:=head.trans avt;clear dG eK dO bM bH bo cd x aJ c2 c3 c4 c5;refine⟨rfl,rfl,fun _=>?_⟩;simp only[aU];refine aK (fun cZ=>aP fun _ _ _=>⟨_,rfl,no ?_⟩) fun cZ=>?_
 ·have cZ:bq.vl v.n=false:=by unfold bq.vl;rw[kt];exact cZ
  rw[cZ];simp
 have cZ:bq.vl v.n=true:=by unfold bq.vl;rw[hq];exact cZ
 refine b5 (fun _ _=>Kj v.n.ay V) ⟨ab.scope v.n.ay,rfl,fun dI cA=>?_⟩;have h:=h.ext cA;simp only[aU];refine aK (fun c9=>aP fun _ _ _=>⟨_,rfl,no ?_⟩) fun c9=>?_
 ·have c9:((!ab.scope v.n.ay&&eg 0 (v.n.vars.length:Int))||(!(v.n.ay==14)&&eg 0 (v.n.bL.length:Int)))=true:=c9
  have:bq.vm v.n=false:=by
   unfold bq.vm;simp only[h8,bT,cX] at c9;simp only[kt,h8,bT,decide_eq_true_eq];exact c9.imp (fun h=>⟨h.1,by omega⟩) fun h=>⟨h.1,by omega⟩
  rw[this];simp
 have c9:bq.vm v.n=true:=by
  have c9:((!ab.scope v.n.ay&&eg 0 (v.n.vars.length:Int))||(!(v.n.ay==14)&&eg 0 (v.n.bL.length:Int)))=false:=c9;unfold bq.vm;rw[hq,<-c9];unfold eg;simp
 have hc:(bq.nS v.n&&(bq.vl v.n&&(bq.vm v.n&&ab.hE id ab.name [] v.n.bL)))=ab.hE id ab.name [] v.n.bL:=by rw[head,cZ,c9];rfl
 rw[hc] at no;have EF:=h.zh;refine dJ (fun aj vs ls _=>∃i:Nat,vs=[.int .i64 (i:Nat)]∧ls=[]∧i<=v.n.bL.length∧aj=v.n.bL.length-i∧ab.hE id ab.name [] v.n.bL=ab.hE id ab.name (v.n.bL.take i) (v.n.bL.drop i)) v.n.bL.length ⟨0,by simp[U],rfl,dr _,rfl,rfl⟩ ?_;rintro aj vs ls cn bH ⟨i,rfl,rfl,a8,rfl,hu⟩;have h:=h.ext bH;have ct:=h.fY;refine⟨(i:Int),rfl,rfl,fun _=>aK (fun d2=>?_) fun d2=>?_⟩
 ·simp only[U,cX] at d2;have cp:i<v.n.bL.length:=by omega
  have j:v.n.bL[i]? =some v.n.bL[i]:=dn cp;have a_:v.n.bL.drop i=v.n.bL[i]::v.n.bL.drop (i+1):=mG cp;have fj:v.n.bL.take (i+1)=v.n.bL.take i++[v.n.bL[i]]:=o0 cp;generalize v.n.bL[i]=x at j a_ fj;rw[a_] at hu;simp only[ab.hE] at hu;rw[<-fj] at hu;refine a6 ?_ (a6 ?_ (cI ⟨⟨x.toArray⟩,fun cq bo=>?_,?_⟩))
  ·simp only[E.b,aR,aX.push];exact b_.dL ct (by omega)
  ·exact eZ (by simp only[U];omega)
  ·have:=ed (P:=prog) (f:=fun s=>[gO s]) (sz:=1) (fun _=>rfl) ct nP (k:=0) j (by decide) (u:=gO x) rfl bo;simp only[U] at this ⊢;exact this
  simp only[aU];refine b5 (fun _ _=>zR x cn) ⟨ab.name x,rfl,fun cq bo=>aK (fun d3=>aP fun _ _ _=>⟨_,rfl,no ?_⟩) fun d3=>?_⟩
  ·have d3:ab.name x=false:=by simpa[U] using d3
   rw[hu,d3];rfl
  have d3:ab.name x=true:=by simpa[U] using d3
  rw[d3,eX] at hu;refine dJ (fun aj vs ls _=>∃k:Nat,vs=[.int .i64 (k:Nat)]∧ls=[]∧k<=i∧aj=i-k∧((v.n.bL.take k).any fun y=>id y==id x)=false) i ⟨0,by simp[U],rfl,dr _,rfl,by simp⟩ ?_;rintro aj vs ls dI cA ⟨k,rfl,rfl,aA,rfl,nt⟩;have ej:=aD bo cA;refine⟨(k:Int),rfl,rfl,fun _=>aK (fun bw=>?_) fun bw=>?_⟩
  ·simp only[U,cX] at bw;have e8:k<v.n.bL.length:=by omega
   have jb:v.n.bL[k]? =some v.n.bL[k]:=dn e8;have kL:v.n.bL.take (k+1)=v.n.bL.take k++[v.n.bL[k]]:=o0 e8
   have im:v.n.bL[k]∈v.n.bL.take i:=by
    have:(v.n.bL.take i)[k]? =some v.n.bL[k]:=by rw[oX,if_pos (by omega)];exact jb
    exact k2 this
   generalize v.n.bL[k]=y at jb kL im;refine a6 (eZ (by simp only[U];omega)) (a6 (by simp only[U];exact dW (by omega)) (cI ⟨⟨y.toArray⟩,fun cV bU=>?_,cI ⟨⟨x.toArray⟩,fun cV bU=>?_,cj fun dQ df=>aK (fun cv=>aP fun _ _ _=>⟨_,rfl,no ?_⟩) fun cv=>b1 ⟨i-(k+1),by omega,k+1,?_,rfl,by omega,rfl,?_⟩⟩⟩))
   ·have:=ed (P:=prog) (f:=fun s=>[gO s]) (sz:=1) (fun _=>rfl) ct nP (k:=0) jb (by decide) (u:=gO y) rfl (aD ej bU);simp only[U] at this ⊢;exact this
   ·have:=ed (P:=prog) (f:=fun s=>[gO s]) (sz:=1) (fun _=>rfl) ct nP (k:=0) j (by decide) (u:=gO x) rfl (aD ej bU);simp only[U] at this ⊢;exact this
   ·have cv:(y==x)=true:=cv;have:((v.n.bL.take i).any fun y=>id y==id x)=true:=List.any_eq_true.2 ⟨y,im,cv⟩;rw[hu,this];rfl
   ·simp only[U];rw[cE (by omega) (by omega)];rfl
   ·have cv:(y==x)=false:=cv;rw[kL,List.any_append,nt];simp only[r0,List.any_nil,id,cv,Bool.or_self]
  ·simp only[U,c7] at bw;have aA:k=i:=by omega
   rw[aA] at nt;refine b1 ⟨v.n.bL.length-(i+1),by omega,i+1,?_,rfl,by omega,rfl,?_⟩
   ·simp only[U];rw[cE (by omega) (by omega)];rfl
   ·rw[hu,nt];rfl
 ·simp only[U,c7] at d2;rw[o1 (by omega)] at hu;refine b5 (fun _ _=>TW v.n.vars v.bx v.bA cn bb h.vs) ⟨ab.vars v.n.vars,rfl,fun cq _=>aP fun _ _ _=>⟨_,rfl,?_⟩⟩;unfold bq.gi;rw[if_neg c0,hc,hu];rfl
structure zT (p:ab.dR):Prop where
 avu:∀x∈p.vars,zS x
 avv:∀n∈p.ao,(∀x∈n.vars,zS x)∧n.ca.length<=1000
 avw:∀f∈p.bj,f.cond.length<=1000
theorem zT.at {p:cP} (h:zT p.av) {v:d_} (aB:v∈p.ao):(∀x∈v.n.vars,zS x)∧v.n.ca.length<=1000:=h.avv v.n (h7.2 ⟨v,aB,rfl⟩)
theorem avx (p:cP) (W:al) (hp:fw p W) (aw:zT p.av):da prog 36 #[.agg (gA p).toArray] W (.int .i64 (bq.jm p.av)):=by
 have hp:=hp.ext W.dw;have h5:=hp.h6;have sA:=hp.mU;have lI:p.av.ao.length=p.ao.length:=kM p;refine ar5 p.vars.length p.bA p.ao.length p.eF p.bj.length p.ef ⟨p.aT.toArray⟩ p.bx p.eL p.ea W.all _ ?_;refine bY fun m W1 _ bM=>aK (fun c0=>aP fun _ _ _=>⟨_,rfl,?_⟩) fun c0=>?_
 ·have c0:40<p.av.ao.length∨80<p.av.bj.length:=by
   simp only[U,h8,cX] at c0;rw[lI];show _∨80<p.bj.length;omega
  unfold bq.jm;rw[if_pos c0];rfl
 have c0:¬(40<p.av.ao.length∨80<p.av.bj.length):=by
  simp only[U,k1,c7] at c0;rw[lI];show¬(_∨80<p.bj.length);omega
 refine aK (fun aJ=>?_) fun aJ=>aP fun _ _ _=>⟨_,rfl,?_⟩
 rotate_left
 ·have aJ:p.av.ao.length=0:=by
   simp only[U,kt,cX] at aJ;omega
  unfold bq.jm;rw[if_neg c0,if_pos (.inl aJ)];rfl
 have aJ:¬p.av.ao.length=0:=by
  simp only[U,hq,c7] at aJ;omega
 refine b5 (fun _ _=>zR p.aT W1) ⟨ab.name p.aT,rfl,fun cn bH=>aK (fun c2=>aP fun _ _ _=>⟨_,rfl,?_⟩) fun c2=>?_⟩
 ·have c2:ab.name p.av.aT=false:=by show ab.name p.aT=false;simpa[U] using c2
  unfold bq.jm;rw[if_neg c0,if_pos (.inr c2)];rfl
 have c2:ab.name p.av.aT=true:=by show ab.name p.aT=true;simpa[U] using c2
 have dG:=aD bM bH
 have Cy:bq.jm p.av=if ab.vars p.vars≠0 then ab.vars p.vars else if ab.fo (fun v:d_=>bq.gi v.n) p.ao≠0 then ab.fo (fun v:d_=>bq.gi v.n) p.ao else ab.fo ab.km p.bj:=by
  unfold bq.jm;rw[if_neg c0,if_neg (fun h=>h.elim aJ fun h=>by rw[c2] at h;cases h)];have bh:ab.fo bq.gi p.av.ao=ab.fo (fun v:d_=>bq.gi v.n) p.ao:=ab.IL bq.gi (fun v:d_=>v.n) p.ao;rw[bh];rfl
 simp only[aU];refine b5 (fun _ _=>TW p.vars p.bx p.bA cn aw.avu (hp.vs.ext dG)) ⟨ab.vars p.vars,rfl,fun cq bo=>?_⟩;have eK:=aD dG bo;simp only[aU]
 refine dJ (fun aj vs ls _=>∃(i:Nat) (e:Int),vs=[.int .i64 e,.int .i64 (i:Nat)]∧ls=[]∧i<=p.ao.length∧aj=p.ao.length-i∧(e=0->ab.vars p.vars=0∧ab.fo (fun v:d_=>bq.gi v.n) p.ao=ab.fo (fun v:d_=>bq.gi v.n) (p.ao.drop i))∧(e≠0->bq.jm p.av=e)) p.ao.length
  ⟨0,ab.vars p.vars,by simp[U],rfl,dr _,rfl,fun h=>⟨h,rfl⟩,fun h=>by rw[Cy,if_pos h]⟩ ?_
 rintro aj vs ls dH cd ⟨i,e,rfl,rfl,a8,rfl,bk,J⟩;have dO:=aD eK cd;refine⟨e,(i:Int),rfl,rfl,fun _=>aK (fun d2=>?_) fun d2=>?_⟩
 ·have d2:i<p.ao.length∧e=0:=by
   simp only[U,bT,cX,beq_iff_eq] at d2;omega
  obtain⟨cp,rfl⟩:=d2;obtain⟨g1,g2⟩:=bk rfl;have j:p.ao[i]? =some p.ao[i]:=dn cp;have a_:p.ao.drop i=p.ao[i]::p.ao.drop (i+1):=mG cp;have j7:=hp.fn _ (h9 cp);have rn:=aw.at (h9 cp);generalize p.ao[i]=v at j a_ j7 rn;rw[a_,ab.fo] at g2;refine a6 ?_ (a6 ?_ (cI ⟨v.n.ay,v.n.bp,v.n.on,v.n.ev,v.n.vars.length,v.bA,v.n.bL.length,v.ck,v.n.cb,⟨v.n.aT.toArray⟩,⟨v.n.key.toArray⟩,⟨v.n.ca.toArray⟩,⟨v.n.set.toArray⟩,v.bx,v.ch,fun dI cA=>?_,?_⟩))
  ·simp only[E.b,aR,aX.push];exact b_.dL hp.ns (by omega)
  ·exact eZ (by simp only[U];omega)
  ·have:=gh (P:=prog) eO (by decide) hp.ns iw ix j (aD dO cA);simp only[U,ff] at this ⊢;exact this
  simp only[aU];refine b5 (fun _ _=>avs v dH (j7.ext dO) rn.1) ⟨bq.gi v.n,rfl,fun dI cA=>b1 ⟨p.ao.length-(i+1),by omega,i+1,bq.gi v.n,?_,rfl,by omega,rfl,fun h=>⟨g1,by rw[g2,if_pos h]⟩,fun h=>?_⟩⟩
  ·simp only[U];rw[cE (by omega) (by omega)];rfl
  ·have h:¬bq.gi v.n=0:=h;rw[if_neg h] at g2;rw[Cy,if_neg (fun k=>k g1),g2,if_pos h]
 ·have d2:¬(i<p.ao.length∧e=0):=by
   rintro⟨b0,bZ⟩;simp only[U,bZ] at d2;rw[dW (by omega)] at d2;simp at d2
  refine dJ (fun aj vs ls _=>∃(k:Nat) (g:Int),vs=[.int .i64 g,.int .i64 (k:Nat)]∧ls=[]∧k<=p.bj.length∧aj=p.bj.length-k∧(g=0->bq.jm p.av=ab.fo ab.km (p.bj.drop k))∧(g≠0->bq.jm p.av=g)) p.bj.length
   ⟨0,e,by simp[U],rfl,dr _,rfl,fun h=>?_,J⟩ ?_
  ·obtain⟨g1,g2⟩:=bk h;have ma:i=p.ao.length:=by omega
   rw[ma,List.drop_length] at g2;rw[Cy,if_neg (fun k=>k g1),g2,if_neg (fun k=>k rfl)];rfl
  rintro aj vs ls dI cA ⟨k,g,rfl,rfl,aA,rfl,f0,f1⟩;have ej:=aD dO cA;refine⟨g,(k:Int),rfl,rfl,fun _=>aK (fun d3=>?_) fun d3=>aP fun _ _ _=>⟨_,rfl,?_⟩⟩
  ·have d3:k<p.bj.length∧g=0:=by
    simp only[U,bT,cX,beq_iff_eq] at d3;omega
   obtain⟨e8,rfl⟩:=d3;have g2:=f0 rfl;have j:p.bj[k]? =some p.bj[k]:=dn e8;have a_:p.bj.drop k=p.bj[k]::p.bj.drop (k+1):=mG e8;generalize p.bj[k]=f at j a_;rw[a_,ab.fo] at g2;refine a6 ?_ (a6 ?_ (cI ⟨f.dY,f.to,f.gN,⟨f.cond.toArray⟩,fun cV bU=>?_,?_⟩))
   ·simp only[E.b,aR,aX.push];exact b_.dL hp.fs (by omega)
   ·exact eZ (by simp only[U];omega)
   ·have:=gh (P:=prog) rK (by decide) hp.fs xt xu j (aD ej bU);simp only[U,ff] at this ⊢;exact this
   simp only[aU];refine b5 (fun _ _=>avk f dI) ⟨ab.km f,rfl,fun cV bU=>b1 ⟨p.bj.length-(k+1),by omega,k+1,ab.km f,?_,rfl,by omega,rfl,fun h=>by rw[g2,if_pos h],fun h=>by rw[g2,if_neg h]⟩⟩;simp only[U];rw[cE (by omega) (by omega)];rfl
  ·have d3:¬(k<p.bj.length∧g=0):=by
    rintro⟨b0,bZ⟩;simp only[U,bZ] at d3;rw[dW (by omega)] at d3;simp at d3
   by_cases bP:g=0
   ·have Ao:k=p.bj.length:=by omega
    rw[f0 bP,Ao,List.drop_length,bP];rfl
   ·rw[f1 bP];rfl
theorem avy {α:Type} {f:α->List Value} {sz:Nat} (bs:∀x,(f x).length=sz) {W:al} {a:Option Addr} {c:Nat} {l:List α} (h:b_ W a l.length c sz (l.flatMap f)):(a=none->((l.length:Nat):Int)<=0∧((c:Nat):Int)<=0)∧∀ad,a=some ad->∀W',Ext W W'->∀(aj:Nat) u,(l.flatMap f)[aj]? =some u->W'.w.cell? (ad.add aj)=some u:=by
 refine⟨fun e=>?_,fun ad e W' x aj u hu=>?_⟩
 ·obtain⟨_,_,aI⟩:=h;rcases aI with⟨_,cc,bu⟩|⟨b,o,cc,_⟩
  ·omega
  ·rw[e] at cc;cases cc
 ·obtain⟨_,_,aI⟩:=b_.ext h x;rcases aI with⟨_,cc,_⟩|⟨b,o,cc,_,_,aH⟩
  ·rw[sW.1 cc] at hu;simp at hu
  ·rw[e] at cc;injection cc with cc
   subst cc;rw[ky];exact aH aj u hu
def Kl (ar:Nat) (x:d_) (W:al):Prop:=eD W.w (fun b=>ar<=b∧W.aV b) x.bx x.n.vars.length x.bA 4 (x.n.vars.flatMap e7)∧eD W.w (fun b=>ar<=b∧W.aV b) x.ch x.n.bL.length x.ck 1 (lk x.n.bL)
theorem TY {ar:Nat} {W W':al} {a:Option Addr} {n c sz:Nat} {xs:List Value} (h:eD W.w (fun b=>ar<=b∧W.aV b) a n c sz xs) (x:Ext W W'):eD W'.w (fun b=>ar<=b∧W'.aV b) a n c sz xs:=by
 obtain⟨J,an,aI⟩:=h;refine⟨J,an,aI.imp id ?_⟩;rintro⟨b,o,e,bf,I,aH⟩;exact⟨b,o,e,⟨bf.1,x.sub b bf.2⟩,lv I x.size,fun aj u hu=>by rw[D5 x bf.2];exact aH aj u hu⟩
theorem Kl.ext {ar:Nat} {x:d_} {W W':al} (h:Kl ar x W) (e:Ext W W'):Kl ar x W':=⟨TY h.1 e,TY h.2 e⟩
section
variable {ar:Nat} {R:Ending->World->Prop} {L:ha} {ρ:aX} {W:al} {p:cP}
theorem Km {α:Type} {f:α->List Value} {sz a:Nat} {n c:E} {rw t} (l:List α) {ad:Option Addr} {qD:Nat} (bs:∀x,(f x).length=sz) (bc:∀u∈l.flatMap f,u.oneCell'=true) (c1:b_ W ad l.length qD sz (l.flatMap f)) (TZ:aR ρ.A a none=ad) (lI:n.i ρ=(l.length:Int)) (avz:c.i ρ=(qD:Int)) (h:t.ak prog ar R L (ρ.push {L:=[l.flatMap f]}) W):(Tree.cells a n c sz rw t).ak prog ar R L ρ W:=by
 have aH:=avy bs c1;refine qJ (l.flatMap f) ?_ bc (fun bk=>?_) (fun avA bk=>aH.2 avA (by rw[<-TZ];exact bk)) h
 ·rw[lI,sv bs,ih]
 ·rw[lI,avz];exact aH.1 (by rw[<-TZ];exact bk)
end
open Go.Proofs.Tryz Go Go.RowKit Go.cK
def n_ (p:ab.dR) (i:Nat):Int:=if(au.dc p i).ay==1 then(if au.kind p (au.dS p i)==13 then au.dS p (au.dS p i).toNat else au.dS p i) else au.dS p i
def l5 (p:ab.dR) (i:Nat):List ab.Var:=if(au.dc p i).ay==12 then(au.dc p i).vars else []
theorem avB {p:ab.dR} {i:Nat} (a8:i<p.ao.length):au.fQ p (i:Int)=(l5 p i++au.hT p (n_ p i))++p.vars:=by
 unfold au.fQ l5 n_;rw[decide_eq_true (by omega:(0:Int)<=(i:Int)),decide_eq_true (by omega:(i:Int)<(p.ao.length:Int))];simp only[Bool.and_self,if_true,eH]
 by_cases J:((au.dc p i).ay==12)=true
 ·rw[if_pos J,if_pos J]
  have an:¬((au.dc p i).ay==1)=true:=by
   rw[beq_iff_eq] at J ⊢;omega
  rw[if_neg an]
 ·rw[if_neg J,if_neg J,sU]
  by_cases an:((au.dc p i).ay==1)=true
  ·rw[if_pos an,if_pos an]
   by_cases aI:(au.kind p (au.dS p i)==13)=true
   ·rw[if_pos aI,if_pos aI]
   ·rw[if_neg aI,if_neg aI]
  ·rw[if_neg an,if_neg an]
theorem avC {p:ab.dR} {i:Nat} (a8:i<p.ao.length):n_ p i<p.ao.length∧ -1<=n_ p i:=by
 have J:=au.nQ p i;have an:=au.sB p i;have aI:=au.nQ p (au.dS p i).toNat;have cc:=au.sB p (au.dS p i).toNat;unfold n_;split
 ·split
  ·rename_i bu
   by_cases hs:0<=au.dS p i
   ·omega
   ·unfold au.kind at bu;rw[if_pos (by omega)] at bu;exact absurd bu (by decide)
  ·omega
 ·omega
set_option maxHeartbeats 1000000 in
theorem T0 (p:cP) (n:Int) (W:al) (hp:fw p W):gR prog 42 #[.agg (gA p).toArray,.int .i64 n] W.all fun v w'=>Rb W.w.heap.size w' v (au.fQ p.av n):=by
 have hp:=hp.ext W.dw;have h5:=hp.h6;have tJ:=hp.gX;have lI:p.av.ao.length=p.ao.length:=kM p;refine asv n p.vars.length p.bA p.ao.length p.eF p.bj.length p.ef ⟨p.aT.toArray⟩ p.bx p.eL p.ea W.all _ ?_;rw[show W.all.w.heap.size=W.w.heap.size from rfl];generalize W.w.heap.size=ar;generalize W.all=dE at hp;refine bY fun m W1 _ bM=>?_
 have hp:=hp.ext bM;clear bM;simp only[aU];refine kV (fun vs ls _=>∃(a:Option Addr) (c:Nat) (l:List ab.Var),vs=[.slice a l.length c]∧ls=[l.flatMap e7]∧l++p.vars=au.fQ p.av n∧l.length<=1000001000000) ?_ ?_
 ·refine b5 (fun _ _=>TV p n W1) ⟨er 0 n&&eg n p.ao.length,rfl,fun cn bH=>aK (fun aJ=>?_) fun aJ=>b1 ⟨none,0,[],rfl,by simp only[dD],?_,by simp⟩⟩;rotate_left
  ·have aJ:¬(0<=n∧n<p.ao.length):=by
    rintro⟨J,an⟩;have aJ:(er 0 n&&eg n p.ao.length)=false:=aJ;rw[c_ J,dW an] at aJ;cases aJ
   have:(decide (0<=n)&&decide (n<(p.av.ao.length:Int)))=false:=by
    rw[lI];simp;omega
   unfold au.fQ;rw[this];rfl
  have aJ:0<=n∧n<p.ao.length:=by
   have aJ:(er 0 n&&eg n p.ao.length)=true:=aJ;simpa[er,eg] using aJ
  obtain⟨i,rfl⟩:∃i:Nat,n=(i:Int):=⟨n.toNat,by omega⟩;have a8:i<p.ao.length:=by omega
  have j:p.ao[i]? =some p.ao[i]:=dn a8;have j7:=hp.fn _ (h9 a8);generalize p.ao[i]=v at j j7;have fW:au.dc p.av i=v.n:=kZ j;have T1:=avB (p:=p.av) (i:=i) (by rw[lI];exact a8);obtain⟨ni,mj⟩:=avC (p:=p.av) (i:=i) (by rw[lI];exact a8);rw[lI] at ni;have hp:=hp.ext bH;simp only[aU];refine b5 (fun _ _=>Kk p i cn hp a8) ⟨au.dS p.av i,rfl,fun cq bo=>?_⟩;have hp:=hp.ext bo;clear bH bo;simp only[aU];refine kV (fun vs ls _=>∃(a:Option Addr) (c:Nat),vs=[.slice a (l5 p.av i).length c]∧ls=[(l5 p.av i).flatMap e7]) ?_ ?_
  ·have j7:=hp.fn _ (k2 j);refine a6 ?_ (a6 ?_ (a6 ?_ (cI ⟨v.n.ay,fun cV bU=>?_,aK (fun c2=>?_) fun c2=>b1 ⟨none,0,?_,?_⟩⟩)))
   ·simp only[E.b,aR,aX.push];exact b_.dL hp.ns (by omega)
   ·exact eZ (by simp only[U];omega)
   ·simp only[U];exact dW (by omega)
   ·have:=ed (P:=prog) eO hp.ns pr (k:=1) j (by decide) (u:=.int .u8 v.n.ay) rfl bU;simp only[U] at this ⊢;exact this
   ·have c2:v.n.ay=12:=by simpa[U] using c2
    have bc:l5 p.av i=v.n.vars:=by unfold l5;rw[fW,if_pos (by rw[c2];rfl)]
    have ayy:=j7.gX;refine cI ⟨v.n.vars.length,v.bA,v.bx,fun cV bU=>?_,?_⟩
    ·have:=ed (P:=prog) eO hp.ns tN j (k:=9) (by decide) (u:=.slice v.bx v.n.vars.length v.bA) rfl bU;simp only[U] at this ⊢;exact this
    simp only[aU];refine a6 (eZ (by simp only[U];omega)) (Km v.n.vars mv (p9 _) j7.vs rfl rfl rfl ?_);simp only[aU];refine hj fun a4 c4 cV _ bU=>b1 ⟨a4,c4,?_,?_⟩
    ·rw[bc];simp only[U]
    ·rw[bc];simp only[dD]
   ·have c2:¬v.n.ay=12:=by simpa[U] using c2
    have bc:l5 p.av i=[]:=by unfold l5;rw[fW,if_neg (by simpa using c2)]
    rw[bc];rfl
   ·have c2:¬v.n.ay=12:=by simpa[U] using c2
    have bc:l5 p.av i=[]:=by unfold l5;rw[fW,if_neg (by simpa using c2)]
    rw[bc];simp only[dD]
  ·rintro vs ls V x ⟨a,c,rfl,rfl⟩;have hp:=hp.ext x;clear x;refine⟨(l5 p.av i).length,c,a,(l5 p.av i).flatMap e7,by simp only[U],by simp only[dD],fun _=>?_⟩;simp only[aU];refine kV (fun vs ls _=>∃(a:Option Addr) (c:Nat),vs=[.slice a (l5 p.av i).length c,.int .i64 (n_ p.av i)]∧ls=[(l5 p.av i).flatMap e7]) ?_ ?_
   ·have ke:=au.nQ p.av i;have zp:=au.sB p.av i;refine a6 ?_ (a6 ?_ (a6 ?_ (cI ⟨v.n.ay,fun cV bU=>?_,a6 ?_ (a6 ?_ (aK (fun c2=>?_) fun c2=>b1 ⟨a,c,?_,by simp only[dD]⟩))⟩)))
    ·simp only[E.b,aR,aX.push];exact b_.dL hp.ns (by omega)
    ·exact eZ (by simp only[U];omega)
    ·simp only[U];exact dW (by omega)
    ·have:=ed (P:=prog) eO hp.ns pr (k:=1) j (by decide) (u:=.int .u8 v.n.ay) rfl bU;simp only[U] at this ⊢;exact this
    ·simp only[U];cases er 0 (au.dS p.av i)<;>cases (v.n.ay==1)<;>rfl
    ·simp only[U];rw[dW (by omega:au.dS p.av i<(p.ao.length:Int)),gf]
    ·have c2:v.n.ay=1∧0<=au.dS p.av i:=by simpa[U,er] using c2
     obtain⟨k,aA⟩:∃k:Nat,au.dS p.av i=(k:Int):=⟨(au.dS p.av i).toNat,by omega⟩;have e8:k<p.ao.length:=by omega
     have jb:p.ao[k]? =some p.ao[k]:=dn e8;generalize p.ao[k]=u at jb;have Hl:au.kind p.av (au.dS p.av i)=u.n.ay:=by unfold au.kind;rw[aA,if_neg (by omega),ih,kZ jb]
     have uw:n_ p.av i=if u.n.ay==13 then au.dS p.av k else(k:Int):=by
      unfold n_;rw[fW,if_pos (by rw[c2.1];rfl),Hl,aA,ih]
     rw[aA];refine cI ⟨u.n.ay,fun cV bU=>?_,aK (fun c3=>?_) fun c3=>b1 ⟨a,c,?_,by simp only[dD]⟩⟩
     ·have:=ed (P:=prog) eO hp.ns pr (k:=1) jb (by decide) (u:=.int .u8 u.n.ay) rfl bU;simp only[U] at this ⊢;exact this
     ·have c3:u.n.ay=13:=by simpa[U] using c3
      simp only[aU];refine b5 (fun _ _=>Kk p k V hp e8) ⟨au.dS p.av k,rfl,fun dH cd=>b1 ⟨a,c,?_,by simp only[dD]⟩⟩;rw[uw,if_pos (by rw[c3];rfl)];simp only[U]
     ·have c3:¬u.n.ay=13:=by simpa[U] using c3
      rw[uw,if_neg (by simpa using c3)];simp only[U]
    ·have uw:n_ p.av i=au.dS p.av i:=by
      unfold n_;rw[fW]
      by_cases J:v.n.ay=1
      ·rw[if_pos (by rw[J];rfl),if_neg]
       have:¬0<=au.dS p.av i:=fun bk=>by
        simp only[U,J,c_ bk] at c2;cases c2
       unfold au.kind;rw[if_pos (by omega)];decide
      ·rw[if_neg (by simpa using J)]
     rw[uw];simp only[U]
   ·rintro vs ls oK x ⟨a2,c2,rfl,rfl⟩;have hp:=hp.ext x;clear x;refine⟨n_ p.av i,(l5 p.av i).length,c2,a2,(l5 p.av i).flatMap e7,by simp only[U],by simp only[dD],fun _=>?_⟩;simp only[aU]
    have cC:(l5 p.av i++au.hT p.av (n_ p.av i)).length<=1000001000000:=by
     rw[fR];have J:=BW hp (a:=n_ p.av i) ni
     have an:(l5 p.av i).length<=1000000:=by
      unfold l5;split
      ·exact Rc hp i
      ·simp
     omega
    generalize avD:l5 p.av i++au.hT p.av (n_ p.av i)=T at cC T1
    refine dJ (fun aj vs ls dE=>∃(a:Option Addr) (c:Nat) (l:List ab.Var) (at':Int),vs=[.slice a l.length c,.int .i64 at']∧ls=[l.flatMap e7]∧at'<p.ao.length∧ -1<=at'∧aj=(at'+1).toNat∧l++au.hT p.av at'=T) (n_ p.av i+1).toNat
     ⟨a2,c2,l5 p.av i,n_ p.av i,by simp only[U],by simp only[dD],ni,mj,rfl,avD⟩ ?_
    rintro aj vs ls sy x ⟨a3,c3,l,at',rfl,rfl,J,an,rfl,aI⟩;have hp:=hp.ext x;clear x;refine⟨at',l.length,c3,a3,l.flatMap e7,by simp only[U],by simp only[dD],fun _=>aK (fun d=>?_) fun d=>?_⟩
    ·have d:0<=at':=by simpa[U,er] using d
     obtain⟨k,rfl⟩:∃k:Nat,at'=(k:Int):=⟨at'.toNat,by omega⟩;have e8:k<p.ao.length:=by omega
     have jb:p.ao[k]? =some p.ao[k]:=dn e8;have sG:=hp.fn _ (h9 e8);generalize p.ao[k]=u at jb sG;have jH:=au.BO p.av (at':=(k:Int)) (by omega);rw[ih,kZ jb] at jH;rw[jH,<-jW] at aI
     have I:l.length+u.n.vars.length<=1000001000000:=by
      have:=congrArg List.length aI;rw[fR,fR] at this;omega
     have ke:=au.nQ p.av k;have zp:=au.sB p.av k;refine a6 ?_ (a6 ?_ (cI ⟨u.n.vars.length,u.bA,u.bx,fun cV bU=>?_,?_⟩))
     ·simp only[E.b,aR,aX.push];exact b_.dL hp.ns (by omega)
     ·simp only[U];exact dW (by omega)
     ·have:=ed (P:=prog) eO hp.ns tN jb (k:=9) (by decide) (u:=.slice u.bx u.n.vars.length u.bA) rfl bU;simp only[U] at this ⊢;exact this
     simp only[aU];refine a6 (eZ (by simp only[U];omega)) (Km u.n.vars mv (p9 _) sG.vs rfl rfl rfl ?_);simp only[aU];refine hj fun qa cv cV _ bU=>?_
     have hp:=hp.ext bU;simp only[aU];refine b5 (fun _ _=>Kk p k cV hp e8) ⟨au.dS p.av k,rfl,fun dQ df=>b1 ⟨(au.dS p.av k+1).toNat,by omega,qa,cv,l++u.n.vars,au.dS p.av k,?_,?_,by omega,zp,rfl,aI⟩⟩
     ·simp only[U];rw[fR,show((l.length:Int)+(u.n.vars.length:Int)).toNat=l.length+u.n.vars.length by omega]
     ·simp only[dD,nV]
    ·have d:¬0<=at':=by
      simp only[U,uk] at d;omega
     rw[au.xv p.av (by omega),mC] at aI;subst aI;exact b1 ⟨a3,c3,l,by simp only[U],by simp only[dD],T1.symm,cC⟩
 ·rintro vs ls V x ⟨a,c,l,rfl,rfl,aO,eU⟩;have hp:=hp.ext x;clear x;refine⟨l.length,c,a,l.flatMap e7,by simp only[U],by simp only[dD],fun _=>?_⟩;simp only[aU];refine a6 (eZ (by simp only[U];omega)) (Km p.vars mv (p9 _) hp.vs rfl rfl rfl ?_);simp only[aU];refine hj fun a4 c4 cn _ bH=>aP fun _ _ aw=>⟨_,rfl,a4,c4,?_,?_⟩
  ·rw[<-aO,fR];simp only[U];rw[show((l.length:Int)+(p.vars.length:Int)).toNat=l.length+p.vars.length by omega]
  ·have J:=(aw _ (c6 ..)).1;simp only[dD,af.ak,E.i,eH] at J;rw[show((l.length:Int)+(p.vars.length:Int)).toNat=(au.fQ p.av n).length by rw[<-aO,fR];omega,<-nV,aO] at J;exact gW J
theorem FG (p:cP) (n:Int) (W:al) (hp:fw p W):da prog 76 #[.agg (gA p).toArray,.int .i64 n] W (.int .i64 (bq.nx p.av n)):=by
 have hp:=hp.ext W.dw;have sA:=hp.mU;refine atp n p.vars.length p.bA p.ao.length p.eF p.bj.length p.ef ⟨p.aT.toArray⟩ p.bx p.eL p.ea W.all _ ?_;refine bY fun m W1 _ bM=>dJ (fun aj vs ls _=>∃i:Nat,vs=[.int .i64 ((p.bj.take i).countP fun y=>y.dY==n:Nat),.int .i64 (i:Nat)]∧ls=[]∧i<=p.bj.length∧aj=p.bj.length-i) p.bj.length ⟨0,by simp[U],rfl,dr _,rfl⟩ ?_
 rintro aj vs ls cn bH ⟨i,rfl,rfl,a8,rfl⟩;have dG:=aD bM bH;have j_:(p.bj.take i).countP (fun y=>y.dY==n)<=p.bj.length:=iz List.countP_le_length (by rw[mX];omega);refine⟨((p.bj.take i).countP (fun y=>y.dY==n):Nat),(i:Int),rfl,rfl,fun _=>aK (fun d2=>?_) fun d2=>aP fun _ _ _=>⟨_,rfl,?_⟩⟩
 ·simp only[U,cX] at d2;have cp:i<p.bj.length:=by omega
  have j:p.bj[i]? =some p.bj[i]:=dn cp;have fj:p.bj.take (i+1)=p.bj.take i++[p.bj[i]]:=o0 cp;generalize p.bj[i]=g at j fj;refine a6 ?_ (a6 ?_ (cI ⟨g.dY,fun cV bU=>?_,aK (fun d3=>?_) fun d3=>?_⟩))
  ·simp only[E.b,aR,aX.push];exact b_.dL hp.fs (by omega)
  ·exact eZ (by simp only[U];omega)
  ·have:=ed (P:=prog) rK hp.fs nn (k:=0) j (by decide) (u:=.int .i64 g.dY) rfl (aD dG bU);simp only[U] at this ⊢;exact this
  ·have d3:g.dY=n:=by simpa[U] using d3
   refine b1 ⟨p.bj.length-(i+1),by omega,i+1,?_,rfl,by omega,rfl⟩;simp only[U];rw[cE (by omega) (by omega),cE (by omega) (by omega),fj,yh,vJ,vK,if_pos (by simpa using d3)];rfl
  ·have d3:¬g.dY=n:=by simpa[U] using d3
   refine b1 ⟨p.bj.length-(i+1),by omega,i+1,?_,rfl,by omega,rfl⟩;simp only[U];rw[cE (by omega) (by omega),fj,yh,vJ,vK,if_neg (by simpa using d3)];rfl
 ·simp only[U,c7] at d2;rw[sQ (by omega)];rfl
theorem T2 (p:cP) (n:Int) (W:al) (hp:fw p W):da prog 75 #[.agg (gA p).toArray,.int .i64 n] W (.int .i64 (bq.qc p.av n)):=by
 have hp:=hp.ext W.dw;have sA:=hp.mU;refine atu n p.vars.length p.bA p.ao.length p.eF p.bj.length p.ef ⟨p.aT.toArray⟩ p.bx p.eL p.ea W.all _ ?_;refine bY fun m W1 _ bM=>dJ (fun aj vs ls _=>∃i:Nat,vs=[.int .i64 ((p.bj.take i).countP fun y=>y.to==n:Nat),.int .i64 (i:Nat)]∧ls=[]∧i<=p.bj.length∧aj=p.bj.length-i) p.bj.length ⟨0,by simp[U],rfl,dr _,rfl⟩ ?_
 rintro aj vs ls cn bH ⟨i,rfl,rfl,a8,rfl⟩;have dG:=aD bM bH;have j_:(p.bj.take i).countP (fun y=>y.to==n)<=p.bj.length:=iz List.countP_le_length (by rw[mX];omega);refine⟨((p.bj.take i).countP (fun y=>y.to==n):Nat),(i:Int),rfl,rfl,fun _=>aK (fun d2=>?_) fun d2=>aP fun _ _ _=>⟨_,rfl,?_⟩⟩
 ·simp only[U,cX] at d2;have cp:i<p.bj.length:=by omega
  have j:p.bj[i]? =some p.bj[i]:=dn cp;have fj:p.bj.take (i+1)=p.bj.take i++[p.bj[i]]:=o0 cp;generalize p.bj[i]=g at j fj;refine a6 ?_ (a6 ?_ (cI ⟨g.to,fun cV bU=>?_,aK (fun d3=>?_) fun d3=>?_⟩))
  ·simp only[E.b,aR,aX.push];exact b_.dL hp.fs (by omega)
  ·exact eZ (by simp only[U];omega)
  ·have:=ed (P:=prog) rK hp.fs nn (k:=1) j (by decide) (u:=.int .i64 g.to) rfl (aD dG bU);simp only[U] at this ⊢;exact this
  ·have d3:g.to=n:=by simpa[U] using d3
   refine b1 ⟨p.bj.length-(i+1),by omega,i+1,?_,rfl,by omega,rfl⟩;simp only[U];rw[cE (by omega) (by omega),cE (by omega) (by omega),fj,yh,vJ,vK,if_pos (by simpa using d3)];rfl
  ·have d3:¬g.to=n:=by simpa[U] using d3
   refine b1 ⟨p.bj.length-(i+1),by omega,i+1,?_,rfl,by omega,rfl⟩;simp only[U];rw[cE (by omega) (by omega),fj,yh,vJ,vK,if_neg (by simpa using d3)];rfl
 ·simp only[U,c7] at d2;rw[sQ (by omega)];rfl
set_option maxHeartbeats 1000000 in
theorem avE (p:cP) (W:al) (hp:fw p W):da prog 37 #[.agg (gA p).toArray] W (.bool (bq.ho p.av)):=by
 have hp:=hp.ext W.dw;have h5:=hp.h6;have sA:=hp.mU;have lI:p.av.ao.length=p.ao.length:=kM p;have qZ:∀i:Nat,p.av.ao.drop i=(p.ao.drop i).map (·.n):=fun i=>by show(p.ao.map _).drop i=_;rw[List.map_drop]
 refine asX p.vars.length p.bA p.ao.length p.eF p.bj.length p.ef ⟨p.aT.toArray⟩ p.bx p.eL p.ea W.all _ ?_;refine bY fun m W1 _ bM=>?_
 have hp:=hp.ext bM;clear bM;simp only[aU];refine dJ (fun aj vs ls _=>∃i:Nat,vs=[.int .i64 (i:Nat)]∧ls=[]∧i<=p.ao.length∧aj=p.ao.length-i∧bq.ho p.av=(au.gY (bq.sL p.av) i (p.av.ao.drop i)&&(p.av.ao.all (bq.qX p.av)&&p.av.bj.all (bq.n7 p.av)))) p.ao.length ⟨0,by simp[U],rfl,dr _,rfl,rfl⟩ ?_;rintro aj vs ls cn bH ⟨i,rfl,rfl,a8,rfl,hu⟩;have hp:=hp.ext bH;clear bH;refine⟨(i:Int),rfl,rfl,fun _=>aK (fun c2=>?_) fun c2=>?_⟩
 ·simp only[U,cX] at c2;have cp:i<p.ao.length:=by omega
  have j:p.ao[i]? =some p.ao[i]:=dn cp;have a_:p.ao.drop i=p.ao[i]::p.ao.drop (i+1):=mG cp;generalize p.ao[i]=v at j a_;rw[qZ,a_,jo,<-qZ] at hu;simp only[au.gY] at hu;have wC:=b_.dL hp.ns (by omega);refine a6 ?_ (a6 ?_ (cI ⟨v.n.ay,v.n.bp,v.n.on,v.n.ev,v.n.vars.length,v.bA,v.n.bL.length,v.ck,v.n.cb,⟨v.n.aT.toArray⟩,⟨v.n.key.toArray⟩,⟨v.n.ca.toArray⟩,⟨v.n.set.toArray⟩,v.bx,v.ch,fun dI cA=>?_,?_⟩))
  ·simp only[E.b,aR,aX.push];exact wC
  ·exact eZ (by simp only[U];omega)
  ·have:=gh (P:=prog) eO (by decide) hp.ns iw ix j cA;simp only[U,ff] at this ⊢;exact this
  simp only[aU];refine bY fun m1 cq _ bo=>bS fun dH cd=>?_
  have hp:=hp.ext (aD bo cd);clear bo cd;simp only[aU];have gl:bq.sL p.av i v.n=false->Value.bool false= .bool (bq.ho p.av):=fun h=>by rw[hu,h];rfl
  refine dJ (fun aj vs ls _=>∃k:Nat,vs=[.int .i64 (k:Nat)]∧ls=[]∧k<=i∧aj=i-k∧((p.ao.take k).any fun y=>y.n.aT==v.n.aT)=false) i ⟨0,by simp[U],rfl,dr _,rfl,by simp⟩ ?_;rintro aj vs ls dI cA ⟨k,rfl,rfl,aA,rfl,nt⟩;have hp:=hp.ext cA;clear cA
  have wg:∀k:Nat,(p.av.ao.take k).any (fun y=>y.aT==v.n.aT)=(p.ao.take k).any fun y=>y.n.aT==v.n.aT:=fun k=>by
   show((p.ao.map _).take k).any _=_;rw[<-List.map_take,List.any_map];rfl
  refine⟨(k:Int),rfl,rfl,fun _=>aK (fun bw=>?_) fun bw=>?_⟩
  ·simp only[U,cX] at bw;have e8:k<p.ao.length:=by omega
   have jb:p.ao[k]? =some p.ao[k]:=dn e8;have kL:p.ao.take (k+1)=p.ao.take k++[p.ao[k]]:=o0 e8
   have im:p.ao[k]∈p.ao.take i:=by
    have:(p.ao.take i)[k]? =some p.ao[k]:=by rw[oX,if_pos (by omega)];exact jb
    exact k2 this
   generalize p.ao[k]=y at jb kL im;refine a6 (eZ (by simp only[U];omega)) (a6 (by simp only[U];exact dW (by omega)) (cI ⟨⟨y.n.aT.toArray⟩,fun cV bU=>?_,cj fun dQ df=>aK (fun cv=>aP fun _ _ _=>⟨_,rfl,gl ?_⟩) fun cv=>b1 ⟨i-(k+1),by omega,k+1,?_,rfl,by omega,rfl,?_⟩⟩))
   ·have:=ed (P:=prog) eO hp.ns nP (k:=0) jb (by decide) (u:=gO y.n.aT) rfl bU;simp only[U] at this ⊢;exact this
   ·have cv:(y.n.aT==v.n.aT)=true:=cv;unfold bq.sL;rw[wg,List.any_eq_true.2 ⟨y,im,cv⟩];rfl
   ·simp only[U];rw[cE (by omega) (by omega)];rfl
   ·have cv:(y.n.aT==v.n.aT)=false:=cv;rw[kL,List.any_append,nt];simp only[r0,List.any_nil,cv,Bool.or_self]
  ·simp only[U,c7] at bw;have aA:k=i:=by omega
   rw[aA] at nt
   have gv:bq.sL p.av i v.n=(v.n.bp== -1||(decide (0<=v.n.bp)&&(decide (v.n.bp<(i:Int))&&ab.scope (au.dc p.av v.n.bp.toNat).ay))):=by
    unfold bq.sL;rw[wg,nt];rfl
   have again:bq.sL p.av i v.n=true->bq.ho p.av=(au.gY (bq.sL p.av) (i+1) (p.av.ao.drop (i+1))&&(p.av.ao.all (bq.qX p.av)&&p.av.bj.all (bq.n7 p.av))):=fun h=>by rw[hu,h,eX]
   refine a6 ?_ (a6 ?_ (aK (fun cv=>?_) fun cv=>aK (fun cZ=>aP fun _ _ _=>⟨_,rfl,gl ?_⟩) fun cZ=>eC fun dQ _ df _ _=>b1 ⟨p.ao.length-(i+1),by omega,i+1,?_,rfl,by omega,rfl,again ?_⟩))
   ·simp only[U]
    by_cases J:0<=v.n.bp
    ·rw[c_ J,gf]
    ·rw[dW (by omega:v.n.bp<0)];simp
   ·simp only[U]
    by_cases J:v.n.bp<(i:Int)
    ·rw[dW (by omega:v.n.bp<(p.ao.length:Int)),gf]
    ·rw[c_ (by omega:(i:Int)<=v.n.bp)];simp
   ·have cv:¬v.n.bp= -1∧0<=v.n.bp∧v.n.bp<(i:Int):=by simpa[U,eg,er] using cv
    have bD:v.n.bp.toNat<p.ao.length:=by omega
    have iM:p.ao[v.n.bp.toNat]? =some p.ao[v.n.bp.toNat]:=dn bD;generalize p.ao[v.n.bp.toNat]=u at iM
    have T3:bq.sL p.av i v.n=ab.scope u.n.ay:=by
     rw[gv,kZ iM,decide_eq_true cv.2.1,decide_eq_true cv.2.2,show(v.n.bp== -1)=false from by simpa using cv.1];rfl
    refine cI ⟨u.n.ay,fun cV bU=>?_,?_⟩
    ·have:=ed (P:=prog) eO hp.ns pr (k:=1) iM (by decide) (u:=.int .u8 u.n.ay) rfl bU;simp only[U] at this ⊢;exact this
    simp only[aU];refine b5 (fun _ _=>Kj u.n.ay dI) ⟨ab.scope u.n.ay,rfl,fun cV bU=>aK (fun cZ=>aP fun _ _ _=>⟨_,rfl,gl ?_⟩) fun cZ=>eC fun dQ _ df _ _=>b1 ⟨p.ao.length-(i+1),by omega,i+1,?_,rfl,by omega,rfl,again ?_⟩⟩
    ·rw[T3];simpa[U] using cZ
    ·simp only[U];rw[cE (by omega) (by omega)];rfl
    ·rw[T3];simpa[U] using cZ
   ·have cv:v.n.bp= -1∨v.n.bp<0∨(i:Int)<=v.n.bp:=by
     simp only[U,r1,kt,h8,beq_iff_eq,cX,uj] at cv;exact cv
    have cZ:¬v.n.bp= -1:=by simpa[U] using cZ
    rw[gv,show(v.n.bp== -1)=false from by simpa using cZ]
    by_cases J:0<=v.n.bp
    ·rw[decide_eq_false (by omega:¬v.n.bp<(i:Int))];simp
    ·rw[decide_eq_false J];rfl
   ·simp only[U];rw[cE (by omega) (by omega)];rfl
   ·have cZ:v.n.bp= -1:=by simpa[U] using cZ
    rw[gv,cZ];rfl
 ·simp only[U,c7] at c2;rw[o1 (by rw[lI];omega)] at hu;have hu:bq.ho p.av=(p.av.ao.all (bq.qX p.av)&&p.av.bj.all (bq.n7 p.av)):=hu;clear c2 a8
  have Kn:∀(x:Int) (dE:al),da prog 73 #[.agg (gA p).toArray,.int .i64 x] dE (.bool (bq.is p.av x)):=fun x dE=>by
   have:=TV p x dE;rw[show(er 0 x&&eg x p.ao.length)=bq.is p.av x from by unfold bq.is er eg;rw[lI]] at this;exact this
  have Cz:∀{x:Int},bq.is p.av x=true->0<=x∧x<p.ao.length:=fun h=>by
   unfold bq.is at h;rw[lI] at h;simpa using h
  refine dJ (fun aj vs ls _=>∃i:Nat,vs=[.int .i64 (i:Nat)]∧ls=[]∧i<=p.ao.length∧aj=p.ao.length-i∧bq.ho p.av=((p.av.ao.drop i).all (bq.qX p.av)&&p.av.bj.all (bq.n7 p.av))) p.ao.length ⟨0,by simp[U],rfl,dr _,rfl,hu⟩ ?_;clear hu;rintro aj vs ls cq bo ⟨i,rfl,rfl,a8,rfl,hu⟩;have hp:=hp.ext bo;clear bo;refine⟨(i:Int),rfl,rfl,fun _=>aK (fun c2=>?_) fun c2=>?_⟩
  ·simp only[U,cX] at c2;have cp:i<p.ao.length:=by omega
   have j:p.ao[i]? =some p.ao[i]:=dn cp;have a_:p.ao.drop i=p.ao[i]::p.ao.drop (i+1):=mG cp;generalize p.ao[i]=v at j a_;rw[qZ,a_,jo,<-qZ,qe] at hu;have wC:=b_.dL hp.ns (by omega);refine a6 ?_ (a6 ?_ (cI ⟨v.n.ay,v.n.bp,v.n.on,v.n.ev,v.n.vars.length,v.bA,v.n.bL.length,v.ck,v.n.cb,⟨v.n.aT.toArray⟩,⟨v.n.key.toArray⟩,⟨v.n.ca.toArray⟩,⟨v.n.set.toArray⟩,v.bx,v.ch,fun dI cA=>?_,?_⟩))
   ·simp only[E.b,aR,aX.push];exact wC
   ·exact eZ (by simp only[U];omega)
   ·have:=gh (P:=prog) eO (by decide) hp.ns iw ix j cA;simp only[U,ff] at this ⊢;exact this
   simp only[aU];refine bY fun m1 dH _ bo=>bS fun dI cd=>?_
   have hp:=hp.ext (aD bo cd);clear bo cd;simp only[aU];have gl:bq.qX p.av v.n=false->Value.bool false= .bool (bq.ho p.av):=fun h=>by rw[hu,h];rfl
   have again:bq.qX p.av v.n=true->bq.ho p.av=((p.av.ao.drop (i+1)).all (bq.qX p.av)&&p.av.bj.all (bq.n7 p.av)):=fun h=>by rw[hu,h,eX]
   refine aK (fun c3=>?_) fun c3=>cj fun V x=>eC fun dQ _ df _ _=>b1 ⟨p.ao.length-(i+1),by omega,i+1,?_,rfl,by omega,rfl,again ?_⟩
   ·have c3:v.n.ay=15:=by simpa[U] using c3
    refine lF ⟨bq.is p.av v.n.on,⟨fun rT oz _ _=>Kn v.n.on rT,?_⟩⟩;simp only[aU];refine a6 ?_ (a6 ?_ (aK (fun c4=>?_) fun c4=>cj fun V x=>aP fun _ _ _=>⟨_,rfl,gl ?_⟩))
    ·simp only[U];cases J:bq.is p.av v.n.on
     ·rfl
     ·rw[c_ (Cz J).1];rfl
    ·simp only[U];cases J:bq.is p.av v.n.on
     ·rfl
     ·rw[dW (Cz J).2];rfl
    ·have c4:bq.is p.av v.n.on=true:=c4;obtain⟨ec,fc⟩:=Cz c4;have iM:p.ao[v.n.on.toNat]? =some p.ao[v.n.on.toNat]:=dn (by omega);generalize p.ao[v.n.on.toNat]=u at iM
     have I:bq.qX p.av v.n=(ab.act u.n.ay&&u.n.bp==v.n.bp):=by
      unfold bq.qX;rw[c4,kZ iM,c3];rfl
     refine cI ⟨u.n.ay,fun cV bU=>?_,?_⟩
     ·have:=ed (P:=prog) eO hp.ns pr (k:=1) iM (by decide) (u:=.int .u8 u.n.ay) rfl bU;simp only[U] at this ⊢;exact this
     simp only[aU];refine lF ⟨ab.act u.n.ay,⟨fun rT oz _ _=>avj u.n.ay rT,aK (fun c5=>?_) fun c5=>cj fun V x=>aP fun _ _ _=>⟨_,rfl,gl ?_⟩⟩⟩
     ·have c5:ab.act u.n.ay=true:=c5;refine cI ⟨u.n.bp,fun cV bU=>?_,cj fun V x=>aK (fun bw=>aP fun _ _ _=>⟨_,rfl,gl ?_⟩) fun bw=>eC fun dQ _ df _ _=>b1 ⟨p.ao.length-(i+1),by omega,i+1,?_,rfl,by omega,rfl,again ?_⟩⟩
      ·have:=ed (P:=prog) eO hp.ns nn (k:=2) iM (by decide) (u:=.int .i64 u.n.bp) rfl bU;simp only[U] at this ⊢;exact this
      ·have bw:¬u.n.bp=v.n.bp:=by simpa[U] using bw
       rw[I,show(u.n.bp==v.n.bp)=false from by simpa using bw];simp
      ·simp only[U];rw[cE (by omega) (by omega)];rfl
      ·have bw:u.n.bp=v.n.bp:=by simpa[U] using bw
       rw[I,c5,bw];simp
     ·have c5:ab.act u.n.ay=false:=c5;rw[I,c5];rfl
    ·have c4:bq.is p.av v.n.on=false:=c4;unfold bq.qX;rw[c4,c3];rfl
   ·simp only[U];rw[cE (by omega) (by omega)];rfl
   ·have c3:¬v.n.ay=15:=by simpa[U] using c3
    unfold bq.qX;rw[show(v.n.ay==15)=false from by simpa using c3];rfl
  ·simp only[U,c7] at c2;rw[o1 (by rw[lI];omega)] at hu;have hu:bq.ho p.av=p.bj.all (bq.n7 p.av):=hu;clear c2 a8;refine dJ (fun aj vs ls _=>∃k:Nat,vs=[.int .i64 (k:Nat)]∧ls=[]∧k<=p.bj.length∧aj=p.bj.length-k∧bq.ho p.av=(p.bj.drop k).all (bq.n7 p.av)) p.bj.length ⟨0,by simp[U],rfl,dr _,rfl,hu⟩ ?_;clear hu;rintro aj vs ls dH cd ⟨k,rfl,rfl,aA,rfl,hu⟩;have hp:=hp.ext cd;clear cd;refine⟨(k:Int),rfl,rfl,fun _=>aK (fun c2=>?_) fun c2=>aP fun _ _ _=>⟨_,rfl,?_⟩⟩
   ·simp only[U,cX] at c2;have e8:k<p.bj.length:=by omega
    have j:p.bj[k]? =some p.bj[k]:=dn e8;have a_:p.bj.drop k=p.bj[k]::p.bj.drop (k+1):=mG e8;generalize p.bj[k]=f at j a_;rw[a_,qe] at hu;have gl:bq.n7 p.av f=false->Value.bool false= .bool (bq.ho p.av):=fun h=>by rw[hu,h];rfl
    have again:bq.n7 p.av f=true->bq.ho p.av=(p.bj.drop (k+1)).all (bq.n7 p.av):=fun h=>by rw[hu,h,eX]
    refine a6 ?_ (a6 ?_ (cI ⟨f.dY,f.to,f.gN,⟨f.cond.toArray⟩,fun cV bU=>?_,?_⟩))
    ·simp only[E.b,aR,aX.push];exact b_.dL hp.fs (by omega)
    ·exact eZ (by simp only[U];omega)
    ·have:=gh (P:=prog) rK (by decide) hp.fs xt xu j bU;simp only[U,ff] at this ⊢;exact this
    simp only[aU];refine bY fun m1 dI _ bo=>bS fun cV cd=>?_
    have hp:=hp.ext (aD bo cd);clear bo cd;simp only[aU];refine b5 (fun _ _=>Kn f.dY cV) ⟨bq.is p.av f.dY,rfl,fun dQ df=>aK (fun c3=>?_) fun c3=>aP fun _ _ _=>⟨_,rfl,gl ?_⟩⟩;rotate_left
    ·have c3:bq.is p.av f.dY=false:=c3;unfold bq.n7;rw[c3];rfl
    have c3:bq.is p.av f.dY=true:=c3;have hp:=hp.ext df;clear df;simp only[aU];refine b5 (fun _ _=>Kn f.to dQ) ⟨bq.is p.av f.to,rfl,fun dX dK=>aK (fun c4=>aP fun _ _ _=>⟨_,rfl,gl ?_⟩) fun c4=>?_⟩
    ·have c4:bq.is p.av f.to=false:=by simpa[U] using c4
     unfold bq.n7;rw[c4];simp
    have c4:bq.is p.av f.to=true:=by simpa[U] using c4
    have hp:=hp.ext dK;clear dK;simp only[aU];obtain⟨g1,g2⟩:=Cz c3;obtain⟨g3,g4⟩:=Cz c4;have pJ:p.ao[f.dY.toNat]? =some p.ao[f.dY.toNat]:=dn (by omega);have nf:p.ao[f.to.toNat]? =some p.ao[f.to.toNat]:=dn (by omega);generalize p.ao[f.dY.toNat]=a at pJ;generalize p.ao[f.to.toNat]=b at nf;have I:bq.n7 p.av f=bq.Fh a.n b.n:=by unfold bq.n7;rw[c3,c4,kZ pJ,kZ nf];rfl
    refine a6 ?_ (a6 ?_ (a6 ?_ (cI ⟨a.n.ay,a.n.bp,a.n.on,a.n.ev,a.n.vars.length,a.bA,a.n.bL.length,a.ck,a.n.cb,⟨a.n.aT.toArray⟩,⟨a.n.key.toArray⟩,⟨a.n.ca.toArray⟩,⟨a.n.set.toArray⟩,a.bx,a.ch,fun cV bU=>?_,?_⟩)))
    ·simp only[E.b,aR,aX.push];exact b_.dL hp.ns (by omega)
    ·exact eZ (by simp only[U];omega)
    ·simp only[U];exact dW (by omega)
    ·have:=gh (P:=prog) eO (by decide) hp.ns iw ix pJ bU;simp only[U,ff] at this ⊢;exact this
    simp only[aU];refine a6 ?_ (a6 ?_ (cI ⟨b.n.ay,b.n.bp,b.n.on,b.n.ev,b.n.vars.length,b.bA,b.n.bL.length,b.ck,b.n.cb,⟨b.n.aT.toArray⟩,⟨b.n.key.toArray⟩,⟨b.n.ca.toArray⟩,⟨b.n.set.toArray⟩,b.bx,b.ch,fun cV bU=>?_,?_⟩))
    ·exact eZ (by simp only[U];omega)
    ·simp only[U];exact dW (by omega)
    ·have:=gh (P:=prog) eO (by decide) hp.ns iw ix nf bU;simp only[U,ff] at this ⊢;exact this
    simp only[aU];refine oF ?_ ?_
    all_goals
     refine cj fun _ _=>bY fun _ _ _ _=>cj fun _ _=>bY fun _ _ _ _=>cj fun _ _=>bS fun _ _=>cj fun _ _=>bS fun _ _=>aK (fun c5=>aP fun _ _ _=>⟨_,rfl,gl ?_⟩) fun c5=>eC fun _ _ _ _ _=>b1 ⟨p.bj.length-(k+1),by omega,k+1,?_,rfl,by omega,rfl,again ?_⟩
     ·rw[I];unfold bq.Fh;rw[kt];exact c5
     ·simp only[U];rw[cE (by omega) (by omega)];rfl
     ·rw[I];unfold bq.Fh;rw[hq];exact c5
   ·simp only[U,c7] at c2;rw[o1 (by omega)] at hu;rw[hu];rfl
theorem FH (s:ab.aM) (bD:s.length<=1000) (l:List ab.Var) (a:Option Addr) (c:Nat) (kind:Int) (W:al) (aO:l.length<=1000000) (ct:b_ W a l.length c 4 (l.flatMap e7)):
  da prog 41 #[.string ⟨s.toArray⟩,.slice a l.length c,.int .u8 kind] W (.int .i64 (bF.fp s l kind)):=by
 have:=aqT ⟨s.toArray⟩ (by rw[lH];omega) l a c kind W aO ct;rw[show(⟨s.toArray⟩:ByteArray).data.toList=s from by simp] at this;exact this
theorem T4:hr prog 28=some false:=by kernel_rfl
set_option maxHeartbeats 1000000 in
theorem avF (cQ:List cP) (hV:Option Addr) (hW:Nat) (p:cP) (i:Nat) (W:al) (a_:cQ.length<=1000000) (fX:b_ W hV cQ.length hW 4 (cQ.flatMap gA)) (eS:∀q∈cQ,fw q W) (hp:fw p W) (aw:zT p.av) (a8:i<p.ao.length) (kF:(au.fQ p.av i).length<=1000000):
  da prog 40 #[.slice hV cQ.length hW,.agg (gA p).toArray,.int .i64 (i:Nat)] W (.int .i64 (au.iy (cQ.map cP.av) p.av i)):=by
 have fX:=fX.ext W.dw;have eS:∀q∈cQ,fw q W.all:=fun q bg=>(eS q bg).ext W.dw
 have hp:=hp.ext W.dw;have h5:=hp.h6;refine au0 (i:Int) cQ.length hW p.vars.length p.bA p.ao.length p.eF p.bj.length p.ef ⟨p.aT.toArray⟩ hV p.bx p.eL p.ea W.all _ ?_;have j:p.ao[i]? =some p.ao[i]:=dn a8;have j7:=hp.fn _ (h9 a8);have rn:=aw.at (h9 a8);generalize p.ao[i]=v at j j7 rn;have fW:au.dc p.av i=v.n:=kZ j;have zU:au.iy (cQ.map cP.av) p.av i=au.tO (cQ.map cP.av) (au.fQ p.av i) v.n:=by unfold au.iy;rw[fW]
 refine bY fun m W1 _ bM=>a6 ?_ (a6 ?_ (a6 ?_ (cI ⟨v.n.ay,v.n.bp,v.n.on,v.n.ev,v.n.vars.length,v.bA,v.n.bL.length,v.ck,v.n.cb,⟨v.n.aT.toArray⟩,⟨v.n.key.toArray⟩,⟨v.n.ca.toArray⟩,⟨v.n.set.toArray⟩,v.bx,v.ch,fun dI cA=>?_,?_⟩)))
 ·simp only[E.b,aR,aX.push];exact b_.dL hp.ns (by omega)
 ·exact eZ (by simp only[U];omega)
 ·simp only[U];exact dW (by omega)
 ·have:=gh (P:=prog) eO (by decide) hp.ns iw ix j (aD bM cA);simp only[U,ff] at this ⊢;exact this
 simp only[aU];refine bY fun m2 cn _ bH=>bS fun cq bo=>?_
 have eK:=aD bM (aD bH bo);have hp:=hp.ext eK;simp only[aU];refine iV (fun _ _=>T0 p (i:Int) cq hp) fun u w' _ ⟨gz,bw,hu,uw⟩=>⟨(au.fQ p.av i).length,bw,gz,hu,fun dH gj cd cH=>?_⟩
 have c1:=uw.h3 gj cH;have dO:=aD eK cd;have hp:=hp.ext cd;have fX:=fX.ext dO;have eS:∀q∈cQ,fw q dH:=fun q bg=>(eS q bg).ext dO
 have px:=j7.fY.ext dO;clear eK dO bM bH bo cd;simp only[aU];generalize au.fQ p.av i=jV at kF c1 zU ⊢;refine aK (fun aJ=>?_) fun aJ=>?_
 ·have aJ:v.n.ev=2:=by simpa[U] using aJ
  refine b5 (fun _ _=>FH v.n.ca rn.2 jV gz bw 1 dH kF c1) ⟨bF.fp v.n.ca jV 1,rfl,fun dI _=>aP fun _ _ _=>⟨_,rfl,?_⟩⟩;rw[zU];unfold au.tO;rw[if_pos (by rw[aJ];rfl)];rfl
 have aJ:¬v.n.ev=2:=by simpa[U] using aJ
 have aQ:¬(v.n.ev==2)=true:=by simpa using aJ
 refine aK (fun c2=>?_) fun c2=>?_
 ·have c2:v.n.ev=3∨v.n.ay=12:=by simpa[U] using c2
  refine b5 (fun _ _=>FH v.n.ca rn.2 jV gz bw 2 dH kF c1) ⟨bF.fp v.n.ca jV 2,rfl,fun dI _=>aP fun _ _ _=>⟨_,rfl,?_⟩⟩;rw[zU];unfold au.tO;rw[if_neg aQ,if_pos (by simpa using c2)];rfl
 have c2:¬(v.n.ev=3∨v.n.ay=12):=by simpa[U] using c2
 have bz:¬(v.n.ev==3||v.n.ay==12)=true:=by simpa using c2
 refine aK (fun c3=>?_) fun c3=>?_
 ·have c3:v.n.ay=4:=by simpa[U] using c3
  have T5:au.iy (cQ.map cP.av) p.av i=if au.named jV v.n.set==0 then 22 else bF.fp v.n.ca jV (au.named jV v.n.set):=by
   rw[zU];unfold au.tO;rw[if_neg aQ,if_neg bz,if_pos (by rw[c3];rfl)]
  refine b5 (fun _ _=>FF v.n.set jV gz bw dH kF c1) ⟨au.named jV v.n.set,rfl,fun dI cA=>aK (fun c4=>aP fun _ _ _=>⟨_,rfl,?_⟩) fun c4=>?_⟩
  ·have c4:au.named jV v.n.set=0:=by simpa[U] using c4
   rw[T5,if_pos (by rw[c4];rfl)];rfl
  ·have c4:¬au.named jV v.n.set=0:=by simpa[U] using c4
   simp only[aU];refine lF ⟨au.named jV v.n.set,⟨fun rT oz _ _=>FF v.n.set jV gz bw rT kF (c1.ext (aD cA oz)),?_⟩⟩;simp only[aU];refine lF ⟨bF.fp v.n.ca jV (au.named jV v.n.set),⟨fun rT oz _ _=>FH v.n.ca rn.2 jV gz bw _ rT kF (c1.ext (aD cA oz)),cj fun _ _=>aP fun _ _ _=>⟨_,rfl,?_⟩⟩⟩;rw[T5,if_neg (by simpa using c4)];rfl
 have c3:¬v.n.ay=4:=by simpa[U] using c3
 refine aK (fun c4=>aP fun _ _ _=>⟨_,rfl,?_⟩) fun c4=>?_
 ·have c4:¬v.n.ay=14:=by simpa[U] using c4
  rw[zU];unfold au.tO;rw[if_neg aQ,if_neg bz,if_neg (by simpa using c3),if_pos (by simpa using c4)];rfl
 have c4:v.n.ay=14:=by simpa[U] using c4
 have mh:au.iy (cQ.map cP.av) p.av i=au.vc ((cQ.find? fun q=>q.aT==v.n.key).map cP.av) jV v.n:=by
  rw[zU];unfold au.tO;rw[if_neg aQ,if_neg bz,if_neg (by simpa using c3),if_neg (by rw[c4];decide),I4]
 refine dJ (fun aj vs ls _=>∃(k:Nat) (at':Int),vs=[.int .i64 at',.int .i64 (k:Nat)]∧ls=[]∧k<=cQ.length∧aj=cQ.length-k∧((at'= -1∧(cQ.find? fun q=>q.aT==v.n.key)=(cQ.drop k).find? fun q=>q.aT==v.n.key)∨∃(aj:Nat) (x:cP),at'=(aj:Int)∧cQ[aj]? =some x∧(cQ.find? fun q=>q.aT==v.n.key)=some x)) cQ.length ⟨0,-1,by simp[U],rfl,dr _,rfl,.inl ⟨rfl,rfl⟩⟩ ?_;rintro aj vs ls dI cA ⟨k,at',rfl,rfl,aA,rfl,Ko⟩;refine⟨at',(k:Int),rfl,rfl,fun _=>aK (fun d1=>?_) fun d1=>aK (fun d2=>aP fun _ _ _=>⟨_,rfl,?_⟩) fun d2=>?_⟩
 ·have d1:k<cQ.length∧at'<0:=by
   simp only[U,bT,cX] at d1;omega
  obtain⟨e8,ayz⟩:=d1;have jb:cQ[k]? =some cQ[k]:=dn e8;have iX:cQ.drop k=cQ[k]::cQ.drop (k+1):=mG e8;generalize cQ[k]=q at jb iX;rcases Ko with⟨rfl,bs⟩|⟨aj,x,rfl,_⟩
  ·rw[iX,hY] at bs;refine a6 ?_ (a6 ?_ (cI ⟨⟨q.aT.toArray⟩,fun cV bU=>?_,cj fun dQ df=>aK (fun cv=>b1 ⟨cQ.length-(k+1),by omega,k+1,(k:Int),?_,rfl,by omega,rfl,.inr ⟨k,q,rfl,jb,?_⟩⟩) fun cv=>b1 ⟨cQ.length-(k+1),by omega,k+1,-1,?_,rfl,by omega,rfl,.inl ⟨rfl,?_⟩⟩⟩))
   ·simp only[E.b,aR,aX.push];exact b_.dL fX (by omega)
   ·exact eZ (by simp only[U];omega)
   ·have:=ed (P:=prog) u7 fX nP (k:=0) jb (by decide) (u:=gO q.aT) rfl (aD cA bU);simp only[U] at this ⊢;exact this
   ·simp only[U];rw[cE (by omega) (by omega)];rfl
   ·have cv:(q.aT==v.n.key)=true:=cv;rw[cv] at bs;exact bs
   ·simp only[U];rw[cE (by omega) (by omega)];rfl
   ·have cv:(q.aT==v.n.key)=false:=cv;rw[cv] at bs;exact bs
  ·omega
 ·have d2:at'<0:=by simpa[U,eg] using d2
  have Ao:k=cQ.length:=by
   have d1:¬(k<cQ.length∧at'<0):=by
    rintro⟨b0,bZ⟩;simp only[U] at d1;rw[dW (by omega:(k:Int)<(cQ.length:Int)),dW bZ] at d1;cases d1
   omega
  rcases Ko with⟨_,bs⟩|⟨aj,x,rfl,_⟩
  ·rw[Ao,List.drop_length] at bs;rw[mh,bs];rfl
  ·omega
 ·have d2:¬at'<0:=by simpa[U,eg] using d2
  rcases Ko with⟨rfl,_⟩|⟨aj,q,rfl,bg,bs⟩
  ·omega
  have pc:aj<cQ.length:=(nU.1 bg).1;have kC:=k2 bg;have AJ:=(eS q kC).ext cA;have fX:=fX.ext cA;have c1:=c1.ext cA;have px:=px.ext cA;have LU:=AJ.h6;rw[bs] at mh
  have mh:au.iy (cQ.map cP.av) p.av i=if q.ao.any (fun y=>au.kp y.n) then au.nu q.vars jV v.n.bL else 22:=by
   rw[mh];show(if q.av.ao.any au.kp then _ else _)=_;rw[I5];rfl
  have avG:=b_.dL fX (by omega);clear cA bs d1 d2;refine dJ (fun CA vs ls _=>∃(k:Nat) (b:Bool),vs=[.bool b,.int .i64 (k:Nat)]∧ls=[]∧k<=q.ao.length∧CA=q.ao.length-k∧b=(q.ao.take k).any fun y=>au.kp y.n) q.ao.length ⟨0,false,by simp[U],rfl,dr _,rfl,rfl⟩ ?_;rintro CA vs ls cV bU ⟨k,b,rfl,rfl,aA,rfl,I⟩;have Kp:=AJ.ext bU;have fX:=fX.ext bU;have c1:=c1.ext bU;have px:=px.ext bU;clear bU;refine⟨(k:Int),b,rfl,rfl,fun _=>a6 ?_ (a6 ?_ (a6 ?_ (cI ⟨q.ao.length,q.eF,q.eL,fun dQ df=>?_,aK (fun bw=>?_) fun bw=>?_⟩)))⟩
  ·simp only[E.b,aR,aX.push];exact avG
  ·exact eZ (by simp only[U];omega)
  ·simp only[U];exact dW (by omega)
  ·have:=ed (P:=prog) u7 fX T4 (k:=2) bg (by decide) (u:=.slice q.eL q.ao.length q.eF) rfl df;simp only[U] at this ⊢;exact this
  ·simp only[U,cX] at bw;have e8:k<q.ao.length:=by omega
   have jb:q.ao[k]? =some q.ao[k]:=dn e8;have kL:q.ao.take (k+1)=q.ao.take k++[q.ao[k]]:=o0 e8;generalize q.ao[k]=y at jb kL;refine cI ⟨q.ao.length,q.eF,q.eL,fun dQ df=>?_,?_⟩
   ·have:=ed (P:=prog) u7 fX T4 (k:=2) bg (by decide) (u:=.slice q.eL q.ao.length q.eF) rfl df;simp only[U] at this ⊢;exact this
   simp only[aU];refine a6 ?_ (a6 ?_ (a6 ?_ (cI ⟨y.n.ay,y.n.bp,y.n.on,y.n.ev,y.n.vars.length,y.bA,y.n.bL.length,y.ck,y.n.cb,⟨y.n.aT.toArray⟩,⟨y.n.key.toArray⟩,⟨y.n.ca.toArray⟩,⟨y.n.set.toArray⟩,y.bx,y.ch,fun dQ df=>?_,?_⟩)))
   ·simp only[E.b,aR,aX.push];exact b_.dL Kp.ns (by omega)
   ·exact eZ (by simp only[U];omega)
   ·simp only[U];exact dW (by omega)
   ·have:=gh (P:=prog) eO (by decide) Kp.ns iw ix jb df;simp only[U,ff] at this ⊢;exact this
   simp only[aU];refine bY fun m3 dQ _ df=>bS fun dX dK=>eC fun fm _ eY _ _=>b1 ⟨q.ao.length-(k+1),by omega,k+1,b||au.kp y.n,?_,rfl,by omega,rfl,?_⟩
   ·simp only[U];rw[cE (by omega) (by omega)];rfl
   ·rw[kL,List.any_append,<-I];simp
  ·simp only[U,c7] at bw;rw[sQ (by omega)] at I;rw[<-I] at mh;refine aK (fun cv=>aP fun _ _ _=>⟨_,rfl,?_⟩) fun cv=>?_
   ·have cv:b=false:=by simpa[U] using cv
    rw[mh,cv];rfl
   have cv:b=true:=by simpa[U] using cv
   rw[cv] at mh;have mh:au.iy (cQ.map cP.av) p.av i=au.nu q.vars jV v.n.bL:=mh;clear I bw cv;have EF:=j7.zh;refine dJ (fun CA vs ls _=>∃r:Nat,vs=[.int .i64 (r:Nat)]∧ls=[]∧r<=v.n.bL.length∧CA=v.n.bL.length-r∧au.iy (cQ.map cP.av) p.av i=au.nu q.vars jV (v.n.bL.drop r)) v.n.bL.length ⟨0,by simp[U],rfl,dr _,rfl,mh⟩ ?_;clear mh;rintro CA vs ls dQ df ⟨r,rfl,rfl,ayA,rfl,mh⟩;have T6:=Kp.ext df;have fX:=fX.ext df;have c1:=c1.ext df;have px:=px.ext df;clear df;refine⟨(r:Int),rfl,rfl,fun _=>aK (fun ow=>?_) fun ow=>aP fun _ _ _=>⟨_,rfl,?_⟩⟩
   ·simp only[U,cX] at ow;have oI:r<v.n.bL.length:=by omega
    have FI:v.n.bL[r]? =some v.n.bL[r]:=dn oI;have iX:v.n.bL.drop r=v.n.bL[r]::v.n.bL.drop (r+1):=mG oI;generalize v.n.bL[r]=z at FI iX;rw[iX] at mh;simp only[au.nu] at mh;have cS:∀{V:al},Ext dQ V->(Instr.loadAt 9 (.pointer (some ((v.ch.getD default).add (r*1+0))))).run prog V.w= .ok (gO z) V.w:=fun x=>ed (P:=prog) (f:=fun s=>[gO s]) (sz:=1) (fun _=>rfl) px nP (k:=0) FI (by decide) (u:=gO z) rfl x
    refine cI ⟨q.vars.length,q.bA,q.bx,fun dX dK=>?_,?_⟩
    ·have:=ed (P:=prog) u7 fX tN (k:=1) bg (by decide) (u:=.slice q.bx q.vars.length q.bA) rfl dK;simp only[U] at this ⊢;exact this
    simp only[aU];refine a6 ?_ (a6 ?_ (cI ⟨⟨z.toArray⟩,fun dX dK=>?_,?_⟩))
    ·simp only[E.b,aR,aX.push];exact b_.dL px (by omega)
    ·exact eZ (by simp only[U];omega)
    ·have:=cS dK;simp only[U] at this ⊢;exact this
    simp only[aU];refine lF ⟨au.named q.vars z,⟨fun rT oz _ _=>FF z q.vars q.bx q.bA rT T6.gX (T6.vs.ext oz),cI ⟨⟨z.toArray⟩,fun dX dK=>?_,?_⟩⟩⟩
    ·have:=cS dK;simp only[U] at this ⊢;exact this
    simp only[aU];refine lF ⟨au.named jV z,⟨fun rT oz _ _=>FF z jV gz bw rT kF (c1.ext oz),cj fun dX dK=>aK (fun cZ=>aP fun _ _ _=>⟨_,rfl,?_⟩) fun cZ=>aK (fun c9=>aP fun _ _ _=>⟨_,rfl,?_⟩) fun c9=>b1 ⟨v.n.bL.length-(r+1),by omega,r+1,?_,rfl,by omega,rfl,?_⟩⟩⟩
    ·have cZ:(au.named q.vars z==0||au.named jV z==0)=true:=cZ;rw[mh,if_pos cZ];rfl
    ·have cZ:¬(au.named q.vars z==0||au.named jV z==0)=true:=by rw[Bool.not_eq_true];exact cZ
     have c9:(!(au.named q.vars z==au.named jV z))=true:=c9;rw[mh,if_neg cZ,if_pos c9];rfl
    ·simp only[U];rw[cE (by omega) (by omega)];rfl
    ·have cZ:¬(au.named q.vars z==0||au.named jV z==0)=true:=by rw[Bool.not_eq_true];exact cZ
     have c9:¬(!(au.named q.vars z==au.named jV z))=true:=by rw[Bool.not_eq_true];exact c9
     rw[mh,if_neg cZ,if_neg c9]
   ·simp only[U,c7] at ow;rw[mh,o1 (by omega)];rfl
end Go.Proofs.YtkpjmlnhhggenaaGreatDoor
end
section
namespace bq
open Go ab
open au (dc gY)
def sM (p:dR) (s kind:Int):Nat->Nat->Nat->List dM->Option (Nat×Nat)
 |_,pl,lu,[]=>some (pl,lu)
 |i,pl,lu,n::l=>
  if !(n.bp==s) then sM p s kind (i+1) pl lu l
  else if kind==12&&(n.ay==1||n.ay==2) then none
  else if !(n.ay==1) then sM p s kind (i+1) pl lu l
  else if((decide (s<0)&&!(n.ev==0))&&(!(n.ev==1)||n.cb))||((kind==13&&n.ev==4)&&!n.cb) then none
  else if decide (s<0)&&(p.ao.take i).any (fun m=>(((m.bp==s&&m.ay==1)&&m.ev==1)&&n.ev==1)&&m.key==n.key) then none
  else sM p s kind (i+1) (if n.ev==0 then pl+1 else pl) (if n.ev==0 then lu else lu+1) l
def CB (kind:Int):Option (Nat×Nat)->Bool
 |none=>false
 |some (pl,lu)=>if kind=0 then decide (pl<=1)&&decide (1<=pl+lu) else if kind=11 then pl==1&&lu==0 else if kind=13 then pl==0&&lu==1 else true
def pE (p:dR) (s:Int):Bool:=
 if 0<=s then !scope (dc p s.toNat).ay||CB (dc p s.toNat).ay (sM p s (dc p s.toNat).ay 0 0 0 p.ao) else CB 0 (sM p s 0 0 0 0 p.ao)
def lp (p:dR):Bool:=pE p (-1)&&(List.range p.ao.length).all fun i=>pE p (i:Int)
def lone (n:dM):Bool:=((n.ay==1||n.ay==15)||n.ay==13)||(n.ay==6&&n.ev==6)
def last (n:dM):Bool:=((n.ay==2||n.ay==13)||n.ay==15)||(n.ay==5&&n.ev==6)
def vw (p:dR) (i:Nat) (n:dM):Bool:=(decide (0<=n.bp)&&(dc p n.bp.toNat).ay==12)|| !((!lone n&&qc p i==0)||(!last n&&nx p i==0))
def tX (p:dR) (i:Nat) (ay:Int) (FJ:Bool):Nat->List hQ->Option Nat
 |e,[]=>some e
 |e,f::l=>
  if !(f.dY==(i:Int)) then tX p i ay FJ e l
  else if((FJ&&!f.gN)&&f.cond==[])||(!FJ&&(f.gN|| !(f.cond==[]))) then none
  else if ay==10&&(!((dc p f.to.toNat).ay==6)|| !(qc p f.to==1)) then none
  else tX p i ay FJ (if f.gN then e+1 else e) l
def tY (p:dR) (i:Nat) (n:dM):Bool:=
 match tX p i n.ay ((n.ay==7||n.ay==9)&&decide (1<nx p i)) 0 p.bj with
 |none=>false
 |some e=>!(decide (1<e)||(n.ay==10&&decide (nx p i<2)))&&(!(n.ay==5&&n.ev==6)||(p.ao.countP fun c=>((c.ay==6&&c.ev==6)&&c.bp==n.bp)&&c.key==n.key)==1)
def bj (p:dR):Bool:=gY (vw p) 0 p.ao&&gY (tY p) 0 p.ao
def fp (cQ:List dR) (p:dR):Int:=
 if jm p≠0 then jm p
 else if(ho p&&(lp p&&bj p))=false then 4
 else if fo (au.iy cQ p) (List.range p.ao.length)≠0 then fo (au.iy cQ p) (List.range p.ao.length)
 else fo (au.cond p) p.bj
end bq
namespace ez
open Go ab
def ar (aT:aM) (k:Int):dM:=⟨aT,k,0,0,0,[],[],[],false,[],[]⟩
def at' (n:dM) (k:Int):dM:={n with bp:=k}
def out (n:dM):dM:=at' n (-1)
def rU (n:dM):dM:=if n.ay=15 then n else {n with on:= -1}
def skip (n:dM):Bool:=((!(n.bp== -1)||n.ay==1)||n.ay==15)||n.ay==13
def q0:Nat->Nat->List dM->List hQ×Nat
 |_,mB,[]=>([],mB)
 |i,mB,n::l=>if skip n then q0 (i+1) mB l else(⟨mB,i,[],false⟩::(q0 (i+1) i l).1,(q0 (i+1) i l).2)
def T7:dM:=⟨[115],1,-1,-1,0,[],[],[],false,[],[]⟩
def T8:dM:=⟨[101],2,-1,-1,0,[],[],[],false,[],[]⟩
def zV:Var:=⟨[120],1,1,[]⟩
def line (l:List dM):dR:=⟨[112],[zV],T7::l.map rU++[T8],(q0 1 0 (l.map rU)).1++[⟨(q0 1 0 (l.map rU)).2,(l.length:Int)+1,[],false⟩]⟩
def rV (p:dR) (a b:Int):dR:={p with bj:=p.bj++[⟨a,b,[],false⟩]}
def start:dM:=ar [116] 1
def q1:dM:=ar [117] 2
def pF:dM:=ar [119] 3
def part:dM:=out (ar [113] 11)
def r_:dR:={line [] with aT:=[99]}
def oh (on:Int):dM:={ar [98] 15 with on:=on,ev:=1,key:=[107]}
def x6:List (dR×Int):=[
 (line [],0),
 (line [out pF],0),
 (line [out pF,out pF],4),
 (line [at' pF 5],4),
 (line [at' pF 0],4),
 (rV (line [part,at' start 1,at' q1 1]) 2 3,0),
 (line [part,at' start 1,at' q1 1],4),
 (rV (line [part,at' q1 1]) 2 2,4),
 (line [part],4),
 (rV (line [part,at' start 1,at' q1 1]) 2 4,4),
 (line [out pF,out (oh 1)],0),
 (line [out pF,out (oh 0)],4),
 (line [out pF,out (oh 9)],4),
 (line [out start],4),
 (rV (line [out {ar [116] 1 with ev:=1,key:=[107]}]) 1 2,0),
 (rV (line [out {ar [116] 1 with ev:=1,key:=[107],cb:=true}]) 1 2,4),
 (rV (line [out {ar [116] 1 with ev:=2,ca:=[49]}]) 1 2,4),
 (rV (line [out (ar [122] 13),at' {ar [116] 1 with ev:=4,cb:=true} 1,at' q1 1]) 2 3,0),
 (rV (line [out (ar [122] 13),at' {ar [116] 1 with ev:=4} 1,at' q1 1]) 2 3,4),
 (rV (line [out (ar [122] 13),at' start 1,at' q1 1]) 2 3,4),
 (line [out {ar [104] 12 with ca:=[120,32,62,32,49]}],4),
 (line [out {ar [104] 12 with ca:=[49,32,60,32,120]},at' pF 1],0),
 (line [out {ar [104] 12 with ca:=[120]},at' pF 1],23),
 (line [out {ar [104] 12 with ca:=[121,101,115]},at' q1 1],4),
 (line [out {ar [104] 12 with ca:=[118],vars:=[⟨[118],2,0,[]⟩]}],0),
 (line [out (ar [114] 10)],4),
 (line [out {ar [108] 5 with ev:=6,key:=[107]}],4),
 (line [out {ar [99] 4 with set:=[120],ca:=[120,32,43,32,49]}],0),
 (line [out {ar [99] 4 with set:=[121],ca:=[120,32,43,32,49]}],22),
 (line [out {ar [99] 4 with set:=[120],ca:=[121,101,115]}],23),
 (line [out {ar [99] 6 with ev:=2,ca:=[120,32,42,32,50]}],0),
 (line [out {ar [99] 6 with ev:=3,ca:=[120]}],23),
 (line [out {ar [102] 14 with key:=[99]}],0),
 (line [out {ar [102] 14 with key:=[100]}],22),
 (line [out {ar [102] 14 with key:=[99],bL:=[[120]]}],0),
 (line [out {ar [102] 14 with key:=[99],bL:=[[121]]}],22)]
theorem avH:(x6.all fun r=>au.fp [r_] r.1==r.2)=true:=by decide+kernel
theorem avI:(x6.all fun r=>bq.fp [r_] r.1==r.2)=true:=by decide+kernel
end ez
end
section
namespace bq
open Go ab
theorem avJ {p:dR} (h:∀k:Nat,k<p.ao.length+1->pE p ((k:Int)-1)=true):lp p=true:=by
 unfold lp;rw[bT,ep];refine⟨h 0 (by omega),fun i a8=>?_⟩;have:=h (i+1) (by have:=vL.1 a8;omega);rwa[show(((i+1:Nat):Int)-1)=i by omega] at this
theorem avK {p:dR} {k:Nat} (aA:k<p.ao.length+1) (h:pE p ((k:Int)-1)=false):lp p=false:=by
 rw[<-Bool.not_eq_true];unfold lp;rw[bT,ep];rintro⟨bk,J⟩;cases k with
 |zero=>have h:pE p (-1)=false:=h;rw[bk] at h;cases h
 |succ k=>have:=J k (vL.2 (by omega));rw[show(((k+1:Nat):Int)-1)=k by omega] at h;rw[h] at this;cases this
end bq
namespace Go.Proofs.YtkpjmlnhhggenaaGreatDoor
open Go.Proofs.Tryz Go Go.RowKit Go.cK
set_option maxHeartbeats 1000000 in
theorem avL (p:cP) (W:al) (hp:fw p W):da prog 38 #[.agg (gA p).toArray] W (.bool (bq.lp p.av)):=by
 have hp:=hp.ext W.dw;have h5:=hp.h6;have lI:p.av.ao.length=p.ao.length:=kM p;have qZ:∀i:Nat,p.av.ao.drop i=(p.ao.drop i).map (·.n):=fun i=>by show(p.ao.map _).drop i=_;rw[List.map_drop]
 refine atk p.vars.length p.bA p.ao.length p.eF p.bj.length p.ef ⟨p.aT.toArray⟩ p.bx p.eL p.ea W.all _ ?_;refine bY fun m W1 _ bM=>?_
 have hp:=hp.ext bM;clear bM;simp only[aU];refine dJ (fun aj vs ls _=>∃i:Nat,vs=[.int .i64 ((i:Int)-1)]∧ls=[]∧i<=p.ao.length+1∧aj=p.ao.length+1-i∧∀k:Nat,k<i->bq.pE p.av ((k:Int)-1)=true) (p.ao.length+1) ⟨0,by simp[U],rfl,dr _,rfl,fun _ h=>absurd h (Nat.not_lt_zero _)⟩ ?_;rintro aj vs ls cn bH ⟨i,rfl,rfl,a8,rfl,hc⟩;have hp:=hp.ext bH;clear bH
 have zW:bq.pE p.av ((i:Int)-1)=true->∀k:Nat,k<i+1->bq.pE p.av ((k:Int)-1)=true:=fun h k aA=>by
  rcases Nat.lt_succ_iff_lt_or_eq.1 aA with J|rfl
  ·exact hc k J
  ·exact h
 have gl:i<p.ao.length+1->bq.pE p.av ((i:Int)-1)=false->Value.bool false= .bool (bq.lp p.av):=fun aO h=>by rw[bq.avK (by rw[lI];exact aO) h]
 obtain⟨s,bD⟩:∃s,s=(i:Int)-1:=⟨_,rfl⟩;rw[<-bD] at zW gl ⊢;refine⟨s,rfl,rfl,fun _=>aK (fun aJ=>?_) fun aJ=>aP fun _ _ _=>⟨_,rfl,?_⟩⟩;rotate_left
 ·simp only[U,c7] at aJ;have ik:i=p.ao.length+1:=by omega
  rw[bq.avJ (by rw[lI,<-ik];exact hc)];rfl
 simp only[U,cX] at aJ;have cp:i<p.ao.length+1:=by omega
 have jn:Value.int .i64 (IntKind.i64.wrap (s+1))= .int .i64 (((i+1:Nat):Int)-1):=by rw[cE (by omega) (by omega),bD];congr 1;omega
 refine kV (fun vs ls _=>∃ay:Int,vs=[.int .u8 ay]∧ls=[]∧bq.pE p.av s=bq.CB ay (bq.sM p.av s ay 0 0 0 p.av.ao)) ?_ ?_
 ·refine aK (fun c2=>?_) fun c2=>b1 ⟨0,rfl,rfl,?_⟩
  ·simp only[U,uj] at c2;have iM:p.ao[s.toNat]? =some p.ao[s.toNat]:=dn (by omega);generalize p.ao[s.toNat]=u at iM;have fW:au.dc p.av s.toNat=u.n:=kZ iM;refine a6 ?_ (cI ⟨u.n.ay,fun cV bU=>?_,?_⟩)
   ·simp only[E.b,aR,aX.push];exact b_.dL hp.ns (by omega)
   ·have:=ed (P:=prog) eO hp.ns pr (k:=1) iM (by decide) (u:=.int .u8 u.n.ay) rfl bU;simp only[U] at this ⊢;exact this
   simp only[aU];refine b5 (fun _ _=>Kj u.n.ay cn) ⟨ab.scope u.n.ay,rfl,fun cV bU=>aK (fun c3=>b1 ⟨p.ao.length+1-(i+1),by omega,i+1,?_,rfl,by omega,rfl,zW ?_⟩) fun c3=>b1 ⟨u.n.ay,rfl,rfl,?_⟩⟩
   ·simp only[U];exact congrArg (fun v=>[v]) jn
   ·have c3:ab.scope u.n.ay=false:=by simpa[U] using c3
    unfold bq.pE;rw[if_pos c2,fW,c3];rfl
   ·have c3:ab.scope u.n.ay=true:=by simpa[U] using c3
    unfold bq.pE;rw[if_pos c2,fW,c3];rfl
  ·simp only[U,uk] at c2;unfold bq.pE;rw[if_neg (by omega)]
 rintro vs ls dH cd ⟨ay,rfl,rfl,cy⟩;have hp:=hp.ext cd;clear cd;refine⟨ay,rfl,rfl,fun _=>?_⟩;simp only[aU];refine dJ (fun aj vs ls _=>∃pl lu e:Nat,vs=[.int .i64 (pl:Nat),.int .i64 (lu:Nat),.int .i64 (e:Nat)]∧ls=[]∧e<=p.ao.length∧pl+lu<=e∧aj=p.ao.length-e∧bq.sM p.av s ay 0 0 0 p.av.ao=bq.sM p.av s ay e pl lu (p.av.ao.drop e)) p.ao.length ⟨0,0,0,by simp[U],rfl,dr _,e9 _,rfl,rfl⟩ ?_;rintro aj vs ls dI cA ⟨pl,lu,e,rfl,rfl,he,ayB,rfl,hu⟩;have hp:=hp.ext cA;clear cA;refine⟨(pl:Int),(lu:Int),(e:Int),rfl,rfl,fun _=>aK (fun c2=>?_) fun c2=>?_⟩
 ·simp only[U,cX] at c2;have jI:e<p.ao.length:=by omega
  have j:p.ao[e]? =some p.ao[e]:=dn jI;have a_:p.ao.drop e=p.ao[e]::p.ao.drop (e+1):=mG jI;generalize p.ao[e]=v at j a_;rw[qZ,a_,jo,<-qZ] at hu;simp only[bq.sM] at hu;refine a6 ?_ (a6 ?_ (cI ⟨v.n.ay,v.n.bp,v.n.on,v.n.ev,v.n.vars.length,v.bA,v.n.bL.length,v.ck,v.n.cb,⟨v.n.aT.toArray⟩,⟨v.n.key.toArray⟩,⟨v.n.ca.toArray⟩,⟨v.n.set.toArray⟩,v.bx,v.ch,fun cV bU=>?_,?_⟩))
  ·simp only[E.b,aR,aX.push];exact b_.dL hp.ns (by omega)
  ·exact eZ (by simp only[U];omega)
  ·have:=gh (P:=prog) eO (by decide) hp.ns iw ix j bU;simp only[U,ff] at this ⊢;exact this
  simp only[aU];refine bY fun m1 cV _ bo=>bS fun dQ cd=>aK (fun c3=>?_) fun c3=>?_
  ·have c3:(!(v.n.bp==s))=true:=c3;rw[if_pos c3] at hu;refine eC fun dX _ df _ _=>b1 ⟨p.ao.length-(e+1),by omega,pl,lu,e+1,?_,rfl,by omega,by omega,rfl,hu⟩
   simp only[U];rw[cE (by omega) (by omega)];rfl
  have c3:(!(v.n.bp==s))=false:=c3;rw[c3,if_neg (by decide)] at hu;have hp:=hp.ext (aD bo cd);clear bo cd;simp only[aU];have x7:bq.sM p.av s ay 0 0 0 p.av.ao=none->Value.bool false= .bool (bq.lp p.av):=fun h=>gl cp (by rw[cy,h];rfl)
  refine aK (fun c4=>aP fun _ _ _=>⟨_,rfl,x7 ?_⟩) fun c4=>aK (fun c5=>?_) fun c5=>?_
  ·have c4:(ay==12&&(v.n.ay==1||v.n.ay==2))=true:=c4;rw[hu,if_pos c4]
  ·have c4:(ay==12&&(v.n.ay==1||v.n.ay==2))=false:=c4;have c5:(!(v.n.ay==1))=true:=c5;rw[c4,if_neg (by decide),if_pos c5] at hu;refine eC fun dX _ df _ _=>b1 ⟨p.ao.length-(e+1),by omega,pl,lu,e+1,?_,rfl,by omega,by omega,rfl,hu⟩
   simp only[U];rw[cE (by omega) (by omega)];rfl
  have c4:(ay==12&&(v.n.ay==1||v.n.ay==2))=false:=c4;have c5:(!(v.n.ay==1))=false:=c5;rw[c4,if_neg (by decide),c5,if_neg (by decide)] at hu;refine kV (fun vs ls _=>vs=[.int .i64 ((if(v.n.ev==0)=true then pl+1 else pl:Nat)),.int .i64 ((if(v.n.ev==0)=true then lu else lu+1:Nat))]∧ls=[]) ?_ ?_
  ·refine aK (fun bw=>b1 ⟨?_,rfl⟩) fun bw=>b1 ⟨?_,rfl⟩
   ·have bw:(v.n.ev==0)=true:=bw;simp only[U];rw[cE (by omega) (by omega),if_pos bw,if_pos bw];rfl
   ·have bw:(v.n.ev==0)=false:=bw;simp only[U];rw[cE (by omega) (by omega),bw];rfl
  rintro vs ls dX dK ⟨rfl,rfl⟩;have hp:=hp.ext dK;clear dK;obtain⟨Kq,l_⟩:∃n:Nat,n=if(v.n.ev==0)=true then pl+1 else pl:=⟨_,rfl⟩
  obtain⟨Kr,Ks⟩:∃n:Nat,n=if(v.n.ev==0)=true then lu else lu+1:=⟨_,rfl⟩
  have avM:Kq+Kr<=e+1:=by rw[l_,Ks];split<;>omega
  rw[<-l_,<-Ks] at hu ⊢;clear l_ Ks;refine⟨(Kq:Int),(Kr:Int),rfl,rfl,fun _=>aK (fun bw=>aP fun _ _ _=>⟨_,rfl,x7 ?_⟩) fun bw=>?_⟩
  ·have bw:(((decide (s<0)&&!(v.n.ev==0))&&(!(v.n.ev==1)||v.n.cb))||((ay==13&&v.n.ev==4)&&!v.n.cb))=true:=bw;rw[hu,if_pos bw]
  have bw:(((decide (s<0)&&!(v.n.ev==0))&&(!(v.n.ev==1)||v.n.cb))||((ay==13&&v.n.ev==4)&&!v.n.cb))=false:=bw;rw[bw,if_neg (by decide)] at hu;simp only[aU]
  have wg:∀k:Nat,(p.av.ao.take k).any (fun m=>(((m.bp==s&&m.ay==1)&&m.ev==1)&&v.n.ev==1)&&m.key==v.n.key)=(p.ao.take k).any fun y=>(((y.n.bp==s&&y.n.ay==1)&&y.n.ev==1)&&v.n.ev==1)&&y.n.key==v.n.key:=fun k=>by
   show((p.ao.map _).take k).any _=_;rw[<-List.map_take,List.any_map];rfl
  rw[wg] at hu;refine dJ (fun aj vs ls _=>∃k:Nat,vs=[.int .i64 (k:Nat)]∧ls=[]∧k<=e∧aj=e-k∧((p.ao.take k).any fun y=>(((y.n.bp==s&&y.n.ay==1)&&y.n.ev==1)&&v.n.ev==1)&&y.n.key==v.n.key)=false) e ⟨0,by simp[U],rfl,dr _,rfl,by simp⟩ ?_;rintro aj vs ls fm eY ⟨k,rfl,rfl,aA,rfl,nt⟩;have hp:=hp.ext eY;clear eY;refine⟨(k:Int),rfl,rfl,fun _=>aK (fun cv=>?_) fun cv=>eC fun fU _ df _ _=>b1 ⟨p.ao.length-(e+1),by omega,Kq,Kr,e+1,?_,rfl,by omega,avM,rfl,?_⟩⟩
  ·have cv:k<e∧s<0:=by simpa[U,eg] using cv
   have e8:k<p.ao.length:=by omega
   have jb:p.ao[k]? =some p.ao[k]:=dn e8;have kL:p.ao.take (k+1)=p.ao.take k++[p.ao[k]]:=o0 e8
   have im:p.ao[k]∈p.ao.take e:=by
    have:(p.ao.take e)[k]? =some p.ao[k]:=by rw[oX,if_pos (by omega)];exact jb
    exact k2 this
   generalize p.ao[k]=y at jb kL im;refine a6 (eZ (by simp only[U];omega)) (a6 (by simp only[U];exact dW (by omega)) (cI ⟨y.n.ay,y.n.bp,y.n.on,y.n.ev,y.n.vars.length,y.bA,y.n.bL.length,y.ck,y.n.cb,⟨y.n.aT.toArray⟩,⟨y.n.key.toArray⟩,⟨y.n.ca.toArray⟩,⟨y.n.set.toArray⟩,y.bx,y.ch,fun cV bU=>?_,?_⟩))
   ·have:=gh (P:=prog) eO (by decide) hp.ns iw ix jb bU;simp only[U,ff] at this ⊢;exact this
   simp only[aU];refine bY fun m2 fU _ bo=>bS fun jQ cd=>aK (fun cZ=>aP fun _ _ _=>⟨_,rfl,x7 ?_⟩) fun cZ=>eC fun lX _ df _ _=>b1 ⟨e-(k+1),by omega,k+1,?_,rfl,by omega,rfl,?_⟩
   ·have cZ:((((y.n.bp==s&&y.n.ay==1)&&y.n.ev==1)&&v.n.ev==1)&&y.n.key==v.n.key)=true:=cZ;rw[hu,List.any_eq_true.2 ⟨y,im,cZ⟩,decide_eq_true cv.2];rfl
   ·simp only[U];rw[cE (by omega) (by omega)];rfl
   ·have cZ:((((y.n.bp==s&&y.n.ay==1)&&y.n.ev==1)&&v.n.ev==1)&&y.n.key==v.n.key)=false:=cZ;rw[kL,List.any_append,nt];simp only[r0,List.any_nil,cZ,Bool.or_self]
  ·simp only[U];rw[cE (by omega) (by omega)];rfl
  ·have cv:k<e->0<=s:=by simpa[U,eg] using cv
   rw[hu]
   by_cases h:s<0
   ·have aA:k=e:=by omega
    rw[aA] at nt;rw[nt,oY,if_neg (by decide)]
   ·rw[decide_eq_false h,jX,if_neg (by decide)]
 ·simp only[U,c7] at c2;rw[o1 (by rw[lI];omega)] at hu;rw[hu] at cy;have cy:bq.pE p.av s=bq.CB ay (some (pl,lu)):=cy;unfold bq.CB at cy;simp only at cy;refine aK (fun c3=>aK (fun c4=>aP fun _ _ _=>⟨_,rfl,gl cp ?_⟩) fun c4=>b1 ⟨p.ao.length+1-(i+1),by omega,i+1,?_,rfl,by omega,rfl,zW ?_⟩) fun c3=>aK (fun c5=>aK (fun c4=>aP fun _ _ _=>⟨_,rfl,gl cp ?_⟩) fun c4=>b1 ⟨p.ao.length+1-(i+1),by omega,i+1,?_,rfl,by omega,rfl,zW ?_⟩) fun c5=>aK (fun bw=>aK (fun c4=>aP fun _ _ _=>⟨_,rfl,gl cp ?_⟩) fun c4=>b1 ⟨p.ao.length+1-(i+1),by omega,i+1,?_,rfl,by omega,rfl,zW ?_⟩) fun bw=>b1 ⟨p.ao.length+1-(i+1),by omega,i+1,?_,rfl,by omega,rfl,zW ?_⟩
  ·have c3:ay=0:=by simpa[U] using c3
   rw[if_pos c3] at cy;simp only[U] at c4;rw[cE (by omega) (by omega)] at c4;rw[cy];simp[er] at c4 ⊢;omega
  ·simp only[U];exact congrArg (fun v=>[v]) jn
  ·have c3:ay=0:=by simpa[U] using c3
   rw[if_pos c3] at cy;simp only[U] at c4;rw[cE (by omega) (by omega)] at c4;rw[cy];simp[er] at c4 ⊢;omega
  ·have c3:¬ay=0:=by simpa[U] using c3
   have c5:ay=11:=by simpa[U] using c5
   rw[if_neg c3,if_pos c5] at cy;simp only[U] at c4;rw[cy];simp at c4 ⊢;omega
  ·simp only[U];exact congrArg (fun v=>[v]) jn
  ·have c3:¬ay=0:=by simpa[U] using c3
   have c5:ay=11:=by simpa[U] using c5
   rw[if_neg c3,if_pos c5] at cy;simp only[U] at c4;rw[cy];simp at c4 ⊢;omega
  ·have c3:¬ay=0:=by simpa[U] using c3
   have c5:¬ay=11:=by simpa[U] using c5
   have bw:ay=13:=by simpa[U] using bw
   rw[if_neg c3,if_neg c5,if_pos bw] at cy;simp only[U] at c4;rw[cy];simp at c4 ⊢;omega
  ·simp only[U];exact congrArg (fun v=>[v]) jn
  ·have c3:¬ay=0:=by simpa[U] using c3
   have c5:¬ay=11:=by simpa[U] using c5
   have bw:ay=13:=by simpa[U] using bw
   rw[if_neg c3,if_neg c5,if_pos bw] at cy;simp only[U] at c4;rw[cy];simp at c4 ⊢;omega
  ·simp only[U];exact congrArg (fun v=>[v]) jn
  ·have c3:¬ay=0:=by simpa[U] using c3
   have c5:¬ay=11:=by simpa[U] using c5
   have bw:¬ay=13:=by simpa[U] using bw
   rw[if_neg c3,if_neg c5,if_neg bw] at cy;exact cy
end Go.Proofs.YtkpjmlnhhggenaaGreatDoor
end
