/- Texts of the claim, one behind the other: VdWays VdGates VdCheckP VcVal4 VdCheck VcVal5 VdTail. -/
import Derived.Test.YtkpjmlnhhggenaaGreatDoorQn4
import Derived.Test.YtkpjmlnhhggenaaGreatDoorProg
import Derived.Test.YtkpjmlnhhggenaaGreatDoorQn2
import Derived.Test.YtkpjmlnhhggenaaGreatDoorQn3
set_option linter.unusedSimpArgs false
set_option linter.unusedVariables false
set_option maxRecDepth 100000
section
namespace au
open Go ab
def xB (p:dR) (x:hQ):Bool:=
 !decide ((p.ao.length:Int)<=max x.dY x.to)&&
  (!(((dc p x.to.toNat).ay==1||(dc p x.to.toNat).ay==15)||(dc p x.to.toNat).ay==13)&&
   (!(((!((dc p x.dY.toNat).bp==(dc p x.to.toNat).bp)||gd (dc p x.to.toNat) 6)||(dc p x.dY.toNat).ay==2)||(dc p x.dY.toNat).ay==13)&&!gd (dc p x.dY.toNat) 5))
def inc (l:List Int) (i:Nat):List Int:=l.set i (l.getD i 0+1)
theorem py (l:List Int) (i:Nat):(inc l i).length=l.length:=List.length_set
theorem vd {l:List Int} {i:Nat} {n:Nat} (h:∀x∈l,0<=x∧x<=(n:Int)):∀x∈inc l i,0<=x∧x<=((n+1:Nat):Int):=by
 intro x j
 have bP:0<=l.getD i 0∧l.getD i 0<=(n:Int):=by
  rw[oe];cases he:l[i]? with
  |none=>exact⟨qf _,by simp⟩
  |some y=>exact h y (k2 he)
 rcases List.mem_or_eq_of_mem_set j with J|J
 ·have:=h x J;omega
 ·subst J;omega
def tP (p:dR):List hQ->List Int->List Int->Option (List Int×List Int)
 |[],f,t=>some (f,t)
 |x::l,f,t=>if xB p x then tP p l (inc f x.dY.toNat) (inc t x.to.toNat) else none
def ways (p:dR):Option (List Int×List Int):=tP p p.bj (List.replicate p.ao.length 0) (List.replicate p.ao.length 0)
end au
namespace Go.Proofs.YtkpjmlnhhggenaaGreatDoor
open Go.Proofs.Tryz Go Go.RowKit Go.cK
def nv (l:List Int):List Value:=l.flatMap fun x=>[Value.int .i64 x]
theorem I7:∀n:Nat,nv (List.replicate n 0)=List.replicate n (Value.int .i64 0)
 |0=>rfl
 |n+1=>by rw[List.replicate_succ,List.replicate_succ,<-I7 n];rfl
theorem Rh {α:Type} {f:α->List Value} {sz:Nat} (bs:∀x,(f x).length=sz):∀{l:List α} {i:Nat} (y:α),i<l.length->hg (l.flatMap f) (i*sz+0) (f y)=(l.set i y).flatMap f
 |[],i,y,h=>by simp at h
 |x::l,0,y,h=>by
  simp only[hg,jq,Nat.zero_mul,mY,List.take_zero,yi,List.set_cons_zero];rw[List.drop_append,bs y,o1 (by rw[bs];omega),bs x];simp
 |x::l,i+1,y,h=>by
  have cF:=Rh bs (l:=l) (i:=i) y (by simpa using h);simp only[List.set_cons_succ,jq];rw[<-cF];simp only[hg,ff];have e:(i+1)*sz=(f x).length+i*sz:=by rw[bs,sT,Nat.one_mul];omega
  rw[e,oW,List.take_length_add_append,List.drop_length_add_append];simp
theorem ve {l:List Int} {i:Nat} (h:i<l.length):hg (nv l) (i*1+0) [.int .i64 (l.getD i 0+1)]=nv (au.inc l i):=
 Rh (f:=fun x=>[Value.int .i64 x]) (sz:=1) (fun _=>rfl) (l.getD i 0+1) h
def I8 (w:World):al:=⟨w,fun _=>False,fun _ h=>h.elim⟩
theorem xC {w:World} {ar:Nat} {e:TypeId} {l:List Int} {a:Option Addr} {c:Nat} (h:w.ownsRow ar e 1 (.slice a l.length c) l.length (nv l)) {i:Nat} {x:Int} (j:l[i]? =some x):
  (Instr.loadAt 3 (.pointer (some ((a.getD default).add (i*1+0))))).run prog w= .ok (.int .i64 x) w:=by
 have J:b_ (I8 w).all a l.length c 1 (nv l):=hN.all (W:=I8 w) ((gW h).mono fun _ _=>trivial);have:=ed (P:=prog) (f:=fun x=>[Value.int .i64 x]) (sz:=1) (fun _=>rfl) J nn (k:=0) j (by decide) (u:=.int .i64 x) rfl (W':=(I8 w).all) (Ext.refl _);exact this
theorem getD_some {l:List Int} {i:Nat} (h:i<l.length):l[i]? =some (l.getD i 0):=by rw[oe,dn h];rfl
theorem EP {p:cP} {k:Nat} {v:d_} (h:p.ao[k]? =some v):au.dc p.av ((k:Int).toNat)=v.n:=by rw[ih,kZ h]
def vf (D:oQ) (p:cP) (m ar:Nat) (e:Ending) (w':World):Prop:=∃(b:Bool) (g_:Option Addr) (hf:Nat) (jC:Option Addr) (jD:Nat) (f t:List Int),e= .returned (.bool b)∧
 w'.heap[m]? =some (.cells (pw D p ⟨g_,f.length,hf⟩ ⟨jC,t.length,jD⟩).toArray nq)∧f.length=p.ao.length∧t.length=p.ao.length∧
 eD w' (fun k=>ar<=k) g_ f.length hf 1 (nv f)∧eD w' (fun k=>ar<=k) jC t.length jD 1 (nv t)∧au.ways p.av=if b then some (f,t) else none
theorem ajC (D cr to:oQ) (p:cP) (m:Nat) (V:al) (hp:fw p V) (nr:∀x∈p.bj,0<=x.dY∧0<=x.to) (bf:¬V.aV m) (hm:V.w.heap[m]? =some (.cells (pw D p cr to).toArray nq)):
  bK prog 29 #[.pointer (some ⟨m,0,none⟩)] V (vf D p m V.w.heap.size):=by
 have h5:=hp.h6;have sA:=hp.mU;have j_:p.ao.length<=1000000:=h5;refine ahu D.n D.c p.vars.length p.bA p.ao.length p.eF p.bj.length p.ef cr.n cr.c to.n to.c ⟨p.aT.toArray⟩ D.a p.bx p.eL p.ea cr.a to.a m V _ hm bf ?_
 let Inv:Nat->List Value->List (List Value)->al->Prop:=fun aj vs ls _=>∃(i:Nat) (f t:List Int) (g_:Option Addr) (hf:Nat) (jC:Option Addr) (jD:Nat),vs=[.int .i64 (i:Nat),.slice g_ f.length hf,.slice jC t.length jD]∧ls=[nv f,nv t]∧f.length=p.ao.length∧t.length=p.ao.length∧
  (∀x∈f,0<=x∧x<=(i:Int))∧(∀x∈t,0<=x∧x<=(i:Int))∧i<=p.bj.length∧aj=p.bj.length-i∧au.ways p.av=au.tP p.av (p.bj.drop i) f t
 have start:∀(g_:Option Addr) (hf:Nat) (jC:Option Addr) (jD:Nat) (dE:al),Inv p.bj.length [.int .i64 0,.slice g_ p.ao.length hf,.slice jC p.ao.length jD] [List.replicate p.ao.length (.int .i64 0),List.replicate p.ao.length (.int .i64 0)] dE:=fun g_ hf jC jD dE=>
  ⟨0,List.replicate p.ao.length 0,List.replicate p.ao.length 0,g_,hf,jC,jD,by rw[Af];rfl,by rw[I7],Af,Af,fun x j=>by rw[List.eq_of_mem_replicate j];exact⟨qf _,qf _⟩,fun x j=>by rw[List.eq_of_mem_replicate j];exact⟨qf _,qf _⟩,dr _,rfl,by rw[au.ways,kM];rfl⟩
 have body:∀(rO B0:Option Addr) (rP B1:Nat) (n:Nat) (vs:List Value) (ls:List (List Value)) (dE:al),Ext V dE->Inv n vs ls dE->gr ⟨1,4,0,0,0,2,0,2⟩ fun d=>
   af.b2 (aX.push {N:=[D.n,D.c,p.vars.length,p.bA,p.ao.length,p.eF,p.bj.length,p.ef,cr.n,cr.c,to.n,to.c,rP,B1],T:=[⟨p.aT.toArray⟩],A:=[D.a,p.bx,p.eL,p.ea,cr.a,to.a,rO,B0],M:=[m]} d) [(.int .i64 (.aN 0)),(.bt 8 (.aW 14) (.aW 15)),(.bt 9 (.aW 16) (.aW 17))]=vs∧
   hL (aX.push {N:=[D.n,D.c,p.vars.length,p.bA,p.ao.length,p.eF,p.bj.length,p.ef,cr.n,cr.c,to.n,to.c,rP,B1],T:=[⟨p.aT.toArray⟩],A:=[D.a,p.bx,p.eL,p.ea,cr.a,to.a,rO,B0],M:=[m]} d) [⟨(.bt 8 (.aW 14) (.aW 15)),(.aW 14),3,1,[(.l 0)]⟩,⟨(.bt 9 (.aW 16) (.aW 17)),(.aW 16),3,1,[(.l 1)]⟩]=ls∧
   (hR V.w.heap.size (aX.push {N:=[D.n,D.c,p.vars.length,p.bA,p.ao.length,p.eF,p.bj.length,p.ef,cr.n,cr.c,to.n,to.c,rP,B1],T:=[⟨p.aT.toArray⟩],A:=[D.a,p.bx,p.eL,p.ea,cr.a,to.a,rO,B0],M:=[m]} d) [⟨(.bt 8 (.aW 14) (.aW 15)),(.aW 14),3,1,[(.l 0)]⟩,⟨(.bt 9 (.aW 16) (.aW 17)),(.aW 16),3,1,[(.l 1)]⟩] dE.w->
    (Tree.aC (.aF .lt (.aN 0) (.aW 6)) BP BQ).ak prog V.w.heap.size (vf D p m V.w.heap.size) ([]++[fun lz fG ht=>∃fZ,fZ<n∧Inv fZ lz fG ht]) (aX.push {N:=[D.n,D.c,p.vars.length,p.bA,p.ao.length,p.eF,p.bj.length,p.ef,cr.n,cr.c,to.n,to.c,rP,B1],T:=[⟨p.aT.toArray⟩],A:=[D.a,p.bx,p.eL,p.ea,cr.a,to.a,rO,B0],M:=[m]} d) dE):=by
  rintro rO B0 rP B1 n vs ls dE hd ⟨i,f,t,g_,hf,jC,jD,rfl,rfl,bs,bb,I9,wJ,a8,rfl,bl⟩;refine⟨(i:Int),f.length,hf,t.length,jD,g_,jC,nv f,nv t,rfl,by simp only[dD],fun hi=>?_⟩;simp only[aU];refine aK (fun aJ=>?_) fun aJ=>?_
  ·simp only[U,cX] at aJ;have cp:i<p.bj.length:=by omega
   have fb:p.bj[i]? =some p.bj[i]:=dn cp;have qq:=nr _ (h9 cp);rw[h4 cp] at bl;generalize p.bj[i]=x at fb bl qq;have gZ:au.xB p.av x=false->au.ways p.av=none:=fun h=>by rw[bl,au.tP,if_neg (by rw[h];exact fun h=>nomatch h)]
   have gb:au.xB p.av x=true->au.ways p.av=au.tP p.av (p.bj.drop (i+1)) (au.inc f x.dY.toNat) (au.inc t x.to.toNat):=fun h=>by rw[bl,au.tP,if_pos h]
   refine a6 ?_ (a6 ?_ (cI ⟨x.dY,x.to,x.gN,⟨x.cond.toArray⟩,fun cq bo=>?_,?_⟩))
   ·simp only[E.b,aR,aX.push];exact b_.dL hp.fs (by omega)
   ·simp only[U];exact c_ (by omega)
   ·have:=gh (P:=prog) rK (by decide) hp.fs xt xu fb (aD hd bo);simp only[U,ff] at this ⊢;exact this
   simp only[aU];refine bY fun m1 cq _ bo=>bS fun dH cd=>cj fun dI cA=>?_
   have ej:=aD hd (aD bo (aD cd cA));simp only[aU];refine aK (fun c2=>?_) fun c2=>?_
   ·have c2:decide ((p.ao.length:Int)<=max x.dY x.to)=true:=c2;refine aP fun J _ aw=>⟨false,g_,hf,jC,jD,f,t,rfl,J _ (bd.2 rfl),bs,bb,?_,?_,?_⟩
    ·have bu:=(aw _ (dq _ (bd.2 rfl))).1;simp only[dD,af.ak,E.i,eH] at bu;exact gW bu
    ·have bu:=(aw _ (c6 ..)).1;simp only[dD,af.ak,E.i,eH] at bu;exact gW bu
    ·exact gZ (by rw[au.xB,kM,c2];rfl)
   ·have c2:decide ((p.ao.length:Int)<=max x.dY x.to)=false:=c2;have Dp:¬(p.ao.length:Int)<=max x.dY x.to:=of_decide_eq_false c2;obtain⟨b0,jg⟩:∃k:Nat,x.dY=(k:Int):=⟨x.dY.toNat,by omega⟩;obtain⟨bZ,e6⟩:∃k:Nat,x.to=(k:Int):=⟨x.to.toNat,by omega⟩;have sb:b0<p.ao.length:=by omega
    have tf:bZ<p.ao.length:=by omega
    have pJ:p.ao[b0]? =some p.ao[b0]:=dn sb;have nf:p.ao[bZ]? =some p.ao[bZ]:=dn tf;generalize p.ao[b0]=a at pJ;generalize p.ao[bZ]=b at nf
    have bV:au.xB p.av x=(!((b.n.ay==1||b.n.ay==15)||b.n.ay==13)&&(!(((!(a.n.bp==b.n.bp)||au.gd b.n 6)||a.n.ay==2)||a.n.ay==13)&&!au.gd a.n 5)):=by
     rw[au.xB,kM,c2,jg,e6,EP pJ,EP nf,qi,eX]
    rw[jg,e6,ih,ih] at gb;rw[jg,e6];have sG:=getD_some (l:=f) (i:=b0) (by omega);have kL:=getD_some (l:=t) (i:=bZ) (by omega);have pz:=I9 _ (k2 sG);have ax3:=wJ _ (k2 kL);refine a6 ?_ (a6 ?_ (a6 ?_ (cI ⟨a.n.ay,a.n.bp,a.n.on,a.n.ev,a.n.vars.length,a.bA,a.n.bL.length,a.ck,a.n.cb,⟨a.n.aT.toArray⟩,⟨a.n.key.toArray⟩,⟨a.n.ca.toArray⟩,⟨a.n.set.toArray⟩,a.bx,a.ch,fun cV bU=>?_,?_⟩)))
    ·simp only[E.b,aR,aX.push];exact b_.dL hp.ns (by omega)
    ·simp only[U];exact c_ (by omega)
    ·simp only[U];exact dW (by omega)
    ·have:=gh (P:=prog) eO (by decide) hp.ns iw ix pJ (aD ej bU);simp only[U,ff] at this ⊢;exact this
    simp only[aU];refine a6 ?_ (a6 ?_ (cI ⟨b.n.ay,b.n.bp,b.n.on,b.n.ev,b.n.vars.length,b.bA,b.n.bL.length,b.ck,b.n.cb,⟨b.n.aT.toArray⟩,⟨b.n.key.toArray⟩,⟨b.n.ca.toArray⟩,⟨b.n.set.toArray⟩,b.bx,b.ch,fun cV bU=>?_,?_⟩))
    ·simp only[U];exact c_ (by omega)
    ·simp only[U];exact dW (by omega)
    ·have:=gh (P:=prog) eO (by decide) hp.ns iw ix nf (aD ej bU);simp only[U,ff] at this ⊢;exact this
    simp only[aU];refine oF ?_ ?_
    ·refine cj fun cV bU=>bY fun m2 dQ _ df=>cj fun dX dK=>bY fun m3 fm _ eY=>cj fun fU fu=>bS fun jQ ki=>cj fun lX kX=>bS fun lY kj=>?_
     simp only[aU];refine aK (fun c3=>?_) fun c3=>?_
     ·have c3:(!((b.n.ay==1||b.n.ay==15)||b.n.ay==13))=true:=c3;rw[c3,eX] at bV;refine b5 (v:=.bool (au.gd b.n 6)) (fun _ _=>tL b 6 lY) ⟨au.gd b.n 6,rfl,fun kk kl=>?_⟩;simp only[aU];refine aK (fun c4=>?_) fun c4=>?_
      ·have c4:(!(((!(a.n.bp==b.n.bp)||au.gd b.n 6)||a.n.ay==2)||a.n.ay==13))=true:=c4;rw[c4,eX] at bV;refine b5 (v:=.bool (au.gd a.n 5)) (fun _ _=>tL a 5 kk) ⟨au.gd a.n 5,rfl,fun sF p_=>?_⟩;simp only[aU];refine aK (fun c5=>?_) fun c5=>?_
       ·have c5:au.gd a.n 5=true:=c5;refine aP fun J _ aw=>⟨false,g_,hf,jC,jD,f,t,rfl,J _ (bd.2 rfl),bs,bb,?_,?_,?_⟩
        ·have bu:=(aw _ (dq _ (bd.2 rfl))).1;simp only[dD,af.ak,E.i,eH] at bu;exact gW bu
        ·have bu:=(aw _ (c6 ..)).1;simp only[dD,af.ak,E.i,eH] at bu;exact gW bu
        ·exact gZ (by rw[bV,c5];rfl)
       ·have c5:au.gd a.n 5=false:=c5;rw[c5,qi] at bV;refine a6 ?_ (a6 ?_ (pW ⟨f.getD b0 0,fun w hw=>?_,cj fun vg xD=>oG fun I_ ER=>?_⟩))
        ·have bu:=(hi _ (c6 ..)).1;simp only[dD,af.ak,E.i,eH] at bu;simp only[E.b,aR,aX.push];exact b_.dL (W:=dE.all) (hN.all ((gW bu).mono fun _ _=>trivial)) (by omega)
        ·simp only[U];exact dW (by omega)
        ·have J:=hw.1;simp only[dF,jq,kv,dV.ak,U,lL,eH] at J;have:=xC J sG;simp only[U] at this ⊢;exact this
        simp only[aU];refine a6 ?_ (a6 ?_ (pW ⟨t.getD bZ 0,fun w hw=>?_,cj fun ES Ja=>oG fun Ri Jb=>?_⟩))
        ·have bu:=(hi _ (dq _ (bd.2 rfl))).1;simp only[dD,af.ak,E.i,eH] at bu;simp only[E.b,aR,aX.push];exact b_.dL (W:=dE.all) (hN.all ((gW bu).mono fun _ _=>trivial)) (by omega)
        ·simp only[U];exact dW (by omega)
        ·have J:=hw.1;simp only[dF,jq,kv,dV.ak,U,lL,eH] at J;have:=xC J kL;simp only[U] at this ⊢;exact this
        simp only[aU];refine eC fun qU _ ln _ _=>b1 ⟨p.bj.length-(i+1),by omega,i+1,au.inc f b0,au.inc t bZ,g_,hf,jC,jD,?_,?_,by rw[au.py,bs],by rw[au.py,bb],au.vd I9,au.vd wJ,by omega,rfl,gb bV⟩
        ·simp only[U,au.py];rw[cE (by omega) (by omega)];rfl
        ·simp only[dD,af.b2,af.ak,E.i,eH];rw[cE (by omega) (by omega),cE (by omega) (by omega),ve (by omega),ve (by omega)]
      ·have c4:(!(((!(a.n.bp==b.n.bp)||au.gd b.n 6)||a.n.ay==2)||a.n.ay==13))=false:=c4;refine aP fun J _ aw=>⟨false,g_,hf,jC,jD,f,t,rfl,J _ (bd.2 rfl),bs,bb,?_,?_,?_⟩
       ·have bu:=(aw _ (dq _ (bd.2 rfl))).1;simp only[dD,af.ak,E.i,eH] at bu;exact gW bu
       ·have bu:=(aw _ (c6 ..)).1;simp only[dD,af.ak,E.i,eH] at bu;exact gW bu
       ·exact gZ (by rw[bV,c4];rfl)
     ·have c3:(!((b.n.ay==1||b.n.ay==15)||b.n.ay==13))=false:=c3;refine aP fun J _ aw=>⟨false,g_,hf,jC,jD,f,t,rfl,J _ (bd.2 rfl),bs,bb,?_,?_,?_⟩
      ·have bu:=(aw _ (dq _ (bd.2 rfl))).1;simp only[dD,af.ak,E.i,eH] at bu;exact gW bu
      ·have bu:=(aw _ (c6 ..)).1;simp only[dD,af.ak,E.i,eH] at bu;exact gW bu
      ·exact gZ (by rw[bV,c3];rfl)
    ·refine cj fun cV bU=>bY fun m2 dQ _ df=>cj fun dX dK=>bY fun m3 fm _ eY=>cj fun fU fu=>bS fun jQ ki=>cj fun lX kX=>bS fun lY kj=>?_
     simp only[aU];refine aK (fun c3=>?_) fun c3=>?_
     ·have c3:(!((b.n.ay==1||b.n.ay==15)||b.n.ay==13))=true:=c3;rw[c3,eX] at bV;refine b5 (v:=.bool (au.gd b.n 6)) (fun _ _=>tL b 6 lY) ⟨au.gd b.n 6,rfl,fun kk kl=>?_⟩;simp only[aU];refine aK (fun c4=>?_) fun c4=>?_
      ·have c4:(!(((!(a.n.bp==b.n.bp)||au.gd b.n 6)||a.n.ay==2)||a.n.ay==13))=true:=c4;rw[c4,eX] at bV;refine b5 (v:=.bool (au.gd a.n 5)) (fun _ _=>tL a 5 kk) ⟨au.gd a.n 5,rfl,fun sF p_=>?_⟩;simp only[aU];refine aK (fun c5=>?_) fun c5=>?_
       ·have c5:au.gd a.n 5=true:=c5;refine aP fun J _ aw=>⟨false,g_,hf,jC,jD,f,t,rfl,J _ (bd.2 rfl),bs,bb,?_,?_,?_⟩
        ·have bu:=(aw _ (dq _ (bd.2 rfl))).1;simp only[dD,af.ak,E.i,eH] at bu;exact gW bu
        ·have bu:=(aw _ (c6 ..)).1;simp only[dD,af.ak,E.i,eH] at bu;exact gW bu
        ·exact gZ (by rw[bV,c5];rfl)
       ·have c5:au.gd a.n 5=false:=c5;rw[c5,qi] at bV;refine a6 ?_ (a6 ?_ (pW ⟨f.getD b0 0,fun w hw=>?_,cj fun vg xD=>oG fun I_ ER=>?_⟩))
        ·have bu:=(hi _ (c6 ..)).1;simp only[dD,af.ak,E.i,eH] at bu;simp only[E.b,aR,aX.push];exact b_.dL (W:=dE.all) (hN.all ((gW bu).mono fun _ _=>trivial)) (by omega)
        ·simp only[U];exact dW (by omega)
        ·have J:=hw.1;simp only[dF,jq,kv,dV.ak,U,lL,eH] at J;have:=xC J sG;simp only[U] at this ⊢;exact this
        simp only[aU];refine a6 ?_ (a6 ?_ (pW ⟨t.getD bZ 0,fun w hw=>?_,cj fun ES Ja=>oG fun Ri Jb=>?_⟩))
        ·have bu:=(hi _ (dq _ (bd.2 rfl))).1;simp only[dD,af.ak,E.i,eH] at bu;simp only[E.b,aR,aX.push];exact b_.dL (W:=dE.all) (hN.all ((gW bu).mono fun _ _=>trivial)) (by omega)
        ·simp only[U];exact dW (by omega)
        ·have J:=hw.1;simp only[dF,jq,kv,dV.ak,U,lL,eH] at J;have:=xC J kL;simp only[U] at this ⊢;exact this
        simp only[aU];refine eC fun qU _ ln _ _=>b1 ⟨p.bj.length-(i+1),by omega,i+1,au.inc f b0,au.inc t bZ,g_,hf,jC,jD,?_,?_,by rw[au.py,bs],by rw[au.py,bb],au.vd I9,au.vd wJ,by omega,rfl,gb bV⟩
        ·simp only[U,au.py];rw[cE (by omega) (by omega)];rfl
        ·simp only[dD,af.b2,af.ak,E.i,eH];rw[cE (by omega) (by omega),cE (by omega) (by omega),ve (by omega),ve (by omega)]
      ·have c4:(!(((!(a.n.bp==b.n.bp)||au.gd b.n 6)||a.n.ay==2)||a.n.ay==13))=false:=c4;refine aP fun J _ aw=>⟨false,g_,hf,jC,jD,f,t,rfl,J _ (bd.2 rfl),bs,bb,?_,?_,?_⟩
       ·have bu:=(aw _ (dq _ (bd.2 rfl))).1;simp only[dD,af.ak,E.i,eH] at bu;exact gW bu
       ·have bu:=(aw _ (c6 ..)).1;simp only[dD,af.ak,E.i,eH] at bu;exact gW bu
       ·exact gZ (by rw[bV,c4];rfl)
     ·have c3:(!((b.n.ay==1||b.n.ay==15)||b.n.ay==13))=false:=c3;refine aP fun J _ aw=>⟨false,g_,hf,jC,jD,f,t,rfl,J _ (bd.2 rfl),bs,bb,?_,?_,?_⟩
      ·have bu:=(aw _ (dq _ (bd.2 rfl))).1;simp only[dD,af.ak,E.i,eH] at bu;exact gW bu
      ·have bu:=(aw _ (c6 ..)).1;simp only[dD,af.ak,E.i,eH] at bu;exact gW bu
      ·exact gZ (by rw[bV,c3];rfl)
  ·simp only[U,c7] at aJ;rw[fV (by omega)] at bl;refine aP fun J _ aw=>⟨true,g_,hf,jC,jD,f,t,rfl,J _ (bd.2 rfl),bs,bb,?_,?_,?_⟩
   ·have bu:=(aw _ (dq _ (bd.2 rfl))).1;simp only[dD,af.ak,E.i,eH] at bu;exact gW bu
   ·have bu:=(aw _ (c6 ..)).1;simp only[dD,af.ak,E.i,eH] at bu;exact gW bu
   ·exact bl
 have Rj:∀(rO:Option Addr) (rP:Nat) (dE:al),Ext V dE->IS.ak prog V.w.heap.size (vf D p m V.w.heap.size) [] {N:=[D.n,D.c,p.vars.length,p.bA,p.ao.length,p.eF,p.bj.length,p.ef,cr.n,cr.c,to.n,to.c,rP],T:=[⟨p.aT.toArray⟩],A:=[D.a,p.bx,p.eL,p.ea,cr.a,to.a,rO],M:=[m]} dE:=fun rO rP dE hd=>
  a6 (eZ (by simp only[U];omega)) (cj fun W1 bM=>hj fun gz bw cn _ bH=>cj fun cq bo=>bS fun dH cd=>cj fun dI cA=>bS fun cV bU=>dJ Inv p.bj.length (by simp only[af.b2,af.ak,E.i,dD,eH];exact start _ _ _ _ V) fun n vs ls dE x h=>body _ _ _ _ n vs ls dE (aD (aD (aD hd (aD bM bH)) (aD (aD bo cd) (aD cA bU))) x) h)
 have Rk:∀(rO:Option Addr) (rP:Nat) (dE:al),Ext V dE->IT.ak prog V.w.heap.size (vf D p m V.w.heap.size) [] {N:=[D.n,D.c,p.vars.length,p.bA,p.ao.length,p.eF,p.bj.length,p.ef,cr.n,cr.c,to.n,to.c,rP],T:=[⟨p.aT.toArray⟩],A:=[D.a,p.bx,p.eL,p.ea,cr.a,to.a,rO],M:=[m]} dE:=fun rO rP dE hd=>
  cj fun W1 bM=>bS fun cn bH=>a6 (eZ (by simp only[U];omega)) (cj fun cq bo=>hj fun gz bw dH _ cd=>cj fun dI cA=>bS fun cV bU=>dJ Inv p.bj.length (by simp only[af.b2,af.ak,E.i,dD,eH];exact start _ _ _ _ V) fun n vs ls dE x h=>body _ _ _ _ n vs ls dE (aD (aD (aD hd (aD bM bH)) (aD (aD bo cd) (aD cA bU))) x) h)
 have ajD:∀(dE:al),Ext V dE->Qv.ak prog V.w.heap.size (vf D p m V.w.heap.size) [] {N:=[D.n,D.c,p.vars.length,p.bA,p.ao.length,p.eF,p.bj.length,p.ef,cr.n,cr.c,to.n,to.c],T:=[⟨p.aT.toArray⟩],A:=[D.a,p.bx,p.eL,p.ea,cr.a,to.a],M:=[m]} dE:=fun dE hd=>
  a6 (eZ (by simp only[U];omega)) (cj fun W1 bM=>hj fun gz bw cn _ bH=>cj fun cq bo=>oF (Rj _ _ _ (aD hd (aD (aD bM bH) bo))) (Rk _ _ _ (aD hd (aD (aD bM bH) bo))))
 have Rl:∀(dE:al),Ext V dE->IU.ak prog V.w.heap.size (vf D p m V.w.heap.size) [] {N:=[D.n,D.c,p.vars.length,p.bA,p.ao.length,p.eF,p.bj.length,p.ef,cr.n,cr.c,to.n,to.c],T:=[⟨p.aT.toArray⟩],A:=[D.a,p.bx,p.eL,p.ea,cr.a,to.a],M:=[m]} dE:=fun dE hd=>
  a6 (eZ (by simp only[U];omega)) (cj fun W1 bM=>hj fun gz bw cn _ bH=>oF (Rj _ _ _ (aD hd (aD bM bH))) (Rk _ _ _ (aD hd (aD bM bH))))
 have Rm:∀(dE:al),Ext V dE->IV.ak prog V.w.heap.size (vf D p m V.w.heap.size) [] {N:=[D.n,D.c,p.vars.length,p.bA,p.ao.length,p.eF,p.bj.length,p.ef,cr.n,cr.c,to.n,to.c],T:=[⟨p.aT.toArray⟩],A:=[D.a,p.bx,p.eL,p.ea,cr.a,to.a],M:=[m]} dE:=fun dE hd=>
  a6 (eZ (by simp only[U];omega)) (cj fun W1 bM=>hj fun gz bw cn _ bH=>a6 (eZ (by simp only[U];omega)) (cj fun cq bo=>hj fun qa cv dH _ cd=>cj fun dI cA=>bS fun cV bU=>cj fun dQ df=>bS fun dX dK=>dJ Inv p.bj.length (by simp only[af.b2,af.ak,E.i,dD,eH];exact start _ _ _ _ V) fun n vs ls dE x h=>body _ _ _ _ n vs ls dE (aD (aD (aD hd (aD bM bH)) (aD (aD bo cd) (aD (aD cA bU) (aD df dK)))) x) h))
 have ajE:∀(dE:al),Ext V dE->Qw.ak prog V.w.heap.size (vf D p m V.w.heap.size) [] {N:=[D.n,D.c,p.vars.length,p.bA,p.ao.length,p.eF,p.bj.length,p.ef,cr.n,cr.c,to.n,to.c],T:=[⟨p.aT.toArray⟩],A:=[D.a,p.bx,p.eL,p.ea,cr.a,to.a],M:=[m]} dE:=fun dE hd=>
  a6 (eZ (by simp only[U];omega)) (cj fun W1 bM=>hj fun gz bw cn _ bH=>cj fun ax4 ajF=>a6 (eZ (by simp only[U];omega)) (cj fun cq bo=>hj fun qa cv dH _ cd=>cj fun dI cA=>bS fun cV bU=>cj fun dQ df=>bS fun dX dK=>dJ Inv p.bj.length (by simp only[af.b2,af.ak,E.i,dD,eH];exact start _ _ _ _ V) fun n vs ls dE x h=>body _ _ _ _ n vs ls dE (aD (aD (aD (aD hd (aD bM bH)) ajF) (aD (aD bo cd) (aD (aD cA bU) (aD df dK)))) x) h))
 exact oF (cj fun W1 bM=>oF (ajD _ bM) (cj fun cn bH=>oF (Rl _ (aD bM bH)) (Rm _ (aD bM bH)))) (cj fun W1 bM=>oF (cj fun cn bH=>oF (Rl _ (aD bM bH)) (Rm _ (aD bM bH))) (ajE _ bM))
end Go.Proofs.YtkpjmlnhhggenaaGreatDoor
end
section
namespace au
open Go ab
def tQ (p:dR) (cr to:List Int) (x:hQ):Bool:=
 ((((dc p x.dY.toNat).ay==7||(dc p x.dY.toNat).ay==9)&&decide (1<cr.getD x.dY.toNat 0))==(x.gN|| !(x.cond==[])))&&
  (!((dc p x.dY.toNat).ay==10)||((dc p x.to.toNat).ay==6&&to.getD x.to.toNat 0==1))
def zr (p:dR) (cr to:List Int):List hQ->List Int->Option (List Int)
 |[],e=>some e
 |x::l,e=>if tQ p cr to x then zr p cr to l (if x.gN then inc e x.dY.toNat else e) else none
def xE (cr e:List Int) (i:Nat) (n:dM):Bool:=!(decide (1<e.getD i 0)||(n.ay==10&&decide (cr.getD i 0<2)))
def Jc (p:dR) (cr:List Int):Option (List Int)->Bool
 |none=>false
 |some e=>gY (xE cr e) 0 p.ao
def oR (p:dR) (cr to:List Int):Bool:=Jc p cr (zr p cr to p.bj (List.replicate p.ao.length 0))
end au
namespace Go.Proofs.YtkpjmlnhhggenaaGreatDoor
open Go.Proofs.Tryz Go Go.RowKit Go.cK
theorem ajG (D:oQ) (p:cP) (cr to:List Int) (ea ry:Option Addr) (ef xy:Nat) (m:Nat) (W:al) (hp:fw p W) (nr:cr.length=p.ao.length) (h0:to.length=p.ao.length)
  (eS:b_ W ea cr.length ef 1 (nv cr)) (cC:b_ W ry to.length xy 1 (nv to)) (ik:∀x∈p.bj,(0<=x.dY∧x.dY<p.ao.length)∧0<=x.to∧x.to<p.ao.length)
  (bf:¬W.aV m) (hm:W.w.heap[m]? =some (.cells (pw D p ⟨ea,cr.length,ef⟩ ⟨ry,to.length,xy⟩).toArray nq)):
  da prog 32 #[.pointer (some ⟨m,0,none⟩)] W (.bool (au.oR p.av cr to)):=by
 refine zm bf hm fun V nR j l2=>?_
 rw[<-nR] at hm;have hp:=hp.ext j;have h5:=hp.h6;have sA:=hp.mU;have eS:=eS.ext j;have cC:=cC.ext j;refine aie D.n D.c p.vars.length p.bA p.ao.length p.eF p.bj.length p.ef cr.length ef to.length xy ⟨p.aT.toArray⟩ D.a p.bx p.eL p.ea ea ry m V _ hm l2 ?_;refine a6 (eZ (by simp only[U];omega)) (hj fun ajH ajI W1 _ bM=>?_);simp only[aU]
 refine dJ (fun aj vs ls _=>∃(i:Nat) (e:List Int) (g_:Option Addr) (hf:Nat),vs=[.int .i64 (i:Nat),.slice g_ e.length hf]∧ls=[nv e]∧e.length=p.ao.length∧(∀x∈e,0<=x∧x<=(i:Int))∧i<=p.bj.length∧aj=p.bj.length-i∧
  au.oR p.av cr to=au.Jc p.av cr (au.zr p.av cr to (p.bj.drop i) e)) p.bj.length ⟨0,List.replicate p.ao.length 0,ajH,ajI,?_,?_,Af,fun x j=>by rw[List.eq_of_mem_replicate j];exact⟨qf _,qf _⟩,dr _,rfl,by rw[au.oR,kM];rfl⟩ ?_
 ·simp only[af.b2,af.ak,E.i,aR,eH,Af];rfl
 ·simp only[af.b2,af.ak,E.i,dD,eH,I7]
 rintro n vs ls dE hd ⟨i,e,g_,hf,rfl,rfl,he,qb,a8,rfl,bl⟩;have ET:=aD bM hd;refine⟨(i:Int),e.length,hf,g_,nv e,rfl,by simp only[dD],fun hi=>?_⟩;simp only[aU]
 have Jd:0<p.ao.length->g_.isSome=true:=fun h=>by
  have bu:=(hi _ (c6 ..)).1;simp only[dD,af.ak,E.i,eH] at bu;exact b_.dL (W:=dE.all) (hN.all ((gW bu).mono fun _ _=>trivial)) (by omega)
 refine aK (fun aJ=>?_) fun aJ=>?_
 ·simp only[U,cX] at aJ;have cp:i<p.bj.length:=by omega
  have fb:p.bj[i]? =some p.bj[i]:=dn cp;have qq:=ik _ (h9 cp);rw[h4 cp] at bl;generalize p.bj[i]=x at fb bl qq;refine a6 ?_ (a6 ?_ (cI ⟨x.dY,x.to,x.gN,⟨x.cond.toArray⟩,fun cq bo=>?_,?_⟩))
  ·simp only[E.b,aR,aX.push];exact b_.dL hp.fs (by omega)
  ·simp only[U];exact c_ (by omega)
  ·have:=gh (P:=prog) rK (by decide) hp.fs xt xu fb (aD ET bo);simp only[U,ff] at this ⊢;exact this
  simp only[aU];obtain⟨b0,jg⟩:∃k:Nat,x.dY=(k:Int):=⟨x.dY.toNat,by omega⟩;obtain⟨bZ,e6⟩:∃k:Nat,x.to=(k:Int):=⟨x.to.toNat,by omega⟩;have sb:b0<p.ao.length:=by omega
  have tf:bZ<p.ao.length:=by omega
  have pJ:p.ao[b0]? =some p.ao[b0]:=dn sb;have nf:p.ao[bZ]? =some p.ao[bZ]:=dn tf;generalize p.ao[b0]=a at pJ;generalize p.ao[bZ]=b at nf
  have bV:au.tQ p.av cr to x=((((a.n.ay==7||a.n.ay==9)&&decide (1<cr.getD b0 0))==(x.gN|| !(x.cond==[])))&&(!(a.n.ay==10)||(b.n.ay==6&&to.getD bZ 0==1))):=by
   rw[au.tQ,jg,e6,EP pJ,EP nf,ih,ih]
  have gZ:au.tQ p.av cr to x=false->au.oR p.av cr to=false:=fun h=>by rw[bl,au.zr,if_neg (by rw[h];exact fun h=>nomatch h)];rfl
  have gb:au.tQ p.av cr to x=true->au.oR p.av cr to=au.Jc p.av cr (au.zr p.av cr to (p.bj.drop (i+1)) (if x.gN then au.inc e b0 else e)):=fun h=>by rw[bl,au.zr,if_pos h,jg,ih]
  rw[jg,e6];have zt:=getD_some (l:=e) (i:=b0) (by omega);have sG:=getD_some (l:=cr) (i:=b0) (by omega);have kL:=getD_some (l:=to) (i:=bZ) (by omega);have CU:=qb _ (k2 zt);refine bY fun m1 cq _ bo=>bS fun dH cd=>a6 ?_ (a6 ?_ (a6 ?_ (cI ⟨a.n.ay,a.n.bp,a.n.on,a.n.ev,a.n.vars.length,a.bA,a.n.bL.length,a.ck,a.n.cb,⟨a.n.aT.toArray⟩,⟨a.n.key.toArray⟩,⟨a.n.ca.toArray⟩,⟨a.n.set.toArray⟩,a.bx,a.ch,fun cV bU=>?_,?_⟩)))
  ·simp only[E.b,aR,aX.push];exact b_.dL hp.ns (by omega)
  ·simp only[U];exact c_ (by omega)
  ·simp only[U];exact dW (by omega)
  ·have:=gh (P:=prog) eO (by decide) hp.ns iw ix pJ (aD ET (aD bo (aD cd bU)));simp only[U,ff] at this ⊢;exact this
  simp only[aU];refine cj fun dI cA=>bY fun m2 cV _ bU=>cj fun dQ df=>bS fun dX dK=>?_
  have jB:=aD (aD ET (aD bo cd)) (aD (aD cA bU) (aD df dK));simp only[aU];refine a6 ?_ (a6 ?_ (aK (fun c2=>?_) fun c2=>?_))
  ·simp only[E.b,aR,aX.push];rw[b_.dL eS (by omega),gf]
  ·simp only[U];rw[dW (by omega:(b0:Int)<(cr.length:Int)),gf]
  ·have c2:(a.n.ay==7||a.n.ay==9)=true:=c2;rw[c2,eX] at bV;refine cI ⟨cr.getD b0 0,fun qU ln=>?_,?_⟩
   ·have:=ed (P:=prog) (f:=fun x=>[Value.int .i64 x]) (sz:=1) (fun _=>rfl) eS nn (k:=0) sG (by decide) (u:=.int .i64 (cr.getD b0 0)) rfl (aD jB ln);simp only[U] at this ⊢;exact this
   simp only[aU];refine cj fun fm eY=>aK (fun c3=>aP fun J _ _=>⟨?_,J _ (bd.2 rfl)⟩) fun c3=>?_
   ·have c3:(!(decide (1<cr.getD b0 0)==(x.gN|| !(x.cond==[]))))=true:=c3;have c3:(decide (1<cr.getD b0 0)==(x.gN|| !(x.cond==[])))=false:=by rwa[hq] at c3
    rw[gZ (by rw[bV,c3,jX])];rfl
   ·have c3:(!(decide (1<cr.getD b0 0)==(x.gN|| !(x.cond==[]))))=false:=c3;have c3:(decide (1<cr.getD b0 0)==(x.gN|| !(x.cond==[])))=true:=by rwa[kt] at c3
    rw[c3,eX] at bV;have kJ:=aD jB eY;refine aK (fun c4=>?_) fun c4=>?_
    ·have rQ:x.gN=true:=c4;refine a6 ?_ (a6 ?_ (pW ⟨e.getD b0 0,fun w hw=>?_,oG fun fU fu=>?_⟩))
     ·simp only[E.b,aR,aX.push];exact Jd (by omega)
     ·simp only[U];exact dW (by omega)
     ·have J:=hw.1;simp only[dF,jq,kv,dV.ak,U,lL,eH] at J;have:=xC J zt;simp only[U] at this ⊢;exact this
     simp only[aU];have iY:=aD kJ fu;refine a6 (by simp only[U];rw[c_ (by omega:(0:Int)<=(bZ:Int)),gf]) (a6 (by simp only[U];rw[dW (by omega:(bZ:Int)<(p.ao.length:Int)),gf]) (aK (fun d1=>?_) fun d1=>?_))
     ·have d1:(a.n.ay==10)=true:=d1;rw[d1,uf,kr] at bV;refine cI ⟨b.n.ay,fun qU ln=>?_,?_⟩
      ·have:=ed (P:=prog) eO hp.ns rN (k:=1) nf (by decide) (u:=.int .u8 b.n.ay) rfl (aD iY ln);simp only[U] at this ⊢;exact this
      simp only[aU];refine a6 (by simp only[E.b,aR,aX.push];rw[b_.dL cC (by omega),gf]) (a6 (by simp only[U];rw[dW (by omega:(bZ:Int)<(to.length:Int)),gf]) (aK (fun d2=>?_) fun d2=>?_))
      ·have d2:(b.n.ay==6)=true:=d2;rw[d2,eX] at bV;refine cI ⟨to.getD bZ 0,fun qU ln=>?_,?_⟩
       ·have:=ed (P:=prog) (f:=fun x=>[Value.int .i64 x]) (sz:=1) (fun _=>rfl) cC nn (k:=0) kL (by decide) (u:=.int .i64 (to.getD bZ 0)) rfl (aD iY ln);simp only[U] at this ⊢;exact this
       simp only[aU];refine cj fun EU B2=>aK (fun d3=>aP fun J _ _=>⟨?_,J _ (bd.2 rfl)⟩) fun d3=>?_
       ·have d3:(!(to.getD bZ 0==1))=true:=d3;rw[gZ (by rw[bV];simpa using d3)];rfl
       ·have d3:(!(to.getD bZ 0==1))=false:=d3;have oS:au.tQ p.av cr to x=true:=by rw[bV];simpa using d3
        refine eC fun xF _ xG _ _=>b1 ⟨p.bj.length-(i+1),by omega,i+1,au.inc e b0,g_,hf,?_,?_,by rw[au.py,he],au.vd qb,by omega,rfl,?_⟩
        ·simp only[U,au.py];rw[cE (by omega) (by omega)];rfl
        ·simp only[dD,af.b2,af.ak,E.i,eH];rw[cE (by omega) (by omega),ve (by omega)]
        ·rw[gb oS,if_pos rQ]
      ·have d2:(b.n.ay==6)=false:=d2;rw[d2,jX] at bV;refine cj fun vh vi=>aP fun J _ _=>⟨?_,J _ (bd.2 rfl)⟩
       rw[gZ (bV)];rfl
     ·have d1:(a.n.ay==10)=false:=d1;rw[d1,qi,qh] at bV;have oS:=bV;refine cj fun vh vi=>?_
      refine eC fun xF _ xG _ _=>b1 ⟨p.bj.length-(i+1),by omega,i+1,au.inc e b0,g_,hf,?_,?_,by rw[au.py,he],au.vd qb,by omega,rfl,?_⟩
      ·simp only[U,au.py];rw[cE (by omega) (by omega)];rfl
      ·simp only[dD,af.b2,af.ak,E.i,eH];rw[cE (by omega) (by omega),ve (by omega)]
      ·rw[gb oS,if_pos rQ]
    ·have rQ:x.gN=false:=c4;refine a6 (by simp only[U];rw[c_ (by omega:(0:Int)<=(bZ:Int)),gf]) (a6 (by simp only[U];rw[dW (by omega:(bZ:Int)<(p.ao.length:Int)),gf]) (aK (fun d1=>?_) fun d1=>?_))
     ·have d1:(a.n.ay==10)=true:=d1;rw[d1,uf,kr] at bV;refine cI ⟨b.n.ay,fun qU ln=>?_,?_⟩
      ·have:=ed (P:=prog) eO hp.ns rN (k:=1) nf (by decide) (u:=.int .u8 b.n.ay) rfl (aD kJ ln);simp only[U] at this ⊢;exact this
      simp only[aU];refine a6 (by simp only[E.b,aR,aX.push];rw[b_.dL cC (by omega),gf]) (a6 (by simp only[U];rw[dW (by omega:(bZ:Int)<(to.length:Int)),gf]) (aK (fun d2=>?_) fun d2=>?_))
      ·have d2:(b.n.ay==6)=true:=d2;rw[d2,eX] at bV;refine cI ⟨to.getD bZ 0,fun qU ln=>?_,?_⟩
       ·have:=ed (P:=prog) (f:=fun x=>[Value.int .i64 x]) (sz:=1) (fun _=>rfl) cC nn (k:=0) kL (by decide) (u:=.int .i64 (to.getD bZ 0)) rfl (aD kJ ln);simp only[U] at this ⊢;exact this
       simp only[aU];refine cj fun EU B2=>aK (fun d3=>aP fun J _ _=>⟨?_,J _ (bd.2 rfl)⟩) fun d3=>?_
       ·have d3:(!(to.getD bZ 0==1))=true:=d3;rw[gZ (by rw[bV];simpa using d3)];rfl
       ·have d3:(!(to.getD bZ 0==1))=false:=d3;have oS:au.tQ p.av cr to x=true:=by rw[bV];simpa using d3
        refine eC fun xF _ xG _ _=>b1 ⟨p.bj.length-(i+1),by omega,i+1,e,g_,hf,?_,?_,he,fun x j=>⟨(qb x j).1,by have:=(qb x j).2;omega⟩,by omega,rfl,?_⟩
        ·simp only[U];rw[cE (by omega) (by omega)];rfl
        ·simp only[dD]
        ·rw[gb oS,if_neg (by rw[rQ];exact fun h=>nomatch h)]
      ·have d2:(b.n.ay==6)=false:=d2;rw[d2,jX] at bV;refine cj fun vh vi=>aP fun J _ _=>⟨?_,J _ (bd.2 rfl)⟩
       rw[gZ (bV)];rfl
     ·have d1:(a.n.ay==10)=false:=d1;rw[d1,qi,qh] at bV;have oS:=bV;refine cj fun vh vi=>?_
      refine eC fun xF _ xG _ _=>b1 ⟨p.bj.length-(i+1),by omega,i+1,e,g_,hf,?_,?_,he,fun x j=>⟨(qb x j).1,by have:=(qb x j).2;omega⟩,by omega,rfl,?_⟩
      ·simp only[U];rw[cE (by omega) (by omega)];rfl
      ·simp only[dD]
      ·rw[gb oS,if_neg (by rw[rQ];exact fun h=>nomatch h)]
  ·have c2:(a.n.ay==7||a.n.ay==9)=false:=c2;rw[c2,jX] at bV;refine cj fun fm eY=>aK (fun c3=>aP fun J _ _=>⟨?_,J _ (bd.2 rfl)⟩) fun c3=>?_
   ·have c3:(!(false==(x.gN|| !(x.cond==[]))))=true:=c3;have c3:(false==(x.gN|| !(x.cond==[])))=false:=by rwa[hq] at c3
    rw[gZ (by rw[bV,c3,jX])];rfl
   ·have c3:(!(false==(x.gN|| !(x.cond==[]))))=false:=c3;have c3:(false==(x.gN|| !(x.cond==[])))=true:=by rwa[kt] at c3
    rw[c3,eX] at bV;have kJ:=aD jB eY;refine aK (fun c4=>?_) fun c4=>?_
    ·have rQ:x.gN=true:=c4;refine a6 ?_ (a6 ?_ (pW ⟨e.getD b0 0,fun w hw=>?_,oG fun fU fu=>?_⟩))
     ·simp only[E.b,aR,aX.push];exact Jd (by omega)
     ·simp only[U];exact dW (by omega)
     ·have J:=hw.1;simp only[dF,jq,kv,dV.ak,U,lL,eH] at J;have:=xC J zt;simp only[U] at this ⊢;exact this
     simp only[aU];have iY:=aD kJ fu;refine a6 (by simp only[U];rw[c_ (by omega:(0:Int)<=(bZ:Int)),gf]) (a6 (by simp only[U];rw[dW (by omega:(bZ:Int)<(p.ao.length:Int)),gf]) (aK (fun d1=>?_) fun d1=>?_))
     ·have d1:(a.n.ay==10)=true:=d1;rw[d1,uf,kr] at bV;refine cI ⟨b.n.ay,fun qU ln=>?_,?_⟩
      ·have:=ed (P:=prog) eO hp.ns rN (k:=1) nf (by decide) (u:=.int .u8 b.n.ay) rfl (aD iY ln);simp only[U] at this ⊢;exact this
      simp only[aU];refine a6 (by simp only[E.b,aR,aX.push];rw[b_.dL cC (by omega),gf]) (a6 (by simp only[U];rw[dW (by omega:(bZ:Int)<(to.length:Int)),gf]) (aK (fun d2=>?_) fun d2=>?_))
      ·have d2:(b.n.ay==6)=true:=d2;rw[d2,eX] at bV;refine cI ⟨to.getD bZ 0,fun qU ln=>?_,?_⟩
       ·have:=ed (P:=prog) (f:=fun x=>[Value.int .i64 x]) (sz:=1) (fun _=>rfl) cC nn (k:=0) kL (by decide) (u:=.int .i64 (to.getD bZ 0)) rfl (aD iY ln);simp only[U] at this ⊢;exact this
       simp only[aU];refine cj fun EU B2=>aK (fun d3=>aP fun J _ _=>⟨?_,J _ (bd.2 rfl)⟩) fun d3=>?_
       ·have d3:(!(to.getD bZ 0==1))=true:=d3;rw[gZ (by rw[bV];simpa using d3)];rfl
       ·have d3:(!(to.getD bZ 0==1))=false:=d3;have oS:au.tQ p.av cr to x=true:=by rw[bV];simpa using d3
        refine eC fun xF _ xG _ _=>b1 ⟨p.bj.length-(i+1),by omega,i+1,au.inc e b0,g_,hf,?_,?_,by rw[au.py,he],au.vd qb,by omega,rfl,?_⟩
        ·simp only[U,au.py];rw[cE (by omega) (by omega)];rfl
        ·simp only[dD,af.b2,af.ak,E.i,eH];rw[cE (by omega) (by omega),ve (by omega)]
        ·rw[gb oS,if_pos rQ]
      ·have d2:(b.n.ay==6)=false:=d2;rw[d2,jX] at bV;refine cj fun vh vi=>aP fun J _ _=>⟨?_,J _ (bd.2 rfl)⟩
       rw[gZ (bV)];rfl
     ·have d1:(a.n.ay==10)=false:=d1;rw[d1,qi,qh] at bV;have oS:=bV;refine cj fun vh vi=>?_
      refine eC fun xF _ xG _ _=>b1 ⟨p.bj.length-(i+1),by omega,i+1,au.inc e b0,g_,hf,?_,?_,by rw[au.py,he],au.vd qb,by omega,rfl,?_⟩
      ·simp only[U,au.py];rw[cE (by omega) (by omega)];rfl
      ·simp only[dD,af.b2,af.ak,E.i,eH];rw[cE (by omega) (by omega),ve (by omega)]
      ·rw[gb oS,if_pos rQ]
    ·have rQ:x.gN=false:=c4;refine a6 (by simp only[U];rw[c_ (by omega:(0:Int)<=(bZ:Int)),gf]) (a6 (by simp only[U];rw[dW (by omega:(bZ:Int)<(p.ao.length:Int)),gf]) (aK (fun d1=>?_) fun d1=>?_))
     ·have d1:(a.n.ay==10)=true:=d1;rw[d1,uf,kr] at bV;refine cI ⟨b.n.ay,fun qU ln=>?_,?_⟩
      ·have:=ed (P:=prog) eO hp.ns rN (k:=1) nf (by decide) (u:=.int .u8 b.n.ay) rfl (aD kJ ln);simp only[U] at this ⊢;exact this
      simp only[aU];refine a6 (by simp only[E.b,aR,aX.push];rw[b_.dL cC (by omega),gf]) (a6 (by simp only[U];rw[dW (by omega:(bZ:Int)<(to.length:Int)),gf]) (aK (fun d2=>?_) fun d2=>?_))
      ·have d2:(b.n.ay==6)=true:=d2;rw[d2,eX] at bV;refine cI ⟨to.getD bZ 0,fun qU ln=>?_,?_⟩
       ·have:=ed (P:=prog) (f:=fun x=>[Value.int .i64 x]) (sz:=1) (fun _=>rfl) cC nn (k:=0) kL (by decide) (u:=.int .i64 (to.getD bZ 0)) rfl (aD kJ ln);simp only[U] at this ⊢;exact this
       simp only[aU];refine cj fun EU B2=>aK (fun d3=>aP fun J _ _=>⟨?_,J _ (bd.2 rfl)⟩) fun d3=>?_
       ·have d3:(!(to.getD bZ 0==1))=true:=d3;rw[gZ (by rw[bV];simpa using d3)];rfl
       ·have d3:(!(to.getD bZ 0==1))=false:=d3;have oS:au.tQ p.av cr to x=true:=by rw[bV];simpa using d3
        refine eC fun xF _ xG _ _=>b1 ⟨p.bj.length-(i+1),by omega,i+1,e,g_,hf,?_,?_,he,fun x j=>⟨(qb x j).1,by have:=(qb x j).2;omega⟩,by omega,rfl,?_⟩
        ·simp only[U];rw[cE (by omega) (by omega)];rfl
        ·simp only[dD]
        ·rw[gb oS,if_neg (by rw[rQ];exact fun h=>nomatch h)]
      ·have d2:(b.n.ay==6)=false:=d2;rw[d2,jX] at bV;refine cj fun vh vi=>aP fun J _ _=>⟨?_,J _ (bd.2 rfl)⟩
       rw[gZ (bV)];rfl
     ·have d1:(a.n.ay==10)=false:=d1;rw[d1,qi,qh] at bV;have oS:=bV;refine cj fun vh vi=>?_
      refine eC fun xF _ xG _ _=>b1 ⟨p.bj.length-(i+1),by omega,i+1,e,g_,hf,?_,?_,he,fun x j=>⟨(qb x j).1,by have:=(qb x j).2;omega⟩,by omega,rfl,?_⟩
      ·simp only[U];rw[cE (by omega) (by omega)];rfl
      ·simp only[dD]
      ·rw[gb oS,if_neg (by rw[rQ];exact fun h=>nomatch h)]
 ·simp only[U,c7] at aJ;rw[fV (by omega)] at bl;have bl:au.oR p.av cr to=au.gY (au.xE cr e) 0 p.av.ao:=bl;refine dJ (fun aj vs ls _=>∃k:Nat,vs=[.int .i64 (k:Nat)]∧ls=[]∧k<=p.ao.length∧aj=p.ao.length-k∧au.oR p.av cr to=au.gY (au.xE cr e) k (p.av.ao.drop k)) p.ao.length ⟨0,by simp[U],rfl,dr _,rfl,bl⟩ ?_;clear bl;rintro aj vs fG cn bH ⟨k,rfl,rfl,aA,rfl,bl⟩;have dG:=aD ET bH;refine⟨(k:Int),rfl,rfl,fun _=>aK (fun d1=>?_) fun d1=>aP fun J _ _=>⟨?_,J _ (bd.2 rfl)⟩⟩
  ·simp only[U,cX] at d1;have e8:k<p.ao.length:=by omega
   have fb:p.ao[k]? =some p.ao[k]:=dn e8;have l_:k<p.av.ao.length:=by rw[kM];exact e8
   rw[EL l_,EM fb l_] at bl;generalize p.ao[k]=v at fb bl;have zt:=getD_some (l:=e) (i:=k) (by omega);have sG:=getD_some (l:=cr) (i:=k) (by omega);have gZ:au.xE cr e k v.n=false->au.oR p.av cr to=false:=fun h=>by rw[bl,h,jX]
   have gb:au.xE cr e k v.n=true->au.oR p.av cr to=au.gY (au.xE cr e) (k+1) (p.av.ao.drop (k+1)):=fun h=>by rw[bl,h,eX]
   have eA:au.xE cr e k v.n= !(decide (1<e.getD k 0)||(v.n.ay==10&&decide (cr.getD k 0<2))):=rfl;refine a6 ?_ (a6 ?_ (cI ⟨v.n.ay,v.n.bp,v.n.on,v.n.ev,v.n.vars.length,v.bA,v.n.bL.length,v.ck,v.n.cb,⟨v.n.aT.toArray⟩,⟨v.n.key.toArray⟩,⟨v.n.ca.toArray⟩,⟨v.n.set.toArray⟩,v.bx,v.ch,fun cq bo=>?_,?_⟩))
   ·simp only[E.b,aR,aX.push];exact b_.dL hp.ns (by omega)
   ·simp only[U];exact c_ (by omega)
   ·have:=gh (P:=prog) eO (by decide) hp.ns iw ix fb (aD dG bo);simp only[U,ff] at this ⊢;exact this
   simp only[aU];refine bY fun m1 cq _ bo=>bS fun dH cd=>a6 ?_ (a6 ?_ (pW ⟨e.getD k 0,fun w hw=>?_,?_⟩))
   ·simp only[E.b,aR,aX.push];exact Jd (by omega)
   ·simp only[U];exact dW (by omega)
   ·have J:=hw.1;simp only[dF,jq,kv,dV.ak,U,lL,eH] at J;have:=xC J zt;simp only[U] at this ⊢;exact this
   simp only[aU];have dO:=aD dG (aD bo cd);refine a6 (by simp only[E.b,aR,aX.push];rw[b_.dL eS (by omega),gf]) (a6 (by simp only[U];rw[dW (by omega:(k:Int)<(cr.length:Int)),gf]) (aK (fun d2=>?_) fun d2=>?_))
   ·have d2:(!decide (1<e.getD k 0)&&v.n.ay==10)=true:=d2;simp only[bT,hq] at d2;rw[d2.1,d2.2,kr,eX] at eA;refine cI ⟨cr.getD k 0,fun qU ln=>?_,?_⟩
    ·have:=ed (P:=prog) (f:=fun x=>[Value.int .i64 x]) (sz:=1) (fun _=>rfl) eS nn (k:=0) sG (by decide) (u:=.int .i64 (cr.getD k 0)) rfl (aD dO ln);simp only[U] at this ⊢;exact this
    simp only[aU];refine aK (fun d3=>aP fun J _ _=>⟨?_,J _ (bd.2 rfl)⟩) fun d3=>eC fun dX _ dK _ _=>b1 ⟨p.ao.length-(k+1),by omega,k+1,?_,rfl,by omega,rfl,?_⟩
    ·have d3:decide (cr.getD k 0<2)=true:=d3;rw[gZ (by rw[eA,d3];rfl)];rfl
    ·simp only[U];rw[cE (by omega) (by omega)];rfl
    ·have d3:decide (cr.getD k 0<2)=false:=d3;exact gb (by rw[eA,d3];rfl)
   ·have d2:(!decide (1<e.getD k 0)&&v.n.ay==10)=false:=d2;refine aK (fun d3=>aP fun J _ _=>⟨?_,J _ (bd.2 rfl)⟩) fun d3=>eC fun dX _ dK _ _=>b1 ⟨p.ao.length-(k+1),by omega,k+1,?_,rfl,by omega,rfl,?_⟩
    ·have d3:decide (1<e.getD k 0)=true:=d3;rw[gZ (by rw[eA,d3];rfl)];rfl
    ·simp only[U];rw[cE (by omega) (by omega)];rfl
    ·have d3:decide (1<e.getD k 0)=false:=d3;rw[d3,qi,eX] at d2;exact gb (by rw[eA,d3,d2];rfl)
  ·simp only[U,c7] at d1;rw[bl,fV (by rw[kM];omega)];rfl
end Go.Proofs.YtkpjmlnhhggenaaGreatDoor
end
section
namespace au
open Go ab
def lp (p:dR) (s:Int):List dM:=p.ao.filter (sD s)
def B3:List dM->List aM->Option (List aM)
 |[],ks=>some ks
 |n::l,ks=>if(n.cb||(!(n.ev==0)&&!(n.ev==1)))||ks.contains n.key then none else B3 l (ks++[n.key])
def B4 (f:dM->Bool):List dM->Bool
 |[x]=>f x
 |_=>false
def oT (p:dR) (i:Nat) (n:dM):Bool:=
 !scope n.ay||
  if n.ay==12 then(lp p i).length==0&&!(p.ao.any fun m=>m.bp==(i:Int)&&m.ay==2)
  else if n.ay==11 then B4 (fun x=>x.ev==0) (lp p i)
  else B4 (fun x=>!(x.ev==0)&&!(x.ev==4&&!x.cb)) (lp p i)
def lq (p:dR):Bool:=match B3 (lp p (-1)) [] with
 |none=>false
 |some ks=>!(ks.length==0)&&gY (oT p) 0 p.ao
def cond (p:dR) (x:hQ):Int:=if x.cond==[] then 0 else bF.fp x.cond (fQ p x.dY) 2
def Je (cQ:List dR) (p:dR):List Int×List Int->Int
 |(cr,to)=>
  if lq p=false then 4 else if sC p cr to=false then 4 else if oR p cr to=false then 4 else if tK p=false then 4
  else if fo (iy cQ p) (List.range p.ao.length)≠0 then fo (iy cQ p) (List.range p.ao.length)
  else fo (cond p) p.bj
def Jf (cQ:List dR) (p:dR):Int:=if ho p=false then 4 else match ways p with
 |none=>4
 |some w=>Je cQ p w
def fp (cQ:List dR) (p:dR):Int:=if jm p≠0 then jm p else Jf cQ p
theorem Jg {α:Type} {e:α->Int}:∀{l:List α},fo e l=0->∀x∈l,e x=0
 |[],_,x,j=>by cases j
 |y::l,h,x,j=>by
  rw[fo] at h;split at h
  ·rename_i bk;rcases dh.1 j with e|e
   ·subst e;exact bk
   ·exact Jg h x e
  ·contradiction
structure pq (p:dR):Prop where
 dd:p.ao.length<=40
 ajJ:p.vars.length<=8
 dc:∀n∈p.ao,gi n=0
 my:∀x∈p.bj,km x=0
theorem ajK {l:List Var} (h:vars l=0):l.length<=8:=by
 unfold vars at h;split at h
 ·exact absurd h (by decide)
 ·omega
theorem ajL {p:dR} (h:jm p=0):pq p:=by
 unfold jm at h;split at h
 ·exact absurd h (by decide)
 ·rename_i J;split at h
  ·exact absurd h (by decide)
  ·split at h
   ·contradiction
   ·rename_i aI;split at h
    ·contradiction
    ·rename_i cc;exact⟨by omega,ajK (Decidable.not_not.1 aI),Jg (Decidable.not_not.1 cc),Jg h⟩
theorem ajM {n:dM} (h:gi n=0) (aA:n.ay=15):0<=n.on:=by
 unfold gi at h;split at h
 ·exact absurd h (by decide)
 ·split at h
  ·rename_i J;simp only[bT] at J;have an:=J.1;unfold jy mf kS hv at an;rw[aA] at an;simp at an;have aI:u6 n=true:=by unfold u6;rw[aA];rfl
   rw[aI] at an;simp[show scope 15=false from by decide] at an;exact an.2.1
  ·exact absurd h (by decide)
theorem ajN {n:dM} (h:gi n=0):n.vars.length<=8:=by
 unfold gi at h;split at h
 ·exact absurd h (by decide)
 ·omega
theorem Rn {x:hQ} (h:km x=0):0<=x.dY∧0<=x.to:=by
 unfold km at h;split at h
 ·exact absurd h (by decide)
 ·split at h
  ·exact absurd h (by decide)
  ·rename_i J;simp only[h8,decide_eq_true_eq,not_or] at J;omega
theorem Jh {α:Type} {f:Nat->α->Bool}:∀{l:List α} {i:Nat},gY f i l=true->∀(k:Nat) (x:α),l[k]? =some x->f (i+k) x=true
 |[],_,_,k,x,j=>by simp at j
 |y::l,i,h,0,x,j=>by
  simp only[gY,bT] at h;simp only[yf,nT] at j;subst j;exact h.1
 |y::l,i,h,k+1,x,j=>by
  simp only[gY,bT] at h;have:=Jh h.2 k x (by simpa using j);rwa[show i+1+k=i+(k+1) by omega] at this
theorem ajO {p:dR} (h:ho p=true):∀n∈p.ao,n.bp<p.ao.length:=by
 intro n cB;obtain⟨k,aA,rfl⟩:=List.getElem_of_mem cB;unfold ho at h;simp only[bT] at h;have J:=Jh h.1 k _ (dn aA);unfold rL at J;simp only[bT,beq_iff_eq] at J;have an:=J.2.1;have:=nQ p (0+k);omega
theorem Ro {p:dR}:∀{l:List hQ} {f t r},tP p l f t=some r->∀x∈l,x.dY<p.ao.length∧x.to<p.ao.length
 |[],_,_,_,_,x,j=>by cases j
 |y::l,f,t,r,h,x,j=>by
  rw[tP] at h;split at h
  ·rename_i J;rcases dh.1 j with e|e
   ·subst e;unfold xB at J;simp only[bT,hq,decide_eq_false_iff_not] at J;omega
   ·exact Ro h x e
  ·contradiction
theorem Rp {p:dR} (h:pq p) (n:Int):(fQ p n).length<=1000000:=by
 have ji:∀i,(dc p i).vars.length<=8:=fun i=>by
  unfold dc;rw[oe];cases he:p.ao[i]? with
  |none=>exact dr _
  |some x=>exact ajN (h.dc x (k2 he))
 have ee:∀a:Int,a<p.ao.length->(hT p a).length<=400:=fun a bl=>by
  by_cases bk:0<=a
  ·have:=IY p 8 ji (a.toNat+1) a;have:=h.dd;unfold hT;omega
  ·rw[xv p (by omega)];exact dr _
 have J:=h.ajJ;have an:=ji n.toNat;have cc:=nQ p (dS p n.toNat).toNat;have bu:=nQ p n.toNat;have hs:=h.dd;unfold fQ;rw[fR];split
 ·rename_i bk;simp only[bT,decide_eq_true_eq] at bk;have k7:=ee (dS p n.toNat) (by omega);split
  ·rw[fR];omega
  ·split
   ·split
    ·rename_i yJ
     by_cases Rq:0<=dS p n.toNat
     ·have nC:=ee (dS p (dS p n.toNat).toNat) (by omega);omega
     ·rw[kind,if_pos (by omega)] at yJ;exact absurd yJ (by decide)
    ·omega
   ·omega
 ·simp;omega
end au
end
section
namespace Go.Proofs.YtkpjmlnhhggenaaGreatDoor
open Go.Proofs.Tryz Go Go.RowKit Go.cK
abbrev zu:b4:=⟨1,71,[ai 4 8 9,ag 1,ai 5 10 11,ai 6 12 13,ai 7 14 15,ai 8 16 17,ai 9 18 19]⟩
abbrev Rr:b4:=⟨1,71,[ai 0 0 1,ag 0,ai 1 2 3,ai 2 4 5,ai 3 6 7,.db,.db]⟩
abbrev Ji:af:=(.agg [ag 0,ai 1 2 3,ai 2 4 5,ai 3 6 7])
abbrev ajP:Tree:=(.aC (bR (aZ (ae 2) (ah 0))) (.ret (aq 2) [] [] []) (.again 0 [(.int .i64 (.un (.wrap .i64) (bX (ae 1) (ah 1))))] []))
abbrev ajQ:Tree:=(.call 34 [.ptr 1 0,aq 1] [zu] [] [] (aq 2) cg ajP)
abbrev Rs:Tree:=(.eM [⟨2,33,[aq 3,aq 4,ag 2,ba 6]⟩] (.again 1 [(.int .i64 (.un (.wrap .i64) (bX (ae 2) (ah 1))))] []))
abbrev ajR:Tree:=(.grow (.aC (bR (aZ (ae 5) (ah 0))) (.ret (aq 5) [] [] []) Rs))
abbrev ajS:Tree:=(.jZ 35 [ag 2,ai 10 20 21,di 2] [] [] (aq 5) cg ajR)
abbrev ajT:Tree:=(.grow (.call 18 [Ji,aq 3] [] [] [] (ai 10 20 21) ga ajS))
abbrev ajU:Tree:=(.a1 (.sm 3) (.a1 (bQ (ah 0) (ae 2)) (.cl 33 (.b6 3 (ae 2) 4 0) (.agg [aq 3,aq 4,ag 2,ba 6]) rB (.new (.wr (.aC (eW (b9 2) (.bN [])) Rs ajT))))))
abbrev ajV:Tree:=(.loop [bI 0] [] [aq 2] [] cg (.aC (bO (ae 2) (aG 6)) ajU (.ret (bI 0) [] [] [])))
abbrev ajW:Tree:=(.loop [bI 0] [] [aq 1] [] cg (.aC (bO (ae 1) (aG 4)) ajQ ajV))
abbrev ajX:Tree:=(.call 33 [.ptr 1 0] [zu] [] [] (ba 5) dv (.aC (bR (cG 5)) (.ret (bI 4) [] [] []) ajW))
abbrev ajY:Tree:=(.call 32 [.ptr 1 0] [zu] [] [] (ba 4) dv (.aC (bR (cG 4)) (.ret (bI 4) [] [] []) ajX))
abbrev ajZ:Tree:=(.call 31 [.ptr 1 0] [zu] [] [] (ba 3) dv (.aC (bR (cG 3)) (.ret (bI 4) [] [] []) ajY))
abbrev aj0:Tree:=(.call 30 [.ptr 1 0] [zu] [] [] (ba 2) dv (.aC (bR (cG 2)) (.ret (bI 4) [] [] []) ajZ))
abbrev aj1:Tree:=(.call 29 [.ptr 1 0] [Rr] [] [zu] (ba 1) ⟨0,12,1,1,0,6,0,0⟩ (.aC (bR (cG 1)) (.ret (bI 4) [] [] []) aj0))
abbrev aj2:Tree:=(.new (.call 28 [.ptr 1 0] [Rr] [] [] (ba 0) dv (.aC (bR (cG 0)) (.ret (bI 4) [] [] []) aj1)))
abbrev aj3:Tree:=(.aC (bR (aZ (ae 0) (ah 0))) (.ret (aq 0) [] [] []) aj2)
abbrev Rt:Tree:=
(.new (.call 21 [Ji] [] [] [] (aq 0) cg aj3))
theorem aj4:cN prog {cW with ei:=[⟨12,[.az 46]⟩,⟨19,[.az 59]⟩],k5:=[(6,7)],mu:=[(29,[0])]} f12 [ai 0 0 1,Ji] [] [] ⟨0,8,0,1,0,4,0,0⟩=some Rt:=by kernel_rfl
theorem aj5 (ar aQ bz bJ cH cM e0 e1:Nat) (t0:ByteArray) (a0 bn a2 a3:Option Addr) (W:al) (R:Ending->World->Prop) (h:Rt.ak prog W.w.heap.size R [] {N:=[ar,aQ,bz,bJ,cH,cM,e0,e1],T:=[t0],A:=[a0,bn,a2,a3]} W):bK prog 12 #[.slice a0 ar aQ,.agg #[.string t0,.slice bn bz bJ,.slice a2 cH cM,.slice a3 e0 e1]] W R:=
 dP func12 _ _ {N:=[ar,aQ,bz,bJ,cH,cM,e0,e1],T:=[t0],A:=[a0,bn,a2,a3]} _ aj4 (fun v aB=>by cases aB) h
def pA (W:al) (m:Nat):al:=⟨W.w,fun b=>W.aV b∧b≠m,fun b h=>W.lt b h.1⟩
theorem qV {V dE:al} {m:Nat} (x:Ext V dE) (h:¬V.aV m):Ext V (pA dE m):=⟨x.size,fun b I=>⟨x.sub b I,fun e=>h (e▸I)⟩,x.du,x.os,x.tape,x.output⟩
theorem EV {V dE:al} {m:Nat} (x:Ext V dE):Ext (pA V m) (pA dE m):=⟨x.size,fun b I=>⟨x.sub b I.1,I.2⟩,fun b I=>x.du b I.1,x.os,x.tape,x.output⟩
theorem xH (W:al) (m:Nat):¬(pA W m).aV m:=fun h=>h.2 rfl
theorem Jj:∀l:List Int,nv l=l.map (Value.int .i64)
 |[]=>rfl
 |x::l=>by rw[jo,<-Jj l];rfl
def Ru (p:cP):Prop:=∀(D cr to:oQ) (m:Nat) (W:al),fw p W->(∀v∈p.ao,ab.gi v.n=0)->¬W.aV m->W.w.heap[m]? =some (.cells (pw D p cr to).toArray nq)->
 da prog 30 #[.pointer (some ⟨m,0,none⟩)] W (.bool (au.lq p.av))
theorem aj6 (cQ:List cP) (hV:Option Addr) (hW:Nat) (p:cP) (W:al) (a_:cQ.length<=1000000) (fX:b_ W hV cQ.length hW 4 (cQ.flatMap gA)) (eS:∀q∈cQ,fw q W)
  (hp:fw p W) (b7:lh W) (cC:mr W) (gK:iL W) (ji:Ru p):
  da prog 12 #[.slice hV cQ.length hW,.agg (gA p).toArray] W (.int .i64 (au.fp (cQ.map cP.av) p.av)):=by
 have hp:=hp.ext W.dw;have fX:=fX.ext W.dw;have b7:=b7.ext W.dw;have cC:=cC.ext W.dw;have gK:=gK.ext W.dw;have eS:∀q∈cQ,fw q W.all:=fun q bg=>(eS q bg).ext W.dw
 have h5:=hp.h6;have sA:=hp.mU;refine aj5 cQ.length hW p.vars.length p.bA p.ao.length p.eF p.bj.length p.ef ⟨p.aT.toArray⟩ hV p.bx p.eL p.ea W.all _ ?_;generalize ct:W.all=V at hp fX b7 cC gK eS ⊢;have l2:∀b,V.w.heap.size<=b->¬V.aV b:=fun b I h=>absurd (V.lt b h) (by omega)
 refine bY fun m0 W1 _ bM=>b5 (v:=.int .i64 (ab.jm p.av)) (fun _ _=>agh p W1 (hp.ext bM) (gK.ext bM)) ⟨ab.jm p.av,rfl,fun cn bH=>?_⟩
 have dG:=aD bM bH;simp only[aU];refine aK (fun aJ=>aP fun _ _ _=>⟨_,rfl,?_⟩) fun aJ=>?_
 ·have aJ:(!(ab.jm p.av==0))=true:=aJ;rw[au.fp,if_pos (by simpa using aJ)];rfl
 have aJ:(!(ab.jm p.av==0))=false:=aJ;have aJ:ab.jm p.av=0:=by simpa using aJ
 have cy:au.fp (cQ.map cP.av) p.av=au.Jf (cQ.map cP.av) p.av:=by rw[au.fp,if_neg (fun h=>h aJ)]
 rw[cy,au.Jf];have B5:=au.ajL aJ;have fW:∀v∈p.ao,ab.gi v.n=0:=fun v aB=>B5.dc _ (List.mem_map_of_mem aB)
 refine bY fun m1 cq j8 bo=>?_
 have eK:=aD dG bo;have rR:¬V.aV m1:=l2 m1 j8;simp only[aU];refine b5 (v:=.bool (au.ho p.av)) (fun I _=>ajn ⟨hV,cQ.length,hW⟩ ⟨none,0,0⟩ ⟨none,0,0⟩ p m1 (pA cq m1) (hp.ext (qV eK rR)) (fun v aB aA=>au.ajM (fW v aB) aA) (xH _ _) (I _ (bd.2 rfl))) ⟨au.ho p.av,rfl,fun dH cd=>?_⟩;have dO:=aD eK cd;simp only[aU];refine aK (fun c2=>aP fun _ _ _=>⟨_,rfl,?_⟩) fun c2=>?_
 ·have c2:(!au.ho p.av)=true:=c2;rw[if_pos (by simpa using c2)];rfl
 have c2:(!au.ho p.av)=false:=c2;have c2:au.ho p.av=true:=by simpa using c2
 rw[if_neg (by rw[c2];exact fun h=>nomatch h)];refine nL fun I DL _=>?_
 have hw:=ajC ⟨hV,cQ.length,hW⟩ ⟨none,0,0⟩ ⟨none,0,0⟩ p m1 (dH.fz [m1]) (hp.ext (aD (qV dO rR) ⟨e9 _,fun b I=>⟨dH.lt b I.1,fun h=>I.2 (bd.1 h)⟩,fun _ _=>rfl,rfl,rfl,rfl⟩)) (fun x j=>au.Rn (B5.my x j)) (fun h=>h.2 (bd.2 rfl)) (I _ (bd.2 rfl));refine bK.mono hw fun e w' _ aB=>?_
 obtain⟨b,g_,hf,jC,jD,f,t,rfl,aj7,nr,h0,EW,EX,Jk⟩:=aB;refine⟨cQ.length,hW,p.vars.length,p.bA,p.ao.length,p.eF,p.bj.length,p.ef,f.length,hf,t.length,jD,b,⟨p.aT.toArray⟩,hV,p.bx,p.eL,p.ea,g_,jC,rfl,fun b eI=>by obtain rfl:=bd.1 eI;exact aj7,fun dI hx cA cM=>?_⟩;have ej:=aD dO cA;have ax5:m1<dH.w.heap.size:=(fq.1 (I _ (bd.2 rfl))).1;have Rv:s8 dH.w.heap.size (pA dI m1):=fun k J an=>⟨cM k J an,fun e=>by omega⟩
 have EW:b_ (pA dI m1) g_ f.length hf 1 (nv f):=eD.h3 EW hx Rv;have EX:b_ (pA dI m1) jC t.length jD 1 (nv t):=eD.h3 EX hx Rv;simp only[aU];cases b with
 |false=>
  rw[show au.ways p.av=none from Jk];exact aK (fun c3=>aP fun _ _ _=>⟨_,rfl,rfl⟩) fun c3=>nomatch (show(true=false) from c3)
 |true=>
 rw[show au.ways p.av=some (f,t) from Jk];refine aK (fun c3=>nomatch (show(false=true) from c3)) fun c3=>?_
 show Tree.ak _ _ (o4 fun u _=>u= .int .i64 (au.Je (cQ.map cP.av) p.av (f,t))) _ _ _ _;rw[au.Je];have ik:=au.Ro (show au.tP p.av p.av.bj _ _=some (f,t) from Jk);refine b5 (v:=.bool (au.lq p.av)) (fun I _=>ji ⟨hV,cQ.length,hW⟩ ⟨g_,f.length,hf⟩ ⟨jC,t.length,jD⟩ m1 (pA dI m1) (hp.ext (qV ej rR)) fW (xH _ _) (I _ (bd.2 rfl))) ⟨au.lq p.av,rfl,fun cV bU=>?_⟩;have jk:=aD ej bU;simp only[aU];refine aK (fun c4=>aP fun _ _ _=>⟨_,rfl,?_⟩) fun c4=>?_
 ·have c4:(!au.lq p.av)=true:=c4;rw[if_pos (by simpa using c4)];rfl
 have c4:(!au.lq p.av)=false:=c4;rw[if_neg (by rw[show au.lq p.av=true by simpa using c4];exact fun h=>nomatch h)]
 refine b5 (v:=.bool (au.sC p.av f t)) (fun I _=>ajj ⟨hV,cQ.length,hW⟩ p f t g_ jC hf jD m1 (pA cV m1) (hp.ext (qV jk rR)) nr h0 (by rw[<-Jj];exact EW.ext (EV bU)) (by rw[<-Jj];exact EX.ext (EV bU))
  (fun v aB=>by have:=au.ajO c2 v.n (List.mem_map_of_mem aB);rw[kM] at this;exact this) (xH _ _) (I _ (bd.2 rfl))) ⟨au.sC p.av f t,rfl,fun dQ df=>?_⟩
 have l1:=aD jk df;have Jl:=aD bU df;simp only[aU];refine aK (fun c5=>aP fun _ _ _=>⟨_,rfl,?_⟩) fun c5=>?_
 ·have c5:(!au.sC p.av f t)=true:=c5;rw[if_pos (by simpa using c5)];rfl
 have c5:(!au.sC p.av f t)=false:=c5;rw[if_neg (by rw[show au.sC p.av f t=true by simpa using c5];exact fun h=>nomatch h)]
 refine b5 (v:=.bool (au.oR p.av f t)) (fun I _=>ajG ⟨hV,cQ.length,hW⟩ p f t g_ jC hf jD m1 (pA dQ m1) (hp.ext (qV l1 rR)) nr h0 (EW.ext (EV Jl)) (EX.ext (EV Jl))
  (fun x j=>by
   have J:=ik x j;have an:=au.Rn (B5.my x j);rw[kM] at J;exact⟨⟨an.1,J.1⟩,an.2,J.2⟩) (xH _ _) (I _ (bd.2 rfl))) ⟨au.oR p.av f t,rfl,fun dX dK=>?_⟩
 have jB:=aD l1 dK;simp only[aU];refine aK (fun bw=>aP fun _ _ _=>⟨_,rfl,?_⟩) fun bw=>?_
 ·have bw:(!au.oR p.av f t)=true:=bw;rw[if_pos (by simpa using bw)];rfl
 have bw:(!au.oR p.av f t)=false:=bw;rw[if_neg (by rw[show au.oR p.av f t=true by simpa using bw];exact fun h=>nomatch h)];refine b5 (v:=.bool (au.tK p.av)) (fun I _=>ajl ⟨hV,cQ.length,hW⟩ ⟨g_,f.length,hf⟩ ⟨jC,t.length,jD⟩ p m1 (pA dX m1) (hp.ext (qV jB rR)) (xH _ _) (I _ (bd.2 rfl))) ⟨au.tK p.av,rfl,fun fm eY=>?_⟩;have kJ:=aD jB eY;simp only[aU];refine aK (fun cv=>aP fun _ _ _=>⟨_,rfl,?_⟩) fun cv=>?_
 ·have cv:(!au.tK p.av)=true:=cv;rw[if_pos (by simpa using cv)];rfl
 have cv:(!au.tK p.av)=false:=cv;rw[if_neg (by rw[show au.tK p.av=true by simpa using cv];exact fun h=>nomatch h)];rw[kM];generalize c1:ab.fo (au.iy (cQ.map cP.av) p.av) (List.range p.ao.length)=S;refine dJ (fun aj vs ls _=>∃i:Nat,vs=[.int .i64 (i:Nat)]∧ls=[]∧i<=p.ao.length∧aj=p.ao.length-i∧S=ab.fo (au.iy (cQ.map cP.av) p.av) ((List.range p.ao.length).drop i)) p.ao.length ⟨0,by simp[U],rfl,dr _,rfl,c1.symm⟩ ?_;rintro aj vs fG fU fu ⟨i,rfl,rfl,a8,rfl,bl⟩;have iY:=aD kJ fu;refine⟨(i:Int),rfl,rfl,fun _=>aK (fun d1=>?_) fun d1=>?_⟩
 ·simp only[U,cX] at d1;have cp:i<p.ao.length:=by omega
  have Jm:i<(List.range p.ao.length).length:=by rw[List.length_range];exact cp
  rw[h4 Jm,List.getElem_range,ab.fo] at bl;simp only[aU];refine b5 (v:=.int .i64 (au.iy (cQ.map cP.av) p.av i)) (fun I _=>ajB cQ hV hW ⟨g_,f.length,hf⟩ ⟨jC,t.length,jD⟩ p i m1 (pA fU m1) a_ (fX.ext (qV iY rR)) (fun q bg=>(eS q bg).ext (qV iY rR)) (hp.ext (qV iY rR)) cp (au.Rp B5 _) (b7.ext (qV iY rR)) (cC.ext (qV iY rR)) (xH _ _) (I _ (bd.2 rfl))) ⟨au.iy (cQ.map cP.av) p.av i,rfl,fun jQ ki=>?_⟩;simp only[aU];refine aK (fun d2=>aP fun _ _ _=>⟨_,rfl,?_⟩) fun d2=>b1 ⟨p.ao.length-(i+1),by omega,i+1,?_,rfl,by omega,rfl,?_⟩
  ·have d2:(!(au.iy (cQ.map cP.av) p.av i==0))=true:=d2;have d2:¬au.iy (cQ.map cP.av) p.av i=0:=by simpa using d2
   rw[if_neg d2] at bl;rw[bl,if_pos d2];rfl
  ·simp only[U];rw[cE (by omega) (by omega)];rfl
  ·have d2:(!(au.iy (cQ.map cP.av) p.av i==0))=false:=d2;have d2:au.iy (cQ.map cP.av) p.av i=0:=by simpa using d2
   rw[if_pos d2] at bl;exact bl
 ·simp only[U,c7] at d1;rw[fV (by rw[List.length_range];omega)] at bl;have bl:S=0:=bl;rw[if_neg (fun h=>h bl)];show Tree.ak _ _ (o4 fun u _=>u= .int .i64 (ab.fo (au.cond p.av) p.bj)) _ _ _ _;refine dJ (fun aj vs ls _=>∃k:Nat,vs=[.int .i64 (k:Nat)]∧ls=[]∧k<=p.bj.length∧aj=p.bj.length-k∧ab.fo (au.cond p.av) p.bj=ab.fo (au.cond p.av) (p.bj.drop k)) p.bj.length ⟨0,by simp[U],rfl,dr _,rfl,rfl⟩ ?_;rintro aj vs fG jQ ki ⟨k,rfl,rfl,aA,rfl,lr⟩;have mq:=aD iY ki;refine⟨(k:Int),rfl,rfl,fun _=>aK (fun d3=>?_) fun d3=>aP fun _ _ _=>⟨_,rfl,?_⟩⟩
  ·simp only[U,cX] at d3;have e8:k<p.bj.length:=by omega
   have fb:p.bj[k]? =some p.bj[k]:=dn e8;rw[h4 e8,ab.fo] at lr;generalize p.bj[k]=x at fb lr;refine a6 ?_ (a6 ?_ (cI ⟨x.dY,x.to,x.gN,⟨x.cond.toArray⟩,fun cV bU=>?_,?_⟩))
   ·simp only[E.b,aR,aX.push];exact b_.dL hp.fs (by omega)
   ·simp only[U];exact c_ (by omega)
   ·have:=gh (P:=prog) rK (by decide) hp.fs xt xu fb (aD mq bU);simp only[U,ff] at this ⊢;exact this
   simp only[aU];refine bY fun m2 lX _ kX=>bS fun lY kj=>?_
   have vj:=aD mq (aD kX kj);simp only[aU];refine aK (fun d4=>?_) fun d4=>?_
   ·have d4:(x.cond==[])=true:=d4;have bk:au.cond p.av x=0:=by rw[au.cond,if_pos d4]
    rw[if_pos bk] at lr;refine eC fun kk _ kl _ _=>b1 ⟨p.bj.length-(k+1),by omega,k+1,?_,rfl,by omega,rfl,lr⟩
    simp only[U];rw[cE (by omega) (by omega)];rfl
   ·have d4:(x.cond==[])=false:=d4;have bk:au.cond p.av x=bF.fp x.cond (au.fQ p.av x.dY) 2:=by rw[au.cond,if_neg (by rw[d4];exact fun h=>nomatch h)]
    rw[bk] at lr;refine cj fun kk kl=>iV (fun _ _=>IZ p x.dY kk (hp.ext (aD vj kl))) fun u w' _ ⟨hO,cZ,hu,sH⟩=>⟨(au.fQ p.av x.dY).length,cZ,hO,hu,fun sF EY p_ n15=>?_⟩
    have sH:=eD.h3 sH EY n15;have EZ:=aD vj (aD kl p_);simp only[aU];refine lF ⟨bF.fp x.cond (au.fQ p.av x.dY) 2,fun dE hd _ _=>xA x.cond (au.fQ p.av x.dY) 2 hO cZ dE (au.Rp B5 _) (sH.ext hd) (b7.ext (aD EZ hd)) (cC.ext (aD EZ hd)),?_⟩;simp only[aU];refine cj fun vg xD=>aK (fun d5=>aP fun _ _ _=>⟨_,rfl,?_⟩) fun d5=>eC fun I_ _ ER _ _=>b1 ⟨p.bj.length-(k+1),by omega,k+1,?_,rfl,by omega,rfl,?_⟩
    ·have d5:(!(bF.fp x.cond (au.fQ p.av x.dY) 2==0))=true:=d5;have d5:¬bF.fp x.cond (au.fQ p.av x.dY) 2=0:=by simpa using d5
     rw[if_neg d5] at lr;rw[lr];rfl
    ·simp only[U];rw[cE (by omega) (by omega)];rfl
    ·have d5:(!(bF.fp x.cond (au.fQ p.av x.dY) 2==0))=false:=d5;have d5:bF.fp x.cond (au.fQ p.av x.dY) 2=0:=by simpa using d5
     rw[if_pos d5] at lr;exact lr
  ·simp only[U,c7] at d3;rw[lr,fV (by omega)];rfl
abbrev Rw:af:=(.agg [ag 0,aL 2,aq 3,aq 4,aL 5,ag 1,ag 2,ag 3,ba 0,ai 1 2 3,ai 2 4 5])
abbrev B6:b4:=⟨0,71,[ai 0 0 1,ag 0,ai 1 2 3,ai 2 4 5,ai 3 6 7,ai 4 8 9,ai 5 10 11]⟩
abbrev Rx:Tree:=
(.new (.ret (.bool (cL (aZ (ae 1) (ae 4)) (aZ (ae 0) (ah 2)))) [] [] []))
theorem aj8:cN prog cW f65 [(.agg [ag 0,aL 0,aq 1,aq 2,aL 3,ag 1,ag 2,ag 3,ba 0,ai 0 0 1,ai 1 2 3]),.ptr 0 0] [] [⟨0,3,[aq 4]⟩] ⟨5,4,1,4,0,2,1,0⟩=some Rx:=by kernel_rfl
theorem aj9 (i0 i1 i2 i3 i4:Int) (ar aQ bz bJ:Nat) (cm:Bool) (t0 t1 t2 t3:ByteArray) (a0 bn:Option Addr) (m0:Nat) (W:al) (R:Ending->World->Prop) (fi:W.w.heap[m0]? =some (.cells #[.int .i64 i4] 3)) (fP:W.aV m0) (h:Rx.ak prog W.w.heap.size R [] {aV:=[i0,i1,i2,i3,i4],N:=[ar,aQ,bz,bJ],B:=[cm],T:=[t0,t1,t2,t3],A:=[a0,bn],M:=[m0]} W):bK prog 65 #[.agg #[.string t0,.int .u8 i0,.int .i64 i1,.int .i64 i2,.int .u8 i3,.string t1,.string t2,.string t3,.bool cm,.slice a0 ar aQ,.slice bn bz bJ],.pointer (some ⟨m0,0,none⟩)] W R:=
 kf func65 _ _ [⟨0,3,[aq 4]⟩] {aV:=[i0,i1,i2,i3,i4],N:=[ar,aQ,bz,bJ],B:=[cm],T:=[t0,t1,t2,t3],A:=[a0,bn],M:=[m0]} _ aj8 (fun v aB=>by cases aB) (fun b I=>by simp only[dh,eT,or_false] at I;rcases I with rfl<;>(first|exact fi)) (fun b I=>by simp only[dh,eT,or_false] at I;rcases I with rfl<;>(first|exact fP)) h
abbrev aj_:Tree:=(.aC (cG 1) (.ret (aq 1) [] [] []) (.again 0 [(.int .i64 (.un (.wrap .i64) (bX (ae 1) (ah 1))))] []))
abbrev aka:Tree:=(.call 65 [Rw,.ptr 0 0] [⟨0,3,[aq 0]⟩] [] [] (ba 1) dv aj_)
abbrev akb:Tree:=(.a1 (.sm 0) (.a1 (bQ (ah 0) (ae 1)) (.cl 25 (.b6 0 (ae 1) 11 0) Rw gL aka)))
abbrev Ry:Tree:=
(.loop [bI 0] [] [aq 1] [] cg (.aC (bO (ae 1) (aG 0)) akb (.ret (bI (-1)) [] [] [])))
theorem akc:cN prog {cW with ei:=[⟨2,[.az 8]⟩]} f117 [ai 0 0 1,(.fn 65 [.ptr 0 0])] [] [⟨0,3,[aq 0]⟩] Bn=some Ry:=by kernel_rfl
theorem akd (i0:Int) (ar aQ:Nat) (a0:Option Addr) (m0:Nat) (W:al) (R:Ending->World->Prop) (fi:W.w.heap[m0]? =some (.cells #[.int .i64 i0] 3)) (fP:W.aV m0) (h:Ry.ak prog W.w.heap.size R [] {aV:=[i0],N:=[ar,aQ],A:=[a0],M:=[m0]} W):bK prog 117 #[.slice a0 ar aQ,.func (.func 65) #[] #[.pointer (some ⟨m0,0,none⟩)]] W R:=
 kf func117 _ _ [⟨0,3,[aq 0]⟩] {aV:=[i0],N:=[ar,aQ],A:=[a0],M:=[m0]} _ akc (fun v aB=>by cases aB) (fun b I=>by simp only[dh,eT,or_false] at I;rcases I with rfl<;>(first|exact fi)) (fun b I=>by simp only[dh,eT,or_false] at I;rcases I with rfl<;>(first|exact fP)) h
abbrev Rz:Tree:=
(.call 117 [ai 0 0 1,(.fn 65 [.ptr 0 0])] [⟨0,3,[aq 0]⟩] [] [] (aq 1) cg (.ret (.bool (bQ (ah 0) (ae 1))) [] [] []))
theorem ake:cN prog cW f60 [ai 0 0 1,(.fn 65 [.ptr 0 0])] [] [⟨0,3,[aq 0]⟩] Bn=some Rz:=by kernel_rfl
theorem akf (i0:Int) (ar aQ:Nat) (a0:Option Addr) (m0:Nat) (W:al) (R:Ending->World->Prop) (fi:W.w.heap[m0]? =some (.cells #[.int .i64 i0] 3)) (fP:W.aV m0) (h:Rz.ak prog W.w.heap.size R [] {aV:=[i0],N:=[ar,aQ],A:=[a0],M:=[m0]} W):bK prog 60 #[.slice a0 ar aQ,.func (.func 65) #[] #[.pointer (some ⟨m0,0,none⟩)]] W R:=
 kf func60 _ _ [⟨0,3,[aq 0]⟩] {aV:=[i0],N:=[ar,aQ],A:=[a0],M:=[m0]} _ ake (fun v aB=>by cases aB) (fun b I=>by simp only[dh,eT,or_false] at I;rcases I with rfl<;>(first|exact fi)) (fun b I=>by simp only[dh,eT,or_false] at I;rcases I with rfl<;>(first|exact fP)) h
abbrev B7:Tree:=(.eM [⟨2,25,[ag 1,aL 1,aq 2,aq 3,aL 4,ag 2,ag 3,ag 4,ba 0,ai 6 12 13,ai 7 14 15]⟩,⟨1,3,[aq 0]⟩] (.again 0 [(.int .i64 (.un (.wrap .i64) (bX (ae 0) (ah 1))))] []))
abbrev xI:Tree:=(.ret (cY false) [B6] [] [])
abbrev akg:Tree:=(.call 60 [ai 2 4 5,(.fn 65 [.ptr 1 0])] [⟨1,3,[aq 0]⟩] [] [] (ba 2) dv (.aC (cG 2) xI B7))
abbrev akh:Tree:=(.cl 5 (.b6 8 (ah 0) 11 4) (aL 5) cg (.aC (bR (aZ (ae 5) (ah 0))) xI B7))
abbrev aki:Tree:=(.a1 (bW (bR (aZ (aG 16) (ah 1))) (.sm 8)) (.a1 (bW (bR (aZ (aG 16) (ah 1))) (bQ (ah 0) (ah 0))) (.a1 (bW (bR (aZ (aG 16) (ah 1))) (bO (ah 0) (aG 16))) (.aC (aZ (aG 16) (ah 1)) akh xI))))
abbrev akj:Tree:=(.cl 4 (.b6 8 (ah 0) 11 8) (ba 2) dv (.aC (bR (cG 2)) xI B7))
abbrev akk:Tree:=(.cl 5 (.b6 8 (ah 0) 11 4) (aL 6) cg (.aC (aZ (ae 6) (ah 4)) akj B7))
abbrev akl:Tree:=(.cl 5 (.b6 8 (ah 0) 11 4) (aL 5) cg (.aC (bR (aZ (ae 5) (ah 0))) akk xI))
abbrev akm:Tree:=(.a1 (bW (bR (aZ (aG 16) (ah 1))) (.sm 8)) (.a1 (bW (bR (aZ (aG 16) (ah 1))) (bQ (ah 0) (ah 0))) (.a1 (bW (bR (aZ (aG 16) (ah 1))) (bO (ah 0) (aG 16))) (.aC (aZ (aG 16) (ah 1)) akl xI))))
abbrev akn:Tree:=(.aC (aZ (ae 1) (ah 12)) (.aC (bR (bO (ah 0) (aG 16))) akg xI) (.aC (aZ (ae 1) (ah 11)) aki akm))
abbrev ako:Tree:=(.call 64 [.ptr 0 0,aq 0] [B6] [] [] (ai 8 16 17) ga akn)
abbrev akp:Tree:=(.new (.new (.wr (.wr (.call 17 [aL 1] [] [] [] (ba 1) dv (.aC (bR (cG 1)) B7 ako))))))
abbrev akq:Tree:=(.a1 (.sm 2) (.a1 (bQ (ah 0) (ae 0)) (.cl 25 (.b6 2 (ae 0) 11 0) (.agg [ag 1,aL 1,aq 2,aq 3,aL 4,ag 2,ag 3,ag 4,ba 0,ai 6 12 13,ai 7 14 15]) gL akp)))
abbrev akr:Tree:=(.ret (cY true) [B6] [] [])
abbrev Jn:Tree:=
(.loop [bI 0] [] [aq 0] [] cg (.aC (bO (ae 0) (aG 4)) akq akr))
theorem aks:IF prog {cW with ei:=[⟨13,[.az 55]⟩]} f30 12 [.ptr 0 0] [B6] y1=some Jn:=by kernel_rfl
theorem akt (ar aQ bz bJ cH cM e0 e1 gG hD hU hG:Nat) (t0:ByteArray) (a0 bn a2 a3 a4 a5:Option Addr) (m0:Nat) (W0 W:al) (R:Ending->World->Prop) (a:Act) {kG:Code} (I:f30.body=some kG) (bl:a.eval (.tmp 0)= .pointer (some ⟨m0,0,none⟩)) (cB:a.tmps.size=f30.ntmps) (a_:a.defers=[]) (hm:W.w.heap[m0]? =some (.cells #[.slice a0 ar aQ,.string t0,.slice bn bz bJ,.slice a2 cH cM,.slice a3 e0 e1,.slice a4 gG hD,.slice a5 hU hG] 71)) (bf:¬W.aV m0) (bD:∀b,W.aV b->W0.aV b∨W0.w.heap.size<=b) (j:Ext W0 W) (h:Jn.ak prog W0.w.heap.size R [] {N:=[ar,aQ,bz,bJ,cH,cM,e0,e1,gG,hD,hU,hG],T:=[t0],A:=[a0,bn,a2,a3,a4,a5],M:=[m0]} W):p6 prog 12 kG (bodyPost prog f30 fun e w'=>cO W0 w'∧R e w') a W.w:=
 adD I _ 12 _ [B6] {N:=[ar,aQ,bz,bJ,cH,cM,e0,e1,gG,hD,hU,hG],T:=[t0],A:=[a0,bn,a2,a3,a4,a5],M:=[m0]} _ aks (fun v aB=>by cases aB) (by decide) (fun i x h=>by cases i with|zero=>(obtain rfl:=bm h;exact bl)|succ i=>simp at h) cB a_ (fun b I=>by simp only[bd] at I;subst I;exact hm) (fun b I=>by simp only[bd] at I;subst I;exact bf) (jE _ _) bD j h
def pB (i:Int) (n:ab.dM):Bool:=n.bp==i&&n.ay==2
theorem aku (v:d_) (i:Int) (m:Nat) (W:al) (hm:W.w.heap[m]? =some (.cells #[.int .i64 i] 3)):da prog 65 #[.agg (dN v).toArray,.pointer (some ⟨m,0,none⟩)] W (.bool (pB i v.n)):=by
 refine aj9 v.n.ay v.n.bp v.n.on v.n.ev i v.n.vars.length v.bA v.n.bL.length v.ck v.n.cb ⟨v.n.aT.toArray⟩ ⟨v.n.key.toArray⟩ ⟨v.n.ca.toArray⟩ ⟨v.n.set.toArray⟩ v.bx v.ch m W.all _ hm (fq.1 hm).1 ?_;exact bY fun m W1 _ bM=>aP fun _ _ _=>⟨_,rfl,rfl⟩
theorem akv (k:Int) (l:List d_) (a:Option Addr) (c:Nat) (m:Nat) (W:al) (aO:l.length<=1000000) (ct:b_ W a l.length c 11 (l.flatMap dN)) (hm:W.w.heap[m]? =some (.cells #[.int .i64 k] 3)) (bf:W.aV m):
  gR prog 117 #[.slice a l.length c,.func (.func 65) #[] #[.pointer (some ⟨m,0,none⟩)]] W.all fun v w'=>∃r:Int,v= .int .i64 r∧er 0 r=l.any fun y=>pB k y.n:=by
 refine akd k l.length c a m W.all _ hm (W.lt m bf) ?_;refine dJ (fun aj vs ls _=>∃i:Nat,vs=[.int .i64 (i:Nat)]∧ls=[]∧i<=l.length∧aj=l.length-i∧(l.any fun y=>pB k y.n)=((l.drop i).any fun y=>pB k y.n)) l.length ⟨0,by simp[U],rfl,dr _,rfl,rfl⟩ ?_;rintro aj vs fG cn bH ⟨i,rfl,rfl,a8,rfl,bl⟩;have gM:=aD W.dw bH;refine⟨(i:Int),rfl,rfl,fun _=>aK (fun aJ=>?_) fun aJ=>aP fun _ _ _=>⟨_,rfl,-1,rfl,?_⟩⟩
 ·simp only[U,cX] at aJ;have cp:i<l.length:=by omega
  have j:l[i]? =some l[i]:=dn cp;rw[h4 cp] at bl;generalize l[i]=v at j bl;refine a6 ?_ (a6 ?_ (cI ⟨v.n.ay,v.n.bp,v.n.on,v.n.ev,v.n.vars.length,v.bA,v.n.bL.length,v.ck,v.n.cb,⟨v.n.aT.toArray⟩,⟨v.n.key.toArray⟩,⟨v.n.ca.toArray⟩,⟨v.n.set.toArray⟩,v.bx,v.ch,fun cq bo=>?_,?_⟩))
  ·simp only[E.b,aR,aX.push];exact b_.dL ct (by omega)
  ·simp only[U];exact c_ (by omega)
  ·have:=gh (P:=prog) eO (by decide) ct iw ix j (aD gM bo);simp only[U,ff] at this ⊢;exact this
  ·simp only[aU];refine b5 (v:=.bool (pB k v.n)) (fun I _=>aku v k m cn (I _ (bd.2 rfl))) ⟨pB k v.n,rfl,fun cq bo=>?_⟩;simp only[aU];refine aK (fun c2=>aP fun _ _ _=>⟨_,rfl,(i:Int),rfl,?_⟩) fun c2=>b1 ⟨l.length-(i+1),by omega,i+1,?_,rfl,by omega,rfl,?_⟩
   ·have c2:pB k v.n=true:=c2;rw[bl,r0,c2];exact c_ (by omega)
   ·simp only[U];rw[cE (by omega) (by omega)];rfl
   ·have c2:pB k v.n=false:=c2;rw[bl,r0,c2,kr]
 ·simp only[U,c7] at aJ;rw[bl,fV (by omega)];rfl
theorem akw (k:Int) (l:List d_) (a:Option Addr) (c:Nat) (m:Nat) (W:al) (aO:l.length<=1000000) (ct:hN W.w a l.length c 11 (l.flatMap dN)) (hm:W.w.heap[m]? =some (.cells #[.int .i64 k] 3)):
  da prog 60 #[.slice a l.length c,.func (.func 65) #[] #[.pointer (some ⟨m,0,none⟩)]] W (.bool (l.any fun y=>pB k y.n)):=by
 have BS:m<W.w.heap.size:=(fq.1 hm).1;refine akf k l.length c a m W.all _ hm BS ?_;refine iV (fun _ _=>akv k l a c m W.all aO ct.all hm BS) fun v w' _ ⟨r,aB,aw⟩=>⟨r,aB,fun cn _ _ _=>aP fun _ _ _=>⟨_,rfl,?_⟩⟩
 show Value.bool (er 0 r)=_;rw[aw]
theorem zv (p:cP) (s:Int):au.lp p.av s=(p.ao.filter fun v=>au.sD s v.n).map (·.n):=by
 unfold au.lp cP.av;simp only[List.filter_map];rfl
theorem RA (f:ab.dM->Bool) (l:List d_):au.B4 f (l.map (·.n))=match l with
  |[x]=>f x.n
  |_=>false:=by
 match l with
 |[]=>rfl
 |[_]=>rfl
 |_::_::_=>rfl
theorem RB {α:Type} {l:List α} (h:l.length=1):∃x,l=[x]:=List.length_eq_one_iff.1 h
theorem akx (D cr to:oQ) (p:cP) (m aky:Nat) (W:al) (hp:fw p W) (bf:¬W.aV m):
  Jn.ak prog aky (fun e w'=>e= .returned (.bool (au.gY (au.oT p.av) 0 p.av.ao))∧w'.heap[m]? =some (.cells (pw D p cr to).toArray nq)) []
   {N:=[D.n,D.c,p.vars.length,p.bA,p.ao.length,p.eF,p.bj.length,p.ef,cr.n,cr.c,to.n,to.c],T:=[⟨p.aT.toArray⟩],A:=[D.a,p.bx,p.eL,p.ea,cr.a,to.a],M:=[m]} W:=by
 have h5:=hp.h6;generalize ee:au.gY (au.oT p.av) 0 p.av.ao=A;refine dJ (fun aj vs ls _=>∃i:Nat,vs=[.int .i64 (i:Nat)]∧ls=[]∧i<=p.ao.length∧aj=p.ao.length-i∧A=au.gY (au.oT p.av) i (p.av.ao.drop i)) p.ao.length ⟨0,by simp[U],rfl,dr _,rfl,ee.symm⟩ ?_;rintro aj vs fG cn bH ⟨i,rfl,rfl,a8,rfl,bl⟩;refine⟨(i:Int),rfl,rfl,fun _=>aK (fun aJ=>?_) fun aJ=>aP fun J _ _=>⟨?_,J _ (bd.2 rfl)⟩⟩
 ·simp only[U,cX] at aJ;have cp:i<p.ao.length:=by omega
  have fb:p.ao[i]? =some p.ao[i]:=dn cp;have l_:i<p.av.ao.length:=by rw[kM];exact cp
  rw[EL l_,EM fb l_] at bl;generalize p.ao[i]=v at fb bl;have gZ:au.oT p.av i v.n=false->A=false:=fun h=>by rw[bl,h,jX]
  have gb:au.oT p.av i v.n=true->A=au.gY (au.oT p.av) (i+1) (p.av.ao.drop (i+1)):=fun h=>by rw[bl,h,eX]
  refine a6 ?_ (a6 ?_ (cI ⟨v.n.ay,v.n.bp,v.n.on,v.n.ev,v.n.vars.length,v.bA,v.n.bL.length,v.ck,v.n.cb,⟨v.n.aT.toArray⟩,⟨v.n.key.toArray⟩,⟨v.n.ca.toArray⟩,⟨v.n.set.toArray⟩,v.bx,v.ch,fun cq bo=>?_,?_⟩))
  ·simp only[E.b,aR,aX.push];exact b_.dL hp.ns (by omega)
  ·simp only[U];exact c_ (by omega)
  ·have:=gh (P:=prog) eO (by decide) hp.ns iw ix fb (aD bH bo);simp only[U,ff] at this ⊢;exact this
  simp only[aU];refine bY fun m1 cq _ bo=>bY fun m2 dH _ cd=>bS fun dI cA=>bS fun cV bU=>?_
  have jk:=aD bH (aD (aD bo cd) (aD cA bU));simp only[aU];refine b5 (v:=.bool (ab.scope v.n.ay)) (fun _ _=>ED v.n.ay cV) ⟨ab.scope v.n.ay,rfl,fun dQ df=>?_⟩;have l1:=aD jk df;simp only[aU];have again:∀{ρ:aX} {t:List b4} {L:ha} {dE:al},True:=trivial;refine aK (fun c2=>?_) fun c2=>?_
  ·have c2:(!ab.scope v.n.ay)=true:=c2;refine eC fun dX _ dK _ _=>b1 ⟨p.ao.length-(i+1),by omega,i+1,?_,rfl,by omega,rfl,gb (by rw[au.oT,c2,qh])⟩
   simp only[U];rw[cE (by omega) (by omega)];rfl
  have c2:(!ab.scope v.n.ay)=false:=c2
  have eA:au.oT p.av i v.n=if v.n.ay==12 then(au.lp p.av i).length==0&&!(p.av.ao.any fun m=>m.bp==(i:Int)&&m.ay==2)
    else if v.n.ay==11 then au.B4 (fun x=>x.ev==0) (au.lp p.av i)
    else au.B4 (fun x=>!(x.ev==0)&&!(x.ev==4&&!x.cb)) (au.lp p.av i):=by rw[au.oT,c2,kr]
  rw[zv,RA,RA,mW] at eA;refine iV (fun I _=>Q6 D cr to p (i:Int) m (pA dQ m) (hp.ext (qV l1 bf)) (xH _ _) (I _ (bd.2 rfl))) fun u w' _ ⟨hO,cZ,hu,c1⟩=>⟨(p.ao.filter fun v:d_=>au.sD (i:Int) v.n).length,cZ,hO,hu,fun dX sl dK gG=>?_⟩
  have c1:=eD.h3 c1 sl gG;have jB:=aD l1 dK;generalize (p.ao.filter fun v:d_=>au.sD (i:Int) v.n)=l at eA c1 ⊢;simp only[aU];refine aK (fun c3=>?_) fun c3=>?_
  ·have c3:(v.n.ay==12)=true:=c3;rw[c3,if_pos rfl] at eA;refine aK (fun c4=>?_) fun c4=>aP fun J _ _=>⟨?_,J _ (bd.2 rfl)⟩
   ·have c4:l.length=0:=by
     simp only[U,hq,c7] at c4;omega
    have fe:p.av.ao.any (fun m=>m.bp==(i:Int)&&m.ay==2)=p.ao.any fun y=>pB (i:Int) y.n:=by
     unfold cP.av;simp only[List.any_map,Function.comp_def];rfl
    rw[c4,fe,show((0:Nat)==0)=true from rfl,eX] at eA;refine b5 (v:=.bool (p.ao.any fun y=>pB (i:Int) y.n)) (fun I _=>akw (i:Int) p.ao p.eL p.eF m1 dX h5 (eD.w (hp.ns.ext jB)) (I _ (bd.2 rfl))) ⟨p.ao.any fun y=>pB (i:Int) y.n,rfl,fun fm eY=>?_⟩;simp only[aU];refine aK (fun c5=>aP fun J _ _=>⟨?_,J _ (bd.2 rfl)⟩) fun c5=>?_
    ·have c5:(p.ao.any fun y=>pB (i:Int) y.n)=true:=c5;rw[gZ (by rw[eA,c5];rfl)];rfl
    ·have c5:(p.ao.any fun y=>pB (i:Int) y.n)=false:=c5;refine eC fun dX _ dK _ _=>b1 ⟨p.ao.length-(i+1),by omega,i+1,?_,rfl,by omega,rfl,gb (by rw[eA,c5];rfl)⟩
     simp only[U];rw[cE (by omega) (by omega)];rfl
   ·have c4:0<l.length:=by
     simp only[U,kt,cX] at c4;omega
    rw[gZ (by rw[eA,show(l.length==0)=false from beq_eq_false_iff_ne.2 (by omega),jX])];rfl
  have c3:(v.n.ay==12)=false:=c3;rw[c3,if_neg (fun h=>nomatch h)] at eA
  have b0:(!(((l.length:Nat):Int)==1)||hO.isSome)=true:=by
   by_cases h:l.length=1
   ·rw[b_.dL c1 (by omega),gf]
   ·rw[show((((l.length:Nat):Int)==1))=false by simp;omega];rfl
  have bZ:(!(((l.length:Nat):Int)==1)||eg 0 ((l.length:Nat):Int))=true:=by
   by_cases h:l.length=1
   ·rw[dW (by omega),gf]
   ·rw[show((((l.length:Nat):Int)==1))=false by simp;omega];rfl
  refine aK (fun c4=>?_) fun c4=>?_
  ·have c4:(v.n.ay==11)=true:=c4;rw[c4,if_pos rfl] at eA;refine a6 b0 (a6 (by simp only[U];rw[c_ (qf 0),gf]) (a6 bZ (aK (fun c5=>?_) fun c5=>aP fun J _ _=>⟨?_,J _ (bd.2 rfl)⟩)))
   ·have c5:l.length=1:=by
     simp only[U,beq_iff_eq] at c5;omega
    obtain⟨x,rfl⟩:=RB c5;have tM:([x]:List d_)[0]? =some x:=rfl;refine cI ⟨x.n.ev,fun fm eY=>?_,?_⟩
    ·have:=ed (P:=prog) eO c1 rN (k:=4) tM (by decide) (u:=.int .u8 x.n.ev) rfl eY;simp only[U] at this ⊢;exact this
    simp only[aU];refine aK (fun bw=>aP fun J _ _=>⟨?_,J _ (bd.2 rfl)⟩) fun bw=>?_
    ·have bw:(!(x.n.ev==0))=true:=bw;rw[gZ (by rw[eA];simpa using bw)];rfl
    ·have bw:(!(x.n.ev==0))=false:=bw;refine eC fun dX _ dK _ _=>b1 ⟨p.ao.length-(i+1),by omega,i+1,?_,rfl,by omega,rfl,gb (by rw[eA];simpa using bw)⟩
     simp only[U];rw[cE (by omega) (by omega)];rfl
   ·have c5:l.length≠1:=by
     simp only[U,beq_eq_false_iff_ne,ne_eq] at c5;omega
    have:au.oT p.av i v.n=false:=by
     rw[eA];split
     ·exact absurd rfl c5
     ·rfl
    rw[gZ this];rfl
  ·have c4:(v.n.ay==11)=false:=c4;rw[c4,if_neg (fun h=>nomatch h)] at eA;refine a6 b0 (a6 (by simp only[U];rw[c_ (qf 0),gf]) (a6 bZ (aK (fun c5=>?_) fun c5=>aP fun J _ _=>⟨?_,J _ (bd.2 rfl)⟩)))
   ·have c5:l.length=1:=by
     simp only[U,beq_iff_eq] at c5;omega
    obtain⟨x,rfl⟩:=RB c5;have tM:([x]:List d_)[0]? =some x:=rfl;have tR:=fun(fm:al) (eY:Ext dX fm)=>ed (P:=prog) eO c1 rN (k:=4) tM (by decide) (u:=.int .u8 x.n.ev) rfl eY
    have eA:au.oT p.av i v.n=(!(x.n.ev==0)&&!(x.n.ev==4&&!x.n.cb)):=eA;refine cI ⟨x.n.ev,fun fm eY=>?_,?_⟩
    ·have:=tR fm eY;simp only[U] at this ⊢;exact this
    simp only[aU];refine aK (fun bw=>?_) fun bw=>aP fun J _ _=>⟨?_,J _ (bd.2 rfl)⟩
    ·have bw:(!(x.n.ev==0))=true:=bw;rw[bw,eX] at eA;refine cI ⟨x.n.ev,fun fm eY=>?_,?_⟩
     ·have:=tR fm eY;simp only[U] at this ⊢;exact this
     simp only[aU];refine aK (fun cv=>?_) fun cv=>?_
     ·have cv:(x.n.ev==4)=true:=cv;rw[cv,eX] at eA;refine cI ⟨x.n.cb,fun fm eY=>?_,?_⟩
      ·have:=ed (P:=prog) eO c1 (by kernel_rfl:hr prog 4=some false) (k:=8) tM (by decide) (u:=.bool x.n.cb) rfl eY;simp only[U] at this ⊢;exact this
      simp only[aU];refine aK (fun cZ=>aP fun J _ _=>⟨?_,J _ (bd.2 rfl)⟩) fun cZ=>?_
      ·have cZ:(!x.n.cb)=true:=cZ;rw[gZ (by rw[eA,cZ];rfl)];rfl
      ·have cZ:(!x.n.cb)=false:=cZ;refine eC fun dX _ dK _ _=>b1 ⟨p.ao.length-(i+1),by omega,i+1,?_,rfl,by omega,rfl,gb (by rw[eA,cZ];rfl)⟩
       simp only[U];rw[cE (by omega) (by omega)];rfl
     ·have cv:(x.n.ev==4)=false:=cv;refine eC fun dX _ dK _ _=>b1 ⟨p.ao.length-(i+1),by omega,i+1,?_,rfl,by omega,rfl,gb (by rw[eA,cv];rfl)⟩
      simp only[U];rw[cE (by omega) (by omega)];rfl
    ·have bw:(!(x.n.ev==0))=false:=bw;rw[gZ (by rw[eA,bw];rfl)];rfl
   ·have c5:l.length≠1:=by
     simp only[U,beq_eq_false_iff_ne,ne_eq] at c5;omega
    have:au.oT p.av i v.n=false:=by
     rw[eA];split
     ·exact absurd rfl c5
     ·rfl
    rw[gZ this];rfl
 ·simp only[U,c7] at aJ;rw[bl,fV (by rw[kM];omega)];rfl
end Go.Proofs.YtkpjmlnhhggenaaGreatDoor
end
