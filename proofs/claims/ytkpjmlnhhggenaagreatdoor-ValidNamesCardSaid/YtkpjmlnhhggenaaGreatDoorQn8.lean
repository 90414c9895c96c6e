/- The statement ValidNames of callboardlaw16: for every input the law returns true, and each argument reads afterwards as it read before. No condition. Ahead of it: RnFlows RnCheck VcVn2 VqSe VqLine SfG VqAbs VqFlow VqStep VcVn3 VqNames VqJoin. -/
import Derived.Test.YtkpjmlnhhggenaaGreatDoorQn7
import Derived.Test.YtkpjmlnhhggenaaGreatDoorProg
import Derived.Test.YtkpjmlnhhggenaaGreatDoorQn2
import Derived.Test.YtkpjmlnhhggenaaGreatDoorQn3
import Derived.Test.YtkpjmlnhhggenaaGreatDoorQn6
import Derived.Test.YtkpjmlnhhggenaaGreatDoorRows
import Derived.WalkKit
import Derived.ProofKit
import Derived.OpenShut
import Derived.ShutString
import Derived.ChangeOld
import Derived.Below
import Derived.SizedLaws
import Derived.Lib.SmallJoins
import Derived.Test.YtkpjmlnhhggenaaGreatDoorCards
import Derived.Test.YtkpjmlnhhggenaaGreatDoorTie
import Derived.Deep.DeepHandedRow
import Derived.Deep.DeepWitnessRowRef
import Derived.LaidMore
import Derived.Lay
import Derived.MakeChecks
set_option linter.unusedSimpArgs false
set_option linter.unusedVariables false
set_option maxRecDepth 100000
section
namespace bq
open Go ab
def T9 (p:dR) (i:Nat) (n:dM):Option Nat->Bool
 |none=>false
 |some e=>!(decide (1<e)||(n.ay==10&&decide (nx p i<2)))&&(!(n.ay==5&&n.ev==6)||(p.ao.countP fun c=>((c.ay==6&&c.ev==6)&&c.bp==n.bp)&&c.key==n.key)==1)
theorem T_ (p:dR) (i:Nat) (n:dM) {oa:Bool} (h:((n.ay==7||n.ay==9)&&decide (1<nx p i))=oa):tY p i n=T9 p i n (tX p i n.ay oa 0 p.bj):=by rw[<-h];rfl
end bq
namespace Go.Proofs.YtkpjmlnhhggenaaGreatDoor
open Go.Proofs.Tryz Go Go.RowKit Go.cK
theorem avN {p:cP} (h:bq.ho p.av=true) {i:Nat} {v:d_} (j:p.ao[i]? =some v):v.n.bp<p.ao.length:=by
 have cp:i<p.ao.length:=(nU.1 j).1;unfold bq.ho at h;rw[bT] at h;have J:=au.Jh h.1 i v.n (by show(p.ao.map _)[i]? =_;rw[mD,j];rfl);rw[mY] at J;unfold bq.sL at J;simp at J;omega
theorem avO {p:cP} (h:bq.ho p.av=true) {i:Nat} {f:ab.hQ} (j:p.bj[i]? =some f):0<=f.to∧f.to<p.ao.length:=by
 unfold bq.ho at h;rw[bT,bT] at h;have J:=ep.1 h.2.2 f (k2 j);unfold bq.n7 bq.is at J;rw[kM] at J;simp at J;omega
set_option maxHeartbeats 1000000 in
theorem avP (p:cP) (W:al) (hp:fw p W) (l_:bq.ho p.av=true):da prog 39 #[.agg (gA p).toArray] W (.bool (bq.bj p.av)):=by
 have hp:=hp.ext W.dw;have h5:=hp.h6;have sA:=hp.mU;have lI:p.av.ao.length=p.ao.length:=kM p;have qZ:∀i:Nat,p.av.ao.drop i=(p.ao.drop i).map (·.n):=fun i=>by show(p.ao.map _).drop i=_;rw[List.map_drop]
 refine aus p.vars.length p.bA p.ao.length p.eF p.bj.length p.ef ⟨p.aT.toArray⟩ p.bx p.eL p.ea W.all _ ?_;refine bY fun m W1 _ bM=>?_
 have hp:=hp.ext bM;clear bM;simp only[aU];refine dJ (fun aj vs ls _=>∃i:Nat,vs=[.int .i64 (i:Nat)]∧ls=[]∧i<=p.ao.length∧aj=p.ao.length-i∧bq.bj p.av=(au.gY (bq.vw p.av) i (p.av.ao.drop i)&&au.gY (bq.tY p.av) 0 p.av.ao)) p.ao.length ⟨0,by simp[U],rfl,dr _,rfl,rfl⟩ ?_;rintro aj vs ls cn bH ⟨i,rfl,rfl,a8,rfl,hu⟩;have hp:=hp.ext bH;clear bH;refine⟨(i:Int),rfl,rfl,fun _=>aK (fun aJ=>?_) fun aJ=>?_⟩
 ·simp only[U,cX] at aJ;have cp:i<p.ao.length:=by omega
  have j:p.ao[i]? =some p.ao[i]:=dn cp;have a_:p.ao.drop i=p.ao[i]::p.ao.drop (i+1):=mG cp;generalize p.ao[i]=v at j a_;have ik:=avN l_ j;rw[qZ,a_,jo,<-qZ] at hu;simp only[au.gY] at hu;have gl:bq.vw p.av i v.n=false->Value.bool false= .bool (bq.bj p.av):=fun h=>by rw[hu,h];rfl
  have again:bq.vw p.av i v.n=true->bq.bj p.av=(au.gY (bq.vw p.av) (i+1) (p.av.ao.drop (i+1))&&au.gY (bq.tY p.av) 0 p.av.ao):=fun h=>by rw[hu,h,eX]
  refine a6 ?_ (a6 ?_ (cI ⟨v.n.ay,v.n.bp,v.n.on,v.n.ev,v.n.vars.length,v.bA,v.n.bL.length,v.ck,v.n.cb,⟨v.n.aT.toArray⟩,⟨v.n.key.toArray⟩,⟨v.n.ca.toArray⟩,⟨v.n.set.toArray⟩,v.bx,v.ch,fun cV bU=>?_,?_⟩))
  ·simp only[E.b,aR,aX.push];exact b_.dL hp.ns (by omega)
  ·exact eZ (by simp only[U];omega)
  ·have:=gh (P:=prog) eO (by decide) hp.ns iw ix j bU;simp only[U,ff] at this ⊢;exact this
  simp only[aU];refine bY fun m1 cV _ bo=>bS fun dQ cd=>?_
  have hp:=hp.ext (aD bo cd);clear bo cd;simp only[aU];have val:[Value.int .i64 (IntKind.i64.wrap ((i:Int)+1))]=[.int .i64 ((i+1:Nat):Int)]:=by rw[cE (by omega) (by omega)];rfl
  refine kV (fun vs ls _=>vs=[]∧ls=[]∧(decide (0<=v.n.bp)&&(au.dc p.av v.n.bp.toNat).ay==12)=false) ?_ ?_
  ·refine a6 ?_ (a6 ?_ (aK (fun c2=>?_) fun c2=>b1 ⟨rfl,rfl,?_⟩))
   ·simp only[U];cases er 0 v.n.bp<;>rfl
   ·simp only[U];rw[dW ik,gf]
   ·simp only[U,uj] at c2;have iM:p.ao[v.n.bp.toNat]? =some p.ao[v.n.bp.toNat]:=dn (by omega);generalize p.ao[v.n.bp.toNat]=u at iM;have fW:au.dc p.av v.n.bp.toNat=u.n:=kZ iM;refine cI ⟨u.n.ay,fun dX bU=>?_,?_⟩
    ·have:=ed (P:=prog) eO hp.ns pr (k:=1) iM (by decide) (u:=.int .u8 u.n.ay) rfl bU;simp only[U] at this ⊢;exact this
    simp only[aU];refine aK (fun c3=>eC fun dX _ df _ _=>b1 ⟨p.ao.length-(i+1),by omega,i+1,?_,rfl,by omega,rfl,again ?_⟩) fun c3=>b1 ⟨rfl,rfl,?_⟩
    ·simp only[U];exact val
    ·have c3:(u.n.ay==12)=true:=c3;unfold bq.vw;rw[fW,c3,decide_eq_true c2];rfl
    ·have c3:(u.n.ay==12)=false:=c3;rw[fW,c3,oY]
   ·simp only[U,uk] at c2;rw[decide_eq_false (by omega),jX]
  rintro vs ls dX dK ⟨rfl,rfl,Cc⟩;have hp:=hp.ext dK;clear dK;have bs:bq.vw p.av i v.n= !((!bq.lone v.n&&bq.qc p.av i==0)||(!bq.last v.n&&bq.nx p.av i==0)):=by unfold bq.vw;rw[Cc,kr]
  refine⟨rfl,rfl,fun _=>?_⟩;simp only[aU];refine aK (fun c2=>?_) fun c2=>?_
  ·have c2:(!bq.lone v.n)=true:=c2;refine b5 (fun _ _=>T2 p i dX hp) ⟨bq.qc p.av i,rfl,fun fm eY=>aK (fun c3=>?_) fun c3=>aK (fun c4=>aP fun _ _ _=>⟨_,rfl,gl ?_⟩) fun c4=>eC fun _ _ _ _ _=>b1 ⟨p.ao.length-(i+1),by omega,i+1,?_,rfl,by omega,rfl,again ?_⟩⟩
   ·have c3:(!(bq.qc p.av i==0)&&!bq.last v.n)=true:=c3;have hp:=hp.ext eY;clear eY;simp only[aU];rw[bT] at c3;refine b5 (fun _ _=>FG p i fm hp) ⟨bq.nx p.av i,rfl,fun fU fu=>aK (fun c4=>aP fun _ _ _=>⟨_,rfl,gl ?_⟩) fun c4=>eC fun _ _ _ _ _=>b1 ⟨p.ao.length-(i+1),by omega,i+1,?_,rfl,by omega,rfl,again ?_⟩⟩
    ·have c4:(bq.nx p.av i==0)=true:=c4;rw[bs,c3.2,c4];simp
    ·simp only[U];exact val
    ·have c4:(bq.nx p.av i==0)=false:=c4;rw[bs,c4,(by simpa using c3.1:(bq.qc p.av i==0)=false)];simp
   ·have c4:(bq.qc p.av i==0)=true:=c4;rw[bs,c2,c4];rfl
   ·simp only[U];exact val
   ·have c3:(!(bq.qc p.av i==0)&&!bq.last v.n)=false:=c3;have c4:(bq.qc p.av i==0)=false:=c4;rw[c4] at c3;have c3:(!bq.last v.n)=false:=c3;rw[bs,c4,c3];simp
  ·have c2:(!bq.lone v.n)=false:=c2;refine aK (fun c3=>?_) fun c3=>eC fun _ _ _ _ _=>b1 ⟨p.ao.length-(i+1),by omega,i+1,?_,rfl,by omega,rfl,again ?_⟩
   ·have c3:(!bq.last v.n)=true:=c3;refine b5 (fun _ _=>FG p i dX hp) ⟨bq.nx p.av i,rfl,fun fU fu=>aK (fun c4=>aP fun _ _ _=>⟨_,rfl,gl ?_⟩) fun c4=>eC fun _ _ _ _ _=>b1 ⟨p.ao.length-(i+1),by omega,i+1,?_,rfl,by omega,rfl,again ?_⟩⟩
    ·have c4:(bq.nx p.av i==0)=true:=c4;rw[bs,c3,c4];simp
    ·simp only[U];exact val
    ·have c4:(bq.nx p.av i==0)=false:=c4;rw[bs,c2,c4];simp
   ·simp only[U];exact val
   ·have c3:(!bq.last v.n)=false:=c3;rw[bs,c2,c3];rfl
 simp only[U,c7] at aJ;rw[o1 (by rw[lI];omega)] at hu;have hu:bq.bj p.av=au.gY (bq.tY p.av) 0 p.av.ao:=hu;refine dJ (fun aj vs ls _=>∃i:Nat,vs=[.int .i64 (i:Nat)]∧ls=[]∧i<=p.ao.length∧aj=p.ao.length-i∧bq.bj p.av=au.gY (bq.tY p.av) i (p.av.ao.drop i)) p.ao.length ⟨0,by simp[U],rfl,dr _,rfl,hu⟩ ?_;clear hu;rintro aj vs ls cq bo ⟨i,rfl,rfl,a8,rfl,hu⟩;have hp:=hp.ext bo;clear bo;refine⟨(i:Int),rfl,rfl,fun _=>aK (fun aJ=>?_) fun aJ=>aP fun _ _ _=>⟨_,rfl,?_⟩⟩;rotate_left
 ·simp only[U,c7] at aJ;rw[o1 (by rw[lI];omega)] at hu;rw[hu];rfl
 simp only[U,cX] at aJ;have cp:i<p.ao.length:=by omega
 have j:p.ao[i]? =some p.ao[i]:=dn cp;have a_:p.ao.drop i=p.ao[i]::p.ao.drop (i+1):=mG cp;generalize p.ao[i]=v at j a_;rw[qZ,a_,jo,<-qZ] at hu;simp only[au.gY] at hu;have gl:bq.tY p.av i v.n=false->Value.bool false= .bool (bq.bj p.av):=fun h=>by rw[hu,h];rfl
 have again:bq.tY p.av i v.n=true->bq.bj p.av=au.gY (bq.tY p.av) (i+1) (p.av.ao.drop (i+1)):=fun h=>by rw[hu,h,eX]
 refine a6 ?_ (a6 ?_ (cI ⟨v.n.ay,v.n.bp,v.n.on,v.n.ev,v.n.vars.length,v.bA,v.n.bL.length,v.ck,v.n.cb,⟨v.n.aT.toArray⟩,⟨v.n.key.toArray⟩,⟨v.n.ca.toArray⟩,⟨v.n.set.toArray⟩,v.bx,v.ch,fun cV bU=>?_,?_⟩))
 ·simp only[E.b,aR,aX.push];exact b_.dL hp.ns (by omega)
 ·exact eZ (by simp only[U];omega)
 ·have:=gh (P:=prog) eO (by decide) hp.ns iw ix j bU;simp only[U,ff] at this ⊢;exact this
 simp only[aU];refine bY fun m1 cV _ bo=>bS fun dQ cd=>?_
 have hp:=hp.ext (aD bo cd);clear bo cd;simp only[aU];have val:[Value.int .i64 (IntKind.i64.wrap ((i:Int)+1))]=[.int .i64 ((i+1:Nat):Int)]:=by rw[cE (by omega) (by omega)];rfl
 refine aK (fun c2=>b5 (fun _ _=>FG p i dQ hp) ⟨bq.nx p.av i,rfl,fun dX dK=>?eB⟩) fun c2=>?e2
 case' eB=>
  have c2:(v.n.ay==7||v.n.ay==9)=true:=c2;have bs:=bq.T_ p.av i v.n (by rw[c2,eX]);obtain⟨oa,CC⟩:∃oa,oa=decide (1<bq.nx p.av i):=⟨_,rfl⟩;rw[<-CC,show p.av.bj=p.bj from rfl] at bs;have hp:=hp.ext dK;clear dK c2;simp only[aU]
 case' e2=>
  have c2:(v.n.ay==7||v.n.ay==9)=false:=c2;have bs:=bq.T_ p.av i v.n (by rw[c2,jX]);obtain⟨oa,CC⟩:∃oa,oa=false:=⟨_,rfl⟩;rw[<-CC,show p.av.bj=p.bj from rfl] at bs;clear c2
 all_goals
  refine dJ (fun aj vs ls _=>∃e k:Nat,vs=[.int .i64 (e:Nat),.int .i64 (k:Nat)]∧ls=[]∧k<=p.bj.length∧e<=k∧aj=p.bj.length-k∧bq.tX p.av i v.n.ay oa 0 p.bj=bq.tX p.av i v.n.ay oa e (p.bj.drop k)) p.bj.length ⟨0,0,by simp[U],rfl,dr _,e9 _,rfl,rfl⟩ ?_;rintro aj vs ls fm eY ⟨e,k,rfl,rfl,aA,zt,rfl,bP⟩;have hp:=hp.ext eY;clear eY;refine⟨(e:Int),(k:Int),rfl,rfl,fun _=>aK (fun c3=>?_) fun c3=>?_⟩
  ·simp only[U,cX] at c3;have e8:k<p.bj.length:=by omega
   have Kt:p.bj[k]? =some p.bj[k]:=dn e8;have zX:p.bj.drop k=p.bj[k]::p.bj.drop (k+1):=mG e8;generalize p.bj[k]=f at Kt zX;obtain⟨ayC,ayD⟩:=avO l_ Kt;rw[zX] at bP;simp only[bq.tX] at bP;have val:∀dy:Nat,[Value.int .i64 (dy:Int),.int .i64 (IntKind.i64.wrap ((k:Int)+1))]=[.int .i64 (dy:Int),.int .i64 ((k+1:Nat):Int)]:=fun dy=>by rw[cE (by omega) (by omega)];rfl
   refine a6 ?_ (a6 ?_ (cI ⟨f.dY,f.to,f.gN,⟨f.cond.toArray⟩,fun cV bU=>?_,?_⟩))
   ·simp only[E.b,aR,aX.push];exact b_.dL hp.fs (by omega)
   ·exact eZ (by simp only[U];omega)
   ·have:=gh (P:=prog) rK (by decide) hp.fs xt xu Kt bU;simp only[U,ff] at this ⊢;exact this
   simp only[aU];refine bY fun m2 fU _ bo=>bS fun jQ cd=>?_
   have hp:=hp.ext (aD bo cd);clear bo cd;simp only[aU];have x7:bq.tX p.av i v.n.ay oa 0 p.bj=none->Value.bool false= .bool (bq.bj p.av):=fun h=>gl (by rw[bs,h];rfl)
   refine aK (fun c4=>?_) fun c4=>?_
   ·have c4:(!(f.dY==(i:Int)))=true:=c4;rw[if_pos c4] at bP;refine eC fun _ _ _ _ _=>b1 ⟨p.bj.length-(k+1),by omega,e,k+1,?_,rfl,by omega,by omega,rfl,bP⟩
    simp only[U];exact val e
   have c4:(!(f.dY==(i:Int)))=false:=c4;rw[c4,if_neg (by decide)] at bP;refine kV (fun vs ls _=>vs=[.int .i64 ((if f.gN=true then e+1 else e:Nat))]∧ls=[]) ?_ ?_
   ·refine aK (fun bw=>b1 ⟨?_,rfl⟩) fun bw=>b1 ⟨?_,rfl⟩
    ·have bw:f.gN=true:=bw;simp only[U];rw[cE (by omega) (by omega),if_pos bw];rfl
    ·have bw:f.gN=false:=bw;simp only[U];rw[bw];rfl
   rintro vs ls lX dK ⟨rfl,rfl⟩;have hp:=hp.ext dK;clear dK;obtain⟨dy,Dq⟩:∃n:Nat,n=if f.gN=true then e+1 else e:=⟨_,rfl⟩
   have Ua:dy<=k+1:=by rw[Dq];split<;>omega
   rw[<-Dq] at bP ⊢;clear Dq;refine⟨(dy:Int),rfl,rfl,fun _=>aK (fun bw=>aP fun _ _ _=>⟨_,rfl,x7 ?_⟩) fun bw=>?_⟩
   ·have bw:(((oa&&!f.gN)&&f.cond==[])||(!oa&&(f.gN|| !(f.cond==[]))))=true:=by rw[CC];exact bw
    rw[bP,if_pos bw]
   have bw:(((oa&&!f.gN)&&f.cond==[])||(!oa&&(f.gN|| !(f.cond==[]))))=false:=by rw[CC];exact bw
   rw[bw,if_neg (by decide)] at bP;simp only[aU];refine aK (fun cv=>?_) fun cv=>eC fun _ _ _ _ _=>b1 ⟨p.bj.length-(k+1),by omega,dy,k+1,?_,rfl,by omega,Ua,rfl,?_⟩
   rotate_left
   ·simp only[U];exact val dy
   ·have cv:(v.n.ay==10)=false:=cv;rw[bP,cv,jX,if_neg (by decide)]
   have cv:(v.n.ay==10)=true:=cv;rw[cv,eX] at bP;have iM:p.ao[f.to.toNat]? =some p.ao[f.to.toNat]:=dn (by omega);generalize p.ao[f.to.toNat]=u at iM;have fW:au.dc p.av f.to.toNat=u.n:=kZ iM;rw[fW] at bP;refine a6 (eZ (by simp only[U];omega)) (a6 (by simp only[U];exact dW (by omega)) (cI ⟨u.n.ay,u.n.bp,u.n.on,u.n.ev,u.n.vars.length,u.bA,u.n.bL.length,u.ck,u.n.cb,⟨u.n.aT.toArray⟩,⟨u.n.key.toArray⟩,⟨u.n.ca.toArray⟩,⟨u.n.set.toArray⟩,u.bx,u.ch,fun cV bU=>?_,?_⟩))
   ·have:=gh (P:=prog) eO (by decide) hp.ns iw ix iM bU;simp only[U,ff] at this ⊢;exact this
   simp only[aU];refine bY fun m3 lY _ bo=>bS fun kk cd=>aK (fun cZ=>?_) fun cZ=>aP fun _ _ _=>⟨_,rfl,x7 ?_⟩
   rotate_left
   ·have cZ:(u.n.ay==6)=false:=cZ;rw[bP,cZ];rfl
   have cZ:(u.n.ay==6)=true:=cZ;have hp:=hp.ext (aD bo cd);clear bo cd;simp only[aU];refine b5 (fun _ _=>T2 p f.to kk hp) ⟨bq.qc p.av f.to,rfl,fun sF p_=>aK (fun c9=>aP fun _ _ _=>⟨_,rfl,x7 ?_⟩) fun c9=>eC fun _ _ _ _ _=>b1 ⟨p.bj.length-(k+1),by omega,dy,k+1,?_,rfl,by omega,Ua,rfl,?_⟩⟩
   ·have c9:(!(bq.qc p.av f.to==1))=true:=c9;rw[bP,c9,gf];rfl
   ·simp only[U];exact val dy
   ·have c9:(!(bq.qc p.av f.to==1))=false:=c9;rw[bP,cZ,c9];rfl
  ·simp only[U,c7] at c3;rw[o1 (by omega)] at bP;have bP:bq.tX p.av i v.n.ay oa 0 p.bj=some e:=bP;rw[bP] at bs;unfold bq.T9 at bs;simp only at bs;have FK:eg 1 (e:Int)=decide (1<e):=by unfold eg;rw[oc];simp only[decide_eq_true_eq];omega
   refine aK (fun c4=>?_) fun c4=>aK (fun c5=>aP fun _ _ _=>⟨_,rfl,gl ?_⟩) fun c5=>aK (fun bw=>?_) fun bw=>eC fun _ _ _ _ _=>b1 ⟨p.ao.length-(i+1),by omega,i+1,?_,rfl,by omega,rfl,again ?_⟩
   ·have c4:(!eg 1 (e:Int)&&v.n.ay==10)=true:=c4;rw[FK,bT] at c4;have ph:v.n.ay=10:=by simpa using c4.2
    refine b5 (fun _ _=>FG p i fm hp) ⟨bq.nx p.av i,rfl,fun fU fu=>aK (fun c5=>aP fun _ _ _=>⟨_,rfl,gl ?_⟩) fun c5=>eC fun _ _ _ _ _=>b1 ⟨p.ao.length-(i+1),by omega,i+1,?_,rfl,by omega,rfl,again ?_⟩⟩
    ·have c5:decide (bq.nx p.av i<2)=true:=c5;rw[bs,c5,ph];simp
    ·simp only[U];exact val
    ·have c5:decide (bq.nx p.av i<2)=false:=c5;rw[bs,c5,ph,(by simpa using c4.1:decide (1<e)=false)];rfl
   ·have c5:eg 1 (e:Int)=true:=c5;rw[bs,<-FK,c5];rfl
   ·have c4:(!eg 1 (e:Int)&&v.n.ay==10)=false:=c4;have c5:eg 1 (e:Int)=false:=c5;have bw:(v.n.ay==5&&v.n.ev==6)=true:=bw;rw[c5] at c4;have c4:(v.n.ay==10)=false:=c4
    have AB:(p.av.ao.countP fun c=>((c.ay==6&&c.ev==6)&&c.bp==v.n.bp)&&c.key==v.n.key)=p.ao.countP fun y=>((y.n.ay==6&&y.n.ev==6)&&y.n.bp==v.n.bp)&&y.n.key==v.n.key:=by
     show(p.ao.map _).countP _=_;rw[List.countP_map];rfl
    rw[<-FK,c5,c4,bw,AB] at bs;refine dJ (fun aj vs ls _=>∃q:Nat,vs=[.int .i64 ((p.ao.take q).countP fun y=>((y.n.ay==6&&y.n.ev==6)&&y.n.bp==v.n.bp)&&y.n.key==v.n.key:Nat),.int .i64 (q:Nat)]∧ls=[]∧q<=p.ao.length∧aj=p.ao.length-q) p.ao.length ⟨0,by simp[U],rfl,dr _,rfl⟩ ?_;rintro aj vs ls fU fu ⟨q,rfl,rfl,bg,rfl⟩;have hp:=hp.ext fu;clear fu;have j_:((p.ao.take q).countP fun y=>((y.n.ay==6&&y.n.ev==6)&&y.n.bp==v.n.bp)&&y.n.key==v.n.key)<=p.ao.length:=iz List.countP_le_length (by rw[mX];omega);refine⟨((p.ao.take q).countP fun y=>((y.n.ay==6&&y.n.ev==6)&&y.n.bp==v.n.bp)&&y.n.key==v.n.key:Nat),(q:Int),rfl,rfl,fun _=>aK (fun cv=>?_) fun cv=>?_⟩
    ·simp only[U,cX] at cv;have pZ:q<p.ao.length:=by omega
     have CD:p.ao[q]? =some p.ao[q]:=dn pZ;have fj:p.ao.take (q+1)=p.ao.take q++[p.ao[q]]:=o0 pZ;generalize p.ao[q]=y at CD fj;refine a6 (eZ (by simp only[U];omega)) (cI ⟨y.n.ay,y.n.bp,y.n.on,y.n.ev,y.n.vars.length,y.bA,y.n.bL.length,y.ck,y.n.cb,⟨y.n.aT.toArray⟩,⟨y.n.key.toArray⟩,⟨y.n.ca.toArray⟩,⟨y.n.set.toArray⟩,y.bx,y.ch,fun cV bU=>?_,?_⟩)
     ·have:=gh (P:=prog) eO (by decide) hp.ns iw ix CD bU;simp only[U,ff] at this ⊢;exact this
     simp only[aU];refine bY fun m2 jQ _ bo=>bS fun lX cd=>aK (fun cZ=>eC fun _ _ _ _ _=>b1 ⟨p.ao.length-(q+1),by omega,q+1,?_,rfl,by omega,rfl⟩) fun cZ=>eC fun _ _ _ _ _=>b1 ⟨p.ao.length-(q+1),by omega,q+1,?_,rfl,by omega,rfl⟩
     ·have cZ:(((y.n.ay==6&&y.n.ev==6)&&y.n.bp==v.n.bp)&&y.n.key==v.n.key)=true:=cZ;simp only[U];rw[cE (by omega) (by omega),cE (by omega) (by omega),fj,yh,vJ,vK,if_pos cZ];rfl
     ·have cZ:(((y.n.ay==6&&y.n.ev==6)&&y.n.bp==v.n.bp)&&y.n.key==v.n.key)=false:=cZ;simp only[U];rw[cE (by omega) (by omega),fj,yh,vJ,vK,if_neg (by rw[cZ];decide)];rfl
    ·simp only[U,c7] at cv;rw[sQ (by omega)];generalize (p.ao.countP fun y=>((y.n.ay==6&&y.n.ev==6)&&y.n.bp==v.n.bp)&&y.n.key==v.n.key)=c at bs;refine aK (fun cZ=>aP fun _ _ _=>⟨_,rfl,gl ?_⟩) fun cZ=>eC fun _ _ _ _ _=>b1 ⟨p.ao.length-(i+1),by omega,i+1,?_,rfl,by omega,rfl,again ?_⟩
     ·have cZ:¬c=1:=by
       have:(!(((c:Nat):Int)==1))=true:=cZ;intro h;rw[h] at this;cases this
      rw[bs];simp[cZ]
     ·simp only[U];exact val
     ·have cZ:c=1:=by
       have:(!(((c:Nat):Int)==1))=false:=cZ;simp at this;omega
      rw[bs,cZ];rfl
   ·simp only[U];exact val
   ·have c4:(!eg 1 (e:Int)&&v.n.ay==10)=false:=c4;have c5:eg 1 (e:Int)=false:=c5;have bw:(v.n.ay==5&&v.n.ev==6)=false:=bw;rw[c5] at c4;have c4:(v.n.ay==10)=false:=c4;rw[bs,<-FK,c5,c4,bw];rfl
theorem avQ (cQ:List cP) (hV:Option Addr) (hW:Nat) (p:cP) (W:al) (a_:cQ.length<=1000000) (fX:b_ W hV cQ.length hW 4 (cQ.flatMap gA)) (eS:∀q∈cQ,fw q W) (hp:fw p W) (aw:zT p.av)
  (ni:∀i:Nat,i<p.ao.length->(au.fQ p.av i).length<=1000000) (mj:∀f∈p.bj,(au.fQ p.av f.dY).length<=1000000):
  da prog 13 #[.slice hV cQ.length hW,.agg (gA p).toArray] W (.int .i64 (bq.fp (cQ.map cP.av) p.av)):=by
 have fX:=fX.ext W.dw;have eS:∀q∈cQ,fw q W.all:=fun q bg=>(eS q bg).ext W.dw
 have hp:=hp.ext W.dw;have h5:=hp.h6;have sA:=hp.mU;refine avf cQ.length hW p.vars.length p.bA p.ao.length p.eF p.bj.length p.ef ⟨p.aT.toArray⟩ hV p.bx p.eL p.ea W.all _ ?_;refine bY fun m W1 _ iH=>?_
 simp only[aU];refine b5 (fun _ _=>avx p W1 (hp.ext iH) aw) ⟨bq.jm p.av,rfl,fun cn bH=>aK (fun aJ=>aP fun _ _ _=>⟨_,rfl,?_⟩) fun aJ=>?_⟩
 ·have aJ:¬bq.jm p.av=0:=by simpa[U] using aJ
  unfold bq.fp;rw[if_pos aJ];rfl
 have aJ:bq.jm p.av=0:=by simpa[U] using aJ
 have dG:=aD iH bH
 have aH:bq.fp (cQ.map cP.av) p.av=if(bq.ho p.av&&(bq.lp p.av&&bq.bj p.av))=false then 4 else if ab.fo (au.iy (cQ.map cP.av) p.av) (List.range p.av.ao.length)≠0 then ab.fo (au.iy (cQ.map cP.av) p.av) (List.range p.av.ao.length) else ab.fo (au.cond p.av) p.bj:=by
  unfold bq.fp;rw[if_neg (fun h=>h aJ)];rfl
 clear bH aJ;have gl:(bq.ho p.av&&(bq.lp p.av&&bq.bj p.av))=false->Value.int .i64 4= .int .i64 (bq.fp (cQ.map cP.av) p.av):=fun h=>by rw[aH,if_pos h]
 simp only[aU];refine b5 (fun _ _=>avE p cn (hp.ext dG)) ⟨bq.ho p.av,rfl,fun cq bo=>aK (fun c2=>?_) fun c2=>aP fun _ _ _=>⟨_,rfl,gl ?_⟩⟩;rotate_left
 ·have c2:bq.ho p.av=false:=c2;rw[c2];rfl
 have c2:bq.ho p.av=true:=c2;have eK:=aD dG bo;simp only[aU];refine b5 (fun _ _=>avL p cq (hp.ext eK)) ⟨bq.lp p.av,rfl,fun dH cd=>aK (fun c3=>?_) fun c3=>aP fun _ _ _=>⟨_,rfl,gl ?_⟩⟩;rotate_left
 ·have c3:bq.lp p.av=false:=c3;rw[c3,jX,oY]
 have c3:bq.lp p.av=true:=c3;have dO:=aD eK cd;simp only[aU];refine b5 (fun _ _=>avP p dH (hp.ext dO) c2) ⟨bq.bj p.av,rfl,fun dI cA=>aK (fun c4=>aP fun _ _ _=>⟨_,rfl,gl ?_⟩) fun c4=>?_⟩
 ·have c4:bq.bj p.av=false:=by simpa[U] using c4
  rw[c4,oY,oY]
 have c4:bq.bj p.av=true:=by simpa[U] using c4
 have ej:=aD dO cA;rw[c2,c3,c4,if_neg (by decide),kM] at aH;clear gl bo cd cA;simp only[aU];generalize c1:ab.fo (au.iy (cQ.map cP.av) p.av) (List.range p.ao.length)=S at aH;refine dJ (fun aj vs ls _=>∃i:Nat,vs=[.int .i64 (i:Nat)]∧ls=[]∧i<=p.ao.length∧aj=p.ao.length-i∧S=ab.fo (au.iy (cQ.map cP.av) p.av) ((List.range p.ao.length).drop i)) p.ao.length ⟨0,by simp[U],rfl,dr _,rfl,c1.symm⟩ ?_;rintro aj vs fG fU fu ⟨i,rfl,rfl,a8,rfl,bl⟩;have iY:=aD ej fu;refine⟨(i:Int),rfl,rfl,fun _=>aK (fun d1=>?_) fun d1=>?_⟩
 ·simp only[U,cX] at d1;have cp:i<p.ao.length:=by omega
  have Jm:i<(List.range p.ao.length).length:=by rw[List.length_range];exact cp
  rw[h4 Jm,List.getElem_range,ab.fo] at bl;simp only[aU];refine b5 (fun _ _=>avF cQ hV hW p i fU a_ (fX.ext iY) (fun q bg=>(eS q bg).ext iY) (hp.ext iY) aw cp (ni i cp)) ⟨au.iy (cQ.map cP.av) p.av i,rfl,fun jQ ki=>?_⟩;simp only[aU];refine aK (fun d2=>aP fun _ _ _=>⟨_,rfl,?_⟩) fun d2=>b1 ⟨p.ao.length-(i+1),by omega,i+1,?_,rfl,by omega,rfl,?_⟩
  ·have d2:(!(au.iy (cQ.map cP.av) p.av i==0))=true:=d2;have d2:¬au.iy (cQ.map cP.av) p.av i=0:=by simpa using d2
   rw[if_neg d2] at bl;rw[aH,bl,if_pos d2];rfl
  ·simp only[U];rw[cE (by omega) (by omega)];rfl
  ·have d2:(!(au.iy (cQ.map cP.av) p.av i==0))=false:=d2;have d2:au.iy (cQ.map cP.av) p.av i=0:=by simpa using d2
   rw[if_pos d2] at bl;exact bl
 simp only[U,c7] at d1;rw[fV (by rw[List.length_range];omega)] at bl;have bl:S=0:=bl;rw[if_neg (fun h=>h bl)] at aH;rw[aH];clear aH bl c1;refine dJ (fun aj vs ls _=>∃k:Nat,vs=[.int .i64 (k:Nat)]∧ls=[]∧k<=p.bj.length∧aj=p.bj.length-k∧ab.fo (au.cond p.av) p.bj=ab.fo (au.cond p.av) (p.bj.drop k)) p.bj.length ⟨0,by simp[U],rfl,dr _,rfl,rfl⟩ ?_;rintro aj vs fG jQ ki ⟨k,rfl,rfl,aA,rfl,lr⟩;have mq:=aD iY ki;refine⟨(k:Int),rfl,rfl,fun _=>aK (fun d3=>?_) fun d3=>aP fun _ _ _=>⟨_,rfl,?_⟩⟩
 ·simp only[U,cX] at d3;have e8:k<p.bj.length:=by omega
  have fb:p.bj[k]? =some p.bj[k]:=dn e8;have pz:=mj _ (h9 e8);have H4:=aw.avw _ (h9 (l:=p.bj) e8);rw[h4 e8,ab.fo] at lr;generalize p.bj[k]=x at fb lr pz H4;have val:[Value.int .i64 (IntKind.i64.wrap ((k:Int)+1))]=[.int .i64 ((k+1:Nat):Int)]:=by rw[cE (by omega) (by omega)];rfl
  have Ub:∀{V:al},Ext jQ V->_:=fun {V} bU=>ed (P:=prog) rK hp.fs nP (k:=2) fb (by decide) (u:=gO x.cond) rfl (aD mq bU)
  refine a6 ?_ (a6 ?_ (cI ⟨⟨x.cond.toArray⟩,fun cV bU=>?_,?_⟩))
  ·simp only[E.b,aR,aX.push];exact b_.dL hp.fs (by omega)
  ·simp only[U];exact c_ (by omega)
  ·have:=Ub bU;simp only[U] at this ⊢;exact this
  refine aK (fun d4=>?_) fun d4=>?_
  ·have d4:(x.cond==[])=false:=by have:(!(x.cond==[]))=true:=d4;simpa using this
   have bk:au.cond p.av x=bF.fp x.cond (au.fQ p.av x.dY) 2:=by rw[au.cond,if_neg (by rw[d4];exact fun h=>nomatch h)]
   rw[bk] at lr;refine cI ⟨⟨x.cond.toArray⟩,fun cV bU=>?_,cI ⟨x.dY,fun cV bU=>?_,?_⟩⟩
   ·have:=Ub bU;simp only[U] at this ⊢;exact this
   ·have:=ed (P:=prog) rK hp.fs nn (k:=0) fb (by decide) (u:=.int .i64 x.dY) rfl (aD mq bU);simp only[U] at this ⊢;exact this
   refine cj fun kk kl=>iV (fun _ _=>T0 p x.dY kk (hp.ext (aD mq kl))) fun u w' _ ⟨hO,cZ,hu,sH⟩=>⟨(au.fQ p.av x.dY).length,cZ,hO,hu,fun sF EY p_ n15=>?_⟩
   have sH:=sH.h3 EY n15;refine lF ⟨bF.fp x.cond (au.fQ p.av x.dY) 2,fun dE hd _ _=>FH x.cond H4 (au.fQ p.av x.dY) hO cZ 2 dE pz (sH.ext hd),?_⟩;refine cj fun vg xD=>aK (fun d5=>aP fun _ _ _=>⟨_,rfl,?_⟩) fun d5=>b1 ⟨p.bj.length-(k+1),by omega,k+1,?_,rfl,by omega,rfl,?_⟩
   ·have d5:(!(bF.fp x.cond (au.fQ p.av x.dY) 2==0))=true:=d5;have d5:¬bF.fp x.cond (au.fQ p.av x.dY) 2=0:=by simpa using d5
    rw[if_neg d5] at lr;rw[lr];rfl
   ·simp only[U];exact val
   ·have d5:(!(bF.fp x.cond (au.fQ p.av x.dY) 2==0))=false:=d5;have d5:bF.fp x.cond (au.fQ p.av x.dY) 2=0:=by simpa using d5
    rw[if_pos d5] at lr;exact lr
  ·have d4:(x.cond==[])=true:=by have:(!(x.cond==[]))=false:=d4;simpa using this
   have bk:au.cond p.av x=0:=by rw[au.cond,if_pos d4]
   rw[if_pos bk] at lr;refine b1 ⟨p.bj.length-(k+1),by omega,k+1,?_,rfl,by omega,rfl,lr⟩;simp only[U];exact val
 ·simp only[U,c7] at d3;rw[lr,fV (by omega)];rfl
abbrev Uc:b4:=⟨2,25,[ag 0,aL 3,aq 4,aq 5,aL 6,ag 1,ag 2,ag 3,ba 0,ai 5 7 8,ai 6 9 10]⟩
abbrev Ku:af:=(.agg [ag 0,aL 0,aq 1,aq 2,aL 3,ag 1,ag 2,ag 3,ba 0,ai 0 0 1,ai 1 2 3])
abbrev Ud:af:=(.agg [ag 4,aL 4,aq 5,aq 6,aL 7,ag 5,ag 6,ag 7,ba 1,ai 2 4 5,ai 3 6 7])
abbrev Ue:Tree:=
(.new (.new (.wr (.wr (.ret (.agg [ag 0,aL 0,aq 4,aq 2,aL 3,ag 1,ag 2,ag 3,ba 0,ai 0 0 1,ai 1 2 3]) [] [] [])))))
theorem avR:cN prog cW f8 [Ku,aq 4] [] [] ⟨5,4,1,4,0,2,0,0⟩=some Ue:=by kernel_rfl
theorem avS (i0 i1 i2 i3 i4:Int) (ar aQ bz bJ:Nat) (cm:Bool) (t0 t1 t2 t3:ByteArray) (a0 bn:Option Addr) (W:al) (R:Ending->World->Prop) (h:Ue.ak prog W.w.heap.size R [] {aV:=[i0,i1,i2,i3,i4],N:=[ar,aQ,bz,bJ],B:=[cm],T:=[t0,t1,t2,t3],A:=[a0,bn]} W):bK prog 8 #[.agg #[.string t0,.int .u8 i0,.int .i64 i1,.int .i64 i2,.int .u8 i3,.string t1,.string t2,.string t3,.bool cm,.slice a0 ar aQ,.slice bn bz bJ],.int .i64 i4] W R:=
 dP func8 _ _ {aV:=[i0,i1,i2,i3,i4],N:=[ar,aQ,bz,bJ],B:=[cm],T:=[t0,t1,t2,t3],A:=[a0,bn]} _ avR (fun v aB=>by cases aB) h
abbrev avT:Tree:=(.wr (.ret Ud [] [] []))
abbrev Uf:Tree:=
(.new (.new (.call 8 [Ku,(bI (-1))] [] [] [] Ud gL avT)))
theorem avU:cN prog cW f9 [Ku,.ptr 0 0] [] [⟨0,26,[(.fn 8 [])]⟩] y0=some Uf:=by kernel_rfl
theorem avV (i0 i1 i2 i3:Int) (ar aQ bz bJ:Nat) (cm:Bool) (t0 t1 t2 t3:ByteArray) (a0 bn:Option Addr) (m0:Nat) (W:al) (R:Ending->World->Prop) (fi:W.w.heap[m0]? =some (.cells #[.func (.func 8) #[] #[]] 26)) (fP:W.aV m0) (h:Uf.ak prog W.w.heap.size R [] {aV:=[i0,i1,i2,i3],N:=[ar,aQ,bz,bJ],B:=[cm],T:=[t0,t1,t2,t3],A:=[a0,bn],M:=[m0]} W):bK prog 9 #[.agg #[.string t0,.int .u8 i0,.int .i64 i1,.int .i64 i2,.int .u8 i3,.string t1,.string t2,.string t3,.bool cm,.slice a0 ar aQ,.slice bn bz bJ],.pointer (some ⟨m0,0,none⟩)] W R:=
 kf func9 _ _ [⟨0,26,[(.fn 8 [])]⟩] {aV:=[i0,i1,i2,i3],N:=[ar,aQ,bz,bJ],B:=[cm],T:=[t0,t1,t2,t3],A:=[a0,bn],M:=[m0]} _ avU (fun v aB=>by cases aB) (fun b I=>by simp only[dh,eT,or_false] at I;rcases I with rfl<;>(first|exact fi)) (fun b I=>by simp only[dh,eT,or_false] at I;rcases I with rfl<;>(first|exact fP)) h
abbrev Ug:Tree:=
(.new (.new (.new (.a1 (bQ (bX (aG 4) (ah 1)) (ah 3518437208883)) (.eu (bX (aG 4) (ah 1)) (.wr (.wr (.ret (.agg [ag 0,ai 0 0 1,ai 1 2 3,(.bt 3 (bX (aG 4) (ah 1)) (aG 6))]) [] [] [⟨(.bt 3 (bX (aG 4) (ah 1)) (aG 6)),(bX (aG 4) (ah 1)),33,4,[.l 0,(.s (aq 0)),(.s (aq 1)),.s ek,(.s (cY false))]⟩]))))))))
theorem avW:Nf prog {cW with fN:=true} f10 [(.agg [ag 0,ai 0 0 1,ai 1 2 3,ai 2 4 5]),aq 0,aq 1] [] [⟨ai 2 4 5,aG 4,33,4,[.l 0]⟩] ⟨2,6,0,1,0,3,0,1⟩=some Ug:=by kernel_rfl
theorem avX (i0 i1:Int) (ar aQ bz bJ cH cM:Nat) (t0:ByteArray) (a0 bn a2:Option Addr) (rk:List Value) (W:al) (R:Ending->World->Prop) (aw:W.w.ownsRow 0 33 4 (.slice a2 cH cM) cH rk) (J:∀u∈rk,u.oneCell'=true) (bf:∀k,(Value.slice a2 cH cM).ownBlock=some k->¬W.aV k) (h:Ug.ak prog 0 R [] {aV:=[i0,i1],N:=[ar,aQ,bz,bJ,cH,cM],T:=[t0],A:=[a0,bn,a2],L:=[rk]} W):bK prog 10 #[.agg #[.string t0,.slice a0 ar aQ,.slice bn bz bJ,.slice a2 cH cM],.int .i64 i0,.int .i64 i1] W R:=
 W5 func10 _ _ [] [⟨ai 2 4 5,aG 4,33,4,[.l 0]⟩] {aV:=[i0,i1],N:=[ar,aQ,bz,bJ,cH,cM],T:=[t0],A:=[a0,bn,a2],L:=[rk]} _ avW (fun v aB=>by cases aB) (fun b I=>by cases I) (fun b I=>by cases I) (fun r om=>by obtain rfl:=bd.1 om;refine⟨?_,?_⟩<;>simp only[dF,dV.ak,jq,kv,lL]<;>first|exact aw|exact J) (fun r om k aA=>by obtain rfl:=bd.1 om;exact bf k aA) (jE _ _) h
abbrev avY:Tree:=(.wr (.eu (ah 1) (.a1 (bQ (bX (aG 3) (ah 1)) (ah 925904528653)) (.eu (bX (aG 3) (ah 1)) (.wr (.eM [⟨2,25,[ag 0,aL 1,aq 2,(bI (-1)),aL 4,ag 1,ag 2,ag 3,ba 0,ai 4 5 6,ai 5 7 8]⟩] (.yx [⟨(.bt 6 (ah 1) (aG 9)),ah 1,25,11,[(.s (ag 0)),(.s (aL 1)),(.s (aq 2)),(.s (bI (-1))),(.s (aL 4)),(.s (ag 1)),(.s (ag 2)),(.s (ag 3)),(.s (ba 0)),(.s (ai 4 5 6)),(.s (ai 5 7 8))]⟩] (.again 0 [(.int .i64 (.un (.wrap .i64) (bX (ae 0) (ah 1)))),(.bt 7 (bX (aG 3) (ah 1)) (aG 10))] [⟨(.bt 7 (bX (aG 3) (ah 1)) (aG 10)),(bX (aG 3) (ah 1)),25,11,[.l 0,(.s (ag 0)),(.s (aL 1)),(.s (aq 2)),(.s (bI (-1))),(.s (aL 4)),(.s (ag 1)),(.s (ag 2)),(.s (ag 3)),(.s (ba 0)),(.s (ai 4 5 6)),(.s (ai 5 7 8))]⟩]))))))))
abbrev avZ:Tree:=(.eu (ah 1) (.a1 (bQ (bX (aG 3) (ah 1)) (ah 925904528653)) (.eu (bX (aG 3) (ah 1)) (.wr (.eM [⟨2,25,[ag 0,aL 1,aq 2,aq 3,aL 4,ag 1,ag 2,ag 3,ba 0,ai 4 5 6,ai 5 7 8]⟩] (.yx [⟨(.bt 6 (ah 1) (aG 9)),ah 1,25,11,[(.s (ag 0)),(.s (aL 1)),(.s (aq 2)),(.s (aq 3)),(.s (aL 4)),(.s (ag 1)),(.s (ag 2)),(.s (ag 3)),(.s (ba 0)),(.s (ai 4 5 6)),(.s (ai 5 7 8))]⟩] (.again 0 [(.int .i64 (.un (.wrap .i64) (bX (ae 0) (ah 1)))),(.bt 7 (bX (aG 3) (ah 1)) (aG 10))] [⟨(.bt 7 (bX (aG 3) (ah 1)) (aG 10)),(bX (aG 3) (ah 1)),25,11,[.l 0,(.s (ag 0)),(.s (aL 1)),(.s (aq 2)),(.s (aq 3)),(.s (aL 4)),(.s (ag 1)),(.s (ag 2)),(.s (ag 3)),(.s (ba 0)),(.s (ai 4 5 6)),(.s (ai 5 7 8))]⟩])))))))
abbrev av0:Tree:=(.a1 (.sm 0) (.a1 (bQ (ah 0) (ae 0)) (.cl 25 (.b6 0 (ae 0) 11 0) (.agg [ag 0,aL 1,aq 2,aq 3,aL 4,ag 1,ag 2,ag 3,ba 0,ai 4 5 6,ai 5 7 8]) gL (.new (.wr (.aC (bR (aZ (ae 1) (ah 15))) avY avZ))))))
abbrev av1:Tree:=(.eM [Uc] (.again 1 [aq 1,(.int .i64 (.un (.wrap .i64) (bX (ae 2) (ah 1)))),ai 4 5 6] [⟨ai 4 5 6,aG 5,33,4,[.l 1]⟩]))
abbrev av2:Tree:=(.new (.a1 (bQ (bX (aG 5) (ah 1)) (ah 3518437208883)) (.eu (bX (aG 5) (ah 1)) (.wr (.eM [⟨3,33,[aq 1,aq 2,ek,cY false]⟩,Uc] (.again 1 [aq 2,(.int .i64 (.un (.wrap .i64) (bX (ae 2) (ah 1)))),(.bt 7 (bX (aG 5) (ah 1)) (aG 11))] [⟨(.bt 7 (bX (aG 5) (ah 1)) (aG 11)),(bX (aG 5) (ah 1)),33,4,[.l 1,(.s (aq 1)),(.s (aq 2)),.s ek,(.s (cY false))]⟩]))))))
abbrev av3:Tree:=(.a1 (.sm 3) (.a1 (bQ (ah 0) (ae 2)) (.j1 25 (.b6 3 (ae 2) 11 0) (.agg [ag 0,aL 3,aq 4,aq 5,aL 6,ag 1,ag 2,ag 3,ba 0,ai 5 7 8,ai 6 9 10]) ⟨ai 3 3 4,aG 3,25,11,[.l 0]⟩ gL (.new (.wr (.aC (bW (bW (bW (bR (aZ (ae 4) (ah (-1)))) (aZ (ae 3) (ah 1))) (aZ (ae 3) (ah 15))) (aZ (ae 3) (ah 13))) av1 av2))))))
abbrev av4:Tree:=(.eu (ah 1) (.a1 (bQ (bX (aG 3) (ah 1)) (ah 925904528653)) (.eu (bX (aG 3) (ah 1)) (.wr (.new (.a1 (bQ (bX (aG 5) (ah 1)) (ah 3518437208883)) (.eu (bX (aG 5) (ah 1)) (.wr (.wr (.ret (.agg [(.str (.bN [112])),(.bt 1 (ah 1) (ah 1)),(.bt 6 (bX (aG 3) (ah 1)) (aG 8)),(.bt 7 (bX (aG 5) (ah 1)) (aG 9))]) [] [] [⟨(.bt 7 (bX (aG 5) (ah 1)) (aG 9)),(bX (aG 5) (ah 1)),33,4,[.l 1,(.s (aq 1)),(.s (.int .i64 (.un (.wrap .i64) (HV (bX (aG 3) (ah 1)) (ah 1))))),.s ek,(.s (cY false))]⟩,⟨(.bt 6 (bX (aG 3) (ah 1)) (aG 8)),(bX (aG 3) (ah 1)),25,11,[.l 0,(.s (.str (.bN [101]))),(.s (di 2)),(.s (bI (-1))),(.s (bI (-1))),(.s (di 0)),.s ek,.s ek,.s ek,(.s (cY false)),.s .db,.s .db]⟩,⟨(.bt 5 (ah 1) (aG 7)),ah 1,25,11,[(.s (.str (.bN [101]))),(.s (di 2)),(.s (bI (-1))),(.s (bI (-1))),(.s (di 0)),.s ek,.s ek,.s ek,(.s (cY false)),.s .db,.s .db]⟩]))))))))))
abbrev av5:Tree:=(.loop [bI 0,bI 1,.db] [⟨.db,ah 0,33,4,[]⟩] [aq 1,aq 2,ai 4 5 6] [⟨ai 4 5 6,aG 5,33,4,[.l 1]⟩] ⟨2,2,0,0,0,1,0,1⟩ (.aC (bO (ae 2) (aG 3)) av3 av4))
abbrev Uh:Tree:=
(.new (.s9 41 [(.str (.bN [120])),di 1,bI 1,ek] (.eu (ah 1) (.new (.wr (.loop [bI 0,(.bt 2 (ah 1) (aG 2))] [⟨(.bt 2 (ah 1) (aG 2)),ah 1,25,11,[(.s (.str (.bN [115]))),(.s (di 1)),(.s (bI (-1))),(.s (bI (-1))),(.s (di 0)),.s ek,.s ek,.s ek,(.s (cY false)),.s .db,.s .db]⟩] [aq 0,ai 3 3 4] [⟨ai 3 3 4,aG 3,25,11,[.l 0]⟩] pX (.aC (bO (ae 0) (aG 0)) av0 av5)))))))
theorem av6:cN prog {cW with ei:=[⟨3,[.az 4,.rb 1 2 28]⟩,⟨11,[.az 6,.az 7,.rb 1 3 29]⟩],lQ:=[41],jJ:=[25],fN:=true} f11 [ai 0 0 1] [] [] ga=some Uh:=by kernel_rfl
theorem av7 (ar aQ:Nat) (a0:Option Addr) (W:al) (R:Ending->World->Prop) (h:Uh.ak prog W.w.heap.size R [] {N:=[ar,aQ],A:=[a0]} W):bK prog 11 #[.slice a0 ar aQ] W R:=
 dP func11 _ _ {N:=[ar,aQ],A:=[a0]} _ av6 (fun v aB=>by cases aB) h
theorem Ui (v:d_) (k:Int) (W:al):da prog 8 #[.agg (dN v).toArray,.int .i64 k] W (.agg (dN {v with n:=ez.at' v.n k}).toArray):=
 avS v.n.ay v.n.bp v.n.on v.n.ev k v.n.vars.length v.bA v.n.bL.length v.ck v.n.cb ⟨v.n.aT.toArray⟩ ⟨v.n.key.toArray⟩ ⟨v.n.ca.toArray⟩ ⟨v.n.set.toArray⟩ v.bx v.ch W.all _
  (bY fun _ _ _ _=>bY fun _ _ _ _=>bS fun _ _=>bS fun _ _=>aP fun _ _ _=>⟨_,rfl,rfl⟩)
theorem Uj (v:d_) (m:Nat) (W:al) (hm:W.w.heap[m]? =some (.cells #[.func (.func 8) #[] #[]] 26)):da prog 9 #[.agg (dN v).toArray,.pointer (some ⟨m,0,none⟩)] W (.agg (dN {v with n:=ez.out v.n}).toArray):=by
 refine avV v.n.ay v.n.bp v.n.on v.n.ev v.n.vars.length v.bA v.n.bL.length v.ck v.n.cb ⟨v.n.aT.toArray⟩ ⟨v.n.key.toArray⟩ ⟨v.n.ca.toArray⟩ ⟨v.n.set.toArray⟩ v.bx v.ch m W.all _ hm (fq.1 hm).1 ?_;refine bY fun _ W1 _ _=>bY fun _ cn _ _=>b5 (fun _ _=>Ui v (-1) cn) ⟨v.n.ay,-1,v.n.on,v.n.ev,v.n.vars.length,v.bA,v.n.bL.length,v.ck,v.n.cb,⟨v.n.aT.toArray⟩,⟨v.n.key.toArray⟩,⟨v.n.ca.toArray⟩,⟨v.n.set.toArray⟩,v.bx,v.ch,rfl,fun _ _=>bS fun _ _=>aP fun _ _ _=>⟨_,rfl,rfl⟩⟩
theorem av8 (p:cP) (a b:Int) (W:al) (sA:p.bj.length<=1000000) (bc:W.w.ownsRow 0 33 4 (.slice p.ea p.bj.length p.ef) p.bj.length (p.bj.flatMap ko)) (bf:∀k,(Value.slice p.ea p.bj.length p.ef).ownBlock=some k->¬W.aV k):
  gR prog 10 #[.agg (gA p).toArray,.int .i64 a,.int .i64 b] W fun u w'=>∃(ea:Option Addr) (ef:Nat),u= .agg (gA {p with bj:=p.bj++[⟨a,b,[],false⟩],ea:=ea,ef:=ef}).toArray∧w'.ownsRow 0 33 4 (.slice ea (p.bj.length+1) ef) (p.bj.length+1) ((p.bj++[(⟨a,b,[],false⟩:ab.hQ)]).flatMap ko):=by
 refine avX a b p.vars.length p.bA p.ao.length p.eF p.bj.length p.ef ⟨p.aT.toArray⟩ p.bx p.eL p.ea (p.bj.flatMap ko) W _ bc (fun u hu=>?_) bf ?_
 ·obtain⟨f,_,bs⟩:=List.mem_flatMap.1 hu;simp only[dh,eT,or_false] at bs;rcases bs with rfl|rfl|rfl|rfl<;>rfl
 refine bY fun _ _ _ _=>bY fun _ _ _ _=>bY fun _ _ _ _=>a6 (eZ (by simp only[U];omega)) (hj fun gz bw _ _ _=>bS fun _ _=>bS fun _ _=>aP fun _ _ aw=>⟨_,rfl,gz,bw,?_,?_⟩)
 ·simp only[U];rw[show((p.bj.length:Int)+1).toNat=(p.bj++[(⟨a,b,[],false⟩:ab.hQ)]).length from by simp];rfl
 ·have bu:=(aw _ (c6 ..)).1;simp only[dD,af.ak,E.i,eH] at bu;rw[nV];exact bu
def ob:d_:=⟨ez.T7,none,0,none,0⟩
def tZ:d_:=⟨ez.T8,none,0,none,0⟩
def oV (v:d_):d_:={v with n:=ez.rU v.n}
theorem av9 {v:d_} (h:¬v.n.ay=15):dN (oV v)=dN {v with n:={v.n with on:= -1}}:=by
 unfold oV ez.rU;rw[if_neg h]
theorem av_ {v:d_} (h:v.n.ay=15):dN (oV v)=dN v:=by
 unfold oV ez.rU;rw[if_pos h]
theorem Kv (a:Option Addr) (n c fZ bG:Nat):(Value.slice a n c).ownBlock=(Value.slice a fZ bG).ownBlock:=by cases a<;>rfl
structure Kw (ar:Nat) (l:List d_) (q:cP) (w:World):Prop where
 av:q.av=ez.line (l.map (·.n))
 dc:q.ao=ob::(l.map oV++[tZ])
 vs:q.vars=[ez.zV]
 on:w.ownsRow ar i_ 11 (.slice q.eL q.ao.length q.eF) q.ao.length (q.ao.flatMap dN)
 of:w.ownsRow ar 33 4 (.slice q.ea q.bj.length q.ef) q.bj.length (q.bj.flatMap ko)
 awa:∃m,q.bx=some ⟨m,0,none⟩∧q.bA=1∧ar<=m∧w.heap[m]? =some (.cells (e7 ez.zV).toArray 41)∧(Value.slice q.ea q.bj.length q.ef).ownBlock≠some m
 ap:∀k,(Value.slice q.ea q.bj.length q.ef).ownBlock=some k->(Value.slice q.eL q.ao.length q.eF).ownBlock≠some k
set_option maxHeartbeats 1000000 in
theorem Uk (l:List d_) (a:Option Addr) (c:Nat) (W:al) (aO:l.length<=1000) (bD:b_ W a l.length c 11 (l.flatMap dN)):
  gR prog 11 #[.slice a l.length c] W.all fun u w'=>∃q:cP,u= .agg (gA q).toArray∧Kw W.w.heap.size l q w':=by
 have bD:=bD.ext W.dw;refine av7 l.length c a W.all _ ?_;refine bY fun m0 W1 _ bM=>W7 fun m1 cn bz bH Ul lr=>hj fun a2 c2 cq _ bo=>bY fun m2 dH _ cd=>bS fun dI cA=>?_
 have ej:=aD bM (aD bH (aD bo (aD cd cA)));simp only[aU];refine dJ (fun aj vs ls _=>∃(i:Nat) (bB:Option Addr) (bG:Nat),vs=[.int .i64 (i:Nat),.slice bB (i+1) bG]∧ls=[(ob::(l.take i).map oV).flatMap dN]∧i<=l.length∧aj=l.length-i) l.length ⟨0,a2,c2,by simp[U],by kernel_rfl,dr _,rfl⟩ ?_;rintro aj vs ls cV bU ⟨i,bB,bG,rfl,rfl,a8,rfl⟩;have jk:=aD ej bU;refine⟨(i:Int),i+1,bG,bB,(ob::(l.take i).map oV).flatMap dN,rfl,by simp only[dD],fun hi=>?_⟩;simp only[aU];refine aK (fun aJ=>?_) fun aJ=>?_
 ·simp only[U,cX] at aJ;have cp:i<l.length:=by omega
  have fj:l.take (i+1)=l.take i++[l[i]]:=o0 cp;have fb:l[i]? =some l[i]:=dn cp;generalize l[i]=v at fb fj;refine a6 ?_ (a6 (eZ (by simp only[U];omega)) (cI ⟨v.n.ay,v.n.bp,v.n.on,v.n.ev,v.n.vars.length,v.bA,v.n.bL.length,v.ck,v.n.cb,⟨v.n.aT.toArray⟩,⟨v.n.key.toArray⟩,⟨v.n.ca.toArray⟩,⟨v.n.set.toArray⟩,v.bx,v.ch,fun dQ df=>?_,?_⟩))
  ·simp only[E.b,aR,aX.push];exact b_.dL bD (by omega)
  ·have:=gh (P:=prog) eO (by decide) bD iw ix fb (aD jk df);simp only[U,ff] at this ⊢;exact this
  simp only[aU]
  have rows:∀(u:d_),dN u=dN (oV v)->(ob::(l.take i).map oV).flatMap dN++dN u=(ob::(l.take (i+1)).map oV).flatMap dN:=fun u hu=>by
   rw[hu,fj,List.map_append,jo,List.map_nil,<-qg,nV];simp
  refine bY fun m3 dQ _ df=>bS fun dX dK=>aK (fun c2=>?_) fun c2=>?_
  ·have c2:¬v.n.ay=15:=by simpa[U] using c2
   refine bS fun fm eY=>hj fun gz bw fU _ fu=>a6 (eZ (by simp only[U];omega)) (hj fun qa cv jQ _ ki=>bS fun lX kX=>eC fun lY _ kj _ _=>Nh fun kk _ kl _ _=>b1 ⟨l.length-(i+1),by omega,i+1,qa,cv,?_,?_,by omega,rfl⟩)
   ·simp only[U];rw[cE (by omega) (by omega)];rfl
   ·simp only[hL,dF,dV.ak,aR,aX.push,ku,lM,jq,kv,lL];exact congrArg (fun x=>[x]) (rows {v with n:={v.n with on:= -1}} (av9 c2).symm)
  ·have c2:v.n.ay=15:=by simpa[U] using c2
   refine hj fun gz bw fU _ fu=>a6 (eZ (by simp only[U];omega)) (hj fun qa cv jQ _ ki=>bS fun lX kX=>eC fun lY _ kj _ _=>Nh fun kk _ kl _ _=>b1 ⟨l.length-(i+1),by omega,i+1,qa,cv,?_,?_,by omega,rfl⟩)
   ·simp only[U];rw[cE (by omega) (by omega)];rfl
   ·simp only[hL,dF,dV.ak,aR,aX.push,ku,lM,jq,kv,lL];exact congrArg (fun x=>[x]) (rows v (av_ c2).symm)
 simp only[U,c7] at aJ;obtain rfl:i=l.length:=by omega
 rw[List.take_length] at hi ⊢;have w2:(l.map oV).length=l.length:=mW ..;have qy:(l.map oV).map (·.n)=(l.map (·.n)).map ez.rU:=by rw[List.map_map,List.map_map];rfl
 generalize Kx:l.map oV=ns at hi w2 qy ⊢;refine dJ (fun aj vs ls _=>∃(q mB:Nat) (my:List ab.hQ) (a4:Option Addr) (c4:Nat),vs=[.int .i64 (mB:Nat),.int .i64 ((q+1:Nat):Int),.slice a4 my.length c4]∧ls=[my.flatMap ko]∧q<=l.length∧mB<=q∧my.length<=q∧my++(ez.q0 (q+1) mB ((ns.drop q).map (·.n))).1=(ez.q0 1 0 (ns.map (·.n))).1∧(ez.q0 (q+1) mB ((ns.drop q).map (·.n))).2=(ez.q0 1 0 (ns.map (·.n))).2∧aj=l.length-q) l.length ⟨0,0,[],none,0,rfl,rfl,dr _,e9 _,e9 _,rfl,rfl,rfl⟩ ?_;rintro aj vs ls dQ df ⟨q,mB,my,a4,c4,rfl,rfl,bg,ayE,nr,ps,pz,rfl⟩;refine⟨(mB:Int),((q+1:Nat):Int),my.length,c4,a4,my.flatMap ko,rfl,by simp only[dD],fun ayF=>?_⟩;simp only[aU];refine aK (fun c2=>?_) fun c2=>?_
 ·simp only[U,cX] at c2;have pZ:q<ns.length:=by omega
  have CD:ns[q]? =some ns[q]:=dn pZ;have a_:ns.drop q=ns[q]::ns.drop (q+1):=mG pZ;generalize ns[q]=v at CD a_;rw[a_,jo] at ps pz;simp only[ez.q0] at ps pz;have FI:(ob::ns)[q+1]? =some v:=by rw[rZ];exact CD
  refine a6 ?_ (a6 (eZ (by simp only[U];omega)) (pW ⟨v.n.ay,v.n.bp,v.n.on,v.n.ev,v.n.vars.length,v.bA,v.n.bL.length,v.ck,v.n.cb,⟨v.n.aT.toArray⟩,⟨v.n.key.toArray⟩,⟨v.n.ca.toArray⟩,⟨v.n.set.toArray⟩,v.bx,v.ch,fun w hw=>?_,?_⟩))
  ·have J:=(hi _ (c6 ..)).1;simp only[dD,af.ak,E.i,eH] at J;simp only[E.b,aR,aX.push];rcases (gW J).2.2 with⟨_,cc,_⟩|⟨b,o,e,_⟩
   ·simp at cc
   ·rw[e];rfl
  ·have J:=hw.1;simp only[dF,jq,kv,dV.ak,U,lL,eH] at J;have an:=gW J
   let dE:al:=⟨w,fun b=>b<w.heap.size,fun _ h=>h⟩
   have aI:b_ dE bB (ob::ns).length bG 11 ((ob::ns).flatMap dN):=by
    rw[e5,w2];exact eD.move (fun b _ I=>⟨I,rfl⟩) an
   have:=gh (P:=prog) eO (by decide) aI iw ix FI dE.dw;simp only[U,ff] at this ⊢;exact this
  simp only[aU];refine bY fun m3 dX _ dK=>bS fun fm eY=>aK (fun c3=>eC fun lY _ kj _ _=>b1 ⟨l.length-(q+1),by omega,q+1,mB,my,a4,c4,?_,?_,by omega,by omega,by omega,?_,?_,rfl⟩) fun c3=>bY fun m4 fU _ fu=>a6 (eZ (by simp only[U];omega)) (hj fun qa cv jQ _ ki=>bS fun lX kX=>eC fun lY _ kj _ _=>b1 ⟨l.length-(q+1),by omega,q+1,q+1,my++[⟨mB,(q+1:Nat),[],false⟩],qa,cv,?_,?_,by omega,by omega,?_,?_,?_,rfl⟩)
  ·simp only[U];rw[cE (by omega) (by omega)];rfl
  ·simp only[dD]
  ·have c3:ez.skip v.n=true:=c3;rw[if_pos c3] at ps;exact ps
  ·have c3:ez.skip v.n=true:=c3;rw[if_pos c3] at pz;exact pz
  ·simp only[U,fR];rw[cE (by omega) (by omega)];rfl
  ·simp only[hL,dF,dV.ak,aR,aX.push,ku,lM,jq,kv,lL,nV];rfl
  ·rw[fR,q2];omega
  ·have c3:ez.skip v.n=false:=c3;rw[c3,if_neg (by decide)] at ps;rw[jW];exact ps
  ·have c3:ez.skip v.n=false:=c3;rw[c3,if_neg (by decide)] at pz;exact pz
 ·simp only[U,c7] at c2;rw[o1 (by omega)] at ps pz;have ps:my=(ez.q0 1 0 (ns.map (·.n))).1:=by rw[<-ps];exact(mC _).symm
  have pz:mB=(ez.q0 1 0 (ns.map (·.n))).2:=pz;refine hj fun gz bw fU _ fu=>a6 (eZ (by simp only[U];omega)) (hj fun qa cv jQ _ ki=>bS fun lX kX=>bY fun m4 lY _ kj=>a6 (eZ (by simp only[U];omega)) (hj fun hO cZ kk _ kl=>bS fun sF p_=>bS fun vg xD=>W6 fun J an aI cc=>?_))
  have a7:(((l.length+1:Nat):Int)+1).toNat=(ob::(ns++[tZ])).length:=by rw[e5,fR,w2];simp;omega
  have bh:∀f:ab.hQ,((my.length:Int)+1).toNat=(my++[f]).length:=fun f=>by simp
  have c8:IntKind.i64.wrap (((l.length+1:Nat):Int)+1-1)=(l.length:Int)+1:=by rw[cE (by omega) (by omega)];omega
  have eS:=(aI _ (c6 ..)).1;have eA:=(aI _ (dq _ (c6 ..))).1;simp only[dF,jq,kv,dV.ak,U,lL] at eS eA;have z:=aD bo (aD cd (aD cA (aD bU (aD df (aD fu (aD ki (aD kX (aD kj (aD kl (aD p_ xD))))))))));have hm:=(z.du m1 Ul).trans lr;have awb:=cc.2 _ (c6 ..);have G1:=(od.1 cc.1).1 _ (c6 ..);refine⟨_,rfl,⟨[112],[ez.zV],some ⟨m1,0,none⟩,1,ob::(ns++[tZ]),qa,cv,my++[⟨mB,(l.length:Int)+1,[],false⟩],hO,cZ⟩,?_,?_,?_,?_,?_,?_,⟨m1,rfl,rfl,bz,hm,fun e=>awb m1 ((Kv hO _ _ _ _).trans e) (z.sub m1 Ul)⟩,fun k e dy=>G1 k ((Kv hO _ _ _ _).trans e) ((Kv qa _ _ _ _).trans dy)⟩
  ·simp only[U];rw[a7,bh ⟨mB,(l.length:Int)+1,[],false⟩];rfl
  ·show(⟨[112],[ez.zV],(ob::(ns++[tZ])).map (·.n),my++[⟨mB,(l.length:Int)+1,[],false⟩]⟩:ab.dR)=_;rw[jo,List.map_append,qy,ps,pz,qy];unfold ez.line;rw[mW];rfl
  ·rw[Kx]
  ·rfl
  ·show vg.w.ownsRow _ _ 11 (.slice qa (ob::(ns++[tZ])).length cv) (ob::(ns++[tZ])).length _;rw[<-a7];have:(ob::(ns++[tZ])).flatMap dN=(ob::ns).flatMap dN++dN tZ:=by rw[<-qg,nV];simp
   show vg.w.ownsRow _ _ 11 _ _ ((ob::(ns++[tZ])).flatMap dN);rw[this];exact eA
  ·show vg.w.ownsRow _ _ 4 (.slice hO (my++[(⟨mB,(l.length:Int)+1,[],false⟩:ab.hQ)]).length cZ) (my++[(⟨mB,(l.length:Int)+1,[],false⟩:ab.hQ)]).length ((my++[(⟨mB,(l.length:Int)+1,[],false⟩:ab.hQ)]).flatMap ko);rw[<-bh,nV];rw[c8] at eS;exact eS
end Go.Proofs.YtkpjmlnhhggenaaGreatDoor
end
section
section
namespace Go.cK
open Go Go.RowKit
variable {P:Program}
structure Um (P:Program) (ops:Array Oper) (Q:Exit->Act->World->Prop) (d:Nat->Nat) (cons:Nat->Option Nat) (S:Nat->Value->al->Prop) (W0:al) (a0:Act):Prop where
 dst:∀aj o,ops[aj]? =some o->o.dst=some (d aj)∧o.guard=none∧d aj<a0.tmps.size
 inj:∀i aj,i<ops.size->aj<ops.size->d i=d aj->i=aj
 low:∀aj o,ops[aj]? =some o->∀e∈o.after,Region.binds .any e=true->e.on<aj
 h3:∀aj v W W',cons aj=none->Ext W W'->S aj v W->S aj v W'
 grow:∀aj k v W W',cons aj=some k->Ext W W'->hn W.w W'.w->(∀b,W'.aV b->W.aV b∨W.w.heap.size<=b)->S aj v W->S aj v W'
 e2:∀i k aj l,cons i=some k->cons aj=some l->i≠aj->i<ops.size->aj<ops.size->(∀cx:Nat->Bool,(∀x o,ops[x]? =some o->cx x=true->∀e∈o.after,Region.binds .any e=true->cx e.on=true)->cx l=false->(∀o,ops[l]? =some o->∀e∈o.after,Region.binds .any e=true->cx e.on=true)->cx i=true->cx k=true)
 step:∀x o a (W:al),ops[x]? =some o->Ext W0 W->(∀t,(∀aj,aj<ops.size->d aj≠t)->a.tmps[t]? =a0.tmps[t]?)->a.tmps.size=a0.tmps.size->a.defers=a0.defers->
  (∀e∈o.after,Region.binds .any e=true->(cons e.on=none∨cons e.on=some x)->S e.on (a.eval (.tmp (d e.on))) W)->
  o.wp P a W.w (fun bB w'=>∃v W',bB=a.put (some (d x)) v∧W'.w=w'∧Ext W W'∧S x v W'∧((hn W.w w'∧∀b,W'.aV b->W.aV b∨W.w.heap.size<=b)∨∃aj,cons aj=some x∧aj<ops.size)) Q
 gy:∀a (W:al),Ext W0 W->(∀t,(∀aj,aj<ops.size->d aj≠t)->a.tmps[t]? =a0.tmps[t]?)->a.tmps.size=a0.tmps.size->a.defers=a0.defers->
  (∀aj,aj<ops.size->cons aj=none->S aj (a.eval (.tmp (d aj))) W)->Q .normal a W.w
theorem awc {a:Act} {t:Nat} {v:Value} (h:t<a.tmps.size):(a.put (some t) v).eval (.tmp t)=v:=by
 simp[Act.put,Act.eval,mF,h]
theorem awd {a:Act} {t u:Nat} {v:Value} (h:t≠u):(a.put (some t) v).eval (.tmp u)=a.eval (.tmp u):=by
 simp[Act.put,Act.eval,mF,Array.getElem?_setIfInBounds,h]
theorem awe {a:Act} {t u:Nat} {v:Value} (h:t≠u):(a.put (some t) v).tmps[u]? =a.tmps[u]? :=by
 simp[Act.put,Array.getElem?_setIfInBounds,h]
theorem awf {a:Act} {t:Nat} {v:Value}:(a.put (some t) v).tmps.size=a.tmps.size:=by simp[Act.put]
theorem put_defers {a:Act} {t:Nat} {v:Value}:(a.put (some t) v).defers=a.defers:=by simp[Act.put]
structure Un (ops:Array Oper) (d:Nat->Nat) (cons:Nat->Option Nat) (S:Nat->Value->al->Prop) (W0:al) (a0:Act) (cx:Array Bool) (a:Act) (W:al):Prop where
 ext:Ext W0 W
 frame:∀t,(∀aj,aj<ops.size->d aj≠t)->a.tmps[t]? =a0.tmps[t]?
 size:a.tmps.size=a0.tmps.size
 iC:a.defers=a0.defers
 ls:cx.size=ops.size
 down:∀x o,ops[x]? =some o->cx.getD x false=true->∀e∈o.after,Region.binds .any e=true->cx.getD e.on false=true
 all:∀aj,aj<ops.size->cx.getD aj false=true->(∀k,cons aj=some k->cx.getD k false=false)->S aj (a.eval (.tmp (d aj))) W
theorem CE {l:Array Bool} {i aj:Nat} (a8:i<l.size):(l.setIfInBounds i true).getD aj false=(l.getD aj false||decide (i=aj)):=by
 simp only[mF,Array.getElem?_setIfInBounds]
 by_cases h:i=aj
 ·subst h;simp[a8]
 ·simp[h]
theorem Ky:∀{n:Nat} {l:List Nat},l.Nodup->(∀i∈l,i<n)->l.length<=n
 |0,l,_,h=>by
  cases l with
  |nil=>simp
  |cons i l=>exact absurd (h i (c6 ..)) (by omega)
 |n+1,l,aO,h=>by
  by_cases cB:n∈l
  ·have J:=Ky (n:=n) (aO.erase n) (fun i a8=>by
    have an:=h i (List.mem_of_mem_erase a8)
    have aI:i≠n:=fun e=>by
     subst e;exact(aO.not_mem_erase) a8
    omega)
   rw[List.length_erase_of_mem cB] at J;omega
  ·have:=Ky (n:=n) aO fun i a8=>by
    have an:=h i a8;have aI:i≠n:=fun e=>cB (e▸a8)
    omega
   omega
theorem awg {ops:Array Oper} {Q:Exit->Act->World->Prop} {d:Nat->Nat} {cons:Nat->Option Nat} {S:Nat->Value->al->Prop} {W0:al} {a0:Act} (h:Um P ops Q d cons S W0 a0) (aH:∀aj k,cons aj=some k->aj<k∧k<ops.size):
  ∀(iR:Nat) (cx:Array Bool) (a:Act) (W:al),(∀l:List Nat,l.Nodup->(∀i∈l,i<ops.size∧cx.getD i false=false)->l.length<=iR)->Un ops d cons S W0 a0 cx a W->wpAny P .any ops Q iR cx a W.w:=by
 have gy:∀(cx:Array Bool) (a:Act) (W:al),Un ops d cons S W0 a0 cx a W->Region.ready .any ops cx=[]->Q .normal a W.w:=by
  intro cx a W bs aw
  
  have hc:∀n aj,aj<n->aj<ops.size->cx.getD aj false=true:=by
   intro n;induction n with
   |zero=>intro aj cu;omega
   |succ n cF=>
    intro aj cu bD;refine Classical.byContradiction fun cB=>?_
    have im:aj∈Region.ready .any ops cx:=by
     unfold Region.ready;refine lJ.2 ⟨vL.2 bD,?_⟩
     have J:cx.getD aj true=false:=by
      have pc:aj<cx.size:=by rw[bs.ls];exact bD
      simp only[mF,vI pc,ny] at cB ⊢;simpa using cB
     have bc:ops[aj]? =some ops[aj]:=vI bD;rw[J,bc];simp only[qi,eX,l6,ny];refine Array.all_eq_true'.2 fun e he=>?_
     cases I:Region.binds .any e with
     |false=>rfl
     |true=>
      have:=h.low aj _ bc e he I;rw[cF e.on (by omega) (by omega)];rfl
    rw[aw] at im;cases im
  exact h.gy a W bs.ext bs.frame bs.size bs.iC fun aj cu Kz=>bs.all aj cu (hc (aj+1) aj (by omega) cu) fun k aA=>by rw[Kz] at aA;cases aA
 intro iR;induction iR with
 |zero=>
  intro cx a W KA bs
  have aw:Region.ready .any ops cx=[]:=by
   rw[List.eq_nil_iff_forall_not_mem];intro i a8;unfold Region.ready at a8;obtain⟨J,an⟩:=lJ.1 a8;have vx:=vL.1 J;simp only[bT,hq] at an;have cp:i<cx.size:=by rw[bs.ls];exact vx
   have:=KA [i] (by simp) (fun aj cu=>by
    obtain rfl:=bd.1 cu;refine⟨vx,?_⟩;have aI:=an.1;simp only[mF,vI cp,ny] at aI ⊢;exact aI)
   simp at this
  exact⟨aw,gy cx a W bs aw⟩
 |succ iR cF=>
  intro cx a W KA bs;refine⟨gy cx a W bs,fun i a8=>?_⟩;unfold Region.ready at a8;obtain⟨J,an⟩:=lJ.1 a8;have vx:=vL.1 J;have bc:ops[i]? =some ops[i]:=vI vx;generalize ops[i]=o at bc;rw[bc] at an;simp only[bT,hq,l6,ny] at an;obtain⟨aI,cc⟩:=an;have cp:i<cx.size:=by rw[bs.ls];exact vx
  have CF:cx.getD i false=false:=by
   simp only[mF,vI cp,ny] at aI ⊢;exact aI
  have CG:∀e∈o.after,Region.binds .any e=true->cx.getD e.on false=true:=fun e he I=>by
   have:=Array.all_eq_true'.1 cc e he;rw[I] at this;simpa using this
  obtain⟨g1,g2,g3⟩:=h.dst i o bc;unfold wpOp;simp only[bc];have hw:Region.wanted o (yielded ops a.tmps)=true:=by unfold Region.wanted;rw[g2]
  rw[if_pos hw];refine .inl (Oper.wp_mono ?_ (h.step i o a W bc bs.ext bs.frame bs.size bs.iC fun e he I u5=>?_))
  ·rintro bB w' ⟨v,W',rfl,rfl,bM,bH,bo⟩;have k4:d i<a.tmps.size:=by rw[bs.size];exact g3
   refine cF _ _ _ (fun l aO hm=>?_) ⟨bs.ext.trans bM,fun t bb=>?_,by rw[awf];exact bs.size,by rw[put_defers];exact bs.iC,by simp[bs.ls],fun x hb j zY e he I=>?_,fun aj cu x8 Kz=>?_⟩
   ·have awh:i∉l:=fun ik=>by
     have:=(hm i ik).2;rw[CE cp] at this;simp at this
    have:=KA (i::l) (List.nodup_cons.2 ⟨awh,aO⟩) (fun aj cu=>by
     rcases dh.1 cu with e|e
     ·subst e;exact⟨vx,CF⟩
     ·refine⟨(hm aj e).1,?_⟩;have:=(hm aj e).2;rw[CE cp,k1] at this;exact this.1)
    simpa using this
   ·rw[awe (bb i vx)];exact bs.frame t bb
   ·rw[CE cp,h8] at zY ⊢;rcases zY with zY|zY
    ·exact .inl (bs.down x hb j zY e he I)
    ·obtain rfl:=of_decide_eq_true zY;rw[bc] at j;obtain rfl:=bm j;exact .inl (CG e he I)
   ·rw[CE cp,h8] at x8
    by_cases vy:i=aj
    ·subst vy;rw[awc k4];exact bH
    ·have x8:cx.getD aj false=true:=x8.resolve_right (by simpa using vy);have iA:d i≠d aj:=fun e=>vy (h.inj i aj vx cu e)
     rw[awd iA]
     have Uo:∀k,cons aj=some k->cx.getD k false=false∧k≠i:=fun k aA=>by
      have:=Kz k aA;rw[CE cp,k1] at this;exact⟨this.1,fun e=>by have:=this.2;rw[e] at this;simp at this⟩
     have c1:=bs.all aj cu x8 fun k aA=>(Uo k aA).1
     cases t_:cons aj with
     |none=>exact h.h3 aj _ W W' t_ bM c1
     |some k=>
      rcases bo with⟨iH,dG⟩|⟨EN,qF,awi⟩
      ·exact h.grow aj k _ W W' t_ bM iH dG c1
      ·exfalso;obtain⟨jg,e6⟩:=Uo k t_
       have awj:aj≠EN:=fun e=>by
        subst e;rw[t_] at qF;exact e6 (bm qF)
       have:=h.e2 aj k EN i t_ qF awj cu awi (fun x=>cx.getD x false) bs.down CF (fun hb Ds e he I=>by
        rw[bc] at Ds;obtain rfl:=bm Ds;exact CG e he I) x8
       rw[jg] at this;cases this
  ·have fr:=h.low i o bc e he I;refine bs.all e.on (by omega) (CG e he I) fun k aA=>?_
   rcases u5 with u5|u5
   ·rw[u5] at aA;cases aA
   ·rw[u5] at aA;obtain rfl:=bm aA;exact CF
theorem awk {ops:Array Oper} {Q:Exit->Act->World->Prop} {d:Nat->Nat} {cons:Nat->Option Nat} {S:Nat->Value->al->Prop} {W0:al} {a0:Act} (h:Um P ops Q d cons S W0 a0) (aH:∀aj k,cons aj=some k->aj<k∧k<ops.size):
  wpAny P .any ops Q ops.size (Array.replicate ops.size false) a0 W0.w:=by
 have cS:∀aj,(Array.replicate ops.size false).getD aj false=false:=fun aj=>by
  simp only[mF,Array.getElem?_replicate];split<;>rfl
 refine awg h aH _ _ _ _ (fun l aO hm=>?_) ⟨Ext.refl W0,fun _ _=>rfl,rfl,rfl,by simp,fun x o bc j=>(by rw[cS] at j;cases j),fun aj cu j=>(by rw[cS] at j;cases j)⟩;exact Ky aO fun i a8=>(hm i a8).1
variable {P:Program} {A:Type}
def iN:List (Nat×A)->Nat->Option A
 |[],_=>none
 |(k,s)::l,t=>if Nat.beq k t then some s else iN l t
def zZ (o:Oper) (i:Nat):Bool:=o.after.any fun e=>Region.binds .any e&&Nat.beq e.on i
def pG (o:Oper):Bool:=match o.op with
 | .call {callee:=.value _,..}=>true
 |_=>false
def FL (own:A->Bool) (b:Nat) (acc:List (Nat×A)) (o:Oper) (k t:Nat):Option A:=
 if Nat.ble b t&&zZ o (t-b) then match iN acc (t-b) with
  |some s=>if own s&&!(Nat.beq (t-b+1) k) then none else some s
  |none=>none
 else none
def Up (k:Nat) (o:Oper):Bool:=o.after.all fun e=>!(Region.binds .any e)||Nat.ble (e.on+1) k
def Uq (last:Option Nat) (o:Oper):Bool:=match last with
 |none=>true
 |some p=>!(pG o)||zZ o p
def Ur (own:A->Bool) (k:Nat) (o:Oper) (jn:Option Oper) (acc:List (Nat×A)) (s:A):Bool:=
 !(own s)||(pG o&&((match jn with|some n=>pG n&&zZ n k|none=>false)&&match iN acc (k-1) with|some s'=>!(own s')|none=>true))
def FM (b k:Nat) (o:Oper):Bool:=match o.dst with
 |some d=>Nat.beq d (b+k)&&o.guard.isNone
 |none=>false
def x9 (own:A->Bool) (abs:(Nat->Option A)->Oper->Option Oper->Option A) (b:Nat):Nat->Option Nat->List Oper->List (Nat×A)->Option (List (Nat×A))
 |_,_,[],acc=>some acc
 |k,last,o::l,acc=>
  if FM b k o&&(Up k o&&Uq last o) then match abs (FL own b acc o k) o l.head? with
   |some s=>if Ur own k o l.head? acc s then x9 own abs b (k+1) (if pG o then some k else last) l ((k,s)::acc) else none
   |none=>none
  else none
variable {own:A->Bool} {abs:(Nat->Option A)->Oper->Option Oper->Option A} {b:Nat}
structure Us (own:A->Bool) (abs:(Nat->Option A)->Oper->Option Oper->Option A) (b:Nat) (r:List (Nat×A)) (k:Nat) (o:Oper) (jn:Option Oper) (s:A):Prop where
 KB:iN r k=some s
 dst:FM b k o=true
 low:Up k o=true
 abs:∃acc,(∀i s,iN acc i=some s->iN r i=some s)∧abs (FL own b acc o k) o jn=some s
 own:own s=true->pG o=true∧(∃n,jn=some n∧pG n=true∧zZ n k=true)∧∀s',0<k->iN r (k-1)=some s'->own s'=false
theorem Ut:∀(l:List Oper) (k:Nat) (last:Option Nat) (acc r:List (Nat×A)),(∀i s,iN acc i=some s->i<k)->(∀i,i<k->(iN acc i).isSome=true)->x9 own abs b k last l acc=some r->
  (∀i s,iN acc i=some s->iN r i=some s)∧∀x o,l[x]? =some o->∃s,Us own abs b r (k+x) o l[x+1]? s
 |[],k,last,acc,r,fr,hc,h=>by
  obtain rfl:=bm h;exact⟨fun _ _ h=>h,fun x o h=>by simp at h⟩
 |o::l,k,last,acc,r,fr,hc,h=>by
  unfold x9 at h;split at h
  ·rename_i aH;simp only[bT] at aH;split at h
   ·rename_i s bD;split at h
    ·rename_i bc
     have qw:iN acc k=none:=by
      cases bP:iN acc k with
      |none=>rfl
      |some s'=>exact absurd (fr k s' bP) (Nat.lt_irrefl k)
     have bP:∀i s',iN acc i=some s'->iN ((k,s)::acc) i=some s':=fun i s' a8=>by
      unfold iN
      have:Nat.beq k i=false:=by
       have:=fr i s' a8;cases I:Nat.beq k i with
       |false=>rfl
       |true=>have:=eE I;omega
      rw[this];exact a8
     obtain⟨J,an⟩:=Ut l (k+1) _ ((k,s)::acc) r (fun i s' a8=>by
      unfold iN at a8;split at a8
      ·rename_i I;have:=eE I;omega
      ·have:=fr i s' a8;omega) (fun i a8=>by
      unfold iN;split
      ·rfl
      ·rename_i I;refine hc i ?_;have:k≠i:=fun e=>I (e▸Nat.beq_refl k)
       omega) h
     refine⟨fun i s' a8=>J i s' (bP i s' a8),fun x hb j=>?_⟩;cases x with
     |zero=>
      simp only[yf,nT] at j;subst j;have aY:(o::l)[0+1]? =l.head?:=by cases l<;>rfl
      refine⟨s,⟨J _ _ (by unfold iN;rw[ff,Nat.beq_refl];rfl),aH.1,aH.2.1,⟨acc,fun i s' a8=>J i s' (bP i s' a8),by rw[aY];exact bD⟩,fun hw=>?_⟩⟩;unfold Ur at bc;rw[hw] at bc;simp only[uf,kr,bT] at bc;obtain⟨ec,fc,fS⟩:=bc;refine⟨ec,?_,fun s' aA kY=>?_⟩
      ·rw[aY];cases aO:l.head? with
       |none=>rw[aO] at fc;cases fc
       |some n=>rw[aO] at fc;rw[ff];exact⟨n,rfl,by simpa using fc⟩
      ·have mj:=hc (k-1) (by omega);cases zP:iN acc (k-1) with
       |none=>rw[zP] at mj;cases mj
       |some s2=>
        have:=J _ _ (bP _ _ zP);rw[ff] at kY;rw[this] at kY;obtain rfl:=bm kY;rw[zP] at fS;simpa using fS
     |succ x=>
      have:=an x hb (by simpa using j);rw[show k+(x+1)=k+1+x from by omega];simpa using this
    ·cases h
   ·cases h
  ·cases h
theorem Uu (cx:Nat->Bool) (L:List Oper) (a_:∀x o,L[x]? =some o->cx x=true->∀e∈o.after,Region.binds .any e=true->cx e.on=true):
  ∀(l:List Oper) (k:Nat) (last:Option Nat) (acc r:List (Nat×A)),(∀x,l[x]? =L[k+x]?)->(∀i o,i<k->L[i]? =some o->pG o=true->∃p,last=some p∧(cx p=true->cx i=true))->x9 own abs b k last l acc=some r->
  ∀i aj o hb,L[i]? =some o->L[aj]? =some hb->pG o=true->pG hb=true->i<aj->k<=aj->cx aj=true->cx i=true
 |[],k,last,acc,r,hz,bf,h=>fun i aj o hb a8 cu J an vy awl aO=>by
  have:=hz (aj-k);rw[show k+(aj-k)=aj from by omega,cu] at this;simp at this
 |q::l,k,last,acc,r,hz,bf,h=>by
  unfold x9 at h;split at h
  ·rename_i aH;simp only[bT] at aH;have bg:L[k]? =some q:=by have:=hz 0;rw[ff] at this;rw[<-this];rfl
   have key:pG q=true->cx k=true->∀i o,i<k->L[i]? =some o->pG o=true->cx i=true:=fun z1 aA i o uF a8 bc=>by
    obtain⟨p,hp,awm⟩:=bf i o uF a8 bc;refine awm ?_;have:=aH.2.2;unfold Uq at this;rw[hp] at this;dsimp only at this;rw[z1] at this;simp only[uf,kr] at this;unfold zZ at this;obtain⟨e,he,aI⟩:=Array.any_eq_true'.1 this;simp only[bT] at aI;have:=a_ k q bg aA e he aI.1;rw[eE aI.2] at this;exact this
   split at h
   ·rename_i s bD;split at h
    ·intro i aj o hb a8 cu J an vy awl aO
     by_cases Dv:aj=k
     ·subst Dv;rw[bg] at cu;obtain rfl:=bm cu;exact key an aO i o vy a8 J
     ·refine Uu cx L a_ l (k+1) _ _ r (fun x=>?_) (fun i o uF a8 bc=>?_) h i aj o hb a8 cu J an vy (by omega) aO
      ·have:=hz (x+1);rw[rZ] at this;rw[this];congr 1;omega
      ·by_cases z1:pG q=true
       ·rw[if_pos z1];refine⟨k,rfl,fun aA=>?_⟩
        by_cases awn:i=k
        ·subst awn;exact aA
        ·exact key z1 aA i o (by omega) a8 bc
       ·rw[if_neg z1];refine bf i o ?_ a8 bc
        have:i≠k:=fun e=>by
         subst e;rw[bg] at a8;obtain rfl:=bm a8;exact z1 bc
        omega
    ·cases h
   ·cases h
  ·cases h
theorem Uv {acc:List (Nat×A)} {o:Oper} {k t:Nat} {s:A} (h:FL own b acc o k t=some s):∃i,t=b+i∧iN acc i=some s∧(∃e∈o.after,Region.binds .any e=true∧e.on=i)∧(own s=true->i+1=k):=by
 unfold FL at h;split at h
 ·rename_i aH;simp only[bT] at aH;have ayG:=l7 aH.1;split at h
  ·rename_i s' kY;split at h
   ·cases h
   ·rename_i cB;obtain rfl:=bm h;refine⟨t-b,by omega,kY,?_,fun bc=>?_⟩
    ·obtain⟨e,he,aI⟩:=Array.any_eq_true'.1 aH.2;simp only[bT] at aI;exact⟨e,he,aI.1,eE aI.2⟩
    ·rw[bc] at cB;simp only[eX,hq,Bool.not_eq_false] at cB;exact eE cB
  ·cases h
 ·cases h
theorem awo {ops:Array Oper} {Q:Exit->Act->World->Prop} {hold:A->Value->al->Prop} {W0:al} {a0:Act} {r:List (Nat×A)} (h:x9 own abs b 0 none ops.toList []=some r) (k4:b+ops.size<=a0.tmps.size)
  (awp:∀s v W W',own s=false->Ext W W'->hold s v W->hold s v W')
  (awq:∀s v W W',own s=true->Ext W W'->hn W.w W'.w->(∀b,W'.aV b->W.aV b∨W.w.heap.size<=b)->hold s v W->hold s v W')
  (awr:∀g o jn s a (W:al),abs g o jn=some s->(∀t s',g t=some s'->hold s' (a.eval (.tmp t)) W)->(∀t,t<b->a.tmps[t]? =a0.tmps[t]?)->a.defers=a0.defers->Ext W0 W->
   o.wp P a W.w (fun bB w'=>∃v W',bB=a.put o.dst v∧W'.w=w'∧Ext W W'∧hold s v W'∧((hn W.w w'∧∀b,W'.aV b->W.aV b∨W.w.heap.size<=b)∨∃t s',g t=some s'∧own s'=true)) Q)
  (Cy:∀a (W:al),Ext W0 W->(∀t,t<b∨b+ops.size<=t->a.tmps[t]? =a0.tmps[t]?)->a.tmps.size=a0.tmps.size->a.defers=a0.defers->(∀aj s,iN r aj=some s->own s=false->aj<ops.size->hold s (a.eval (.tmp (b+aj))) W)->Q .normal a W.w):
  wpAny P .any ops Q ops.size (Array.replicate ops.size false) a0 W0.w:=by
 have ee:∀x o,ops[x]? =some o->∃s,Us own abs b r x o ops[x+1]? s:=fun x o j=>by
  have:=(Ut ops.toList 0 none [] r (fun i s a8=>by simp[iN] at a8) (fun i a8=>by omega) h).2 x o (by simpa using j);simpa using this
 have pd:=fun cx a_=>Uu (own:=own) (abs:=abs) (b:=b) cx ops.toList a_ ops.toList 0 none [] r (fun x=>by rw[mY]) (fun i o a8=>by omega) h
 let cons:Nat->Option Nat:=fun i=>if i<ops.size then match iN r i with
  |some s=>if own s then some (i+1) else none
  |none=>none else none
 let S:Nat->Value->al->Prop:=fun aj v W=>aj<ops.size∧∃s,iN r aj=some s∧hold s v W
 have t_:∀i k,cons i=some k->k=i+1∧i<ops.size∧∃s,iN r i=some s∧own s=true:=fun i k aA=>by
  dsimp only [cons] at aA;split at aA
  ·rename_i a8;split at aA
   ·rename_i s bD;split at aA
    ·rename_i bc;exact⟨(bm aA).symm,a8,s,bD,bc⟩
    ·cases aA
   ·cases aA
  ·cases aA
 have KC:∀i s,i<ops.size->iN r i=some s->own s=true->cons i=some (i+1):=fun i s a8 bD bc=>by
  dsimp only [cons];rw[if_pos a8,bD];simp[bc]
 have Uw:∀i s,iN r i=some s->own s=false->cons i=none:=fun i s bD bc=>by
  dsimp only [cons];split
  ·rw[bD];simp[bc]
  ·rfl
 have fB:∀i k,cons i=some k->∃o n,ops[i]? =some o∧ops[k]? =some n∧pG o=true∧pG n=true∧k=i+1∧(∀dA,cons k=some dA->False)∧zZ n i=true:=fun i k aA=>by
  obtain⟨rfl,a8,s,bD,bc⟩:=t_ i k aA;have BD:ops[i]? =some ops[i]:=vI a8;obtain⟨s',kY⟩:=ee i _ BD;have:=kY.KB;rw[bD] at this;obtain rfl:=bm this;obtain⟨J,⟨n,cB,an,bu⟩,aI⟩:=kY.own bc;refine⟨_,n,BD,cB,J,an,rfl,fun dA dC=>?_,bu⟩;obtain⟨_,_,s2,mj,w4⟩:=t_ _ _ dC;obtain⟨Dh,kI⟩:=ee _ _ cB;have:=kI.KB;rw[mj] at this;obtain rfl:=bm this;have:=(kI.own w4).2.2 s (by omega) (by simpa using bD);rw[bc] at this;cases this
 refine awk (d:=fun aj=>b+aj) (cons:=cons) (S:=S) ⟨fun aj o bc=>?_,fun i aj _ _ e=>by omega,fun aj o bc e he I=>?_,fun aj v W W' aH x c1=>?_,fun aj k v W W' aH x bP bf c1=>?_,fun i k aj l uF pc vy a8 cu cx a_ aO CG CF=>?_,fun x o a W bc fa pR bD zX c1=>?_,fun a W fa pR bD zX c1=>?_⟩ fun aj k aA=>?_
 ·obtain⟨s,bD⟩:=ee aj o bc;have J:=bD.dst;unfold FM at J;split at J
  ·rename_i d a_;simp only[bT] at J;have:=(fq.1 bc).1;refine⟨by rw[a_,eE J.1],?_,by show b+aj<_;omega⟩;cases bP:o.guard with
   |none=>rfl
   |some _=>rw[bP] at J;cases J.2
  ·cases J
 ·obtain⟨s,bD⟩:=ee aj o bc;have:=Array.all_eq_true'.1 bD.low e he;rw[I] at this;exact l7 this
 ·obtain⟨cu,s,bD,aY⟩:=c1;refine⟨cu,s,bD,?_⟩;cases bc:own s with
  |false=>exact awp s v W W' bc x aY
  |true=>rw[KC aj s cu bD bc] at aH;cases aH
 ·obtain⟨cu,s,bD,aY⟩:=c1;obtain⟨_,_,s',kY,bc⟩:=t_ aj k aH;rw[bD] at kY;obtain rfl:=bm kY;exact⟨cu,s,bD,awq s v W W' bc x bP bf aY⟩
 ·obtain⟨ec,aQ,g1,g2,g3,g4,rfl,g6,g7⟩:=fB i k uF;obtain⟨fc,bz,b0,bZ,eG,gu,rfl,il,mR⟩:=fB aj l pc;have chain:=pd cx fun x o j=>a_ x o (by simpa using j)
  have x8:cx aj=true:=by
   obtain⟨e,he,aI⟩:=Array.any_eq_true'.1 mR;simp only[bT] at aI;have:=CG bz bZ e he aI.1;rw[eE aI.2] at this;exact this
  by_cases fr:i<aj
  ·by_cases he:i+1=aj
   ·exact absurd (he▸pc) (fun h=>g6 _ h)
   ·exact chain (i+1) aj aQ fc (by simpa using g2) (by simpa using b0) g4 eG (by omega) (dr _) x8
  ·by_cases he:aj+1=i
   ·exact absurd (he▸uF) (fun h=>il _ h)
   ·have:=chain (aj+1) i bz ec (by simpa using bZ) (by simpa using g1) gu g3 (by omega) (dr _) CF;rw[aO] at this;cases this
 ·obtain⟨s,bD⟩:=ee x o bc;obtain⟨acc,FN,aws⟩:=bD.abs;have iM:=(fq.1 bc).1;refine Oper.wp_mono ?_ (awr _ o _ s a W aws (fun t s' bb=>?_) (fun t bb=>pR t fun aj _=>by show b+aj≠t;omega) zX fa)
  ·rintro bB w' ⟨v,W',rfl,J,an,aI,cc⟩;refine⟨v,W',?_,J,an,⟨iM,s,bD.KB,aI⟩,cc.imp id fun⟨t,s',g1,g2⟩=>?_⟩
   ·have J:=bD.dst;unfold FM at J;split at J
    ·rename_i d a_;simp only[bT] at J;rw[a_,eE J.1]
    ·cases J
   ·obtain⟨i,rfl,b0,⟨e,he,bZ,eG⟩,gu⟩:=Uv g1;have a8:i<ops.size:=by have:=gu g2;omega
    exact⟨i,by rw[KC i s' a8 (FN _ _ b0) g2,gu g2],a8⟩
  ·obtain⟨i,rfl,b0,⟨e,he,bZ,eG⟩,gu⟩:=Uv bb;subst eG
   have GQ:cons e.on=none∨cons e.on=some x:=by
    cases w4:own s' with
    |false=>exact .inl (Uw _ _ (FN _ _ b0) w4)
    |true=>
     refine .inr ?_;have:=gu w4;rw[KC e.on s' (by omega) (FN _ _ b0) w4,this]
   obtain⟨_,s2,an,aI⟩:=c1 e he bZ GQ;rw[FN _ _ b0] at an;obtain rfl:=bm an;exact aI
 ·refine Cy a W fa (fun t bb=>pR t fun aj cu=>by show b+aj≠t;omega) bD zX fun aj s cu bc wA=>?_
  obtain⟨_,s2,an,aI⟩:=c1 aj wA (Uw _ _ cu bc);rw[cu] at an;obtain rfl:=bm an;exact aI
 ·obtain⟨ec,aQ,g1,g2,g3,g4,rfl,g6,g7⟩:=fB aj k aA;exact⟨by omega,(fq.1 g2).1⟩
variable {P:Program}
theorem awt {ev:Operand->Value} {o:Oper} {kN:Operand} {args:Array Operand} {ts:Array TypeId} (nO:o.op= .call ⟨.value kN,args,ts⟩) {f:FuncId} {caps:Array Value} (bs:ev kN= .func (.func f) #[] caps) {fn:Func} (j7:P.funcs[f]? =some fn)
  (I:fn.body.isSome=true) (bP:(fn.name== "runtime.NumGoroutine")=false) (w:World):(execOp ev o).run P w= .ok (.enter f (args.map ev++caps)) w:=by
 obtain⟨dst,op,kD,pos,after,guard⟩:=o;dsimp only at nO;subst nO;have aI:fn.body.isNone=false:=by cases hA:fn.body<;>simp_all
 simp only[execOp,resolve,Deferred.ofValue,bs,Sem.run_bind,Sem.run_pure,Result.andThen_ok,invoke,callFunc,run_program,j7];simp only[bP,rX,if_false,aI,Sem.run_pure];simp
theorem Ux (z:Nat):∀(vs:List Value) (k:Nat) (pre rest:List Value),pre.length=k*z->rest.length=vs.length*z->(∀v∈vs,v.cells.size=z)->
  Instr.fill (fun i=>some (i*z,z)) (pre++rest).toArray ((vs.zipIdx k).map fun x=>(x.2,x.1))=some (pre++vs.flatMap fun v=>v.cells.toList).toArray
 |[],k,pre,rest,J,an,aI=>by
  have:rest=[]:=yc (by simpa using an);subst this;simp[Instr.fill]
 |v::vs,k,pre,rest,J,an,aI=>by
  have aB:=aI v (c6 ..);simp only[e5,sT,Nat.one_mul] at an;have k4:v.cells.toList.length=z:=by simpa using aB
  have bs:=Gi v.cells.toList (pre++rest) (k*z) 0 (by rw[k4,fR];omega)
  have cS:∀A:Array Value,v.cells.zipIdx.foldl (fun cs (c,aj)=>cs.setIfInBounds (k*z+aj) c) A=v.cells.toList.zipIdx.foldl (fun cs (x:Value×Nat)=>cs.setIfInBounds (k*z+x.2) x.1) A:=fun A=>by
   rw[<-Array.foldl_toList,Array.toList_zipIdx]
  simp only[List.zipIdx_cons,jo,Instr.fill];rw[if_neg (by simp[aB,J,an])];rw[cS,bs];have a7:(pre++rest).take (k*z+0)=pre:=by rw[ff,<-J,List.take_left]
  have bh:(pre++rest).drop (k*z+0+v.cells.toList.length)=rest.drop z:=by rw[ff,k4,<-J,List.drop_append];simp
  rw[a7,bh];have:=Ux z vs (k+1) (pre++v.cells.toList) (rest.drop z) (by rw[fR,k4,J,sT,Nat.one_mul]) (by rw[sV];omega) (fun u hu=>aI u (dq _ hu));rw[this];simp
theorem FO {ev:Operand->Value} {o:Oper} {t el:TypeId} {len:Nat} {cw:Array (Nat×Operand)} (nO:o.op= .buildSlice t len cw) (hu:P.underlying t=some (.slice el)) {i:TypeInfo} (a8:P.info? el=some i) {wD:Value} (cS:i.zero=some wD)
  (vs:List Value) (HG:cw.toList.map (fun p=>(p.1,ev p.2))=vs.zipIdx.map fun x=>(x.2,x.1)) (aO:vs.length=len) (bD:∀v∈vs,v.cells.size=i.size) (wR:0<len*i.size) (hle:len*i.size<=100000) (w:World):
  (execOp ev o).run P w= .ok (.value (.slice (some ⟨w.heap.size,0,none⟩) len len)) (w.alloc (.cells (vs.flatMap fun v=>v.cells.toList).toArray el)):=by
 obtain⟨dst,op,kD,pos,after,guard⟩:=o;dsimp only at nO;subst nO;have J:=Ux i.size vs 0 [] (((Array.range (len*i.size)).map (wD.cells[· % wD.cells.size]!)).toList) (by simp) (by simp[aO]) bD;have aI:(cw.map fun p=>(p.1,ev p.2)).toList=(vs.zipIdx 0).map fun x=>(x.2,x.1):=by rw[sP];exact HG
 have kY:(sizeOf el).run P w= .ok i.size w:=by simp[sizeOf,typeInfo,a8]
 have AF:(zeroValue el).run P w= .ok wD w:=by simp[zeroValue,typeInfo,a8,cS]
 have gv:¬(len*i.size>2^24):=by omega
 have bk:¬(len*i.size=0):=by omega
 simp only[execOp,Instr.buildSlice,Sem.run_bind,run_underlying hu,Result.andThen_ok,kY,Sem.run_pure,aI];rw[if_neg gv];simp only[bk,if_false,Sem.run_bind,AF,Result.andThen_ok,Sem.run_pure];rw[sU,Array.toArray_toList] at J;rw[J];simp[newRow]
theorem awu {o:Oper} {a:Act} {w:World} {v:Value} {next:Act->World->Prop} {Q:Exit->Act->World->Prop} (h:(execOp a.eval o).run P w= .ok (.value v) w) (cB:next (a.put o.dst v) w):o.wp P a w next Q:=by
 unfold Oper.wp;rw[h];exact cB
theorem awv {o:Oper} {a:Act} {w w':World} {v:Value} {next:Act->World->Prop} {Q:Exit->Act->World->Prop} (h:(execOp a.eval o).run P w= .ok (.value v) w') (cB:next (a.put o.dst v) w'):o.wp P a w next Q:=by
 unfold Oper.wp;rw[h];exact cB
theorem KD {o:Oper} {a:Act} {W:al} {f:FuncId} {args:Array Value} {R:Value->World->Prop} {next:Act->World->Prop} {Q:Exit->Act->World->Prop} (h:(execOp a.eval o).run P W.w= .ok (.enter f args) W.w) {W1:al} (e:W1.w=W.w) (aH:gR P f args W1 R)
  (cB:∀v w',cO W1 w'->R v w'->next (a.put o.dst v) w'):o.wp P a W.w next Q:=by
 unfold Oper.wp;rw[h];have aH:=aH;unfold gR bK at aH;rw[e] at aH;refine Calls.mono aH ?_;rintro e w' ⟨aA,v,rfl,gg⟩;exact cB v w' aA gg
theorem Uy (w:World):hn w w:=⟨rfl,rfl,rfl,e9 _,fun _ _=>rfl⟩
theorem aww (w:World) (o:Obj):hn w (w.alloc o):=Below.alloc (Uy w) (e9 _) o
theorem FP (W:al) {cs:Array Value} {ty:TypeId} {n z:Nat} (aO:cs.toList.length=n*z):b_ (W.td (.cells cs ty)) (some ⟨W.w.heap.size,0,none⟩) n n z cs.toList:=by
 have h:(W.td (.cells cs ty)).w.heap[W.w.heap.size]? =some (.cells cs.toList.toArray ty):=by
  show(W.w.heap.push _)[_]? =_;rw[Array.getElem?_push_size]
 obtain⟨J,an,aI⟩:=pj h aO;refine⟨J,an,aI.imp id ?_⟩;rintro⟨b,o,e,_,I,aH⟩;have:b=W.w.heap.size:=by injection e with e;injection e with a7 bh;exact a7.symm
 exact⟨b,o,e,.inr this,I,aH⟩
variable {P:Program}
def mid (k:Nat):Code->Option (Array Oper×Code×Code)
 | .seq a b=>if ll k a then none else if p5 k b then(match b with
   | .seq (.seq (.region id ops true) oD) gy=>some (ops,oD,gy)
   |_=>none) else mid k b
 |_=>none
theorem awx {k:Nat} {ops:Array Oper} {oD gy:Code} {Q:Exit->Act->World->Prop} {a:Act} {w:World}:∀(c:Code),mid k c=some (ops,oD,gy)->
  (∀id,(Code.region id ops true).wp P (Exit.then (oD.wp P (Exit.then (gy.wp P Q) Q)) (Exit.then (gy.wp P Q) Q)) a w)->p6 P k c Q a w:=by
 intro c;induction c with
 |seq x y _ cF=>
  intro h hw;simp only[mid] at h;simp only[p6];split at h
  ·cases h
  ·rename_i J;rw[if_neg J];split at h
   ·rename_i an;rw[if_pos an];split at h
    ·rename_i id awy awz awA
     obtain⟨rfl,rfl,rfl⟩:awy=ops∧awz=oD∧awA=gy:=by
      have:=bm h;injection this with a7 bh
      injection bh with bh c8
      exact⟨a7,bh,c8⟩
     exact wp_seq (wp_seq (hw id))
    ·cases h
   ·rename_i an;rw[if_neg an];exact cF h hw
 |_=>intro h;cases h
theorem KE {fn:Func} {W:al} {R:Ending->World->Prop} (L:ha) (ρ:aX) (W1:al):pV P W.w.heap.size W R L ρ W1 (BH P fn) (bodyPost P fn fun e w'=>cO W w'∧R e w'):=by
 intro x s' cR e M bB W' J gE gC an aI
 have gy:∀r,so P s' fn.results.toList=some r->cR= .ret (sq r) (mb s'.hp r) (mb s'.ro r) s'.rw->
   bB.defers=[]∧∃v,(results fn bB.tmps).run P W'.w= .ok v W'.w∧(cO W W'.w∧R (.returned v) W'.w):=by
  rintro r aw rfl;refine⟨an.iC,_,HS an aw,cO.CZ an.ext,?_⟩;exact aI (fun b I=>an.hp b (yY b I)) (fun b I=>an.ro b (yY b I)) an.rw ⟨an.lA,fun r aw k aA=>(an.gS r aw k aA).1⟩
 cases x with
 |exit i=>cases J
 |iJ=>
  dsimp only [BH] at J;split at J
  ·rename_i r aw;exact gy r aw (bm J).symm
  ·cases J
 |ret=>
  dsimp only [BH] at J;split at J
  ·rename_i r aw;exact gy r aw (bm J).symm
  ·cases J
theorem KF {fn:Func} {W:al} {R:Ending->World->Prop}:k_ W R (bodyPost P fn fun e w'=>cO W w'∧R e w'):=⟨fun cD a w' J an aI=>⟨J,an,aI⟩,fun cD a d v w' h=>by
 obtain⟨J,an⟩:=h;exact⟨by cases d<;>exact J,an⟩⟩
def KG (P:Program) (cf:ds) (fn:Func) (k:Nat) (S:bC):Option Tree:=match fn.body with
 |some kG=>match mid k kG with
  |some (_,oD,gy)=>kU P cf (tn P cf cf.depth) oD S fun x s=>match x with
   | .iJ=>kU P cf (tn P cf cf.depth) gy s (BH P fn)
   |x=>BH P fn x s
  |none=>none
 |none=>none
theorem awB {fn:Func} {kG:Code} (I:fn.body=some kG) (cf:ds) (k:Nat) {ops:Array Oper} {oD gy:Code} (hm:mid k kG=some (ops,oD,gy)) {S:bC} {t:Tree} (j:KG P cf fn k S=some t) {W0 W:al} {R:Ending->World->Prop} {ρ:aX} {a:Act}
  (aY:Holds W0.w.heap.size W0 ρ S a W) (aO:S.fh=0) (ft:t.ak P W0.w.heap.size R [] ρ W):
  oD.wp P (Exit.then (gy.wp P (bodyPost P fn fun e w'=>cO W0 w'∧R e w')) (bodyPost P fn fun e w'=>cO W0 w'∧R e w')) a W.w:=by
 unfold KG at j;rw[I] at j;dsimp only at j;rw[hm] at j;dsimp only at j;have bf:=tq (P:=P) cf cf.depth;refine DQ bf oD S _ t [] ρ a W _ (KF.wF _) j aY aO ft ?_;intro z s' cR e M bB W' J gE gC an aI;cases z with
 |iJ=>exact DQ bf gy s' _ cR ([]++M) (ρ.push e) bB W' _ KF J an gC aI (KE _ _ _)
 |exit id=>exact KE [] ρ W (.exit id) s' cR e M bB W' J gE gC an aI
 |ret=>exact KE [] ρ W .ret s' cR e M bB W' J gE gC an aI
def KH (P:Program) (cf:ds) (fn:Func) (x:Cut) (args:List af) (c:dj):Option Tree:=match fn.body with
 |some kG=>tH P cf (tn P cf cf.depth) [x] kG (sr args fn.ntmps [] [] [] c) fun _ _=>none
 |none=>none
theorem awC {f:FuncId} {fn:Func} (bs:P.funcs[f]? =some fn) {kG:Code} (I:fn.body=some kG) (cf:ds) (x:Cut) (args:List af) (ρ:aX) (t:Tree) (j:KH P cf fn x args ρ.cT=some t) (bP:ρ.ew) {W:al} {R R1:Ending->World->Prop}
  (ft:t.ak P W.w.heap.size R1 [] ρ W) (gg:∀cD w',¬R1 (.panicked cD) w') (awD:∀d M bB W',Ext W W'->Holds W.w.heap.size W (ρ.push d) x.S bB W'->x.T.ak P W.w.heap.size R1 M (ρ.push d) W'->p6 P x.k kG (bodyPost P fn fun e w'=>cO W w'∧R e w') bB W'.w):
  bK P f (af.b2 ρ args).toArray W R:=by
 unfold KH at j;rw[I] at j;refine calls_of_wp bs I ?_;have b8:k_ W R1 (bodyPost P fn fun e w'=>cO W w'∧R e w'):=⟨fun cD a w' J an aI=>absurd aI (gg cD w'),KF.put⟩
 exact IC (tq (P:=P) cf cf.depth) kG _ _ t [] ρ _ W _ b8 j (Ng args fn.ntmps ρ bP [] [] [] W (e9 _) (fun r aw=>by cases aw) (fun r aw=>by cases aw) List.Pairwise.nil (fun b I=>by cases I) (fun b I=>by cases I) List.Pairwise.nil (fun b I=>by cases I) (fun b I=>by cases I)) rfl ft
  (fun y s' cR e M bB W' J=>by cases J) fun y bE aH=>by
  obtain rfl:=bd.1 bE;exact fun d M bB W' gE J an aI=>awD d _ bB W' gE J aI
end Go.cK
end
end
section
namespace Go.Proofs.YtkpjmlnhhggenaaGreatDoor
open Go.Proofs.Tryz Go Go.RowKit Go.cK
inductive gP where
 |out|at_|FQ
 |dc (n:ab.dM)
 |FR (l:List ab.dM)
 |own (p:ab.dR)
 |av (p:ab.dR)
 |row (p:ab.dR) (e:Int)
 |ay (k:Int)
 |FT (x:ab.Var)
 |FU (l:List ab.Var)
 |lk (l:List ab.aM)
 |rows (l:List (ab.dR×Int))
 |num (n:Int)
def CH:gP->Bool
 | .own _=>true
 |_=>false
abbrev CI:TypeId:=25
abbrev z6:TypeId:=37
def Uz (g:Nat->Option gP):Operand->Option ab.dM
 | .tmp t=>match g t with
  |some (.dc n)=>some n
  |_=>none
 |_=>none
def UA (g:Nat->Option gP):Operand->Option (ab.dR×Int)
 | .tmp t=>match g t with
  |some (.row p e)=>some (p,e)
  |_=>none
 |_=>none
def CJ {α:Type} (f:Operand->Option α):Nat->List (Nat×Operand)->Option (List α)
 |_,[]=>some []
 |k,(i,x)::l=>if Nat.beq i k then match f x,CJ f (k+1) l with
   |some n,some ns=>some (n::ns)
   |_,_=>none
  else none
def turns (jn:Option Oper):Bool:=match jn with
 |some n=>match n.op with
  | .call ⟨.value (.tmp _),xs,_⟩=>Nat.beq xs.size 3
  |_=>false
 |none=>false
def small (p:ab.dR):Bool:=Nat.ble p.bj.length 1000&&Nat.ble p.ao.length 1000
def FV (jn:Option Oper) (p:ab.dR):Option gP:=if small p then some (if turns jn then .own p else .av p) else none
def KI (g:Nat->Option gP) (jn:Option Oper) (kN:Operand):List Operand->Option gP
 |[x]=>match kN,x with
  | .func f,.tmp t=>match g t with
   |some (.FR l)=>if Nat.beq f 11&&Nat.ble l.length 1000 then FV jn (ez.line l) else none
   |_=>none
  | .func f,.const (.slice none 0 0)=>if Nat.beq f 11 then FV jn (ez.line []) else none
  | .tmp t,.tmp u=>match g t,g u with
   |some .out,some (.dc n)=>some (.dc (ez.out n))
   |_,_=>none
  |_,_=>none
 |[x,y]=>match kN,x,y with
  | .tmp t,.tmp u,.const (.int .i64 k)=>match g t,g u with
   |some .at_,some (.dc n)=>some (.dc (ez.at' n k))
   |_,_=>none
  |_,_,_=>none
 |[x,y,z]=>match kN,x,y,z with
  | .tmp t,.tmp u,.const (.int .i64 i),.const (.int .i64 aj)=>match g t,g u with
   |some .FQ,some (.own p)=>some (.av (ez.rV p i aj))
   |_,_=>none
  |_,_,_,_=>none
 |_=>none
def UB:af->Option (ab.dM×af×af)
 | .agg [.str (.bN aT),.int .u8 (.aE ay),.int .i64 (.aE bp),.int .i64 (.aE on),.int .u8 (.aE ev),.str (.bN key),.str (.bN ca),.str (.bN set),.bool (.dB cb),x,y]=>
  if decide (0<=ay)&&decide (ay<256) then some (⟨aT,ay,bp,on,ev,key,ca,set,cb,[],[]⟩,x,y) else none
 |_=>none
def UC:List (Nat×Operand)->Option Nat
 |[]=>none
 |(_,.tmp t)::_=>some t
 |_::l=>UC l
def z7 (n:Nat):af:=.bt 0 (.aE n) (.aW 0)
def CK (P:Program) (az:eJ) (o:Op):Option (ab.dM×af×af):=match r4 P false az [] [] o with
 |some ([],s)=>UB s
 |_=>none
def KJ (P:Program) (g:Nat->Option gP) (o:Op) (cw:List (Nat×Operand)):Option gP:=match UC cw with
 |none=>match CK P [] o with
  |some (n,.db,.db)=>some (.dc n)
  |_=>none
 |some t=>match g t with
  |some (.FU l)=>match CK P [(t,some (z7 l.length))] o with
   |some (n,x,.db)=>if af.eb x (z7 l.length) then some (.dc {n with vars:=l}) else none
   |_=>none
  |some (.lk l)=>match CK P [(t,some (z7 l.length))] o with
   |some (n,.db,y)=>if af.eb y (z7 l.length) then some (.dc {n with bL:=l}) else none
   |_=>none
  |_=>none
def KK (g:Nat->Option gP) (ty:TypeId):List (Nat×Operand)->Option gP
 |[(0,.tmp t),(1,.const (.int .i64 e))]=>match g t with
  |some (.av p)=>if Nat.beq ty z6 then some (.row p e) else none
  |_=>none
 |[(0,.const (.int .u8 k))]=>if Nat.beq ty 39 then some (.ay k) else none
 |[(0,.const (.string s)),(1,.tmp t)]=>match g t with
  |some (.ay k)=>if Nat.beq ty 41 then some (.FT ⟨s.data.toList,k,0,[]⟩) else none
  |_=>none
 |_=>none
def KL (g:Nat->Option gP) (ty:TypeId) (len:Nat) (cw:List (Nat×Operand)):Option gP:=
 if Nat.beq ty 28 then match CJ (Uz g) 0 cw with
  |some l=>if Nat.beq l.length len&&(Nat.ble 1 len&&Nat.ble len 1000) then some (.FR l) else none
  |none=>none
 else if Nat.beq ty 42 then match CJ (UA g) 0 cw with
  |some l=>if Nat.beq l.length len&&(Nat.ble 1 len&&Nat.ble len 1000) then some (.rows l) else none
  |none=>none
 else match cw with
  |[(0,.tmp t)]=>match g t with
   |some (.FT x)=>if Nat.beq ty 22&&Nat.beq len 1 then some (.FU [x]) else none
   |_=>none
  |[(0,.const (.string s))]=>if Nat.beq ty 23&&Nat.beq len 1 then some (.lk [s.data.toList]) else none
  |_=>none
def KM (P:Program) (g:Nat->Option gP) (o:Oper) (jn:Option Oper):Option gP:=match o.op with
 | .move (.tmp t)=>if Nat.beq t 2 then some .out else if Nat.beq t 7 then some .FQ else none
 | .move (.const (.int .i64 n))=>some (.num n)
 | .load ty (.tmp t)=>if Nat.beq ty 26 then(if Nat.beq t 1 then some .at_ else none)
  else if Nat.beq ty CI then(if Nat.beq t 3 then some (.dc ez.start) else if Nat.beq t 4 then some (.dc ez.q1) else if Nat.beq t 5 then some (.dc ez.pF) else if Nat.beq t 6 then some (.dc ez.part) else none)
  else none
 | .call ⟨.value kN,xs,_⟩=>KI g jn kN xs.toList
 | .call ⟨.builtin .len,xs,ts⟩=>match xs.toList,ts.toList with
  |[.tmp t],[ty]=>match g t with
   |some (.rows l)=>if Nat.beq ty 42 then some (.num l.length) else none
   |_=>none
  |_,_=>none
 | .build ty cw=>if Nat.beq ty CI then KJ P g (.build ty cw) cw.toList else KK g ty cw.toList
 | .buildSlice ty len cw=>KL g ty len cw.toList
 |_=>none
def UD (P:Program):Option (Array Oper×Code×Code):=((P.funcs[3]?).bind (·.body)).bind (mid 8)
def FW (P:Program):Array Oper:=match UD P with
 |some r=>r.1
 |none=>#[]
def KN (P:Program):Option (List (Nat×gP)):=x9 CH (KM P) 20 0 none (FW P).toList []
def CL (P:Program):List (Nat×gP):=(KN P).getD []
theorem awE:(KN prog).isSome=true:=by kernel_rfl
theorem awF:iN (CL prog) 285=some (.rows ez.x6):=by kernel_rfl
theorem awG:iN (CL prog) 286=some (.num 36)∧iN (CL prog) 287=some (.num 0):=⟨by kernel_rfl,by kernel_rfl⟩
theorem awH:(FW prog).size=288:=by kernel_rfl
abbrev awI:TypeId:=33
abbrev x_ (r:cP×Int):List Value:=gA r.1++[.int .i64 r.2]
theorem UE (r:cP×Int):(x_ r).length=5:=rfl
structure UF (q:cP) (W:al):Prop where
 gX:q.vars.length<=1000000
 h6:q.ao.length<=1000000
 mU:q.bj.length<=1000
 pv:∀x∈q.vars,n6 x
 fn:∀v∈q.ao,np v W
 vs:b_ W q.bx q.vars.length q.bA 4 (q.vars.flatMap e7)
 ns:b_ W q.eL q.ao.length q.eF 11 (q.ao.flatMap dN)
 kN:W.w.ownsRow 0 awI 4 (.slice q.ea q.bj.length q.ef) q.bj.length (q.bj.flatMap ko)
 UG:∀k,(Value.slice q.ea q.bj.length q.ef).ownBlock=some k->¬W.aV k
def UH (m:Nat):Value:=.func (.func 9) #[] #[.pointer (some ⟨m,0,none⟩)]
def CM:Value:=.func (.func 8) #[] #[]
def UI:Value:=.func (.func 10) #[] #[]
def hold (m:Nat):gP->Value->al->Prop
 | .out,v,_=>v=UH m
 | .at_,v,_=>v=CM
 | .FQ,v,_=>v=UI
 | .dc n,v,W=>∃u:d_,u.n=n∧v= .agg (dN u).toArray∧np u W
 | .FR l,v,W=>∃(us:List d_) (a:Option Addr) (c:Nat),us.map (·.n)=l∧v= .slice a us.length c∧b_ W a us.length c 11 (us.flatMap dN)∧∀u∈us,np u W
 | .own p,v,W=>∃q:cP,q.av=p∧v= .agg (gA q).toArray∧UF q W
 | .av p,v,W=>∃q:cP,q.av=p∧v= .agg (gA q).toArray∧fw q W
 | .row p e,v,W=>∃q:cP,q.av=p∧v= .agg (x_ (q,e)).toArray∧fw q W
 | .ay k,v,_=>v= .agg #[.int .u8 k,.int .i64 0,.string ⟨#[]⟩]
 | .FT x,v,_=>v= .agg (e7 x).toArray∧n6 x
 | .FU l,v,W=>∃(a:Option Addr) (c:Nat),v= .slice a l.length c∧b_ W a l.length c 4 (l.flatMap e7)∧l.length<=1000∧∀x∈l,n6 x
 | .lk l,v,W=>∃(a:Option Addr) (c:Nat),v= .slice a l.length c∧b_ W a l.length c 1 (lk l)∧l.length<=1000
 | .rows l,v,W=>∃(iD:List (cP×Int)) (a:Option Addr) (c:Nat),iD.map (fun r=>(r.1.av,r.2))=l∧v= .slice a iD.length c∧b_ W a iD.length c 5 (iD.flatMap x_)∧∀r∈iD,fw r.1 W
 | .num n,v,_=>v= .int .i64 n
theorem awJ (m:Nat) (s:gP) (v:Value) (W W':al) (bc:CH s=false) (x:Ext W W') (h:hold m s v W):hold m s v W':=by
 cases s with
 |out|at_|FQ|ay|FT|num=>exact h
 |dc n=>obtain⟨u,J,an,aI⟩:=h;exact⟨u,J,an,aI.ext x⟩
 |FR l=>obtain⟨us,a,c,J,an,aI,cc⟩:=h;exact⟨us,a,c,J,an,aI.ext x,fun u hu=>(cc u hu).ext x⟩
 |own p=>cases bc
 |av p=>obtain⟨q,J,an,aI⟩:=h;exact⟨q,J,an,aI.ext x⟩
 |row p e=>obtain⟨q,J,an,aI⟩:=h;exact⟨q,J,an,aI.ext x⟩
 |FU l=>obtain⟨a,c,J,an,aI⟩:=h;exact⟨a,c,J,an.ext x,aI⟩
 |lk l=>obtain⟨a,c,J,an,aI⟩:=h;exact⟨a,c,J,an.ext x,aI⟩
 |rows l=>obtain⟨iD,a,c,J,an,aI,cc⟩:=h;exact⟨iD,a,c,J,an,aI.ext x,fun r aw=>(cc r aw).ext x⟩
theorem awK {w w':World} {e:TypeId} {sz:Nat} {v:Value} {n:Nat} {xs:List Value} (h:w.ownsRow 0 e sz v n xs) (aA:∀k,v.ownBlock=some k->w'.heap[k]? =w.heap[k]?):w'.ownsRow 0 e sz v n xs:=by
 obtain⟨J,an⟩:=h;refine⟨J,an.imp id ?_⟩;rintro⟨g,cap,cur,rfl,aI,cc,bu⟩;exact⟨g,cap,cur,rfl,aI,(aA g rfl).trans cc,bu⟩
theorem awL {w:World} {ar:Nat} {e:TypeId} {sz:Nat} {v:Value} {n:Nat} {xs:List Value} (h:w.ownsRow ar e sz v n xs):w.ownsRow 0 e sz v n xs:=by
 obtain⟨J,an⟩:=h;refine⟨J,an.imp id ?_⟩;rintro⟨g,cap,cur,rfl,aI,cc⟩;exact⟨g,cap,cur,rfl,dr _,cc⟩
theorem awM (m:Nat) (s:gP) (v:Value) (W W':al) (bc:CH s=true) (x:Ext W W') (bP:hn W.w W'.w) (bf:∀b,W'.aV b->W.aV b∨W.w.heap.size<=b) (h:hold m s v W):hold m s v W':=by
 cases s with
 |own p=>
  obtain⟨q,J,an,aI⟩:=h;refine⟨q,J,an,⟨aI.gX,aI.h6,aI.mU,aI.pv,fun v aB=>(aI.fn v aB).ext x,aI.vs.ext x,aI.ns.ext x,awK aI.kN fun k aA=>bP.block k (aI.kN.lt k aA).2,fun k aA dC=>?_⟩⟩;rcases bf k dC with h|h
  ·exact aI.UG k aA h
  ·have:=(aI.kN.lt k aA).2;omega
 |_=>cases bc
structure KO (m:Nat) (a0:Act) (W0:al):Prop where
 t1:a0.eval (.tmp 1)= .pointer (some ⟨m,0,none⟩)
 fk:W0.w.heap[m]? =some (.cells #[CM] 26)
 i1:W0.aV m
 t2:a0.eval (.tmp 2)=UH m
 t7:a0.eval (.tmp 7)=UI
 dc:∀t n,(t,n)∈[(3,ez.start),(4,ez.q1),(5,ez.pF),(6,ez.part)]->∃b,a0.eval (.tmp t)= .pointer (some ⟨b,0,none⟩)∧W0.aV b∧W0.w.heap[b]? =some (.cells (dN ⟨n,none,0,none,0⟩).toArray CI)
theorem FX {n:ab.dM} {W:al} (bk:0<=n.ay) (J:n.ay<256) (an:n.vars=[]) (aI:n.bL=[]):np ⟨n,none,0,none,0⟩ W:=by
 refine⟨bk,J,?_,?_,?_,?_,?_⟩<;>simp only[an,aI]
 ·exact dr _
 ·exact dr _
 ·intro x j;cases j
 ·exact eD.nil _ _ _
 ·exact eD.nil _ _ _
abbrev Step (m:Nat) (g:Nat->Option gP) (o:Oper) (s:gP) (a:Act) (W:al) (Q:Exit->Act->World->Prop):Prop:=
 o.wp prog a W.w (fun bB w'=>∃v W',bB=a.put o.dst v∧W'.w=w'∧Ext W W'∧hold m s v W'∧((hn W.w w'∧∀b,W'.aV b->W.aV b∨W.w.heap.size<=b)∨∃t s',g t=some s'∧CH s'=true)) Q
theorem sN {m:Nat} {g:Nat->Option gP} {o:Oper} {s:gP} {a:Act} {W:al} {Q:Exit->Act->World->Prop} {v:Value} (h:(execOp a.eval o).run prog W.w= .ok (.value v) W.w) (aB:hold m s v W):Step m g o s a W Q:=
 awu h ⟨v,W,rfl,rfl,Ext.refl W,aB,.inl ⟨Uy _,fun b I=>.inl I⟩⟩
theorem KP {m:Nat} {g:Nat->Option gP} {o:Oper} {s:gP} {a:Act} {W:al} {Q:Exit->Act->World->Prop} {x:Operand} (bc:o.op= .move x) (aB:hold m s (a.eval x) W):Step m g o s a W Q:=by
 refine sN (v:=a.eval x) ?_ aB;obtain⟨dst,op,ty,pos,after,guard⟩:=o;dsimp only at bc;subst bc;simp[execOp]
theorem UJ {m:Nat} {g:Nat->Option gP} {o:Oper} {s:gP} {a:Act} {W:al} {Q:Exit->Act->World->Prop} {f:FuncId} {args:Array Value} {v:Value} (h:(execOp a.eval o).run prog W.w= .ok (.enter f args) W.w)
  (aH:da prog f args W v) (aB:∀W',Ext W W'->hold m s v W'):Step m g o s a W Q:=by
 refine KD h (W1:=W.all) rfl aH fun u w' aA hu=>?_
 subst hu;have dC:cO W w':=aA.eP rfl fun b I=>W.lt b I
 exact⟨u,W.next w' dC.size,rfl,rfl,W.kO dC,aB _ (W.kO dC),.inl ⟨aA.below,fun b I=>I.imp id fun h=>h.1⟩⟩
theorem awN (n:ab.dM):(ez.rU n).ay=n.ay∧(ez.rU n).vars=n.vars∧(ez.rU n).bL=n.bL:=by
 unfold ez.rU;split<;>exact⟨rfl,rfl,rfl⟩
theorem awO {u:d_} {W:al} (h:np u W):np (oV u) W:=by
 obtain⟨a7,bh,c8⟩:=awN u.n;obtain⟨J,an,aI,cc,bu,hs,k7⟩:=h;refine⟨?_,?_,?_,?_,?_,?_,?_⟩<;>simp only[oV,a7,bh,c8]
 ·exact J
 ·exact an
 ·exact aI
 ·exact cc
 ·exact bu
 ·exact hs
 ·exact k7
theorem KQ {ar:Nat} {us:List d_} {q:cP} {w':World} {W W':al} (bg:Kw ar us q w') (x:Ext W W') (hu:∀u∈us,np u W):∀v∈q.ao,np v W':=by
 intro v aB;rw[bg.dc] at aB;rcases dh.1 aB with rfl|aB
 ·exact FX (by decide) (by decide) rfl rfl
 rcases mE.1 aB with aB|aB
 ·obtain⟨u,h,rfl⟩:=h7.1 aB;exact(awO (hu u h)).ext x
 ·obtain rfl:=bd.1 aB;exact FX (by decide) (by decide) rfl rfl
theorem KR {ar:Nat} {us:List d_} {q:cP} {w':World} {W':al} (bg:Kw ar us q w') (e:W'.w=w') (qH:∀b,ar<=b->b<w'.heap.size->(Value.slice q.ea q.bj.length q.ef).ownBlock≠some b->W'.aV b):
  b_ W' q.bx q.vars.length q.bA 4 (q.vars.flatMap e7)∧b_ W' q.eL q.ao.length q.eF 11 (q.ao.flatMap dN):=by
 subst e;constructor
 ·obtain⟨b,J,an,aI,cc,bu⟩:=bg.awa;rw[J,an,bg.vs];obtain⟨b0,bZ,eG⟩:=pj (n:=1) (sz:=4) cc rfl;refine⟨b0,bZ,.inr ?_⟩;rcases eG with⟨_,k,_⟩|⟨pI,o,gu,_,gU,il⟩
  ·cases k
  ·injection gu with gu
   injection gu with a7 bh
   subst a7 bh;exact⟨b,0,rfl,qH b aI gU bu,gU,il⟩
 ·obtain⟨b0,bZ,eG⟩:=gW bg.on;refine⟨b0,bZ,eG.imp id ?_⟩;rintro⟨b,o,e,I,bD,aH⟩;exact⟨b,o,e,qH b I bD fun h=>bg.ap b h (by rw[e];rfl),bD,aH⟩
theorem UK {p:ab.dR} {q:cP} (h:small p=true) (bg:q.av=p):q.bj.length<=1000∧q.ao.length<=1000:=by
 unfold small at h;simp only[bT] at h;subst bg;have J:=l7 h.1;have an:=l7 h.2;exact⟨J,by simpa[cP.av] using an⟩
theorem KS:∀x∈[ez.zV],n6 x:=by
 intro x j;obtain rfl:=bd.1 j;exact dr _
theorem UL {m:Nat} {g:Nat->Option gP} {o:Oper} {jn:Option Oper} {s:gP} {a:Act} {W:al} {Q:Exit->Act->World->Prop} {us:List d_} {ad:Option Addr} {c:Nat} (h:(execOp a.eval o).run prog W.w= .ok (.enter 11 #[.slice ad us.length c]) W.w)
  (aO:us.length<=1000) (bD:b_ W ad us.length c 11 (us.flatMap dN)) (hu:∀u∈us,np u W) (j:FV jn (ez.line (us.map (·.n)))=some s):Step m g o s a W Q:=by
 refine KD h (W1:=W.all) rfl (Uk us ad c W aO bD) fun v w' aA ⟨q,aB,bg⟩=>?_
 have dC:cO W w':=aA.eP rfl fun b I=>W.lt b I
 unfold FV at j;split at j
 ·rename_i wC;obtain⟨bs,cB⟩:=UK wC bg.av;have bD:=bm j;split at bD
  ·subst bD;have j:=W.Dc dC (Value.slice q.ea q.bj.length q.ef).ownBlock.toList;obtain⟨b0,bZ⟩:=KR (W':=W.wa w' dC.size _) bg rfl fun b J an aI=>.inr ⟨J,an,fun h=>aI (Option.mem_toList.1 h)⟩
   refine⟨v,W.wa w' dC.size _,rfl,rfl,j,⟨q,bg.av,aB,⟨by rw[bg.vs];decide,by omega,bs,by rw[bg.vs];exact KS,KQ bg j hu,b0,bZ,awL bg.of,fun k e6 bf=>?_⟩⟩,.inl ⟨aA.below,fun b I=>I.imp id fun h=>h.1⟩⟩;have:=(bg.of.lt k e6).1;rcases bf with bf|bf
   ·have:=W.lt k bf;omega
   ·exact bf.2.2 (Option.mem_toList.2 e6)
  ·subst bD;have j:=W.kO dC;obtain⟨b0,bZ⟩:=KR (W':=W.next w' dC.size) bg rfl fun b J an aI=>.inr ⟨J,an⟩
   refine⟨v,W.next w' dC.size,rfl,rfl,j,⟨q,bg.av,aB,⟨by rw[bg.vs];decide,by omega,by omega,by rw[bg.vs];exact KS,KQ bg j hu,b0,bZ,?_⟩⟩,.inl ⟨aA.below,fun b I=>I.imp id fun h=>h.1⟩⟩;exact eD.h3 (gW bg.of) rfl (W.C9 dC.size)
 ·cases j
theorem awP {m:Nat} {g:Nat->Option gP} {o:Oper} {a:Act} {W:al} {Q:Exit->Act->World->Prop} {q:cP} {x y:Int} (h:(execOp a.eval o).run prog W.w= .ok (.enter 10 #[.agg (gA q).toArray,.int .i64 x,.int .i64 y]) W.w)
  (bg:UF q W) (bP:∃t s',g t=some s'∧CH s'=true):Step m g o (.av (ez.rV q.av x y)) a W Q:=by
 refine KD h (W1:=W) rfl (av8 q x y W (by have:=bg.mU;omega) bg.kN bg.UG) fun v w' aA ⟨ea,ef,aB,bc⟩=>?_
 let W':al:=⟨w',fun b=>W.aV b∨(Value.slice ea (q.bj.length+1) ef).ownBlock=some b,fun b I=>I.elim (fun h=>lv (W.lt b h) aA.size) fun h=>(bc.lt b h).2⟩
 have j:Ext W W':=⟨aA.size,fun b I=>.inl I,aA.du,aA.os,aA.tape,aA.output⟩;refine⟨v,W',rfl,rfl,j,⟨{q with bj:=q.bj++[⟨x,y,[],false⟩],ea:=ea,ef:=ef},rfl,aB,⟨bg.gX,bg.h6,?_,bg.pv,fun u hu=>(bg.fn u hu).ext j,bg.vs.ext j,bg.ns.ext j,?_⟩⟩,.inr bP⟩
 ·have:=bg.mU;simp only[fR,q2];omega
 ·obtain⟨b0,bZ,eG⟩:=gW bc;simp only[fR,q2];refine⟨b0,bZ,eG.imp id ?_⟩;rintro⟨b,o,e,I,bD,aH⟩;exact⟨b,o,e,.inr (by rw[e];rfl),bD,aH⟩
theorem awQ (v0 v1 v2 v3:Value) (e:Int) (w:World):(Instr.build z6 #[(0,.agg #[v0,v1,v2,v3]),(1,.int .i64 e)]).run prog w= .ok (.agg #[v0,v1,v2,v3,.int .i64 e]) w:=by kernel_rfl
theorem awR (k:Int) (w:World):(Instr.build 39 #[(0,.int .u8 k)]).run prog w= .ok (.agg #[.int .u8 k,.int .i64 0,.string ⟨#[]⟩]) w:=by kernel_rfl
theorem awS (s:ByteArray) (k:Int) (w:World):(Instr.build 41 #[(0,.string s),(1,.agg #[.int .u8 k,.int .i64 0,.string ⟨#[]⟩])]).run prog w= .ok (.agg #[.string s,.int .u8 k,.int .i64 0,.string ⟨#[]⟩]) w:=by kernel_rfl
theorem FY {α:Type} {x:Array α} {l:List α} (h:x.toList=l):x=l.toArray:=by rw[<-h,Array.toArray_toList]
theorem run_build {ev:Operand->Value} {o:Oper} {ty:TypeId} {cw:Array (Nat×Operand)} (bc:o.op= .build ty cw) {l:List (Nat×Operand)} (aO:cw.toList=l) {v:Value} {w:World} (h:(Instr.build ty (l.map fun p=>(p.1,ev p.2)).toArray).run prog w= .ok v w):
  (execOp ev o).run prog w= .ok (.value v) w:=by
 obtain⟨dst,op,kD,pos,after,guard⟩:=o;dsimp only at bc;subst bc;obtain rfl:=FY aO;have e:(l.toArray.map fun x:Nat×Operand=>(x.1,ev x.2))=(l.map fun p=>(p.1,ev p.2)).toArray:=by simp
 simp only[execOp,Sem.run_bind,e,h,Result.andThen_ok,Sem.run_pure]
theorem awT (a:Act):eJ.at {} [] a.eval:=by
 intro x s j;cases x with
 |tmp t=>cases j
 |const v=>simp only[dU] at j;obtain rfl:=bm j;rw[qm];rfl
 |global g=>simp only[dU] at j;obtain rfl:=bm j;rfl
 |func f=>simp only[dU] at j;obtain rfl:=bm j;simp[Act.eval,af.ak,af.b2]
theorem KT {a:Act} {ρ:aX} {t:Nat} {y:af} (h:a.eval (.tmp t)=y.ak ρ):eJ.at ρ [(t,some y)] a.eval:=by
 intro x s j;cases x with
 |tmp u=>
  simp only[dU,gB] at j;split at j
  ·rename_i I;obtain rfl:=eE I;obtain rfl:=bm j;exact h
  ·cases j
 |const v=>simp only[dU] at j;obtain rfl:=bm j;rw[qm];rfl
 |global g=>simp only[dU] at j;obtain rfl:=bm j;rfl
 |func f=>simp only[dU] at j;obtain rfl:=bm j;simp[Act.eval,af.ak,af.b2]
theorem KU {a:Act} {ρ:aX} (bP:ρ.ew) {az:eJ} (bb:eJ.at ρ az a.eval) {o:Oper} {n:ab.dM} {x y:af} (h:CK prog az o.op=some (n,x,y)) (w:World):
  (execOp a.eval o).run prog w= .ok (.value (.agg #[gO n.aT,.int .u8 n.ay,.int .i64 n.bp,.int .i64 n.on,.int .u8 n.ev,gO n.key,gO n.ca,gO n.set,.bool n.cb,x.ak ρ,y.ak ρ])) w∧(0<=n.ay∧n.ay<256)∧n.vars=[]∧n.bL=[]:=by
 unfold CK at h;split at h
 ·rename_i s bD;have aw:=vZ (w:=w) bD bP bb (fun b I=>by cases I) (fun p hp=>by cases hp) trivial;unfold UB at h;split at h
  ·split at h
   ·rename_i aA;simp only[bT,decide_eq_true_eq] at aA;have h:=bm h;injection h with J an
    injection an with an aI
    subst J an aI;refine⟨aw,aA,rfl,rfl⟩
   ·cases h
  ·cases h
 ·cases h
theorem awU {m:Nat} {g:Nat->Option gP} {o:Oper} {s:gP} {a:Act} {W:al} {Q:Exit->Act->World->Prop} {cw:List (Nat×Operand)} (bP:∀t s',g t=some s'->hold m s' (a.eval (.tmp t)) W) (h:KJ prog g o.op cw=some s):Step m g o s a W Q:=by
 unfold KJ at h;split at h
 ·split at h
  ·rename_i n cB;obtain rfl:=bm h;obtain⟨J,an,aI,cc⟩:=KU (ρ:={}) (fun v aB=>by cases aB) (awT a) cB W.w;refine sN J ⟨⟨n,none,0,none,0⟩,rfl,?_,FX an.1 an.2 aI cc⟩;simp only[dN,aI,cc];rfl
  ·cases h
 ·rename_i t _;split at h
  ·rename_i l aO;obtain⟨ad,c,a7,bh,c8,gj⟩:=bP t _ aO;split at h
   ·rename_i n x cB;split at h
    ·rename_i j;obtain rfl:=af.jc j;obtain rfl:=bm h;have bb:a.eval (.tmp t)=(z7 l.length).ak {A:=[ad],N:=[c]}:=by rw[a7];rfl
     obtain⟨J,an,aI,cc⟩:=KU (ρ:={A:=[ad],N:=[c]}) (fun v aB=>by cases aB) (KT bb) cB W.w;refine sN J ⟨⟨{n with vars:=l},ad,c,none,0⟩,rfl,?_,⟨an.1,an.2,by show l.length<=_;omega,by show n.bL.length<=_;rw[cc];exact dr _,gj,bh,by show b_ W none n.bL.length 0 1 (lk n.bL);rw[cc];exact eD.nil _ _ _⟩⟩;simp only[dN,cc];rfl
    ·cases h
   ·cases h
  ·rename_i l aO;obtain⟨ad,c,a7,bh,c8⟩:=bP t _ aO;split at h
   ·rename_i n y cB;split at h
    ·rename_i j;obtain rfl:=af.jc j;obtain rfl:=bm h;have bb:a.eval (.tmp t)=(z7 l.length).ak {A:=[ad],N:=[c]}:=by rw[a7];rfl
     obtain⟨J,an,aI,cc⟩:=KU (ρ:={A:=[ad],N:=[c]}) (fun v aB=>by cases aB) (KT bb) cB W.w;refine sN J ⟨⟨{n with bL:=l},none,0,ad,c⟩,rfl,?_,⟨an.1,an.2,by show n.vars.length<=_;rw[aI];exact dr _,by show l.length<=_;omega,(by show∀x∈n.vars,n6 x;rw[aI];intro x j;cases j),by show b_ W none n.vars.length 0 4 _;rw[aI];exact eD.nil _ _ _,bh⟩⟩;simp only[dN,aI];rfl
    ·cases h
   ·cases h
  ·cases h
theorem awV {m:Nat} {g:Nat->Option gP} {o:Oper} {s:gP} {a:Act} {W:al} {Q:Exit->Act->World->Prop} {ty:TypeId} {cw:Array (Nat×Operand)} (bc:o.op= .build ty cw) (bP:∀t s',g t=some s'->hold m s' (a.eval (.tmp t)) W) (h:KK g ty cw.toList=some s):Step m g o s a W Q:=by
 unfold KK at h;split at h
 ·rename_i t e aO;split at h
  ·rename_i p hp;obtain⟨q,a7,bh,c8⟩:=bP t _ hp;split at h
   ·rename_i bb;obtain rfl:=eE bb;obtain rfl:=bm h;refine sN (run_build bc aO ?_) ⟨q,a7,rfl,c8⟩;simp only[ku,lM,bh];exact awQ _ _ _ _ e W.w
   ·cases h
  ·cases h
 ·rename_i k aO;split at h
  ·rename_i bb;obtain rfl:=eE bb;obtain rfl:=bm h;refine sN (run_build bc aO ?_) rfl;exact awR k W.w
  ·cases h
 ·rename_i x t aO;split at h
  ·rename_i k aA;have bh:=bP t _ aA;split at h
   ·rename_i bb;obtain rfl:=eE bb;obtain rfl:=bm h;refine sN (run_build bc aO ?_) ⟨rfl,dr _⟩;simp only[ku,lM,show a.eval (.tmp t)=_ from bh];exact awS x k W.w
   ·cases h
  ·cases h
 ·cases h
theorem KV {α β:Type} {f:Operand->Option α} (av:β->α) (val:β->Value) (F:β->Prop) (ev:Operand->Value) (bs:∀x n,f x=some n->∃u,av u=n∧ev x=val u∧F u):
  ∀(cw:List (Nat×Operand)) (k:Nat) (l:List α),CJ f k cw=some l->∃us:List β,us.map av=l∧cw.map (fun p=>(p.1,ev p.2))=((us.map val).zipIdx k).map (fun x=>(x.2,x.1))∧∀u∈us,F u
 |[],k,l,h=>by obtain rfl:=bm h;exact⟨[],rfl,rfl,fun u hu=>by cases hu⟩
 |(i,x)::cw,k,l,h=>by
  unfold CJ at h;split at h
  ·rename_i a8;obtain rfl:=eE a8;split at h
   ·rename_i n ns cB Kx;obtain rfl:=bm h;obtain⟨u,J,an,aI⟩:=bs x n cB;obtain⟨us,b0,bZ,eG⟩:=KV av val F ev bs cw _ ns Kx;refine⟨u::us,by rw[jo,J,b0],?_,fun v aB=>?_⟩
    ·simp only[ku,List.zipIdx_cons,bZ,an]
    ·rcases dh.1 aB with rfl|aB
     ·exact aI
     ·exact eG v aB
   ·cases h
  ·cases h
theorem FZ {m:Nat} {g:Nat->Option gP} {o:Oper} {s:gP} {a:Act} {W:al} {Q:Exit->Act->World->Prop} {v:Value} {F0:Obj} (h:(execOp a.eval o).run prog W.w= .ok (.value v) (W.w.alloc F0)) (aB:hold m s v (W.td F0)):Step m g o s a W Q:=
 awv h ⟨v,W.td F0,rfl,rfl,W.yC F0,aB,.inl ⟨aww _ _,fun b I=>I.imp id fun e=>by rw[e];exact e9 _⟩⟩
def z8 (P:Program) (t:TypeId) (k:Nat):Bool:=match P.info? t with
 |some i=>i.zero.isSome&&Nat.beq i.size k
 |none=>false
theorem F1 {P:Program} {t:TypeId} {k:Nat} (h:z8 P t k=true):∃i z,P.info? t=some i∧i.zero=some z∧i.size=k:=by
 unfold z8 at h;split at h
 ·rename_i i a8;simp only[bT] at h;obtain⟨z,cS⟩:=Aa.1 h.1;exact⟨i,z,a8,cS,eE h.2⟩
 ·cases h
theorem awW:z8 prog CI 11=true:=by kernel_rfl
theorem awX:z8 prog z6 5=true:=by kernel_rfl
theorem awY:z8 prog 41 4=true:=by kernel_rfl
theorem awZ:z8 prog 9 1=true:=by kernel_rfl
theorem UM {α:Type} (f:α->List Value) (l:List α):((l.map fun u=>Value.agg (f u).toArray).flatMap fun v=>v.cells.toList)=l.flatMap f:=by
 induction l with
 |nil=>rfl
 |cons u l cF=>simp only[ku,jq,cF];rfl
theorem UN {k len:Nat} (h:(Nat.beq k len&&(Nat.ble 1 len&&Nat.ble len 1000))=true):k=len∧1<=len∧len<=1000:=by
 simp only[bT] at h;exact⟨eE h.1,l7 h.2.1,l7 h.2.2⟩
theorem aw0 {m:Nat} {g:Nat->Option gP} {o:Oper} {s:gP} {a:Act} {W:al} {Q:Exit->Act->World->Prop} {ty:TypeId} {len:Nat} {cw:Array (Nat×Operand)} (bc:o.op= .buildSlice ty len cw) (bP:∀t s',g t=some s'->hold m s' (a.eval (.tmp t)) W) (h:KL g ty len cw.toList=some s):Step m g o s a W Q:=by
 unfold KL at h;split at h
 ·rename_i bb;obtain rfl:=eE bb;split at h
  ·rename_i l aO;split at h
   ·rename_i cB;obtain⟨rfl,J,an⟩:=UN cB;obtain rfl:=bm h
    obtain⟨us,b0,bZ,eG⟩:=KV (fun u:d_=>u.n) (fun u=>.agg (dN u).toArray) (fun u=>np u W) a.eval (fun x n j=>by
     unfold Uz at j;split at j
     ·rename_i t;split at j
      ·rename_i fZ ur;obtain rfl:=bm j;exact bP t _ ur
      ·cases j
     ·cases j) _ _ _ aO
    obtain⟨i,z,i1,i2,i3⟩:=F1 awW;have oB:us.length=l.length:=by rw[<-b0,mW]
    have aw:=FO (P:=prog) (ev:=a.eval) bc (by kernel_rfl) i1 i2 (us.map fun u=>Value.agg (dN u).toArray) bZ (by rw[mW,oB]) (fun v aB=>by
     obtain⟨u,_,rfl⟩:=h7.1 aB;rw[i3];rfl) (by rw[i3];omega) (by rw[i3];omega) W.w
    rw[UM] at aw;refine FZ aw ⟨us,_,_,b0,by rw[oB],?_,fun u hu=>(eG u hu).ext (W.yC _)⟩;rw[oB];have:=FP W (cs:=(us.flatMap dN).toArray) (ty:=CI) (n:=l.length) (z:=11) (by rw[List.toList_toArray,<-oB];exact sv eO us);rwa[List.toList_toArray] at this
   ·cases h
  ·cases h
 ·split at h
  ·rename_i bb;obtain rfl:=eE bb;split at h
   ·rename_i l aO;split at h
    ·rename_i cB;obtain⟨rfl,J,an⟩:=UN cB;obtain rfl:=bm h
     obtain⟨us,b0,bZ,eG⟩:=KV (fun r:cP×Int=>(r.1.av,r.2)) (fun r=>.agg (x_ r).toArray) (fun r=>fw r.1 W) a.eval (fun x n j=>by
      unfold UA at j;split at j
      ·rename_i t;split at j
       ·rename_i p e ur;obtain rfl:=bm j;obtain⟨q,a7,bh,c8⟩:=bP t _ ur;exact⟨(q,e),by rw[a7],bh,c8⟩
       ·cases j
      ·cases j) _ _ _ aO
     obtain⟨i,z,i1,i2,i3⟩:=F1 awX;have oB:us.length=l.length:=by rw[<-b0,mW]
     have aw:=FO (P:=prog) (ev:=a.eval) bc (by kernel_rfl) i1 i2 (us.map fun u=>Value.agg (x_ u).toArray) bZ (by rw[mW,oB]) (fun v aB=>by
      obtain⟨u,_,rfl⟩:=h7.1 aB;rw[i3];rfl) (by rw[i3];omega) (by rw[i3];omega) W.w
     rw[UM] at aw;refine FZ aw ⟨us,_,_,b0,by rw[oB],?_,fun u hu=>(eG u hu).ext (W.yC _)⟩;rw[oB];have:=FP W (cs:=(us.flatMap x_).toArray) (ty:=z6) (n:=l.length) (z:=5) (by rw[List.toList_toArray,<-oB];exact sv UE us);rwa[List.toList_toArray] at this
    ·cases h
   ·cases h
  ·split at h
   ·rename_i t aO;split at h
    ·rename_i x j;obtain⟨a7,bh⟩:=bP t _ j;split at h
     ·rename_i aH;simp only[bT] at aH;obtain rfl:=eE aH.1;obtain rfl:=eE aH.2;obtain rfl:=bm h;obtain⟨i,z,i1,i2,i3⟩:=F1 awY
      have aw:=FO (P:=prog) (ev:=a.eval) bc (by kernel_rfl) i1 i2 [Value.agg (e7 x).toArray] (by rw[aO];simp only[ku,lM,a7];rfl) rfl (fun v aB=>by
       obtain rfl:=bd.1 aB;rw[i3];rfl) (by rw[i3];decide) (by rw[i3];decide) W.w
      exact FZ aw ⟨_,_,rfl,FP W (n:=1) (z:=4) rfl,l7 rfl,fun y bE=>by obtain rfl:=bd.1 bE;exact bh⟩
     ·cases h
    ·cases h
   ·rename_i x aO;split at h
    ·rename_i aH;simp only[bT] at aH;obtain rfl:=eE aH.1;obtain rfl:=eE aH.2;obtain rfl:=bm h;obtain⟨i,z,i1,i2,i3⟩:=F1 awZ
     have aw:=FO (P:=prog) (ev:=a.eval) bc (by kernel_rfl) i1 i2 [Value.string x] (by rw[aO];rfl) rfl (fun v aB=>by
      obtain rfl:=bd.1 aB;rw[i3];rfl) (by rw[i3];decide) (by rw[i3];decide) W.w
     exact FZ aw ⟨_,_,rfl,FP W (n:=1) (z:=1) rfl,l7 rfl⟩
    ·cases h
   ·cases h
def ya (P:Program) (f:FuncId):Bool:=match P.funcs[f]? with
 |some fn=>fn.body.isSome&&!(fn.name== "runtime.NumGoroutine")
 |none=>false
theorem aw1 {P:Program} {f:FuncId} (h:ya P f=true):∃fn,P.funcs[f]? =some fn∧fn.body.isSome=true∧(fn.name== "runtime.NumGoroutine")=false:=by
 unfold ya at h;split at h
 ·rename_i fn j7;simp only[bT,hq] at h;exact⟨fn,j7,h.1,h.2⟩
 ·cases h
theorem UO:ya prog 11=true:=by kernel_rfl
theorem aw2:ya prog 8=true:=by kernel_rfl
theorem aw3:ya prog 9=true:=by kernel_rfl
theorem aw4:ya prog 10=true:=by kernel_rfl
theorem CN {ev:Operand->Value} {o:Oper} {kN:Operand} {xs:Array Operand} {ts:Array TypeId} (nO:o.op= .call ⟨.value kN,xs,ts⟩) {l:List Operand} (aO:xs.toList=l) {f:FuncId} {caps:Array Value} (bs:ev kN= .func (.func f) #[] caps)
  (j7:ya prog f=true) {args:Array Value} (bl:(l.map ev).toArray++caps=args) (w:World):(execOp ev o).run prog w= .ok (.enter f args) w:=by
 obtain⟨fn,J,an,aI⟩:=aw1 j7;obtain rfl:=FY aO;rw[awt nO bs J an aI,<-bl];simp
theorem UP {u:d_} {W:al} {k:Int} (h:np u W):np {u with n:=ez.at' u.n k} W:=⟨h.gQ,h.b0,h.gX,h.zh,h.pv,h.vs,h.fY⟩
theorem aw5 {m:Nat} {W0:al} {a0:Act} (ee:KO m a0 W0) {g:Nat->Option gP} {o jn} {s:gP} {a:Act} {W:al} {Q:Exit->Act->World->Prop} {kN:Operand} {xs:Array Operand} {ts:Array TypeId} (bc:o.op= .call ⟨.value kN,xs,ts⟩) (fa:Ext W0 W)
  (bP:∀t s',g t=some s'->hold m s' (a.eval (.tmp t)) W) (h:KI g jn kN xs.toList=some s):Step m g o s a W Q:=by
 unfold KI at h;split at h
 ·rename_i x aO;split at h
  ·rename_i f t;split at h
   ·rename_i l aw6;split at h
    ·rename_i aH;simp only[bT] at aH;obtain rfl:=eE aH.1;have cB:=l7 aH.2;obtain⟨us,ad,c,a7,bh,c8,gj⟩:=bP t _ aw6;subst a7;exact UL (CN bc aO rfl UO (by simp only[ku,lM,bh];rfl) W.w) (by simpa using cB) c8 gj h
    ·cases h
   ·cases h
  ·rename_i f;split at h
   ·rename_i aH;obtain rfl:=eE aH;exact UL (us:=[]) (CN (ev:=a.eval) (caps:=#[]) (args:=#[.slice none 0 0]) bc aO rfl UO rfl W.w) (dr _) (eD.nil _ _ _) (fun u hu=>by cases hu) h
   ·cases h
  ·rename_i t u;split at h
   ·rename_i n bb hu;obtain rfl:=bm h;have J:=bP t _ bb;obtain⟨v,rfl,bh,c8⟩:=bP u _ hu;exact UJ (CN bc aO J aw3 (by simp only[ku,lM,bh];rfl) W.w) (Uj v m W ((fa.du m ee.i1).trans ee.fk)) fun W' x=>⟨_,rfl,rfl,(UP c8).ext x⟩
   ·cases h
  ·cases h
 ·rename_i x y aO;split at h
  ·rename_i t u k;split at h
   ·rename_i n bb hu;obtain rfl:=bm h;have J:=bP t _ bb;obtain⟨v,rfl,bh,c8⟩:=bP u _ hu;exact UJ (CN bc aO J aw2 (by simp only[ku,lM,bh];rfl) W.w) (Ui v k W) fun W' x=>⟨_,rfl,rfl,(UP c8).ext x⟩
   ·cases h
  ·cases h
 ·rename_i x y z aO;split at h
  ·rename_i t u i aj;split at h
   ·rename_i p bb hu;obtain rfl:=bm h;have J:=bP t _ bb;obtain⟨q,rfl,bh,c8⟩:=bP u _ hu;exact awP (CN bc aO J aw4 (by simp only[ku,lM,bh];rfl) W.w) c8 ⟨u,_,hu,rfl⟩
   ·cases h
  ·cases h
 ·cases h
theorem z_ {a a0:Act} {t:Nat} (h:a.tmps[t]? =a0.tmps[t]?):a.eval (.tmp t)=a0.eval (.tmp t):=by
 simp only[Act.eval,mF,h]
theorem run_load {ev:Operand->Value} {o:Oper} {ty:TypeId} {x:Operand} (bc:o.op= .load ty x) {v:Value} {w:World} (h:(Instr.loadAt ty (ev x)).run prog w= .ok v w):(execOp ev o).run prog w= .ok (.value v) w:=by
 obtain⟨dst,op,kD,pos,after,guard⟩:=o;dsimp only at bc;subst bc;simp only[execOp,Sem.run_bind,h,Result.andThen_ok,Sem.run_pure]
theorem aw7:hr prog 26=some false:=by kernel_rfl
theorem aw8 {m:Nat} {W0:al} {a0:Act} (ee:KO m a0 W0) {Q:Exit->Act->World->Prop} (g:Nat->Option gP) (o:Oper) (jn:Option Oper) (s:gP) (a:Act) (W:al) (h:KM prog g o jn=some s) (bP:∀t s',g t=some s'->hold m s' (a.eval (.tmp t)) W)
  (pR:∀t,t<20->a.tmps[t]? =a0.tmps[t]?) (fa:Ext W0 W):Step m g o s a W Q:=by
 unfold KM at h;split at h
 ·rename_i t bc;split at h
  ·rename_i bb;obtain rfl:=eE bb;obtain rfl:=bm h;exact KP bc ((z_ (pR 2 (by decide))).trans ee.t2)
  ·split at h
   ·rename_i bb;obtain rfl:=eE bb;obtain rfl:=bm h;exact KP bc ((z_ (pR 7 (by decide))).trans ee.t7)
   ·cases h
 ·rename_i n bc;obtain rfl:=bm h;exact KP bc rfl
 ·rename_i ty t bc;split at h
  ·rename_i bb;obtain rfl:=eE bb;split at h
   ·rename_i J;obtain rfl:=eE J;obtain rfl:=bm h;refine sN (v:=CM) (run_load bc ?_) rfl;rw[(z_ (pR 1 (by decide))).trans ee.t1];have I:=(fa.du m ee.i1).trans ee.fk;exact D6 aw7 (cell_of_row W.w m 0 #[CM] _ (0,0) I)
   ·cases h
  ·split at h
   ·rename_i bb;obtain rfl:=eE bb
    have key:∀n,(t,n)∈[(3,ez.start),(4,ez.q1),(5,ez.pF),(6,ez.part)]->t<20->(0<=n.ay∧n.ay<256)->n.vars=[]->n.bL=[]->Step m g o (.dc n) a W Q:=fun n hm fr aA aB I=>by
     obtain⟨b,b0,bZ,eG⟩:=ee.dc t n hm;refine sN (v:=.agg (dN ⟨n,none,0,none,0⟩).toArray) (run_load bc ?_) ⟨⟨n,none,0,none,0⟩,rfl,rfl,FX aA.1 aA.2 aB I⟩;rw[(z_ (pR t fr)).trans b0];have zz:=(fa.du b bZ).trans eG;refine Bq iw ix (eO _) fun aj u hu=>?_
     have:=cell_of_row W.w b (0+aj) (dN ⟨n,none,0,none,0⟩).toArray _ (0,0) zz;rw[ky,this,mY,List.getElem?_toArray];exact hu
    split at h
    ·rename_i J;obtain rfl:=eE J;obtain rfl:=bm h;exact key _ (by simp) (by decide) (by decide) rfl rfl
    split at h
    ·rename_i J;obtain rfl:=eE J;obtain rfl:=bm h;exact key _ (by simp) (by decide) (by decide) rfl rfl
    split at h
    ·rename_i J;obtain rfl:=eE J;obtain rfl:=bm h;exact key _ (by simp) (by decide) (by decide) rfl rfl
    split at h
    ·rename_i J;obtain rfl:=eE J;obtain rfl:=bm h;exact key _ (by simp) (by decide) (by decide) rfl rfl
    ·cases h
   ·cases h
 ·rename_i kN xs ts bc;exact aw5 ee bc fa bP h
 ·rename_i xs ts bc;split at h
  ·rename_i t ty j sK;split at h
   ·rename_i l aO;split at h
    ·rename_i bb;obtain rfl:=eE bb;obtain rfl:=bm h;obtain⟨iD,ad,c,a7,bh,c8⟩:=bP t _ aO;have pZ:iD.length=l.length:=by rw[<-a7,mW]
     obtain rfl:=FY j;obtain rfl:=FY sK;have bb:=KT (ρ:={A:=[ad],N:=[c]}) (y:=.bt 0 (.aE l.length) (.aW 0)) (by rw[bh,pZ];rfl:a.eval (.tmp t)=_);refine sN (v:=.int .i64 l.length) ?_ rfl
     have j:r4 prog false [(t,some (.bt 0 (.aE l.length) (.aW 0)))] [] [] o.op=some ([],.int .i64 (.aE l.length)):=by
      rw[bc];simp only[r4,List.getElem?_toArray,yf,dU,s5];rfl
     exact vZ (w:=W.w) j (fun v aB=>by cases aB) bb (fun b I=>by cases I) (fun p hp=>by cases hp) trivial
    ·cases h
   ·cases h
  ·cases h
 ·rename_i ty cw bc;split at h
  ·rw[<-bc] at h;exact awU bP h
  ·exact awV bc bP h
 ·rename_i ty len cw bc;exact aw0 bc bP h
 ·cases h
abbrev KW:af:=(.agg [ag 0,aL 0,aq 1,aq 2,aL 3,ag 1,ag 2,ag 3,ba 0,ai 0 0 1,ai 1 2 3])
abbrev UQ:af:=(.agg [(.str (.bN [119])),di 3,bI 0,bI 0,di 0,ek,ek,ek,cY false,.db,.db])
abbrev UR:af:=(.agg [(.str (.bN [117])),di 2,bI 0,bI 0,di 0,ek,ek,ek,cY false,.db,.db])
abbrev US:af:=(.agg [(.str (.bN [116])),di 1,bI 0,bI 0,di 0,ek,ek,ek,cY false,.db,.db])
abbrev UT:b4:=⟨2,31,[ag 2,ai 8 13 14,ai 9 15 16,ai 10 17 18]⟩
abbrev UU:b4:=⟨1,31,[ag 1,ai 5 7 8,ai 6 9 10,ai 7 11 12]⟩
abbrev UW:af:=(.agg [(.str (.bN [99])),ai 2 4 5,ai 3 6 7,ai 4 8 9])
abbrev UX:af:=(.agg [ag 0,ai 2 1 2,ai 3 3 4,ai 4 5 6])
abbrev aw9:Tree:=(.eM [UT,UU,⟨0,37,[ag 0,ai 2 1 2,ai 3 3 4,ai 4 5 6,aq 1]⟩] (.again 0 [(.int .i64 (.un (.wrap .i64) (bX (ae 0) (ah 1))))] []))
abbrev aw_:Tree:=(.grow (.aC (bW (bR (aZ (ae 3) (ae 1))) (bO (ae 0) (ah 0))) (.ret (cY false) [] [] []) aw9))
abbrev axa:Tree:=(.grow (.new (.jZ 13 [.fM 2 0 1 1,UX] [UT] [] (aq 3) cg aw_)))
abbrev axb:Tree:=(.cl 31 (.b6 0 (ah 0) 4 0) (.agg [ag 2,ai 8 13 14,ai 9 15 16,ai 10 17 18]) rC axa)
abbrev axc:Tree:=(.grow (.new (.jZ 12 [.fM 1 0 1 1,UX] [UU] [] (aq 2) cg (.aC (aZ (ae 2) (ae 1)) axb (.grow (.ret (cY false) [] [] []))))))
abbrev axd:Tree:=(.new (.wr (.cl 31 (.b6 0 (ah 0) 4 0) (.agg [ag 1,ai 5 7 8,ai 6 9 10,ai 7 11 12]) rC axc)))
abbrev axe:Tree:=(.a1 (.sm 1) (.a1 (bQ (ah 0) (ae 0)) (.cl 37 (.b6 1 (ae 0) 5 0) (.agg [ag 0,ai 2 1 2,ai 3 3 4,ai 4 5 6,aq 1]) tu axd)))
abbrev axf:Tree:=(.call 14 [] [] [] [] (ba 0) dv (.ret (ba 0) [] [] []))
abbrev axg:Tree:=(.new (.wr (.wr (.ret (.cU [UW,KW,UQ,UR,US,(.agg [(.fn 8 [])])]) [] [] []))))
abbrev axh:Tree:=(.new (.wr (.call 11 [.db] [] [] [] (.agg [ag 4,ai 2 4 5,ai 3 6 7,ai 4 8 9]) rC axg)))
abbrev KX:Tree:=(.new (.wr (.new (.new (.new (.wr (.wr (.wr (.call 9 [(.agg [(.str (.bN [113])),di 11,bI 0,bI 0,di 0,ek,ek,ek,cY false,.db,.db]),.ptr 0 0] [⟨0,26,[(.fn 8 [])]⟩] [] [] KW gL axh)))))))))
abbrev UY:Tree:=(.loop [bI 0] [] [aq 0] [] cg (.aC (bO (ae 0) (ah 36)) axe axf))
def UZ:bC:={n:=336,az:=[(0,some (.bool (.dB false))),(1,some (.ptr 0 0)),(2,some (.fn 9 [(.ptr 0 0)])),(3,some (.ptr 1 0)),(4,some (.ptr 2 0)),(5,some (.ptr 3 0)),(6,some (.ptr 4 0)),(7,some (.fn 10 [])),(8,some (.ptr 5 0))],hp:=[⟨5,31,[(.str (.bN [99])),(.bt 2 (.aW 4) (.aW 5)),(.bt 3 (.aW 6) (.aW 7)),(.bt 4 (.aW 8) (.aW 9))]⟩,⟨4,25,[(.str (.br 0)),(.int .u8 (.aN 0)),(.int .i64 (.aN 1)),(.int .i64 (.aN 2)),(.int .u8 (.aN 3)),(.str (.br 1)),(.str (.br 2)),(.str (.br 3)),(.bool (.bv 0)),(.bt 0 (.aW 0) (.aW 1)),(.bt 1 (.aW 2) (.aW 3))]⟩,⟨3,25,[(.str (.bN [119])),(.int .u8 (.aE 3)),(.int .i64 (.aE 0)),(.int .i64 (.aE 0)),(.int .u8 (.aE 0)),(.str (.bN [])),(.str (.bN [])),(.str (.bN [])),(.bool (.dB false)),.db,.db]⟩,⟨2,25,[(.str (.bN [117])),(.int .u8 (.aE 2)),(.int .i64 (.aE 0)),(.int .i64 (.aE 0)),(.int .u8 (.aE 0)),(.str (.bN [])),(.str (.bN [])),(.str (.bN [])),(.bool (.dB false)),.db,.db]⟩,⟨1,25,[(.str (.bN [116])),(.int .u8 (.aE 1)),(.int .i64 (.aE 0)),(.int .i64 (.aE 0)),(.int .u8 (.aE 0)),(.str (.bN [])),(.str (.bN [])),(.str (.bN [])),(.bool (.dB false)),.db,.db]⟩,⟨0,26,[(.fn 8 [])]⟩],ro:=[],rw:=[],kn:=[],c:=⟨4,10,1,5,0,5,6,0⟩,fh:=0}
def U0:bC:={n:=336,az:=[(0,some (.bool (.dB false))),(8,some (.b6 0 (.aE 0) 4 0)),(305,some (.bt 1 (.aE 36) (.aW 0))),(306,some (.int .i64 (.aE 36))),(307,some (.int .i64 (.aE 0)))],hp:=[],ro:=[],rw:=[],kn:=[],c:=⟨0,1,0,0,0,2,0,0⟩,fh:=0}
def U1:Cut:=⟨8,UZ,(.ret (.cU [UW,KW,UQ,UR,US,(.agg [(.fn 8 [])])]) [] [] [])⟩
def F2:ds:={cW with ei:=[⟨9,[.az 307]⟩]}
theorem axi:KH prog F2 f3 U1 [] D1=some KX:=by kernel_rfl
theorem axj:KG prog F2 f3 8 U0=some UY:=by kernel_rfl
end Go.Proofs.YtkpjmlnhhggenaaGreatDoor
end
section
namespace ez
open Go ab
def F3 (p:dR):Bool:=p.vars.all (fun x=>Nat.ble x.t.length 1000)&&(p.ao.all (fun n=>n.vars.all (fun x=>Nat.ble x.t.length 1000)&&Nat.ble n.ca.length 1000)&&(p.bj.all (fun f=>Nat.ble f.cond.length 1000)&&((List.range p.ao.length).all (fun i=>Nat.ble (au.fQ p i).length 1000000)&&p.bj.all fun f=>Nat.ble (au.fQ p f.dY).length 1000000)))
theorem axk:(x6.all fun r=>F3 r.1)=true:=by decide+kernel
end ez
namespace Go.Proofs.YtkpjmlnhhggenaaGreatDoor
open Go.Proofs.Tryz Go Go.RowKit Go.cK
theorem axl {p:ab.dR} (h:ez.F3 p=true):zT p∧(∀i:Nat,i<p.ao.length->(au.fQ p i).length<=1000000)∧∀f∈p.bj,(au.fQ p f.dY).length<=1000000:=by
 unfold ez.F3 at h;simp only[bT,ep] at h;obtain⟨J,an,aI,cc,bu⟩:=h
 exact⟨⟨fun x j=>l7 (J x j),fun n cB=>⟨fun x j=>l7 ((an n cB).1 x j),l7 (an n cB).2⟩,fun f bs=>l7 (aI f bs)⟩,
  fun i a8=>l7 (cc i (vL.2 a8)),fun f bs=>l7 (bu f bs)⟩
theorem axm:hr prog z6=some true:=by kernel_rfl
theorem axn:hK prog z6=some 5:=by kernel_rfl
theorem axo:hr prog 31=some true:=by kernel_rfl
theorem axp:hK prog 31=some 4:=by kernel_rfl
def axq (w:World):al:=⟨w,fun b=>b<w.heap.size,fun _ h=>h⟩
def CO (n:ab.dM):d_:=⟨n,none,0,none,0⟩
def U2 (e:Ending) (w:World):Prop:=∃q:cP,e= .returned (.tuple #[.agg (gA q).toArray,.agg (dN (CO ez.part)).toArray,.agg (dN (CO ez.pF)).toArray,.agg (dN (CO ez.q1)).toArray,.agg (dN (CO ez.start)).toArray,.agg #[CM]])∧q.av=ez.r_∧fw q (axq w)
theorem axr (W:al):KX.ak prog W.w.heap.size U2 [] {} W.all:=by
 refine bY fun m0 W1 _ bM=>bS fun cn bH=>bY fun m1 cq _ bo=>bY fun m2 dH _ cd=>bY fun m3 dI _ cA=>bS fun cV bU=>bS fun dQ df=>bS fun dX dK=>?_
 refine b5 (fun I _=>Uj (CO (ez.ar [113] 11)) m0 dX (I _ (bd.2 rfl))) ⟨11,-1,0,0,0,0,0,0,false,⟨#[113]⟩,⟨#[]⟩,⟨#[]⟩,⟨#[]⟩,none,none,rfl,fun fm eY=>?_⟩;refine bY fun m4 fU _ fu=>bS fun jQ ki=>?_
 refine iV (fun _ _=>Uk [] none 0 jQ (dr _) (eD.nil _ _ _)) fun v w' _ ⟨q,aB,bg⟩=>⟨q.vars.length,q.bA,q.ao.length,q.eF,q.bj.length,q.ef,⟨q.aT.toArray⟩,q.bx,q.eL,q.ea,aB,fun lX Ed kX Ig=>?_⟩
 obtain⟨b0,bZ⟩:=KR bg Ed fun b J an _=>Ig b J (by rw[Ed];exact an)
 obtain⟨f1,f2⟩:=UK (p:=ez.line []) (by decide) bg.av;have eS:fw q lX:=⟨by rw[bg.vs];decide,by omega,by omega,by rw[bg.vs];exact KS,KQ (W:=lX) bg (Ext.refl lX) (fun u hu=>by cases hu),b0,bZ,eD.h3 (gW bg.of) Ed Ig⟩;refine bY fun m5 lY _ kj=>bS fun kk kl=>bS fun sF p_=>aP fun _ _ _=>⟨{q with aT:=[99]},rfl,?_,?_⟩
 ·have J:q.av=ez.line []:=bg.av;show _={ez.line [] with aT:=[99]};rw[<-J];rfl
 ·have h:=((eS.ext (aD kj (aD kl p_))).ext sF.dw);exact⟨h.gX,h.h6,h.mU,h.pv,h.fn,h.vs,h.ns,h.fs⟩
theorem axs {iD:List (cP×Int)} (h:iD.map (fun r=>(r.1.av,r.2))=ez.x6) {i:Nat} {r:cP×Int} (aw:iD[i]? =some r):(au.fp [ez.r_] r.1.av=r.2∧bq.fp [ez.r_] r.1.av=r.2)∧ez.F3 r.1.av=true:=by
 have hm:(r.1.av,r.2)∈ez.x6:=by rw[<-h];exact h7.2 ⟨r,k2 aw,rfl⟩
 have J:=ep.1 ez.avH _ hm;have an:=ep.1 ez.avI _ hm;have aI:=ep.1 ez.axk _ hm;exact⟨⟨by simpa using J,by simpa using an⟩,aI⟩
theorem axt (N:Nat) (W:al) (q:cP) (m5:Nat) (bg:q.av=ez.r_) (eS:fw q W) (bf:W.aV m5) (hm:W.w.heap[m5]? =some (.cells (gA q).toArray 31)) (iD:List (cP×Int)) (a:Option Addr) (c:Nat) (U3:iD.map (fun r=>(r.1.av,r.2))=ez.x6)
  (bD:b_ W a iD.length c 5 (iD.flatMap x_)) (axu:∀r∈iD,fw r.1 W) (b7:lh W) (cC:mr W) (gK:iL W):
  UY.ak prog N (o4 fun u _=>u= .bool true) [] {N:=[c],A:=[some ⟨m5,0,none⟩,a]} W:=by
 have aO:iD.length=36:=by have:=congrArg List.length U3;rw[mW] at this;exact this
 refine dJ (fun aj vs ls _=>∃i:Nat,vs=[.int .i64 (i:Nat)]∧ls=[]∧i<=36∧aj=36-i) 36 ⟨0,rfl,rfl,dr _,rfl⟩ ?_;rintro aj vs ls cn bH ⟨i,rfl,rfl,a8,rfl⟩;refine⟨(i:Int),rfl,rfl,fun _=>aK (fun aJ=>?_) fun aJ=>?_⟩
 ·simp only[U,cX] at aJ;have cp:i<iD.length:=by omega
  have j:iD[i]? =some iD[i]:=dn cp;generalize iD[i]=r at j;obtain⟨⟨t1,t2⟩,t3⟩:=axs U3 j;obtain⟨fk,kx,jd⟩:=axl t3;have aw:=axu r (k2 j);refine a6 ?_ (a6 (eZ (by simp only[U];omega)) (cI ⟨r.2,r.1.vars.length,r.1.bA,r.1.ao.length,r.1.eF,r.1.bj.length,r.1.ef,⟨r.1.aT.toArray⟩,r.1.bx,r.1.eL,r.1.ea,fun cq bo=>?_,?_⟩))
  ·simp only[E.b,aR,aX.push];exact b_.dL bD (by omega)
  ·have:=gh (P:=prog) UE (by decide) bD axm axn j (aD bH bo);simp only[U,ff] at this ⊢;exact this
  have cl:∀cq,Ext cn cq->(Instr.loadAt 31 (.pointer (some ⟨m5,0,none⟩))).run prog cq.w= .ok (.agg (gA q).toArray) cq.w:=fun cq bo=>by
   refine Bq axo axp (u7 _) fun aj u hu=>?_
   have:=cell_of_row cq.w m5 (0+aj) (gA q).toArray _ (0,0) (((aD bH bo).du m5 bf).trans hm);rw[ky,this,mY,List.getElem?_toArray];exact hu
  refine bY fun m cq _ bo=>bS fun dH cd=>cI ⟨q.vars.length,q.bA,q.ao.length,q.eF,q.bj.length,q.ef,⟨q.aT.toArray⟩,q.bx,q.eL,q.ea,fun dI cA=>cl dI (aD bo (aD cd cA)),?_⟩
  refine cj fun dI cA=>bY fun m1 cV _ bU=>?_
  have jk:=aD bH (aD bo (aD cd (aD cA bU)))
  have axv:∀(W':al) (b:Nat),Ext W W'->W'.w.heap[b]? =some (.cells (gA q).toArray 31)->da prog 12 #[.slice (some ⟨b,0,none⟩) 1 1,.agg (gA r.1).toArray] W' (.int .i64 r.2):=fun W' b x I=>by
   have x:=aD x W'.dw;have:=RI [q] (some ⟨b,0,none⟩) 1 r.1 W'.all (l7 rfl) (pj (n:=1) (sz:=4) I rfl).all (fun p hp=>by obtain rfl:=bd.1 hp;exact eS.ext x) (aw.ext x) (b7.ext x) (cC.ext x) (gK.ext x);rw[jo,List.map_nil,bg,t1] at this;exact this
  have axw:∀(W':al) (b:Nat),Ext W W'->W'.w.heap[b]? =some (.cells (gA q).toArray 31)->da prog 13 #[.slice (some ⟨b,0,none⟩) 1 1,.agg (gA r.1).toArray] W' (.int .i64 r.2):=fun W' b x I=>by
   have x:=aD x W'.dw;have:=avQ [q] (some ⟨b,0,none⟩) 1 r.1 W'.all (l7 rfl) (pj (n:=1) (sz:=4) I rfl).all (fun p hp=>by obtain rfl:=bd.1 hp;exact eS.ext x) (aw.ext x) fk (fun i a8=>kx i (by unfold cP.av;simpa using a8)) jd;rw[jo,List.map_nil,bg,t2] at this;exact this
  refine lF ⟨r.2,fun W' x I _=>axv W' m1 (aD jk x) (I _ (bd.2 rfl)),aK (fun c2=>?_) fun c2=>?_⟩
  ·refine cI ⟨q.vars.length,q.bA,q.ao.length,q.eF,q.bj.length,q.ef,⟨q.aT.toArray⟩,q.bx,q.eL,q.ea,fun dQ df=>cl dQ (aD bo (aD cd (aD cA (aD bU df)))),?_⟩;refine cj fun dQ df=>bY fun m2 dX _ dK=>?_
   have jB:=aD jk (aD df dK);refine lF ⟨r.2,fun W' x I _=>axw W' m2 (aD jB x) (I _ (bd.2 rfl)),cj fun fm eY=>aK (fun c3=>?_) fun c3=>eC fun fU _ fu _ _=>b1 ⟨36-(i+1),by omega,i+1,?_,rfl,by omega,rfl⟩⟩
   ·exfalso;simp[U,cX] at c3;omega
   ·simp only[U];rw[cE (by omega) (by omega)];rfl
  ·exfalso;simp[U] at c2
 ·refine b5 (fun _ _=>alx cn (b7.ext bH) (cC.ext bH) (gK.ext bH)) ⟨true,rfl,fun cq bo=>aP fun _ _ _=>⟨_,rfl,rfl⟩⟩
theorem axx:((f3.body).bind (mid 8)).isSome=true:=by kernel_rfl
theorem axy (W:al) (b7:lh W) (cC:mr W) (gK:iL W):da prog 3 #[] W (.bool true):=by
 have b7:=b7.ext W.dw;have cC:=cC.ext W.dw;have gK:=gK.ext W.dw;obtain⟨⟨ops,oD,gy⟩,hm⟩:=Aa.1 axx;obtain⟨kG,I,hm⟩:=vD.1 hm
 have Hs:FW prog=ops:=by
  unfold FW UD;rw[func3,lK,I,lK,hm]
 obtain⟨r,aw⟩:=Aa.1 awE;have axz:CL prog=r:=by unfold CL;rw[aw];rfl
 have uQ:=awF;have Cr:=awG;have k4:=awH;rw[axz] at uQ Cr;unfold KN at aw;rw[Hs] at aw k4;refine awC func3 I F2 U1 [] {} KX axi (fun v aB=>by cases aB) (W:=W.all) (R1:=U2) (axr W) (fun cD w' ⟨q,h,_⟩=>by cases h) fun d M bB W1 bM aY a_=>?_
 generalize wh:({}:aX).push d=ρ at aY a_;obtain⟨q,aB,bg,eS⟩:=a_ (fun b I=>by cases I) (fun b I=>by cases I) (fun r aw=>by cases aw) ⟨List.Pairwise.nil,fun r aw=>by cases aw⟩;injection aB with aB
 injection aB with aB
 have aB:=Array.mk.inj aB;obtain⟨hx,aB⟩:=ug aB;obtain⟨gj,aB⟩:=ug aB;obtain⟨c8,aB⟩:=ug aB;obtain⟨bh,aB⟩:=ug aB;obtain⟨a7,aB⟩:=ug aB;obtain⟨fy,_⟩:=ug aB
 have dB:∀b∈UZ.hp,∀cs,af.ak ρ (.agg b.cs)= .agg cs->W1.w.heap[aR ρ.M b.m 0]? =some (.cells cs b.ty):=fun b I cs e=>by
  have h:=aY.hp b I;unfold b4.at at h;injection e with e
  rw[h,e]
 have xL:=dB _ (c6 ..) _ hx;have vk:=dB _ (dq _ (c6 ..)) _ gj;have jd:=dB _ (dq _ (dq _ (c6 ..))) _ c8;have kx:=dB _ (dq _ (dq _ (dq _ (c6 ..)))) _ bh;have fk:=dB _ (dq _ (dq _ (dq _ (dq _ (c6 ..))))) _ a7;have cm:=dB _ (dq _ (dq _ (dq _ (dq _ (dq _ (c6 ..)))))) _ fy;clear hx gj c8 bh a7 fy aB dB;have lt:∀{b:Nat} {x:Obj},W1.w.heap[b]? =some x->b<W1.w.heap.size:=fun h=>(fq.1 h).1
 let cn:al:=⟨{W1.w with drawn:=W1.w.drawn+1},fun b=>b<W1.w.heap.size,fun _ h=>h⟩
 have bH:Ext W1 cn:=⟨e9 _,fun b I=>W1.lt b I,fun _ _=>rfl,rfl,rfl,rfl⟩;have eS:fw q cn:=eS.ext ⟨e9 _,fun b I=>I,fun _ _=>rfl,rfl,rfl,rfl⟩
 have ee:KO (aR ρ.M 0 0) bB cn:=by
  refine⟨aY.az (.tmp 1) _ rfl,cm,lt cm,aY.az (.tmp 2) _ rfl,aY.az (.tmp 7) _ rfl,fun t n h=>?_⟩;simp only[dh,vF,eT,or_false] at h;rcases h with⟨rfl,rfl⟩|⟨rfl,rfl⟩|⟨rfl,rfl⟩|⟨rfl,rfl⟩
  ·exact⟨_,aY.az (.tmp 3) _ rfl,lt fk,fk⟩
  ·exact⟨_,aY.az (.tmp 4) _ rfl,lt kx,kx⟩
  ·exact⟨_,aY.az (.tmp 5) _ rfl,lt jd,jd⟩
  ·exact⟨_,aY.az (.tmp 6) _ rfl,lt vk,vk⟩
 have eU:bB.tmps.size=336:=aY.len;refine awx kG hm fun id=>wp_region_any (by kernel_rfl) (awo (W0:=cn) (hold:=hold (aR ρ.M 0 0)) aw (by omega) (awJ _) (awM _) (fun g o jn s a W J an aI _ bu=>aw8 ee g o jn s a W J an aI bu) fun a9 fm eY pR x1 axA c1=>?_)
 obtain⟨iD,ad,c,b0,bZ,eG,gu⟩:=c1 285 _ uQ rfl (by omega);have gU:=c1 286 _ Cr.1 rfl (by omega);have il:=c1 287 _ Cr.2 rfl (by omega);have aO:iD.length=36:=by have:=congrArg List.length b0;rw[mW] at this;exact this
 have f0:=(z_ (pR 0 (.inl (by decide)))).trans (aY.az (.tmp 0) _ rfl);have f8:=(z_ (pR 8 (.inl (by decide)))).trans (aY.az (.tmp 8) _ rfl);have y:=aD bM (aD bH eY)
 refine awB I F2 8 hm axj (W0:=W.all) (ρ:={N:=[c],A:=[some ⟨aR ρ.M 5 0,0,none⟩,ad]}) ⟨rfl,fun v aB=>(by cases aB),?_,x1.trans eU,axA.trans aY.iC,fun b I=>(by cases I),fun b I=>(by cases I),fun r aw=>(by cases aw),fun b I=>(by cases I),fun b I=>(by cases I),fun r aw=>(by cases aw),List.Pairwise.nil,List.Pairwise.nil,fun p hp=>(by cases hp),fun b I=>?_,e9 _,y⟩ rfl
  (axt _ fm q (aR ρ.M 5 0) bg (eS.ext eY) (eY.sub _ (lt xL)) ((eY.du _ (lt xL)).trans xL) iD ad c b0 eG gu (b7.ext y) (cC.ext y) (gK.ext y))
 ·intro x s j;cases x with
  |tmp t=>
   simp only[dU,U0,gB] at j;split at j
   ·rename_i h;obtain rfl:=eE h;obtain rfl:=bm j;exact f0
   split at j
   ·rename_i h;obtain rfl:=eE h;obtain rfl:=bm j;exact f8
   split at j
   ·rename_i h;obtain rfl:=eE h;obtain rfl:=bm j;rw[aO] at bZ;exact bZ
   split at j
   ·rename_i h;obtain rfl:=eE h;obtain rfl:=bm j;exact gU
   split at j
   ·rename_i h;obtain rfl:=eE h;obtain rfl:=bm j;exact il
   ·cases j
  |const v=>simp only[dU] at j;obtain rfl:=bm j;rw[qm];rfl
  |global g=>simp only[dU] at j;obtain rfl:=bm j;rfl
  |func f=>simp only[dU] at j;obtain rfl:=bm j;simp[Act.eval,af.ak,af.b2]
 ·by_cases h:b<W.w.heap.size
  ·exact .inl h
  ·exact .inr (Nat.le_of_not_lt h)
open Go.Proofs.Tryz Go Go.RowKit Go.cK Go.Own
theorem axB (W:World) (hz:laidMetH prog tT W) (JJ:W.ShapedOpen prog):
  Calls prog 3 #[] W fun e w'=>e= .returned (.bool true)∧ig W w':=
 (axy (al.of W).all (alU hz JJ) (al4 hz) (al7 hz)).out
end Go.Proofs.YtkpjmlnhhggenaaGreatDoor
end
section
namespace Go.Proofs.YtkpjmlnhhggenaaGreatDoor.validNames
open Go.Proofs.Tryz Go.ChangeShapes Go.WideShapes Go.ChangeAt Go.RowKit Go.Own
open Go.ChangeMaps (open_string shut_string)
theorem own:ownKnob prog.godebug=none:=by kernel_rfl
theorem laidOut:laidOutB prog=true:=by kernel_rfl
noncomputable abbrev start (os:Os):World:=World.laidAll prog os Rows.validNamesRow.laid
theorem axC (os:Os):laidMetH prog Rows.validNamesRow.laid ((start os).forCall (fun _ _=>0) ⟨#[],#[],[]⟩).memory:=by rw[MakeChecks.laidMetH_plain _ _ _ (by kernel_rfl)];exact laidMet_laidAll _ (by kernel_rfl) (by kernel_rfl)
theorem reads (os:Os) {H:Type} (enc:TypeId×Value->H):∃ho,DataW.whole enc prog ((start os).forCall (fun _ _=>0) ⟨#[],#[],[]⟩).memory f3.params.toList Rows.validNamesSpec.vars false (#[]:Array Value).toList 8=some ([],[],ho):=⟨[],by kernel_rfl⟩
theorem lifted (os:Os) (started:os.Started) (H:Type) (enc:TypeId×Value->H) (F:Stop.Interp):
  ReturnsInHanded {} checked os 3 .any ((OpenSpec.ofChange Rows.validNamesSpec).preRow enc prog f3 Rows.validNamesRow.domain false Rows.validNamesRow.laid) (((OpenSpec.ofChange Rows.validNamesSpec).at F).post enc prog f3 false true false false):=by
 obtain⟨ho,j⟩:=reads os enc
 refine returnsInHanded_of_row (C:=checked) (s:=OpenSpec.ofChange Rows.validNamesSpec) own started (by kernel_rfl) func3
  (witness_row_atRef (enc:=enc) (C:=checked) false (start os) #[] (World.laidAll_os _ _ _) (by kernel_rfl) (by kernel_rfl) (by kernel_rfl)
   (OpenSpec.preRow_of_cond 8 j (by kernel_rfl) (fun k aA=>by cases aA) (by kernel_rfl) (axC os))) ?_
 intro W nc args xN gs before U4 sw ayH _ U5 hz axD _;have axE:∀(aj:Nat) t v,f3.params[aj]? =some t->args[aj]? =some v->Value.okWide prog W .any nc t v:=U4;have axF:=sw;obtain⟨p,q,U6,ct,rfl,ayI,fW⟩:=sw;have ee:DataW.TrodAll enc prog W 0 (fun _=>true) true f3.params.toList args.toList xN p:=U6;have k4:(DataW.weightsEach prog (f3.params.toList++Rows.validNamesSpec.plain.varTypes prog) (xN++gs)).all (· <=reachBytes)=true:=U5;rw[params3] at ee axE k4;obtain⟨rfl,rfl,rfl⟩:=trodAll_none ee;obtain⟨rfl,rfl⟩:=trodVars_none ct;clear U6 U4 U5;refine(axB W hz axD).mono fun e W' ⟨he,axG⟩=>?_
 subst he;exact⟨_,rfl,_,_,_,[],_,[],axF,trodAll_mk1 (shut_bool underlying4 _),trodAll_mk0,rfl,axG.out.frame _,fun h=>by cases h⟩
theorem said:Rows.ValidNamesSaid:=
 OpenClaim.holds_of_cond 3 f3 rfl rfl rfl rfl rfl rfl rfl ⟨rfl,rfl,rfl,rfl,rfl⟩ rfl rfl rfl rfl rfl (by kernel_rfl) func3 (by kernel_rfl)
  (of_decide_eq_true (by kernel_rfl)) (by unfold Func.isWrapper;first|(rw[if_pos (by decide+kernel)];kernel_rfl)|(rw[if_neg (by decide+kernel)];exact⟨rfl,rfl⟩))
  (fun os started H enc _ F=>by rw[OpenClaim.pre_eq_preRow];exact lifted os started H enc F)
theorem plain (f:FuncId) (fn:Func) (bs:Tryz.pinned.checked.prog.funcNamed "callboard/callboardlaw16.ValidNames" =some f) (j7:Tryz.pinned.checked.prog.funcs[f]? =some fn):
  true=Tryz.pinned.checked.prog.looks []∧∀(aj:Nat) t,fn.params[aj]? =some t->Tryz.pinned.checked.prog.wantsStandIn t=false:=by
 obtain rfl:f=3:=bm ((show prog.funcNamed "callboard/callboardlaw16.ValidNames" =some 3 by kernel_rfl).symm.trans bs)|>.symm
 obtain rfl:fn=f3:=(bm (func3.symm.trans j7)).symm;refine⟨by kernel_rfl,fun aj t bb=>?_⟩;rw[params3] at bb;simp at bb
theorem proved:Rows.ValidNamesCardSaid:=
 Claim7.holds_tied_plain_at .later [] _ _ _ _ said (fun _ h=>by cases h) (by kernel_rfl) (fun _ h=>by cases h) validNames_row_tie rfl ⟨rfl,rfl⟩ (by kernel_rfl) rfl plain (by kernel_rfl)
#print axioms proved
end Go.Proofs.YtkpjmlnhhggenaaGreatDoor.validNames
end
