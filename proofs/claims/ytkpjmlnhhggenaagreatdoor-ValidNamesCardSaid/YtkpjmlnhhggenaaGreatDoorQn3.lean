/- Texts of the claim, one behind the other: LxSe LxFirst SfE VcLaw LxLex PxPlain VcParse PxSe PxMem PxRead PxFacts PxTree PxWhole VcParse2 PxParse VcVm1 VaPlain VaNum VaRefPlain VdPlain VsMayT TyPlain VcTyped TySe TyTyped MdPlain VcVal1 MdSe MdVars SfF. -/
import Derived.Test.YtkpjmlnhhggenaaGreatDoorQn2
import Derived.Lib.AtoiErrMem
import Derived.Test.YtkpjmlnhhggenaaGreatDoorProg
import Derived.Lib.ParseIntBTie
import Derived.Tactics
import Derived.Tactics2
import Derived.Defers
import Derived.Recover
import Derived.Handy
import Derived.StillTailTactics
import Derived.Laws.Pointers
import Derived.Lib.Bytealg
import Derived.IntWalk
import Derived.WalkLawsBesides
import Derived.Lib.ItoaNum
set_option linter.unusedSimpArgs false
set_option linter.unusedVariables false
set_option maxRecDepth 100000
section
namespace Go.Proofs.YtkpjmlnhhggenaaGreatDoor
open Go.Proofs.Tryz Go Go.RowKit Go.cK
structure lh (W:al):Prop where
 eN:∃ty,W.w.heap[3]? =some (.cells (ax.eN.map fun s=>Value.string ⟨s.toArray⟩).toArray ty)
 Nv:W.aV 3
 Nw:∃nM p,W.w.var? prog "strconv.ErrSyntax" =some #[.iface nM p]
 Nx:W.aV 8
 Ny:∃nM p,W.w.var? prog "strconv.ErrRange" =some #[.iface nM p]
 Nz:W.aV 9
 NA:∃m,W.w.cell? ⟨7,0,none⟩=some (.int .i64 m)
 NB:W.aV 7
theorem HY:prog.globalNamed "strconv.ErrSyntax" =some 8:=by kernel_rfl
theorem HZ:prog.globalNamed "strconv.ErrRange" =some 9:=by kernel_rfl
theorem Yu {W W':al} (x:Ext W W') {b:Nat} (bf:W.aV b) (o:Nat) (p:_):W'.w.cell? ⟨b,o,p⟩=W.w.cell? ⟨b,o,p⟩:=World.cell?_of_block (w:=W.w) (x.du b bf)
theorem NC {W W':al} (x:Ext W W') {g:Nat} {n:String} (bP:prog.globalNamed n=some g) (bf:W.aV g):W'.w.var? prog n=W.w.var? prog n:=by
 unfold World.var?;rw[bP];simp only[lK];rw[x.du g bf]
theorem lh.ext {W W':al} (h:lh W) (x:Ext W W'):lh W':=
 ⟨by rw[x.du _ h.Nv];exact h.eN,x.sub _ h.Nv,by rw[NC x HY h.Nx];exact h.Nw,x.sub _ h.Nx,by rw[NC x HZ h.Nz];exact h.Ny,x.sub _ h.Nz,
  by rw[Yu x h.NB];exact h.NA,x.sub _ h.NB⟩
theorem qK (l:List UInt8) (i:Nat) (h:i<l.length):l.drop i=aR l i 0::l.drop (i+1):=by
 rw[CP h];exact mG h
theorem kH (t:ByteArray):t.data.toList.length=t.size:=by rw[sS];rfl
theorem cE {x:Int} (bk: -9223372036854775808<=x) (J:x<=9223372036854775807):IntKind.i64.wrap x=x:=Ai .i64 x (by simpa[IntKind.min,IntKind.bits,IntKind.signed] using bk) (by simpa[IntKind.max,IntKind.bits,IntKind.signed] using J)
theorem H0 {s t:ByteArray} (h:s.data.toList=t.data.toList):s=t:=by
 obtain⟨⟨l⟩⟩:=s;obtain⟨⟨m⟩⟩:=t;simp at h;subst h;rfl
theorem Yv (t:ByteArray):(⟨t.data.toList.toArray⟩:ByteArray)=t:=H0 (by simp)
theorem dW {a b:Int} (h:a<b):eg a b=true:=by simpa[eg] using h
theorem c_ {a b:Int} (h:a<=b):er a b=true:=by simpa[er] using h
theorem wQ {a b:Int} (h:b<=a):eg a b=false:=by rw[c7];exact h
theorem ND (t:ByteArray) (bb:t.size<=9223372036854775807) (W:al):da prog 144 #[.string t,.func (.func 141) #[] #[]] W (.int .i64 (ax.run ax.eR t.data.toList:Nat)):=by
 refine Xb t W.all _ ?_;refine dJ (fun aj vs ls _=>∃i:Nat,vs=[.int .i64 (i:Int)]∧ls=[]∧i<=t.size∧aj=t.size-i∧i+ax.run ax.eR (t.data.toList.drop i)=ax.run ax.eR t.data.toList) t.size ⟨0,rfl,rfl,dr _,rfl,by simp⟩ ?_;rintro n vs ls W' x ⟨i,rfl,rfl,a8,rfl,bl⟩;have bD:=kH t
 have J:∀b:Bool,(!eg (i:Int) (t.size:Int)||b)=true↔(i<t.size->b=true):=fun b=>by
  cases I:eg (i:Int) (t.size:Int)
  ·rw[c7] at I;simp;intro h;omega
  ·rw[cX] at I;simp;left;omega
 refine⟨(i:Int),rfl,rfl,fun _=>a6 ?_ (a6 ?_ (aK (fun c=>?_) fun c=>?_))⟩
 ·simp only[U];exact(J _).2 fun _=>c_ (by omega)
 ·simp only[U];exact(J _).2 fun h=>dW (by omega)
 ·simp only[U,cX] at c;have aO:i<t.data.toList.length:=by omega
  have a_:=qK t.data.toList i aO;rw[a_] at bl;refine cj fun _ _=>aK (fun c2=>?_) fun c2=>?_
  ·have c2:ax.eR (aR t.data.toList i 0)=true:=c2;rw[ax.pf c2] at bl;refine b1 ⟨t.size-(i+1),by omega,i+1,?_,rfl,by omega,rfl,by omega⟩;simp only[U];rw[cE (by omega) (by omega)];rfl
  ·have c2:ax.eR (aR t.data.toList i 0)=false:=c2;rw[ax.uU c2] at bl;refine aP fun _ _ _=>⟨_,rfl,?_⟩
   show Value.int .i64 (i:Int)=_;rw[<-bl];rfl
 ·simp only[U,c7] at c;refine aP fun _ _ _=>⟨_,rfl,?_⟩
  show Value.int .i64 (i:Int)=_;rw[fV (by omega),ax.wP] at bl;rw[<-bl];rfl
theorem NF (t:ByteArray) (bb:t.size<=9223372036854775807) (W:al):da prog 144 #[.string t,.func (.func 143) #[] #[]] W (.int .i64 (ax.run ax.fK t.data.toList:Nat)):=by
 refine Xg t W.all _ ?_;refine dJ (fun aj vs ls _=>∃i:Nat,vs=[.int .i64 (i:Int)]∧ls=[]∧i<=t.size∧aj=t.size-i∧i+ax.run ax.fK (t.data.toList.drop i)=ax.run ax.fK t.data.toList) t.size ⟨0,rfl,rfl,dr _,rfl,by simp⟩ ?_;rintro n vs ls W' x ⟨i,rfl,rfl,a8,rfl,bl⟩;have bD:=kH t
 have J:∀b:Bool,(!eg (i:Int) (t.size:Int)||b)=true↔(i<t.size->b=true):=fun b=>by
  cases I:eg (i:Int) (t.size:Int)
  ·rw[c7] at I;simp;intro h;omega
  ·rw[cX] at I;simp;left;omega
 refine⟨(i:Int),rfl,rfl,fun _=>a6 ?_ (a6 ?_ (aK (fun c=>?_) fun c=>?_))⟩
 ·simp only[U];exact(J _).2 fun _=>c_ (by omega)
 ·simp only[U];exact(J _).2 fun h=>dW (by omega)
 ·simp only[U,cX] at c;have aO:i<t.data.toList.length:=by omega
  have a_:=qK t.data.toList i aO;rw[a_] at bl
  have yes:ax.fK (aR t.data.toList i 0)=true->∃fZ,fZ<t.size-i∧∃i':Nat,[Value.int .i64 (IntKind.i64.wrap ((i:Int)+1))]=[.int .i64 (i':Int)]∧([]:List (List Value))=[]∧i'<=t.size∧fZ=t.size-i'∧i'+ax.run ax.fK (t.data.toList.drop i')=ax.run ax.fK t.data.toList:=fun c2=>by
   rw[ax.pf c2] at bl;refine⟨t.size-(i+1),by omega,i+1,?_,rfl,by omega,rfl,by omega⟩;rw[cE (by omega) (by omega)];rfl
  refine aK (fun c2=>cj fun _ _=>aK (fun c3=>b1 (yes ?_)) fun c3=>?_) fun c2=>cj fun _ _=>b1 (yes ?_)
  ·have c2:(!ax.eR (aR t.data.toList i 0))=true:=c2;have c3:(ax.h1 (aR t.data.toList i 0)||(((aR t.data.toList i 0).toNat:Int)==95))=true:=c3;unfold ax.fK;rw[Bool.or_assoc,c3,gf]
  ·have c2:(!ax.eR (aR t.data.toList i 0))=true:=c2;have c3:(ax.h1 (aR t.data.toList i 0)||(((aR t.data.toList i 0).toNat:Int)==95))=false:=c3
   have c4:ax.fK (aR t.data.toList i 0)=false:=by
    unfold ax.fK;rw[Bool.or_assoc,c3,Bool.or_false];simpa using c2
   rw[ax.uU c4] at bl;refine aP fun _ _ _=>⟨_,rfl,?_⟩
   show Value.int .i64 (i:Int)=_;rw[<-bl];rfl
  ·have c2:(!ax.eR (aR t.data.toList i 0))=false:=c2;unfold ax.fK;rw[Bool.or_assoc];have:ax.eR (aR t.data.toList i 0)=true:=by simpa using c2
   rw[this,qh]
 ·simp only[U,c7] at c;refine aP fun _ _ _=>⟨_,rfl,?_⟩
  show Value.int .i64 (i:Int)=_;rw[fV (by omega),ax.wP] at bl;rw[<-bl];rfl
theorem Yw (t:ByteArray) (bb:t.size<=9223372036854775807) (W:al):da prog 144 #[.string t,.func (.func 148) #[] #[]] W (.int .i64 (ax.run ax.oH t.data.toList:Nat)):=by
 refine Xk t W.all _ ?_;refine dJ (fun aj vs ls _=>∃i:Nat,vs=[.int .i64 (i:Int)]∧ls=[]∧i<=t.size∧aj=t.size-i∧i+ax.run ax.oH (t.data.toList.drop i)=ax.run ax.oH t.data.toList) t.size ⟨0,rfl,rfl,dr _,rfl,by simp⟩ ?_;rintro n vs ls W' x ⟨i,rfl,rfl,a8,rfl,bl⟩;have bD:=kH t
 have J:∀b:Bool,(!eg (i:Int) (t.size:Int)||b)=true↔(i<t.size->b=true):=fun b=>by
  cases I:eg (i:Int) (t.size:Int)
  ·rw[c7] at I;simp;intro h;omega
  ·rw[cX] at I;simp;left;omega
 refine⟨(i:Int),rfl,rfl,fun _=>a6 ?_ (a6 ?_ (aK (fun c=>?_) fun c=>?_))⟩
 ·simp only[U];exact(J _).2 fun _=>c_ (by omega)
 ·simp only[U];exact(J _).2 fun h=>dW (by omega)
 ·simp only[U,cX] at c;have aO:i<t.data.toList.length:=by omega
  have a_:=qK t.data.toList i aO;rw[a_] at bl;refine cj fun _ _=>aK (fun c2=>?_) fun c2=>?_
  ·have c2:ax.oH (aR t.data.toList i 0)=true:=c2;rw[ax.pf c2] at bl;refine b1 ⟨t.size-(i+1),by omega,i+1,?_,rfl,by omega,rfl,by omega⟩;simp only[U];rw[cE (by omega) (by omega)];rfl
  ·have c2:ax.oH (aR t.data.toList i 0)=false:=c2;rw[ax.uU c2] at bl;refine aP fun _ _ _=>⟨_,rfl,?_⟩
   show Value.int .i64 (i:Int)=_;rw[<-bl];rfl
 ·simp only[U,c7] at c;refine aP fun _ _ _=>⟨_,rfl,?_⟩
  show Value.int .i64 (i:Int)=_;rw[fV (by omega),ax.wP] at bl;rw[<-bl];rfl
theorem below_draws (w:World) (w':World) (h:w'=w∨∃t,w'=Lib.bytesWorld w 5 t):Below w.heap.size w w':=by
 rcases h with rfl|⟨t,rfl⟩
 ·exact Below.refl _ _
 ·exact Lib.bytesWorld_below _ _ _
theorem NG (t:ByteArray) (bb:t.size<=281474976710656) (W:al) (b7:lh W):gR prog 147 #[.string t,.int .i64 10,.int .i64 64] W.all
  fun v w'=>∃n e,v= .tuple #[.int .i64 n,e]∧vP e=true∧vO e=ax.y2 (Lib.parseIntB 64 t.data.toList)∧∀m,Lib.parseIntB 64 t.data.toList= .ok m->n=m:=by
 rcases hp:Lib.parseIntB 64 t.data.toList with m|_|_
 ·exact Calls.mono (strconv_ParseInt_10_at64_ok t (by omega) m hp W.w) fun e w' ⟨he,hw⟩=>⟨cO.kA (below_draws _ _ hw),_,he,m,.nilIface,rfl,rfl,rfl,fun k aA=>by injection aA⟩
 ·obtain⟨nM,p,aB⟩:=b7.Nw;exact Calls.mono (strconv_ParseInt_10_at64_syntax_var t bb hp nM p W.w aB) fun e w' ⟨N,he,_,_,I⟩=>⟨cO.kA I,_,he,_,_,rfl,rfl,rfl,fun k aA=>by cases aA⟩
 ·obtain⟨nM,p,aB⟩:=b7.Ny;exact Calls.mono (strconv_ParseInt_10_at64_range_var t bb hp nM p W.w aB) fun e w' ⟨N,he,_,_,I⟩=>⟨cO.kA I,_,he,_,_,rfl,rfl,rfl,fun k aA=>by cases aA⟩
theorem NH {v:Value} (h:vP v=true):v.oneCell'=true:=by cases v<;>first|rfl|cases h
theorem Yx {l:List UInt8} (h:ax.y2 (Lib.parseIntB 64 l)=true):0<l.length:=by
 cases l with
 |nil=>cases h
 |cons c r=>simp
theorem Yy (t:ByteArray):Lib.containsS (ax.eN.map fun s=>(⟨s.toArray⟩:ByteArray)) t=ax.eN.contains t.data.toList:=by
 rw[oc,Lib.containsS_iff,yd,h7];constructor
 ·rintro⟨s,bD,rfl⟩;simpa using bD
 ·intro h;exact⟨_,h,Yv t⟩
theorem pY {l:List UInt8} {c:UInt8} {r:List UInt8} (h:l=c::r):aR l 0 0=c:=by rw[h];rfl
theorem D2 (k:Int) (t:ByteArray) (bb:t.size<=281474976710656) (W:al) (b7:lh W):da prog 107 #[.agg #[.int .u8 k,.string t]] W (.bool (ax.en k t.data.toList)):=by
 refine Xx k t W.all _ ?_;have bD:=kH t;have b7:=b7.ext W.dw;refine bY fun m W1 _ bM=>?_
 have NI:=b7.ext bM;refine aK (fun c=>?_) fun c=>aK (fun c2=>?_) fun c2=>aK (fun c3=>?_) fun c3=>aK (fun c4=>?_) fun c4=>?_
 ·have aA:k=1:=by simpa[U] using c
  subst aA;refine iV (fun _ _=>NG t bb W1 NI) fun v w' _ ⟨n,e,aB,J,an,aI⟩=>⟨n,e,NH J,aB,fun cn _ bH _=>?_⟩
  simp only[aU];refine a6 J (aK (fun c5=>?_) fun c5=>?_)
  ·have c5:vO e=true:=c5;rw[c5] at an;have wR:=Yx an.symm;refine b5 (fun _ _=>ND t (by omega) cn) ⟨_,rfl,fun cq bo=>?_⟩;simp only[aU]
   obtain⟨cD,r,aO⟩:∃cD r,t.data.toList=cD::r:=by
    cases aO:t.data.toList with
    |nil=>rw[aO] at wR;simp at wR
    |cons cD r=>exact⟨cD,r,rfl⟩
   refine a6 ?_ (a6 ?_ (aP fun _ _ _=>⟨_,rfl,?_⟩))
   ·simp[U,er]
   ·simp only[U];rw[dW (by omega)];simp
   ·show Value.bool _=_;simp only[U,ax.en,ax.lf,<-an,if_true,eX]
    have a7:((ax.run ax.eR t.data.toList:Nat)==t.data.toList.length)=(((ax.run ax.eR t.data.toList:Nat):Int)==(t.size:Int)):=by
     rw[oc];simp;omega
    have bh:(t.data.toList.length==1)=((t.size:Int)==1):=by rw[oc];simp;omega
    have c8:(!(t.data.toList.head?==some 48))= !(((aR t.data.toList (0:Int).toNat 0).toNat:Int)==48):=by
     rw[aO];show(!(some cD==some 48))= !((cD.toNat:Int)==48);congr 1;rw[oc];simp only[beq_iff_eq,nT];constructor
     ·rintro rfl;rfl
     ·intro h;apply UInt8.toNat_inj.1;have:(48:UInt8).toNat=48:=rfl;omega
    rw[a7,bh,c8]
  ·have c5:vO e=false:=c5;rw[c5] at an;refine aP fun _ _ _=>⟨_,rfl,?_⟩
   show Value.bool false=_;simp[ax.en,ax.lf,<-an]
 ·have aA:k=2:=by simpa[U] using c2
  subst aA;have hle:(t.data.toList==[])=true↔t.size=0:=by rw[beq_iff_eq,<-sW];omega
  refine a6 ?_ (a6 ?_ (aK (fun c5=>?_) fun c5=>?_))
  ·simp[U,er]
  ·simp only[U];cases cS:(t.data.toList==([]:List UInt8).toArray.toList)
   ·have:¬t.size=0:=fun h=>by rw[(show(t.data.toList==([]:List UInt8).toArray.toList)=true from hle.2 h)] at cS;cases cS
    rw[dW (by omega)];rfl
   ·rfl
  ·obtain⟨cD,r,aO⟩:∃cD r,t.data.toList=cD::r:=by
    cases aO:t.data.toList with
    |nil=>simp[U,aO] at c5
    |cons cD r=>exact⟨cD,r,rfl⟩
   refine cj fun cn bH=>aK (fun bw=>?_) fun bw=>?_
   ·have bw:ax.h1 (aR t.data.toList 0 0)=true:=bw;rw[pY aO] at bw;refine b5 (fun _ _=>NF t (by omega) cn) ⟨_,rfl,fun cq bo=>?_⟩;simp only[aU];refine aP fun _ _ _=>⟨_,rfl,?_⟩
    show Value.bool _=_
    have a7:((ax.run ax.fK t.data.toList:Nat)==t.data.toList.length)=(((ax.run ax.fK t.data.toList:Nat):Int)==(t.size:Int)):=by
     rw[oc];simp;omega
    have bh:decide (t.data.toList.length<=12)=er (t.size:Int) 12:=by rw[oc];simp[er];omega
    have c8:ax.en 2 t.data.toList=(ax.h1 cD&&((ax.run ax.fK t.data.toList==t.data.toList.length)&&decide (t.data.toList.length<=12))):=by
     simp only[ax.en];rw[aO];rfl
    rw[c8,bw,a7,bh];rfl
   ·have bw:ax.h1 (aR t.data.toList 0 0)=false:=bw;rw[pY aO] at bw;refine aP fun _ _ _=>⟨_,rfl,?_⟩
    show Value.bool false=_;simp only[ax.en];rw[aO];simp[ax.uT,bw]
  ·refine aP fun _ _ _=>⟨_,rfl,?_⟩
   show Value.bool false=_;have aO:t.data.toList=[]:=by simpa[U] using c5
   simp only[ax.en];rw[aO];rfl
 ·have aA:k=3:=by simpa[U] using c3
  subst aA;refine b5 (fun _ _=>Yw t (by omega) W1) ⟨_,rfl,fun cq bo=>?_⟩;simp only[aU];refine aP fun _ _ _=>⟨_,rfl,?_⟩
  show Value.bool _=_
  have a7:((ax.run ax.oH t.data.toList:Nat)==t.data.toList.length)=(((ax.run ax.oH t.data.toList:Nat):Int)==(t.size:Int)):=by
   rw[oc];simp;omega
  have bh:decide (t.data.toList.length<=40)=er (t.size:Int) 40:=by rw[oc];simp[er];omega
  have c8:ax.en 3 t.data.toList=((ax.run ax.oH t.data.toList==t.data.toList.length)&&decide (t.data.toList.length<=40)):=rfl;rw[c8,a7,bh];rfl
 ·have aA:k=4:=by simpa[U] using c4
  subst aA;refine Bm (b5 (v:=.bool (ax.eN.contains t.data.toList)) (fun _ _=>?_) ⟨_,rfl,fun cq bo=>?_⟩)
  ·obtain⟨ty,uV⟩:=NI.eN;refine da.kA ?_
   have J:=slices_Contains_string 3 0 14 14 (ax.eN.map fun s=>(⟨s.toArray⟩:ByteArray)) t W1.w (by decide) (by decide) (fun aj cu=>by
    simp only[World.cell?,uV];have LS:aj<14:=cu
    have:(ax.eN.map fun s=>Value.string ⟨s.toArray⟩).toArray[0+aj]? =some (.string ((ax.eN.map fun s=>(⟨s.toArray⟩:ByteArray)).getD aj ByteArray.empty)):=by
     rw[mY,List.getElem?_toArray,mD,oe,mD];cases h:ax.eN[aj]? with
     |none=>rw[List.getElem?_eq_none_iff] at h;have:ax.eN.length=14:=rfl;omega
     |some s=>rfl
    simpa using this)
   rw[show(ax.eN.map fun s=>(⟨s.toArray⟩:ByteArray)).take 14=ax.eN.map fun s=>(⟨s.toArray⟩:ByteArray) from rfl,Yy] at J;exact Calls.mono J fun e w' ⟨he,hw⟩=>⟨he,hw▸Below.refl _ _⟩
  ·refine aP fun _ _ _=>⟨_,rfl,rfl⟩
 ·refine aP fun _ _ _=>⟨_,rfl,?_⟩
  show Value.bool false=_;have J:¬k=1:=by simpa[U] using c
  have an:¬k=2:=by simpa[U] using c2
  have aI:¬k=3:=by simpa[U] using c3
  have cc:¬k=4:=by simpa[U] using c4
  simp[ax.en,J,an,aI,cc]
theorem pg (s p:ByteArray) (W:al):da prog 146 #[.string s,.string p] W (.bool (p.data.toList.isPrefixOf s.data.toList)):=
 .kA (Calls.mono (strings_HasPrefix s p W.w) fun e w' ⟨he,hw⟩=>⟨he,hw▸Below.refl _ _⟩)
theorem below_drewN (w:World) (n:Nat):Below w.heap.size w (w.drewN n):=⟨rfl,rfl,rfl,e9 _,fun _ _=>rfl⟩
theorem Yz (s:ByteArray) (bD:s.size<4294967281) (W:al) (b7:lh W):da prog 145 #[.string s,.string ⟨#[39]⟩] W (.tuple #[.string ⟨(Lib.cut s.data.toList [39]).1.toArray⟩,.string ⟨(Lib.cut s.data.toList [39]).2.1.toArray⟩,.bool (Lib.cut s.data.toList [39]).2.2]):=by
 obtain⟨m,hm⟩:=b7.NA;exact .kA (Calls.mono (strings_Cut s ⟨#[39]⟩ m W.w bD hm) fun e w' ⟨he,n,hw⟩=>⟨he,hw▸below_drewN _ _⟩)
def NJ:List af:=ax.eN.map fun s=>.str (.bN s)
theorem YA (W:al) (b7:lh W):(Instr.loadAt 179 (.pointer (some ⟨3,0,none⟩))).run prog W.w= .ok (.agg (ax.eN.map fun s=>Value.string ⟨s.toArray⟩).toArray) W.w:=by
 obtain⟨ty,h⟩:=b7.eN;have J:vQ prog 179 NJ 0=some (.agg NJ):=by kernel_rfl
 have an:=F6 (P:=prog) (ρ:={}) (w:=W.w) (b:=3) (ty:=ty) J (by rw[h];rfl);exact an
def D3 (t:ax.cJ):Value:=.agg #[.int .u8 t.k,.string ⟨t.t.toArray⟩]
def D4 (p:ax.cJ×Nat):Value:=.tuple #[D3 p.1,.int .i64 (p.2:Int)]
theorem NK (t:ByteArray) (n:Nat) (h:n<=t.size):(t.extract 0 n).data.toList=t.data.toList.take n:=by
 rw[ByteArray.data_extract,Array.toList_extract];simp[List.extract_eq_take_drop]
theorem NL (t:ByteArray) (n:Nat):(t.extract n t.size).data.toList=t.data.toList.drop n:=by
 rw[ByteArray.data_extract,Array.toList_extract];have:=kH t;simp only[List.extract_eq_take_drop];rw[sQ];rw[sV];omega
theorem NM {t:ByteArray} {l:List UInt8} (h:t.data.toList=l):t=⟨l.toArray⟩:=H0 (by simpa using h)
theorem YB (t:ByteArray) (bk:0<t.size) (bb:t.size<=1000000) (W:al) (b7:lh W):da prog 106 #[.string t] W (D4 (ax.first t.data.toList)):=by
 refine X9 t W.all _ ?_;have bD:=kH t;have b7:=b7.ext W.dw
 obtain⟨c,r,aO⟩:∃c r,t.data.toList=c::r:=by
  cases aO:t.data.toList with
  |nil=>rw[aO] at bD;simp at bD;omega
  |cons c r=>exact⟨c,r,rfl⟩
 have oI:r.length+1=t.size:=by rw[<-bD,aO];rfl
 refine bY fun m0 W1 _ bM=>bY fun m1 cn _ bH=>bY fun m2 cq _ bo=>bS fun dH cd=>a6 ?_ (a6 ?_ (cj fun dI cA=>?_))
 ·simp[U,er]
 ·simp only[U];exact dW (by omega)
 have YC:=(((bM.trans bH).trans bo).trans cd).trans cA;refine aK (fun aJ=>?_) fun aJ=>?_
 ·have aJ:ax.eR (aR t.data.toList 0 0)=true:=aJ;rw[pY aO] at aJ;refine b5 (fun _ _=>ND t (by omega) dI) ⟨((ax.run ax.eR t.data.toList:Nat):Int),rfl,fun cV bU=>?_⟩;simp only[aU];have hle:=ax.wO ax.eR t.data.toList;refine a6 ?_ (a6 ?_ (cj fun _ _=>bS fun _ _=>cj fun _ _=>aP fun _ _ _=>⟨_,rfl,?_⟩))
  ·simp only[U];exact c_ (by omega)
  ·simp only[U];exact c_ (by omega)
  ·have e:ax.first t.data.toList=(⟨1,t.data.toList.take (ax.run ax.eR t.data.toList)⟩,ax.run ax.eR t.data.toList):=by rw[aO];simp only[ax.first,aJ,if_true]
   rw[e,D4,D3,<-NM (NK t _ (by omega))];rfl
 ·have aJ:ax.eR (aR t.data.toList 0 0)=false:=aJ;rw[pY aO] at aJ;refine bY fun m3 cV _ bU=>bS fun dQ df=>cj fun dX dK=>?_
  have YD:=((YC.trans bU).trans df).trans dK;have NN:=b7.ext YD;refine aK (fun c2=>?_) fun c2=>aK (fun c3=>?_) fun c3=>?_
  ·have c2:ax.h1 (aR t.data.toList 0 0)=true:=c2;rw[pY aO] at c2;refine b5 (fun _ _=>NF t (by omega) dX) ⟨((ax.run ax.fK t.data.toList:Nat):Int),rfl,fun fm eY=>?_⟩;simp only[aU];have hle:=ax.wO ax.fK t.data.toList;refine a6 ?_ (a6 ?_ (cj fun _ _=>bS fun _ _=>cj fun _ _=>aP fun _ _ _=>⟨_,rfl,?_⟩))
   ·simp only[U];exact c_ (by omega)
   ·simp only[U];exact c_ (by omega)
   ·have e:ax.first t.data.toList=(⟨2,t.data.toList.take (ax.run ax.fK t.data.toList)⟩,ax.run ax.fK t.data.toList):=by rw[aO];simp only[ax.first,aJ,c2,if_true,rX,if_false]
    rw[e,D4,D3,<-NM (NK t _ (by omega))];rfl
  ·have c2:ax.h1 (aR t.data.toList 0 0)=false:=c2;rw[pY aO] at c2;have c3:(((aR t.data.toList 0 0).toNat:Int)==39)=true:=c3;rw[pY aO,beq_iff_eq] at c3;have aH:c=39:=by apply UInt8.toNat_inj.1;have:(39:UInt8).toNat=39:=rfl;omega
   have su:=Yz (t.extract 1 t.size) (by rw[ByteArray.size_extract];omega) dX NN;have iX:(t.extract 1 t.size).data.toList=r:=by rw[NL,aO];rfl
   rw[iX] at su;obtain⟨b0,bZ⟩:=ax.Yt r;refine a6 ?_ (a6 ?_ (a6 ?_ (b5 (fun _ _=>su) ⟨_,_,_,rfl,fun fm eY=>?_⟩)))
   ·simp[U,er]
   ·simp only[U];exact c_ (by omega)
   ·simp only[U];exact c_ (by omega)
   simp only[aU]
   have fy:ax.first t.data.toList=match ax.lg r with
    |some q=>(⟨3,q⟩,q.length+2)
    |none=>ax.none:=by
    rw[aO,aH];rfl
   refine aK (fun c4=>bS fun _ _=>aP fun _ _ _=>⟨_,rfl,?_⟩) fun c4=>bS fun _ _=>aP fun _ _ _=>⟨_,rfl,?_⟩
   ·have c4:(!(Lib.cut r [39]).2.2)=true:=c4;rw[b0] at c4
    have:ax.lg r=none:=by cases h:ax.lg r with
     |none=>rfl
     |some q=>rw[h] at c4;cases c4
    rw[fy,this];rfl
   ·have c4:(!(Lib.cut r [39]).2.2)=false:=c4;rw[b0] at c4;have bg:=bZ (by simpa using c4);have pZ:=ax.HX bg;rw[fy,bg];simp only[U,D4,D3];have k4:((⟨(Lib.cut r [39]).1.toArray⟩:ByteArray).size:Int)=((Lib.cut r [39]).1.length:Int):=by rw[<-kH]
    rw[k4,cE (by omega) (by omega)];rfl
  ·have c2:ax.h1 (aR t.data.toList 0 0)=false:=c2;rw[pY aO] at c2;have c3:(((aR t.data.toList 0 0).toNat:Int)==39)=false:=c3;rw[pY aO,beq_eq_false_iff_ne] at c3;have aH:c≠39:=by rintro rfl;exact c3 rfl
   have fy:ax.first t.data.toList=match ax.eN.find? fun x=>x.isPrefixOf t.data.toList with
    |some x=>(⟨4,x⟩,x.length)
    |none=>ax.none:=by
    rw[aO];simp only[ax.first,aJ,c2,aH,if_false,rX];rfl
   refine cI ⟨⟨#[60,61]⟩,⟨#[61,61]⟩,⟨#[33,61]⟩,⟨#[124]⟩,⟨#[38]⟩,⟨#[60]⟩,⟨#[43]⟩,⟨#[45]⟩,⟨#[42]⟩,⟨#[47]⟩,⟨#[37]⟩,⟨#[33]⟩,⟨#[40]⟩,⟨#[41]⟩,fun W' x=>YA W' (NN.ext x),?_⟩;simp only[aU];refine b5 (fun _ _=>pg t _ _) ⟨_,rfl,fun _ _=>aK (fun gQ=>bS fun _ _=>aP fun _ _ _=>⟨_,rfl,?_⟩) fun gQ=>?_⟩
   ·simp only[U] at gQ;rw[fy];simp only[ax.eN,List.find?,gQ];rfl
   simp only[aU];refine b5 (fun _ _=>pg t _ _) ⟨_,rfl,fun _ _=>aK (fun b0=>bS fun _ _=>aP fun _ _ _=>⟨_,rfl,?_⟩) fun b0=>?_⟩
   ·simp only[U] at gQ b0;rw[fy];simp only[ax.eN,List.find?,gQ,b0];rfl
   simp only[aU];refine b5 (fun _ _=>pg t _ _) ⟨_,rfl,fun _ _=>aK (fun bZ=>bS fun _ _=>aP fun _ _ _=>⟨_,rfl,?_⟩) fun bZ=>?_⟩
   ·simp only[U] at gQ b0 bZ;rw[fy];simp only[ax.eN,List.find?,gQ,b0,bZ];rfl
   simp only[aU];refine b5 (fun _ _=>pg t _ _) ⟨_,rfl,fun _ _=>aK (fun eG=>bS fun _ _=>aP fun _ _ _=>⟨_,rfl,?_⟩) fun eG=>?_⟩
   ·simp only[U] at gQ b0 bZ eG;rw[fy];simp only[ax.eN,List.find?,gQ,b0,bZ,eG];rfl
   simp only[aU];refine b5 (fun _ _=>pg t _ _) ⟨_,rfl,fun _ _=>aK (fun gu=>bS fun _ _=>aP fun _ _ _=>⟨_,rfl,?_⟩) fun gu=>?_⟩
   ·simp only[U] at gQ b0 bZ eG gu;rw[fy];simp only[ax.eN,List.find?,gQ,b0,bZ,eG,gu];rfl
   simp only[aU];refine b5 (fun _ _=>pg t _ _) ⟨_,rfl,fun _ _=>aK (fun gU=>bS fun _ _=>aP fun _ _ _=>⟨_,rfl,?_⟩) fun gU=>?_⟩
   ·simp only[U] at gQ b0 bZ eG gu gU;rw[fy];simp only[ax.eN,List.find?,gQ,b0,bZ,eG,gu,gU];rfl
   simp only[aU];refine b5 (fun _ _=>pg t _ _) ⟨_,rfl,fun _ _=>aK (fun il=>bS fun _ _=>aP fun _ _ _=>⟨_,rfl,?_⟩) fun il=>?_⟩
   ·simp only[U] at gQ b0 bZ eG gu gU il;rw[fy];simp only[ax.eN,List.find?,gQ,b0,bZ,eG,gu,gU,il];rfl
   simp only[aU];refine b5 (fun _ _=>pg t _ _) ⟨_,rfl,fun _ _=>aK (fun mR=>bS fun _ _=>aP fun _ _ _=>⟨_,rfl,?_⟩) fun mR=>?_⟩
   ·simp only[U] at gQ b0 bZ eG gu gU il mR;rw[fy];simp only[ax.eN,List.find?,gQ,b0,bZ,eG,gu,gU,il,mR];rfl
   simp only[aU];refine b5 (fun _ _=>pg t _ _) ⟨_,rfl,fun _ _=>aK (fun oJ=>bS fun _ _=>aP fun _ _ _=>⟨_,rfl,?_⟩) fun oJ=>?_⟩
   ·simp only[U] at gQ b0 bZ eG gu gU il mR oJ;rw[fy];simp only[ax.eN,List.find?,gQ,b0,bZ,eG,gu,gU,il,mR,oJ];rfl
   simp only[aU];refine b5 (fun _ _=>pg t _ _) ⟨_,rfl,fun _ _=>aK (fun p0=>bS fun _ _=>aP fun _ _ _=>⟨_,rfl,?_⟩) fun p0=>?_⟩
   ·simp only[U] at gQ b0 bZ eG gu gU il mR oJ p0;rw[fy];simp only[ax.eN,List.find?,gQ,b0,bZ,eG,gu,gU,il,mR,oJ,p0];rfl
   simp only[aU];refine b5 (fun _ _=>pg t _ _) ⟨_,rfl,fun _ _=>aK (fun ph=>bS fun _ _=>aP fun _ _ _=>⟨_,rfl,?_⟩) fun ph=>?_⟩
   ·simp only[U] at gQ b0 bZ eG gu gU il mR oJ p0 ph;rw[fy];simp only[ax.eN,List.find?,gQ,b0,bZ,eG,gu,gU,il,mR,oJ,p0,ph];rfl
   simp only[aU];refine b5 (fun _ _=>pg t _ _) ⟨_,rfl,fun _ _=>aK (fun tw=>bS fun _ _=>aP fun _ _ _=>⟨_,rfl,?_⟩) fun tw=>?_⟩
   ·simp only[U] at gQ b0 bZ eG gu gU il mR oJ p0 ph tw;rw[fy];simp only[ax.eN,List.find?,gQ,b0,bZ,eG,gu,gU,il,mR,oJ,p0,ph,tw];rfl
   simp only[aU];refine b5 (fun _ _=>pg t _ _) ⟨_,rfl,fun _ _=>aK (fun wS=>bS fun _ _=>aP fun _ _ _=>⟨_,rfl,?_⟩) fun wS=>?_⟩
   ·simp only[U] at gQ b0 bZ eG gu gU il mR oJ p0 ph tw wS;rw[fy];simp only[ax.eN,List.find?,gQ,b0,bZ,eG,gu,gU,il,mR,oJ,p0,ph,tw,wS];rfl
   simp only[aU];refine b5 (fun _ _=>pg t _ _) ⟨_,rfl,fun _ _=>aK (fun Bp=>bS fun _ _=>aP fun _ _ _=>⟨_,rfl,?_⟩) fun Bp=>?_⟩
   ·simp only[U] at gQ b0 bZ eG gu gU il mR oJ p0 ph tw wS Bp;rw[fy];simp only[ax.eN,List.find?,gQ,b0,bZ,eG,gu,gU,il,mR,oJ,p0,ph,tw,wS,Bp];rfl
   simp only[aU];refine bS fun _ _=>aP fun _ _ _=>⟨_,rfl,?_⟩
   simp only[U] at gQ b0 bZ eG gu gU il mR oJ p0 ph tw wS Bp;rw[fy];simp only[ax.eN,List.find?,gQ,b0,bZ,eG,gu,gU,il,mR,oJ,p0,ph,tw,wS,Bp];rfl
end Go.Proofs.YtkpjmlnhhggenaaGreatDoor
end
section
section
namespace Go.cK
open Go Go.RowKit
variable {P:Program}
def eD (w:World) (eV:Nat->Prop) (a:Option Addr) (n c sz:Nat) (xs:List Value):Prop:=
 xs.length=n*sz∧n<=c∧((True∧n=0∧c=0)∨∃b o,a=some ⟨b,o,none⟩∧eV b∧b<w.heap.size∧∀(aj:Nat) u,xs[aj]? =some u->w.cell? ⟨b,o+aj,none⟩=some u)
def b_ (W:al) (a:Option Addr) (n c sz:Nat) (xs:List Value):Prop:=eD W.w W.aV a n c sz xs
theorem D5 {W W':al} (x:Ext W W') {b:Nat} (bf:W.aV b) (o:Nat):W'.w.cell? ⟨b,o,none⟩=W.w.cell? ⟨b,o,none⟩:=World.cell?_of_block (w:=W.w) (x.du b bf)
theorem b_.ext {W W':al} {a:Option Addr} {n c sz:Nat} {xs:List Value} (h:b_ W a n c sz xs) (x:Ext W W'):b_ W' a n c sz xs:=by
 obtain⟨J,an,aI⟩:=h;refine⟨J,an,aI.imp id ?_⟩;rintro⟨b,o,e,bf,I,aH⟩;exact⟨b,o,e,x.sub b bf,lv I x.size,fun aj u hu=>by rw[D5 x bf];exact aH aj u hu⟩
theorem eD.h3 {W:al} {w:World} {ar:Nat} {a:Option Addr} {n c sz:Nat} {xs:List Value} (h:eD w (fun b=>ar<=b) a n c sz xs) (e:W.w=w) (cB:s8 ar W):b_ W a n c sz xs:=by
 subst e;obtain⟨J,an,aI⟩:=h;refine⟨J,an,aI.imp id ?_⟩;rintro⟨b,o,e,bf,I,aH⟩;exact⟨b,o,e,cB b bf I,I,aH⟩
theorem eD.mono {w:World} {eV rD:Nat->Prop} {a:Option Addr} {n c sz:Nat} {xs:List Value} (h:eD w eV a n c sz xs) (qH:∀b,eV b->rD b):eD w rD a n c sz xs:=by
 obtain⟨J,an,aI⟩:=h;refine⟨J,an,aI.imp id ?_⟩;rintro⟨b,o,e,bf,I,aH⟩;exact⟨b,o,e,qH b bf,I,aH⟩
theorem eD.nil (w:World) (eV:Nat->Prop) (sz:Nat):eD w eV none 0 0 sz []:=⟨by simp,e9 _,.inl ⟨trivial,rfl,rfl⟩⟩
theorem gW {w:World} {ar:Nat} {e:TypeId} {sz:Nat} {a:Option Addr} {n c k:Nat} {xs:List Value} (h:w.ownsRow ar e sz (.slice a n c) k xs):eD w (fun b=>ar<=b) a n c sz xs:=by
 obtain⟨J,an⟩:=h;rcases an with⟨aB,cB⟩|⟨g,cap,cur,aB,I,bP,yE,AB,j5,bb⟩
 ·injection aB with a7 bh c8
  subst a7 bh c8 cB;exact⟨J,e9 _,.inl ⟨trivial,rfl,rfl⟩⟩
 ·injection aB with a7 bh c8
  subst a7 bh c8;refine⟨J,yE,.inr ⟨g,0,rfl,I,(fq.1 bP).1,fun aj u hu=>?_⟩⟩;rw[cell_of_row w g (0+aj) cur e (0,0) bP,mY];rw[<-bb,oX] at hu;split at hu
  ·simpa using hu
  ·cases hu
theorem Bq {w:World} {t:TypeId} {k:Nat} (ee:hr P t=some true) (c1:hK P t=some k) {ad:Addr} {vs:List Value} (aO:vs.length=k) (aH:∀(aj:Nat) u,vs[aj]? =some u->w.cell? (ad.add aj)=some u):(Instr.loadAt t (.pointer (some ad))).run P w= .ok (.agg vs.toArray) w:=by
 have j5:=run_loadCells_list (P:=P) w ad vs aH;rw[aO] at j5;simp[Instr.loadAt,Instr.sureAddr,loadVar,yo ee,jr c1,j5]
theorem D6 {w:World} {t:TypeId} (ee:hr P t=some false) {ad:Addr} {u:Value} (aH:w.cell? ad=some u):(Instr.loadAt t (.pointer (some ad))).run P w= .ok u w:=by
 simp[Instr.loadAt,Instr.sureAddr,loadVar,yo ee,aH]
theorem uW {α:Type} {f:α->List Value} {sz:Nat} (bs:∀x,(f x).length=sz):∀{l:List α} {i:Nat} {x:α} (aj:Nat),l[i]? =some x->aj<sz->(l.flatMap f)[i*sz+aj]? =(f x)[aj]?
 |[],i,x,aj,h,_=>by simp at h
 |y::l,0,x,aj,h,cu=>by
  simp only[yf,nT] at h;subst h;rw[rW,Nat.zero_mul,mY,List.getElem?_append_left (by rw[bs];exact cu)]
 |y::l,i+1,x,aj,h,cu=>by
  rw[rZ] at h;rw[rW,Ac (by rw[bs,sT,Nat.one_mul];omega),bs,show(i+1)*sz+aj-sz=i*sz+aj from by rw[sT,Nat.one_mul];omega];exact uW bs aj h cu
theorem sv {α:Type} {f:α->List Value} {sz:Nat} (bs:∀x,(f x).length=sz) (l:List α):(l.flatMap f).length=l.length*sz:=by
 induction l with
 |nil=>simp
 |cons x l cF=>rw[rW,fR,cF,bs,e5,sT,Nat.one_mul,Nat.add_comm]
theorem gh {α:Type} {f:α->List Value} {sz:Nat} (bs:∀x,(f x).length=sz) (cS:0<sz) {W:al} {a:Option Addr} {n c:Nat} {l:List α} (h:b_ W a n c sz (l.flatMap f)) {t:TypeId} (ee:hr P t=some true) (c1:hK P t=some sz) {i:Nat} {x:α} (j:l[i]? =some x)
  {W':al} (sw:Ext W W'):(Instr.loadAt t (.pointer (some ((a.getD default).add (i*sz+0))))).run P W'.w= .ok (.agg (f x).toArray) W'.w:=by
 obtain⟨J,an,aI⟩:=h.ext sw;have aO:=sv bs l;rcases aI with⟨_,rfl,rfl⟩|⟨b,o,rfl,bf,I,aH⟩
 ·exfalso;have a8:=(nU.1 j).1;rw[aO] at J;have:=Nat.eq_of_mul_eq_mul_right cS J;omega
 ·refine Bq ee c1 (bs x) fun aj u hu=>?_
  have cu:aj<sz:=by rw[<-bs x];exact(nU.1 hu).1
  have:=aH (i*sz+aj) u (by rw[uW bs aj j cu];exact hu);simp only[ny,ff];rw[ky,ky,show o+i*sz+aj=o+(i*sz+aj) from by omega];exact this
theorem ed {α:Type} {f:α->List Value} {sz:Nat} (bs:∀x,(f x).length=sz) {W:al} {a:Option Addr} {n c:Nat} {l:List α} (h:b_ W a n c sz (l.flatMap f)) {t:TypeId} (ee:hr P t=some false) {i k:Nat} {x:α} (j:l[i]? =some x) (aA:k<sz) {u:Value} (hu:(f x)[k]? =some u)
  {W':al} (sw:Ext W W'):(Instr.loadAt t (.pointer (some ((a.getD default).add (i*sz+k))))).run P W'.w= .ok u W'.w:=by
 obtain⟨J,an,aI⟩:=h.ext sw;have aO:=sv bs l;rcases aI with⟨_,rfl,rfl⟩|⟨b,o,rfl,bf,I,aH⟩
 ·exfalso;have a8:=(nU.1 j).1;rw[aO] at J;have:=Nat.eq_of_mul_eq_mul_right (by omega) J;omega
 ·refine D6 ee ?_;have:=aH (i*sz+k) u (by rw[uW bs k j aA];exact hu);simp only[ny];rw[ky];exact this
theorem b_.dL {W:al} {a:Option Addr} {n c sz:Nat} {xs:List Value} (h:b_ W a n c sz xs) (cB:0<n):a.isSome=true:=by
 rcases h.2.2 with⟨_,rfl,_⟩|⟨b,o,rfl,_⟩
 ·omega
 ·rfl
def hN (w:World) (a:Option Addr) (n c sz:Nat) (xs:List Value):Prop:=eD w (fun _=>True) a n c sz xs
theorem eD.w {w:World} {eV:Nat->Prop} {a:Option Addr} {n c sz:Nat} {xs:List Value} (h:eD w eV a n c sz xs):hN w a n c sz xs:=h.mono fun _ _=>trivial
theorem hN.all {W:al} {a:Option Addr} {n c sz:Nat} {xs:List Value} (h:hN W.w a n c sz xs):b_ W.all a n c sz xs:=by
 obtain⟨J,an,aI⟩:=h;refine⟨J,an,aI.imp id ?_⟩;rintro⟨b,o,e,_,I,aH⟩;exact⟨b,o,e,I,I,aH⟩
theorem pj {w:World} {b:Nat} {cs:List Value} {ty:TypeId} (h:w.heap[b]? =some (.cells cs.toArray ty)) {n sz:Nat} (aO:cs.length=n*sz):hN w (some ⟨b,0,none⟩) n n sz cs:=by
 refine⟨aO,e9 _,.inr ⟨b,0,rfl,trivial,(fq.1 h).1,fun aj u hu=>?_⟩⟩;simp[World.cell?,h,hu]
end Go.cK
end
end
section
namespace Go.Proofs.YtkpjmlnhhggenaaGreatDoor
open Go.Proofs.Tryz Go Go.RowKit Go.cK
def H2 (t:ax.cJ):List Value:=[.int .u8 t.k,.string ⟨t.t.toArray⟩]
theorem rE (t:ax.cJ):(H2 t).length=2:=rfl
def lG (l:List ax.cJ):List Value:=l.flatMap H2
theorem NO (l m:List ax.cJ):lG (l++m)=lG l++lG m:=by simp[lG]
theorem YE (l:List ax.cJ):(lG l).length=l.length*2:=sv rE l
def p1 (W:al) (a:Option Addr) (c:Nat) (l:List ax.cJ):Prop:=b_ W a l.length c 2 (lG l)
def D7 (ar:Nat) (w:World) (a:Option Addr) (c:Nat) (l:List ax.cJ):Prop:=eD w (fun b=>ar<=b) a l.length c 2 (lG l)
theorem NP (t:ByteArray) (W:al):da prog 105 #[.string t,.string ⟨#[32]⟩] W (.string ⟨(ax.iW t.data.toList).toArray⟩):=
 .kA (Calls.mono (strings_TrimLeft_one t 32 (by decide) W.w) fun e w' ⟨he,hw⟩=>⟨he,hw▸Below.refl _ _⟩)
theorem YF {l:List UInt8}:(ax.first l).2<=l.length:=by
 cases l with
 |nil=>simp[ax.first,ax.none]
 |cons c r=>
  simp only[ax.first];split
  ·exact ax.wO _ _
  ·split
   ·exact ax.wO _ _
   ·split
    ·cases h:ax.lg r with
     |none=>simp[ax.none]
     |some q=>have:=ax.HX h;simp;omega
    ·cases h:ax.eN.find? fun x=>x.isPrefixOf (c::r) with
     |none=>simp[ax.none]
     |some x=>
      have:=List.find?_some h;exact(List.isPrefixOf_iff_prefix.1 this).length_le
theorem H3 {l:List UInt8}:(ax.first l).1.t.length<=l.length∨(ax.first l).1.t.length<=2:=by
 cases l with
 |nil=>simp[ax.first,ax.none]
 |cons c r=>
  simp only[ax.first];split
  ·left;simp;omega
  ·split
   ·left;simp;omega
   ·split
    ·cases h:ax.lg r with
     |none=>simp[ax.none]
     |some q=>have:=ax.HX h;left;simp;omega
    ·cases h:ax.eN.find? fun x=>x.isPrefixOf (c::r) with
     |none=>simp[ax.none]
     |some x=>
      have:=List.find?_some h;left;exact(List.isPrefixOf_iff_prefix.1 this).length_le
theorem YG (t:ByteArray) (W:al) (b7:lh W):gR prog 50 #[.string t] W.all fun v w'=>∃a c,v= .tuple #[.slice a (ax.fl t.data.toList).1.length c,.int .i64 (ax.fl t.data.toList).2]∧w'.ownsRow W.w.heap.size 135 2 (.slice a (ax.fl t.data.toList).1.length c) (ax.fl t.data.toList).1.length (lG (ax.fl t.data.toList).1):=by
 refine Yh t W.all _ ?_;have bD:=kH t;have b7:=b7.ext W.dw;refine aK (fun c=>?_) fun c=>?_
 ·simp only[U,cX] at c;have e:ax.fl t.data.toList=([],40):=by unfold ax.fl;rw[if_pos (by omega)]
  rw[e];exact aP fun _ _ _=>⟨_,rfl,none,0,rfl,World.ownsRow_nil _ _ _ _⟩
 ·simp only[U,c7] at c
  have e:ax.fl t.data.toList=match ax.h2 (t.data.toList.length+1) (ax.iW t.data.toList) with
   |some ts=>(ts,0)
   |none=>([],4):=by unfold ax.fl;rw[if_neg (by omega)];rfl
  rw[e];refine b5 (fun _ _=>NP t _) ⟨⟨(ax.iW t.data.toList).toArray⟩,rfl,fun W1 bM=>?_⟩;simp only[aU];have h0:=ax.ss t.data.toList
  refine dJ (fun k vs ls _=>∃(m:ax.aM) (ts:List ax.cJ) (a:Option Addr) (c:Nat),vs=[.string ⟨m.toArray⟩,.slice a ts.length c]∧ls=[lG ts]∧m.length<k∧ts.length+m.length<=100∧
   ax.h2 (t.data.toList.length+1) (ax.iW t.data.toList)=(ax.h2 k m).map (ts++ ·)) (t.data.toList.length+1) ⟨ax.iW t.data.toList,[],none,0,rfl,rfl,by omega,by simp;omega,by simp⟩ ?_
  rintro k vs ls cn bH ⟨m,ts,a,rF,rfl,rfl,aA,eU,cC⟩;refine⟨ts.length,rF,⟨m.toArray⟩,a,lG ts,rfl,(by simp[hL,dF,dV.ak,aR,aX.push]),fun hi=>?_⟩;simp only[aU];have NQ:=(b7.ext bM).ext bH;have NR:(⟨m.toArray⟩:ByteArray).data.toList=m:=by simp
  have NS:(⟨m.toArray⟩:ByteArray).size=m.length:=by rw[<-kH,NR]
  obtain⟨k,rfl⟩:∃aj,k=aj+1:=⟨k-1,by omega⟩;refine aK (fun aJ=>?_) fun aJ=>?_
  ·obtain⟨cD,r,rfl⟩:∃cD r,m=cD::r:=by
    cases m with
    |nil=>simp[U] at aJ
    |cons cD r=>exact⟨cD,r,rfl⟩
   have bs:=YB ⟨(cD::r).toArray⟩ (by rw[NS];simp) (by rw[NS];omega) cn NQ;rw[NR] at bs;refine b5 (fun _ _=>bs) ⟨(ax.first (cD::r)).1.k,((ax.first (cD::r)).2:Int),⟨(ax.first (cD::r)).1.t.toArray⟩,rfl,fun cq bo=>?_⟩;simp only[aU];have H4:=@H3 (cD::r);have axU:=@YF (cD::r)
   have NT:∀b:Bool,(ax.first (cD::r)).2=0∨ax.en (ax.first (cD::r)).1.k (ax.first (cD::r)).1.t=false->ax.h2 (t.data.toList.length+1) (ax.iW t.data.toList)=(none:Option (List ax.cJ)):=fun _ h=>by
    rw[cC];simp only[ax.h2];rw[if_pos (by rcases h with h|h<;>simp[h])];rfl
   refine bY fun m1 dH _ cd=>bS fun dI cA=>aK (fun c2=>?_) fun c2=>?_
   ·simp only[U] at c2;have uB:¬(ax.first (cD::r)).2=0:=by simpa using c2
    have YH:=((NQ.ext bo).ext cd).ext cA;have hm:=D2 (ax.first (cD::r)).1.k ⟨(ax.first (cD::r)).1.t.toArray⟩ (by rw[<-kH];simp only[e5] at*;omega) dI YH;refine b5 (fun _ _=>hm) ⟨ax.en (ax.first (cD::r)).1.k (ax.first (cD::r)).1.t,rfl,fun cV bU=>?_⟩;simp only[aU];refine aK (fun c3=>?_) fun c3=>?_
    ·have c3:(!ax.en (ax.first (cD::r)).1.k (ax.first (cD::r)).1.t)=true:=c3;rw[NT true (.inr (by simpa using c3))];exact aP fun _ _ _=>⟨_,rfl,none,0,rfl,World.ownsRow_nil _ _ _ _⟩
    ·have c3:(!ax.en (ax.first (cD::r)).1.k (ax.first (cD::r)).1.t)=false:=c3;have c3:ax.en (ax.first (cD::r)).1.k (ax.first (cD::r)).1.t=true:=by simpa using c3
     have su:((⟨(cD::r).toArray⟩:ByteArray).extract (ax.first (cD::r)).2 (⟨(cD::r).toArray⟩:ByteArray).size).data.toList=(cD::r).drop (ax.first (cD::r)).2:=by rw[NL]
     have NU:=NP ((⟨(cD::r).toArray⟩:ByteArray).extract (ax.first (cD::r)).2 (⟨(cD::r).toArray⟩:ByteArray).size);rw[su] at NU;refine bY fun m2 dQ _ df=>a6 ?_ (hj fun bB bG dX H5 dK=>a6 ?_ (a6 ?_ (a6 ?_ (b5 (fun _ _=>NU dX) ⟨_,rfl,fun fm eY=>?_⟩))))
     ·simp only[U];exact c_ (by omega)
     ·simp only[U];exact c_ (by omega)
     ·simp only[U];exact c_ (by omega)
     ·simp only[U];exact c_ (by omega)
     ·simp only[aU]
      have a_:(ax.iW ((cD::r).drop (ax.first (cD::r)).2)).length<=(cD::r).length-(ax.first (cD::r)).2:=by
       have:=ax.ss ((cD::r).drop (ax.first (cD::r)).2);rw[sV] at this;exact this
      try (with_reducible refine eC fun _ _ _ _ _=>?_)
      refine b1 ⟨k,by omega,ax.iW ((cD::r).drop (ax.first (cD::r)).2),ts++[(ax.first (cD::r)).1],bB,bG,?_,?_,by omega,?_,?_⟩
      ·simp only[U,fR,e5,yg];rfl
      ·simp only[hL,dF,ku,lM,jq,kv,dV.ak,U,NO];rfl
      ·simp only[fR,e5,yg] at*;omega
      ·rw[cC];simp only[ax.h2];rw[if_neg (by simp[uB,c3]),Option.map_map];congr 1;funext l;simp
   ·simp only[U] at c2;have uB:(ax.first (cD::r)).2=0:=by simpa using c2
    rw[NT true (.inl uB)];exact aP fun _ _ _=>⟨_,rfl,none,0,rfl,World.ownsRow_nil _ _ _ _⟩
  ·have fi:m=[]:=by simpa[U] using aJ
   subst fi;have sx:ax.h2 (t.data.toList.length+1) (ax.iW t.data.toList)=some ts:=by rw[cC];simp[ax.h2]
   rw[sx];refine aP fun _ _ aw=>⟨_,rfl,a,rF,rfl,?_⟩
   have:=(aw _ (bd.2 rfl)).1;simp only[dF,jq,kv,dV.ak,U] at this;exact this
theorem YI (t:ByteArray) (W:al) (b7:lh W):gR prog 50 #[.string t] W.all fun v w'=>∃a c,v= .tuple #[.slice a (ax.fl t.data.toList).1.length c,.int .i64 (ax.fl t.data.toList).2]∧D7 W.w.heap.size w' a c (ax.fl t.data.toList).1:=
 gR.mono (YG t W b7) fun v w' _ ⟨a,c,aB,bc⟩=>⟨a,c,aB,gW bc⟩
end Go.Proofs.YtkpjmlnhhggenaaGreatDoor
end
section
namespace aS
open Go
open ax hiding none run first
inductive de where
 |mk (op k n:Int) (t name:aM) (args:List de)
def de.args:de->List de
 | .mk _ _ _ _ _ l=>l
def lW (k n:Int) (t:aM):de:=.mk 1 k n t [] []
def name (t:aM):de:=.mk 2 0 0 [] t []
def kh (o:Int) (a:de):de:=.mk o 0 0 [] [] [a]
def qL (o:Int) (a b:de):de:=.mk o 0 0 [] [] [a,b]
def binds:List (aM×Int×Int):=[([124],14,1),([38],13,2),([60],9,3),([60,61],10,3),([61,61],11,3),([33,61],12,3),([43],8,4),([45],15,4),([42],5,5),([47],6,5),([37],7,5)]
def qM (s:aM) (o:Int):Option (aM×Int×Int):=binds.find? fun b=>b.1==s||b.2.1==o
def eo (s:aM):List cJ->Option (List cJ)
 |[]=>none
 |t::r=>if t.k=4∧t.t=s then some r else none
def pk (l:aM):Int:=match Lib.parseIntB 64 l with
 | .ok n=>n
 |_=>0
mutual
def eB:Nat->List cJ->Option (de×List cJ)
 |0,_=>none
 |_+1,[]=>none
 |n+1,t::r=>
  if t.k=4 then
   (if t.t=[45] then(eB n r).map fun p=>(kh 3 p.1,p.2)
   else if t.t=[33] then(eB n r).map fun p=>(kh 4 p.1,p.2)
   else if t.t=[40] then(e2 n 1 r).bind fun p=>(eo [41] p.2).map fun q=>(p.1,q)
   else none)
  else if t.k=1 then some (lW 1 (pk t.t) [],r)
  else if t.k=3 then some (lW 3 0 t.t,r)
  else if t.t=[121,101,115] then some (lW 2 1 [],r)
  else if t.t=[110,111] then some (lW 2 0 [],r)
  else if t.t=[108,101,110] then(eo [40] r).bind fun gk=>(e2 n 1 gk).bind fun p=>(eo [41] p.2).map fun q=>(kh 16 p.1,q)
  else some (name t.t,r)
def e2:Nat->Int->List cJ->Option (de×List cJ)
 |0,_,_=>none
 |n+1,lj,ts=>(eB n ts).bind fun p=>loop n lj 7 p.1 p.2
def loop:Nat->Int->Int->de->List cJ->Option (de×List cJ)
 |0,_,_,_,_=>none
 |_+1,_,_,left,[]=>some (left,[])
 |n+1,lj,YJ,left,t::r=>
  if t.k=4 then
   (match qM t.t 0 with
   |none=>some (left,t::r)
   |some b=>if b.2.2<lj∨YJ<b.2.2 then some (left,t::r) else(e2 n (b.2.2+1) r).bind fun p=>loop n lj (if b.2.2=3 then 2 else b.2.2) (qL b.2.1 left p.1) p.2)
  else some (left,t::r)
end
mutual
def gF:de->Nat
 | .mk _ _ _ _ _ l=>kW l+1
def kW:List de->Nat
 |[]=>0
 |e::l=>max (gF e) (kW l)
end
def none_:de:=.mk 0 0 0 [] [] []
def whole (ts:List cJ):Option de:=match e2 (3*ts.length+2) 1 ts with
 |some (e,[])=>some e
 |_=>none
def fT (s:aM):de×Int:=if(fl s).2=0 then
  (match whole (fl s).1 with
  |none=>(none_,4)
  |some e=>if 16<gF e then(none_,40) else(e,0))
 else(none_,(fl s).2)
theorem rG {s:aM} {ts r:List cJ} (h:eo s ts=some r):r.length<ts.length∧∃k,r=ts.drop k:=by
 cases ts with
 |nil=>cases h
 |cons t l=>
  simp only[eo] at h;split at h
  ·obtain rfl:=bm h;exact⟨by simp,1,rfl⟩
  ·cases h
def iU (ts r:List cJ):Prop:=r.length<ts.length∧∃k,r=ts.drop k
theorem iU.trans {a b c:List cJ} (h:iU a b) (k:iU b c):iU a c:=by
 obtain⟨J,i,rfl⟩:=h;obtain⟨b0,aj,rfl⟩:=k;exact⟨Nat.lt_trans b0 J,i+aj,by rw[List.drop_drop]⟩
theorem iU.cons (t:cJ) (r:List cJ):iU (t::r) r:=⟨by simp,1,rfl⟩
theorem iU.lR {t:cJ} {r s:List cJ} (h:iU r s):iU (t::r) s:=(iU.cons t r).trans h
theorem map_some {α β:Type} {x:Option α} {f:α->β} {y:β} (h:x.map f=some y):∃a,x=some a∧f a=y:=by simpa using h
theorem bind_some {α β:Type} {x:Option α} {f:α->Option β} {y:β} (h:x.bind f=some y):∃a,x=some a∧f a=some y:=by simpa[vD] using h
theorem H6:∀n:Nat,(∀ts e r,eB n ts=some (e,r)->iU ts r)∧(∀m ts e r,e2 n m ts=some (e,r)->iU ts r)∧(∀m l x ts e r,loop n m l x ts=some (e,r)->iU ts r∨r=ts)
 |0=>⟨fun _ _ _ h=>by simp[eB] at h,fun _ _ _ _ h=>by simp[e2] at h,fun _ _ _ _ _ _ h=>by simp[loop] at h⟩
 |n+1=>by
  obtain⟨J,an,aI⟩:=H6 n;refine⟨fun ts e r h=>?_,fun m ts e r h=>?_,fun m l x ts e r h=>?_⟩
  ·cases ts with
   |nil=>simp[eB] at h
   |cons t s=>
    simp only[eB] at h;split at h
    ·split at h
     ·obtain⟨p,hp,he⟩:=map_some h;obtain⟨_,rfl⟩:=fD he;exact(J _ _ _ hp).lR
     ·split at h
      ·obtain⟨p,hp,he⟩:=map_some h;obtain⟨_,rfl⟩:=fD he;exact(J _ _ _ hp).lR
      ·split at h
       ·obtain⟨p,hp,he⟩:=bind_some h;obtain⟨q,bg,he⟩:=map_some he;obtain⟨_,rfl⟩:=fD he;exact(iU.trans (an _ _ _ _ hp) (rG bg)).lR
       ·cases h
    ·split at h
     ·obtain⟨_,rfl⟩:=fD (bm h);exact iU.cons _ _
     ·split at h
      ·obtain⟨_,rfl⟩:=fD (bm h);exact iU.cons _ _
      ·split at h
       ·obtain⟨_,rfl⟩:=fD (bm h);exact iU.cons _ _
       ·split at h
        ·obtain⟨_,rfl⟩:=fD (bm h);exact iU.cons _ _
        ·split at h
         ·obtain⟨gk,aw,he⟩:=bind_some h;obtain⟨p,hp,he⟩:=bind_some he;obtain⟨q,bg,he⟩:=map_some he;obtain⟨_,rfl⟩:=fD he;exact(iU.trans (iU.trans (rG aw) (an _ _ _ _ hp)) (rG bg)).lR
         ·obtain⟨_,rfl⟩:=fD (bm h);exact iU.cons _ _
  ·simp only[e2] at h;obtain⟨p,hp,he⟩:=bind_some h;have:=J _ _ _ hp;rcases aI _ _ _ _ _ _ he with k|rfl
   ·exact this.trans k
   ·exact this
  ·cases ts with
   |nil=>simp only[loop] at h;obtain⟨_,rfl⟩:=fD (bm h);exact .inr rfl
   |cons t s=>
    simp only[loop] at h;split at h
    ·split at h
     ·obtain⟨_,rfl⟩:=fD (bm h);exact .inr rfl
     ·split at h
      ·obtain⟨_,rfl⟩:=fD (bm h);exact .inr rfl
      ·obtain⟨p,hp,he⟩:=bind_some h;have:=(an _ _ _ _ hp).lR (t:=t);rcases aI _ _ _ _ _ _ he with k|rfl
       ·exact .inl (this.trans k)
       ·exact .inl this
    ·obtain⟨_,rfl⟩:=fD (bm h);exact .inr rfl
theorem D8 {n:Nat} {ts r:List cJ} {e:de} (h:eB n ts=some (e,r)):iU ts r:=(H6 n).1 _ _ _ h
theorem y3 {n:Nat} {m:Int} {ts r:List cJ} {e:de} (h:e2 n m ts=some (e,r)):iU ts r:=(H6 n).2.1 _ _ _ _ h
end aS
end
section
namespace Go.Proofs.YtkpjmlnhhggenaaGreatDoor
open Go.Proofs.Tryz Go Go.RowKit Go.cK
abbrev NV:b4:=⟨4,56,[aL 5,aL 6,aq 7,ag 2,ag 3,ai 3 6 7,aL 11,aL 12,aq 13,ag 6,ag 7,ai 6 12 13]⟩
abbrev NW:af:=(.agg [aL 0,aL 1,aq 2,ag 0,ag 1,ai 4 8 9])
abbrev NX:af:=(.agg [aL 5,aL 6,aq 7,ag 2,ag 3,ai 1 2 3])
abbrev YK:Tree:=(.grow (.wr (.ret (.cU [(.agg [(.str (.bN [124])),di 14,bI 1]),cY true]) [] [] [])))
abbrev YL:Tree:=(.grow (.wr (.ret (.cU [(.agg [(.str (.bN [38])),di 13,bI 2]),cY true]) [] [] [])))
abbrev YM:Tree:=(.grow (.wr (.ret (.cU [(.agg [(.str (.bN [60])),di 9,bI 3]),cY true]) [] [] [])))
abbrev YN:Tree:=(.grow (.wr (.ret (.cU [(.agg [(.str (.bN [60,61])),di 10,bI 3]),cY true]) [] [] [])))
abbrev YO:Tree:=(.grow (.wr (.ret (.cU [(.agg [(.str (.bN [61,61])),di 11,bI 3]),cY true]) [] [] [])))
abbrev YP:Tree:=(.grow (.wr (.ret (.cU [(.agg [(.str (.bN [33,61])),di 12,bI 3]),cY true]) [] [] [])))
abbrev YQ:Tree:=(.grow (.wr (.ret (.cU [(.agg [(.str (.bN [43])),di 8,bI 4]),cY true]) [] [] [])))
abbrev YR:Tree:=(.grow (.wr (.ret (.cU [(.agg [(.str (.bN [45])),di 15,bI 4]),cY true]) [] [] [])))
abbrev YS:Tree:=(.grow (.wr (.ret (.cU [(.agg [(.str (.bN [42])),di 5,bI 5]),cY true]) [] [] [])))
abbrev YT:Tree:=(.grow (.wr (.ret (.cU [(.agg [(.str (.bN [47])),di 6,bI 5]),cY true]) [] [] [])))
abbrev YU:Tree:=(.grow (.wr (.ret (.cU [(.agg [(.str (.bN [37])),di 7,bI 5]),cY true]) [] [] [])))
abbrev YV:Tree:=(.grow (.wr (.ret (.cU [(.agg [ek,di 0,bI 0]),cY false]) [] [] [])))
abbrev YW:Tree:=(.aC (bW (eW (.bN [37]) (b9 0)) (aZ (ah 7) (ae 0))) YU YV)
abbrev YX:Tree:=(.aC (bW (eW (.bN [47]) (b9 0)) (aZ (ah 6) (ae 0))) YT YW)
abbrev YY:Tree:=(.aC (bW (eW (.bN [42]) (b9 0)) (aZ (ah 5) (ae 0))) YS YX)
abbrev YZ:Tree:=(.aC (bW (eW (.bN [45]) (b9 0)) (aZ (ah 15) (ae 0))) YR YY)
abbrev Y0:Tree:=(.aC (bW (eW (.bN [43]) (b9 0)) (aZ (ah 8) (ae 0))) YQ YZ)
abbrev Y1:Tree:=(.aC (bW (eW (.bN [33,61]) (b9 0)) (aZ (ah 12) (ae 0))) YP Y0)
abbrev Y2:Tree:=(.aC (bW (eW (.bN [61,61]) (b9 0)) (aZ (ah 11) (ae 0))) YO Y1)
abbrev Y3:Tree:=(.aC (bW (eW (.bN [60,61]) (b9 0)) (aZ (ah 10) (ae 0))) YN Y2)
abbrev Y4:Tree:=(.aC (bW (eW (.bN [60]) (b9 0)) (aZ (ah 9) (ae 0))) YM Y3)
abbrev Y5:Tree:=(.aC (bW (eW (.bN [38]) (b9 0)) (aZ (ah 13) (ae 0))) YL Y4)
abbrev NY:Tree:=
(.new (.new (.new (.grow (.new (.wr (.aC (bW (eW (.bN [124]) (b9 0)) (aZ (ah 14) (ae 0))) YK Y5)))))))
theorem Y6:cN prog {cW with inl:=[55,56,57,173,175,174],k5:=[(2,13)]} f150 [ag 0,aL 0] [] [] ⟨1,0,0,1,0,0,0,0⟩=some NY:=by kernel_rfl
theorem Y7 (i0:Int) (t0:ByteArray) (W:al) (R:Ending->World->Prop) (h:NY.ak prog W.w.heap.size R [] {aV:=[i0],T:=[t0]} W):bK prog 150 #[.string t0,.int .u8 i0] W R:=
 dP func150 _ _ {aV:=[i0],T:=[t0]} _ Y6 (fun v aB=>by cases aB) h
abbrev Y8:Tree:=(.a1 (bQ (ah 1) (aG 0)) (.sub 0 (ah 1) (aG 0) (aG 1) 2 (.wr (.ret (cY true) [⟨0,142,[ai 1 2 3]⟩] [] []))))
abbrev Y9:Tree:=(.aC (bR (eW (b9 1) (b9 0))) (.ret (cY false) [⟨0,142,[ai 0 0 1]⟩] [] []) Y8)
abbrev Y_:Tree:=(.aC (aZ (ae 0) (ah 4)) (.cl 9 (.b6 0 (ah 0) 2 1) (ag 1) ie Y9) (.ret (cY false) [⟨0,142,[ai 0 0 1]⟩] [] []))
abbrev NZ:Tree:=
(.a1 (bW (aZ (aG 0) (ah 0)) (.sm 0)) (.a1 (bW (aZ (aG 0) (ah 0)) (bQ (ah 0) (ah 0))) (.a1 (bW (aZ (aG 0) (ah 0)) (bO (ah 0) (aG 0))) (.aC (bR (aZ (aG 0) (ah 0))) (.cl 5 (.b6 0 (ah 0) 2 0) (aL 0) cg Y_) (.ret (cY false) [⟨0,142,[ai 0 0 1]⟩] [] [])))))
theorem Za:cN prog {cW with inl:=[55,56,57,173,175,174]} f171 [.ptr 0 0,ag 0] [⟨0,142,[ai 0 0 1]⟩] [] DX=some NZ:=by kernel_rfl
theorem Zb (ar aQ:Nat) (t0:ByteArray) (a0:Option Addr) (m0:Nat) (W:al) (R:Ending->World->Prop) (hm:W.w.heap[m0]? =some (.cells #[.slice a0 ar aQ] 142)) (bf:¬W.aV m0) (h:NZ.ak prog W.w.heap.size R [] {N:=[ar,aQ],T:=[t0],A:=[a0],M:=[m0]} W):bK prog 171 #[.pointer (some ⟨m0,0,none⟩),.string t0] W R:=
 mm func171 _ _ [⟨0,142,[ai 0 0 1]⟩] {N:=[ar,aQ],T:=[t0],A:=[a0],M:=[m0]} _ Za (fun v aB=>by cases aB) (fun b I=>by simp only[bd] at I;subst I;exact hm) (fun b I=>by simp only[bd] at I;subst I;exact bf) (jE _ _) h
abbrev Zc:Tree:=(.aC (bR (cG 0)) (.mJ (.nz 139 (.agg []))) (.ret (.cU []) [⟨0,142,[ai 1 2 3]⟩] [] []))
abbrev N0:Tree:=
(.call 171 [.ptr 0 0,ag 0] [⟨0,142,[ai 0 0 1]⟩] [] [⟨0,142,[ai 1 2 3]⟩] (ba 0) DY Zc)
theorem Zd:cN prog {cW with inl:=[55,56,57,173,175,174],mu:=[(171,[0])]} f172 [.ptr 0 0,ag 0] [⟨0,142,[ai 0 0 1]⟩] [] DX=some N0:=by kernel_rfl
theorem Ze (ar aQ:Nat) (t0:ByteArray) (a0:Option Addr) (m0:Nat) (W:al) (R:Ending->World->Prop) (hm:W.w.heap[m0]? =some (.cells #[.slice a0 ar aQ] 142)) (bf:¬W.aV m0) (h:N0.ak prog W.w.heap.size R [] {N:=[ar,aQ],T:=[t0],A:=[a0],M:=[m0]} W):bK prog 172 #[.pointer (some ⟨m0,0,none⟩),.string t0] W R:=
 mm func172 _ _ [⟨0,142,[ai 0 0 1]⟩] {N:=[ar,aQ],T:=[t0],A:=[a0],M:=[m0]} _ Zd (fun v aB=>by cases aB) (fun b I=>by simp only[bd] at I;subst I;exact hm) (fun b I=>by simp only[bd] at I;subst I;exact bf) (jE _ _) h
abbrev Zf:Tree:=(.new (.wr (.ret (.agg [di 3,di 0,bI 0,ek,ek,.fM 2 0 1 1]) [⟨2,56,[aL 0,aL 1,aq 2,ag 0,ag 1,ai 2 4 5]⟩,⟨0,142,[ai 3 6 7]⟩] [] [])))
abbrev Zg:Tree:=(.call 149 [.ptr 0 0] [⟨0,142,[ai 1 2 3]⟩] [] [⟨0,142,[ai 3 6 7]⟩] (.agg [aL 0,aL 1,aq 2,ag 0,ag 1,ai 2 4 5]) uR Zf)
abbrev Zh:Tree:=(.new (.wr (.ret (.agg [di 4,di 0,bI 0,ek,ek,.fM 2 0 1 1]) [⟨2,56,[aL 0,aL 1,aq 2,ag 0,ag 1,ai 3 6 7]⟩,⟨0,142,[ai 4 8 9]⟩] [] [])))
abbrev Zi:Tree:=(.call 149 [.ptr 0 0] [⟨0,142,[ai 2 4 5]⟩] [] [⟨0,142,[ai 4 8 9]⟩] (.agg [aL 0,aL 1,aq 2,ag 0,ag 1,ai 3 6 7]) uR Zh)
abbrev Zj:Tree:=(.wr (.ret NW [⟨0,142,[ai 6 12 13]⟩] [] []))
abbrev Zk:Tree:=(.new (.wr (.call 172 [.ptr 0 0,(.str (.bN [41]))] [⟨0,142,[ai 5 10 11]⟩] [] [⟨0,142,[ai 6 12 13]⟩] (.cU []) ga Zj)))
abbrev Zl:Tree:=(.call 109 [.ptr 0 0,bI 1] [⟨0,142,[ai 3 6 7]⟩] [] [⟨0,142,[ai 5 10 11]⟩] NW uR Zk)
abbrev Zm:Tree:=(.grow (.wr (.ret (.agg [di 1,di 1,aq 2,ek,ek,.db]) [⟨0,142,[ai 4 8 9]⟩] [] [])))
abbrev Zn:Tree:=(.call 147 [ag 0,bI 10,bI 64] [] [] [] (.cU [aq 2,.var 0]) ⟨1,0,0,0,1,0,0,0⟩ Zm)
abbrev Zo:Tree:=(.wr (.ret (.agg [di 1,di 3,bI 0,ag 0,ek,.db]) [⟨0,142,[ai 4 8 9]⟩] [] []))
abbrev Zp:Tree:=(.grow (.wr (.ret (.agg [di 1,di 2,bI 1,ek,ek,.db]) [⟨0,142,[ai 4 8 9]⟩] [] [])))
abbrev Zq:Tree:=(.grow (.wr (.ret (.agg [di 1,di 2,bI 0,ek,ek,.db]) [⟨0,142,[ai 4 8 9]⟩] [] [])))
abbrev Zr:Tree:=(.new (.wr (.ret (.agg [di 16,di 0,bI 0,ek,ek,.fM 4 0 1 1]) [⟨4,56,[aL 2,aL 3,aq 4,ag 1,ag 2,ai 6 12 13]⟩,⟨0,142,[ai 8 16 17]⟩] [] [])))
abbrev Zs:Tree:=(.new (.wr (.call 172 [.ptr 0 0,(.str (.bN [41]))] [⟨0,142,[ai 7 14 15]⟩] [] [⟨0,142,[ai 8 16 17]⟩] (.cU []) ga Zr)))
abbrev Zt:Tree:=(.call 109 [.ptr 0 0,bI 1] [⟨0,142,[ai 5 10 11]⟩] [] [⟨0,142,[ai 7 14 15]⟩] (.agg [aL 2,aL 3,aq 4,ag 1,ag 2,ai 6 12 13]) uR Zs)
abbrev Zu:Tree:=(.call 172 [.ptr 0 0,(.str (.bN [40]))] [⟨0,142,[ai 4 8 9]⟩] [] [⟨0,142,[ai 5 10 11]⟩] (.cU []) ga Zt)
abbrev Zv:Tree:=(.wr (.ret (.agg [di 2,di 0,bI 0,ek,ag 0,.db]) [⟨0,142,[ai 4 8 9]⟩] [] []))
abbrev Zw:Tree:=(.aC (bW (eW (b9 0) (.bN [121,101,115])) (eW (b9 0) (.bN [110,111]))) (.aC (eW (b9 0) (.bN [121,101,115])) Zp Zq) (.aC (eW (b9 0) (.bN [108,101,110])) Zu Zv))
abbrev Zx:Tree:=(.new (.wr (.a1 (bQ (ah 1) (aG 6)) (.sub 3 (ah 1) (aG 6) (aG 7) 2 (.wr (.aC (aZ (ae 1) (ah 1)) Zn (.aC (aZ (ae 1) (ah 3)) Zo Zw)))))))
abbrev Zy:Tree:=(.cl 135 (.b6 3 (ah 0) 2 0) (.agg [aL 1,ag 0]) ⟨1,0,0,1,0,0,0,0⟩ Zx)
abbrev Zz:Tree:=(.cl 5 (.b6 3 (ah 0) 2 0) (aL 0) cg (.aC (aZ (ae 0) (ah 4)) (.mJ (.nz 139 (.agg []))) Zy))
abbrev ZA:Tree:=(.a1 (bW (aZ (aG 6) (ah 0)) (.sm 3)) (.a1 (bW (aZ (aG 6) (ah 0)) (bQ (ah 0) (ah 0))) (.a1 (bW (aZ (aG 6) (ah 0)) (bO (ah 0) (aG 6))) (.aC (bR (aZ (aG 6) (ah 0))) Zz (.mJ (.nz 139 (.agg [])))))))
abbrev ZB:Tree:=(.call 171 [.ptr 0 0,(.str (.bN [40]))] [⟨0,142,[ai 2 4 5]⟩] [] [⟨0,142,[ai 3 6 7]⟩] (ba 2) DY (.aC (cG 2) Zl ZA))
abbrev ZC:Tree:=(.call 171 [.ptr 0 0,(.str (.bN [33]))] [⟨0,142,[ai 1 2 3]⟩] [] [⟨0,142,[ai 2 4 5]⟩] (ba 1) DY (.aC (cG 1) Zi ZB))
abbrev N1:Tree:=
(.new (.call 171 [.ptr 0 0,(.str (.bN [45]))] [⟨0,142,[ai 0 0 1]⟩] [] [⟨0,142,[ai 1 2 3]⟩] (ba 0) DY (.aC (cG 0) Zg ZC)))
theorem ZD:cN prog {cW with inl:=[55,56,57,173,175,174],mu:=[(171,[0]),(172,[0]),(149,[0]),(109,[0])]} f149 [.ptr 0 0] [⟨0,142,[ai 0 0 1]⟩] [] ⟨0,2,0,0,0,1,1,0⟩=some N1:=by kernel_rfl
theorem ZE (ar aQ:Nat) (a0:Option Addr) (m0:Nat) (W:al) (R:Ending->World->Prop) (hm:W.w.heap[m0]? =some (.cells #[.slice a0 ar aQ] 142)) (bf:¬W.aV m0) (h:N1.ak prog W.w.heap.size R [] {N:=[ar,aQ],A:=[a0],M:=[m0]} W):bK prog 149 #[.pointer (some ⟨m0,0,none⟩)] W R:=
 mm func149 _ _ [⟨0,142,[ai 0 0 1]⟩] {N:=[ar,aQ],A:=[a0],M:=[m0]} _ ZD (fun v aB=>by cases aB) (fun b I=>by simp only[bd] at I;subst I;exact hm) (fun b I=>by simp only[bd] at I;subst I;exact bf) (jE _ _) h
abbrev H7:Tree:=(.wr (.ret (.agg [aL 5,aL 6,aq 7,ag 2,ag 3,ai 3 6 7]) [⟨0,142,[ai 4 8 9]⟩] [] []))
abbrev ZF:Tree:=(.eM [NV,⟨3,186,[ag 5,aL 9,aq 10]⟩] (.again 0 [(.int .i64 (.un (.wrap .i64) (HV (ae 10) (ah 1)))),aL 9,di 0,bI 0,ek,ek,.fM 4 0 2 2,ai 7 14 15] []))
abbrev ZG:Tree:=(.eM [NV,⟨3,186,[ag 5,aL 9,aq 10]⟩] (.again 0 [aq 10,aL 9,di 0,bI 0,ek,ek,.fM 4 0 2 2,ai 7 14 15] []))
abbrev ZH:Tree:=(.a1 (bQ (ah 1) (aG 8)) (.sub 4 (ah 1) (aG 8) (aG 9) 2 (.wr (.grow (.call 109 [.ptr 0 0,(.int .i64 (.un (.wrap .i64) (bX (ae 10) (ah 1))))] [⟨0,142,[ai 5 10 11]⟩] [] [⟨0,142,[ai 7 14 15]⟩] (.agg [aL 11,aL 12,aq 13,ag 6,ag 7,ai 6 12 13]) uR (.grow (.new (.grow (.wr (.aC (aZ (ae 10) (ah 3)) ZF ZG))))))))))
abbrev ZI:Tree:=(.new (.wr (.aC (bW (bW (bR (cG 0)) (bO (ae 10) (ae 0))) (bO (ae 4) (ae 10))) H7 ZH)))
abbrev ZJ:Tree:=(.call 150 [ag 4,di 0] [] [] [] (.cU [(.agg [ag 5,aL 9,aq 10]),ba 0]) rB ZI)
abbrev ZK:Tree:=(.aC (aZ (ae 8) (ah 4)) (.cl 9 (.b6 4 (ah 0) 2 1) (ag 4) ie ZJ) H7)
abbrev ZL:Tree:=(.a1 (bW (bR (bO (ah 0) (aG 8))) (.sm 4)) (.a1 (bW (bR (bO (ah 0) (aG 8))) (bQ (ah 0) (ah 0))) (.a1 (bW (bR (bO (ah 0) (aG 8))) (bO (ah 0) (aG 8))) (.aC (bO (ah 0) (aG 8)) (.cl 5 (.b6 4 (ah 0) 2 0) (aL 8) cg ZK) H7))))
abbrev ZM:Tree:=(.new (.wr (.loop [bI 7,aL 1,aL 2,aq 3,ag 0,ag 1,ai 1 2 3,ai 2 4 5] [] [aq 4,aL 5,aL 6,aq 7,ag 2,ag 3,ai 3 6 7,ai 4 8 9] [] ⟨4,4,0,2,0,2,0,0⟩ ZL)))
abbrev N2:Tree:=
(.new (.call 149 [.ptr 0 0] [⟨0,142,[ai 0 0 1]⟩] [] [⟨0,142,[ai 2 4 5]⟩] (.agg [aL 1,aL 2,aq 3,ag 0,ag 1,ai 1 2 3]) uR ZM))
theorem ZN:cN prog {cW with inl:=[55,56,57,173,175,174],ei:=[⟨3,[.az 6,.cell 2 0,.cell 2 1,.cell 2 2,.cell 2 3,.cell 2 4,.cell 2 5,.cell 0 0]⟩],mu:=[(171,[0]),(172,[0]),(149,[0]),(109,[0])],gT:=[0]} f109 [.ptr 0 0,aq 0] [⟨0,142,[ai 0 0 1]⟩] [] Bn=some N2:=by kernel_rfl
theorem ZO (i0:Int) (ar aQ:Nat) (a0:Option Addr) (m0:Nat) (W:al) (R:Ending->World->Prop) (hm:W.w.heap[m0]? =some (.cells #[.slice a0 ar aQ] 142)) (bf:¬W.aV m0) (h:N2.ak prog W.w.heap.size R [] {aV:=[i0],N:=[ar,aQ],A:=[a0],M:=[m0]} W):bK prog 109 #[.pointer (some ⟨m0,0,none⟩),.int .i64 i0] W R:=
 mm func109 _ _ [⟨0,142,[ai 0 0 1]⟩] {aV:=[i0],N:=[ar,aQ],A:=[a0],M:=[m0]} _ ZN (fun v aB=>by cases aB) (fun b I=>by simp only[bd] at I;subst I;exact hm) (fun b I=>by simp only[bd] at I;subst I;exact bf) (jE _ _) h
abbrev ZP:Tree:=(.eM [⟨1,56,[aL 5,aL 6,aq 7,ag 2,ag 3,ai 1 2 3]⟩] (.again 0 [(.int .i64 (Ni (ae 3) (ae 8))),(.int .i64 (.un (.wrap .i64) (bX (ae 4) (ah 1))))] []))
abbrev ZQ:Tree:=(.new (.wr (.call 52 [NX] [] [] [] (aq 8) cg ZP)))
abbrev ZR:Tree:=(.a1 (.sm 0) (.a1 (bQ (ah 0) (ae 4)) (.cl 56 (.b6 0 (ae 4) 6 0) NX Bo ZQ)))
abbrev ZS:Tree:=(.aC (bO (ae 4) (aG 0)) ZR (.ret (.int .i64 (.un (.wrap .i64) (bX (ae 3) (ah 1)))) [] [] []))
abbrev N3:Tree:=
(.new (.loop [bI 0,bI 0] [] [aq 3,aq 4] [] mn ZS))
theorem ZT:cN prog {cW with inl:=[55,56,57,173,175,174],ei:=[⟨3,[.az 3,.az 9]⟩],mu:=[(171,[0]),(172,[0]),(149,[0]),(109,[0])]} f52 [(.agg [aL 0,aL 1,aq 2,ag 0,ag 1,ai 0 0 1])] [] [] Bo=some N3:=by kernel_rfl
theorem ZU (i0 i1 i2:Int) (ar aQ:Nat) (t0 t1:ByteArray) (a0:Option Addr) (W:al) (R:Ending->World->Prop) (h:N3.ak prog W.w.heap.size R [] {aV:=[i0,i1,i2],N:=[ar,aQ],T:=[t0,t1],A:=[a0]} W):bK prog 52 #[.agg #[.int .u8 i0,.int .u8 i1,.int .i64 i2,.string t0,.string t1,.slice a0 ar aQ]] W R:=
 dP func52 _ _ {aV:=[i0,i1,i2],N:=[ar,aQ],T:=[t0,t1],A:=[a0]} _ ZT (fun v aB=>by cases aB) h
theorem iv {W W':al} (x:Ext W W') {m:Nat} (h:¬W.aV m):Ext W (W'.fz [m]):=
 ⟨x.size,fun b I=>⟨W'.lt b (x.sub b I),fun hm=>by rw[bd] at hm;subst hm;exact h I⟩,x.du,x.os,x.tape,x.output⟩
theorem aD {W W' ht:al} (x:Ext W W') (y:Ext W' ht):Ext W ht:=
 ⟨iz x.size y.size,fun b I=>y.sub b (x.sub b I),fun b I=>(y.du b (x.sub b I)).trans (x.du b I),y.os.trans x.os,y.tape.trans x.tape,y.output.trans x.output⟩
def ZV:Option (ax.aM×Int×Int)->Value
 |some b=>.tuple #[.agg #[.string ⟨b.1.toArray⟩,.int .u8 b.2.1,.int .i64 b.2.2],.bool true]
 |none=>.tuple #[.agg #[.string ⟨#[]⟩,.int .u8 0,.int .i64 0],.bool false]
theorem ZW (t:ByteArray) (o:Int) (W:al):da prog 150 #[.string t,.int .u8 o] W (ZV (aS.qM t.data.toList o)):=by
 refine Y7 o t W.all _ ?_;refine bY fun _ _ _ _=>bY fun _ _ _ _=>bY fun _ _ _ _=>cj fun _ _=>bY fun _ _ _ _=>bS fun _ _=>?_
 unfold aS.qM aS.binds;refine aK (fun c=>cj fun _ _=>bS fun _ _=>aP fun _ _ _=>⟨_,rfl,?_⟩) fun c=>?_
 ·simp only[U] at c;have c:(([124]:List UInt8)==t.data.toList||((14:Int)==o))=true:=c;rw[hY,c];rfl
 have aJ:(([124]:List UInt8)==t.data.toList||((14:Int)==o))=false:=c;rw[hY,aJ];refine aK (fun c=>cj fun _ _=>bS fun _ _=>aP fun _ _ _=>⟨_,rfl,?_⟩) fun c=>?_
 ·have c:(([38]:List UInt8)==t.data.toList||((13:Int)==o))=true:=c;rw[hY,c];rfl
 have c2:(([38]:List UInt8)==t.data.toList||((13:Int)==o))=false:=c;rw[hY,c2];refine aK (fun c=>cj fun _ _=>bS fun _ _=>aP fun _ _ _=>⟨_,rfl,?_⟩) fun c=>?_
 ·have c:(([60]:List UInt8)==t.data.toList||((9:Int)==o))=true:=c;rw[hY,c];rfl
 have c3:(([60]:List UInt8)==t.data.toList||((9:Int)==o))=false:=c;rw[hY,c3];refine aK (fun c=>cj fun _ _=>bS fun _ _=>aP fun _ _ _=>⟨_,rfl,?_⟩) fun c=>?_
 ·have c:(([60,61]:List UInt8)==t.data.toList||((10:Int)==o))=true:=c;rw[hY,c];rfl
 have c4:(([60,61]:List UInt8)==t.data.toList||((10:Int)==o))=false:=c;rw[hY,c4];refine aK (fun c=>cj fun _ _=>bS fun _ _=>aP fun _ _ _=>⟨_,rfl,?_⟩) fun c=>?_
 ·have c:(([61,61]:List UInt8)==t.data.toList||((11:Int)==o))=true:=c;rw[hY,c];rfl
 have c5:(([61,61]:List UInt8)==t.data.toList||((11:Int)==o))=false:=c;rw[hY,c5];refine aK (fun c=>cj fun _ _=>bS fun _ _=>aP fun _ _ _=>⟨_,rfl,?_⟩) fun c=>?_
 ·have c:(([33,61]:List UInt8)==t.data.toList||((12:Int)==o))=true:=c;rw[hY,c];rfl
 have bw:(([33,61]:List UInt8)==t.data.toList||((12:Int)==o))=false:=c;rw[hY,bw];refine aK (fun c=>cj fun _ _=>bS fun _ _=>aP fun _ _ _=>⟨_,rfl,?_⟩) fun c=>?_
 ·have c:(([43]:List UInt8)==t.data.toList||((8:Int)==o))=true:=c;rw[hY,c];rfl
 have cv:(([43]:List UInt8)==t.data.toList||((8:Int)==o))=false:=c;rw[hY,cv];refine aK (fun c=>cj fun _ _=>bS fun _ _=>aP fun _ _ _=>⟨_,rfl,?_⟩) fun c=>?_
 ·have c:(([45]:List UInt8)==t.data.toList||((15:Int)==o))=true:=c;rw[hY,c];rfl
 have cZ:(([45]:List UInt8)==t.data.toList||((15:Int)==o))=false:=c;rw[hY,cZ];refine aK (fun c=>cj fun _ _=>bS fun _ _=>aP fun _ _ _=>⟨_,rfl,?_⟩) fun c=>?_
 ·have c:(([42]:List UInt8)==t.data.toList||((5:Int)==o))=true:=c;rw[hY,c];rfl
 have c9:(([42]:List UInt8)==t.data.toList||((5:Int)==o))=false:=c;rw[hY,c9];refine aK (fun c=>cj fun _ _=>bS fun _ _=>aP fun _ _ _=>⟨_,rfl,?_⟩) fun c=>?_
 ·have c:(([47]:List UInt8)==t.data.toList||((6:Int)==o))=true:=c;rw[hY,c];rfl
 have y4:(([47]:List UInt8)==t.data.toList||((6:Int)==o))=false:=c;rw[hY,y4];refine aK (fun c=>cj fun _ _=>bS fun _ _=>aP fun _ _ _=>⟨_,rfl,?_⟩) fun c=>?_
 ·have c:(([37]:List UInt8)==t.data.toList||((7:Int)==o))=true:=c;rw[hY,c];rfl
 have y5:(([37]:List UInt8)==t.data.toList||((7:Int)==o))=false:=c;rw[hY,y5]
 ·refine cj fun _ _=>bS fun _ _=>aP fun _ _ _=>⟨_,rfl,?_⟩
  rfl
def jj (a:Option Addr) (c:Nat) (ts:List ax.cJ) (bB:Option Addr) (bG:Nat) (r:List ax.cJ):Prop:=∀W:al,p1 W a c ts->p1 W bB bG r
theorem jj.refl (a:Option Addr) (c:Nat) (ts:List ax.cJ):jj a c ts a c ts:=fun _ h=>h
theorem jj.trans {a bB rz:Option Addr} {c bG oo:Nat} {ts r s:List ax.cJ} (h:jj a c ts bB bG r) (k:jj bB bG r rz oo s):jj a c ts rz oo s:=fun W x=>k W (h W x)
theorem Br (a:Option Addr) (c:Nat) (t:ax.cJ) (r:List ax.cJ):jj a c (t::r) (jw a 1 c 2) (c-1) r:=by
 intro W h;obtain⟨J,an,aI⟩:=h;rcases aI with⟨_,h,_⟩|⟨b,o,rfl,bf,I,aH⟩
 ·simp at h
 ·refine⟨YE r,by simp at an ⊢;omega,.inr ?_⟩
  by_cases n0:c=1
  ·subst n0
   have aw:r=[]:=by cases r with
    |nil=>rfl
    |cons _ _=>simp at an
   subst aw;exact⟨b,o,by simp[jw],bf,I,fun aj u hu=>by simp[lG] at hu⟩
  ·refine⟨b,o+2,by simp[jw,n0,Addr.add],bf,I,fun aj u hu=>?_⟩;have:=aH (aj+2) u (by rw[show lG (t::r)=H2 t++lG r from rfl,Ac (by rw[rE];omega),rE];simpa using hu);rw[show o+2+aj=o+(aj+2) from by omega];exact this
theorem H8:hr prog 5=some false:=by kernel_rfl
theorem N4:hr prog 9=some false:=by kernel_rfl
theorem ZX:hr prog 135=some true:=by kernel_rfl
theorem ZY:hK prog 135=some 2:=by kernel_rfl
def gl:List PanicEntry:=[{v:=.iface 139 (.agg #[]),recovered:=false}]
def ZZ (m:Nat) (a:Option Addr) (c:Nat) (ts:List ax.cJ) (s:ax.aM) (e:Ending) (w':World):Prop:=
 ∃bB bG r b,e= .returned (.bool b)∧w'.heap[m]? =some (.cells #[.slice bB r.length bG] 142)∧jj a c ts bB bG r∧((b=true∧aS.eo s ts=some r)∨(b=false∧aS.eo s ts=none∧r=ts))
theorem D9 (m:Nat) (a:Option Addr) (c:Nat) (ts:List ax.cJ) (s:ByteArray) (W:al) (hm:W.w.heap[m]? =some (.cells #[.slice a ts.length c] 142)) (bf:¬W.aV m) (cC:p1 W a c ts):
  bK prog 171 #[.pointer (some ⟨m,0,none⟩),.string s] W (ZZ m a c ts s.data.toList):=by
 refine Zb ts.length c s a m W _ hm bf ?_;cases ts with
 |nil=>
  refine a6 rfl (a6 rfl (a6 rfl (aK (fun c0=>?_) fun _=>aP fun I _ _=>?_)))
  ·cases c0
  ·exact⟨a,c,[],false,rfl,I _ (bd.2 rfl),jj.refl _ _ _,.inr ⟨rfl,rfl,rfl⟩⟩
 |cons t r=>
  have j:(t::r)[0]? =some t:=rfl;have c1:=b_.dL cC (by simp);refine a6 ?_ (a6 ?_ (a6 ?_ (aK (fun _=>cI ⟨t.k,fun W' x=>?_,?_⟩) fun c0=>?_)))
  ·simp only[U];rw[c1];simp
  ·simp[U,er]
  ·simp only[U];rw[dW (by simp only[e5];omega)];simp
  ·exact ed (P:=prog) rE cC H8 (k:=0) j (by decide) (u:=.int .u8 t.k) rfl x
  ·simp only[aU];refine aK (fun aJ=>cI ⟨⟨t.t.toArray⟩,fun W' x=>?_,?_⟩) fun aJ=>aP fun I _ _=>?_
   ·exact ed (P:=prog) rE cC N4 (k:=1) j (by decide) (u:=.string ⟨t.t.toArray⟩) rfl x
   ·simp only[aU];have aA:t.k=4:=by simpa[U] using aJ
    refine aK (fun c2=>aP fun I _ _=>?_) fun c2=>?_
    ·have iA:¬t.t=s.data.toList:=by simpa[U] using c2
     exact⟨a,c,t::r,false,rfl,I _ (bd.2 rfl),jj.refl _ _ _,.inr ⟨rfl,by simp[aS.eo,iA],rfl⟩⟩
    ·have he:t.t=s.data.toList:=by simpa[U] using c2
     refine a6 ?_ (tt (bS fun _ _=>aP fun I _ _=>?_))
     ·simp only[U];exact c_ (by simp only[e5];omega)
     ·refine⟨jw a 1 c 2,c-1,r,true,rfl,?_,Br a c t r,.inl ⟨rfl,by simp[aS.eo,he,aA]⟩⟩;have:=I _ (bd.2 rfl);simpa[U,b4.at] using this
   ·have aA:¬t.k=4:=by simpa[U] using aJ
    exact⟨a,c,t::r,false,rfl,I _ (bd.2 rfl),jj.refl _ _ _,.inr ⟨rfl,by simp[aS.eo,aA],rfl⟩⟩
  ·simp[U] at c0;omega
def D_ (op k n:Int) (t aT:ax.aM) (a:Option Addr) (len c:Nat):List Value:=[.int .u8 op,.int .u8 k,.int .i64 n,.string ⟨t.toArray⟩,.string ⟨aT.toArray⟩,.slice a len c]
mutual
def dT (w:World) (eV:Nat->Prop):aS.de->List Value->Prop
 | .mk op k n t aT args,vs=>∃a c ls,vs=D_ op k n t aT a args.length c∧eD w eV a args.length c 6 ls∧nj w eV args ls
def nj (w:World) (eV:Nat->Prop):List aS.de->List Value->Prop
 |[],ls=>ls=[]
 |e::l,ls=>∃x m,ls=x++m∧dT w eV e x∧nj w eV l m
end
theorem eD.move {w w':World} {eV rD:Nat->Prop} (cu:∀b,eV b->b<w.heap.size->rD b∧w'.heap[b]? =w.heap[b]?) {a:Option Addr} {n c sz:Nat} {xs:List Value} (h:eD w eV a n c sz xs):eD w' rD a n c sz xs:=by
 obtain⟨J,an,aI⟩:=h;refine⟨J,an,aI.imp id ?_⟩;rintro⟨b,o,e,bf,I,aH⟩;obtain⟨b0,bZ⟩:=cu b bf I;refine⟨b,o,e,b0,?_,fun aj u hu=>by rw[World.cell?_of_block (w:=w) bZ];exact aH aj u hu⟩;rw[vI I] at bZ;exact(fq.1 bZ).1
mutual
theorem dT.move {w w':World} {eV rD:Nat->Prop} (cu:∀b,eV b->b<w.heap.size->rD b∧w'.heap[b]? =w.heap[b]?):∀{e:aS.de} {vs:List Value},dT w eV e vs->dT w' rD e vs
 | .mk op k n t aT args,vs,h=>by
  simp only[dT] at h ⊢;obtain⟨a,c,ls,J,an,aI⟩:=h;exact⟨a,c,ls,J,eD.move cu an,nj.move cu aI⟩
theorem nj.move {w w':World} {eV rD:Nat->Prop} (cu:∀b,eV b->b<w.heap.size->rD b∧w'.heap[b]? =w.heap[b]?):∀{l:List aS.de} {ls:List Value},nj w eV l ls->nj w' rD l ls
 |[],ls,h=>by simp only[nj] at h ⊢;exact h
 |e::l,ls,h=>by
  simp only[nj] at h ⊢;obtain⟨x,m,J,an,aI⟩:=h;exact⟨x,m,J,dT.move cu an,nj.move cu aI⟩
end
def qN (W:al) (ar:Nat) (e:aS.de) (vs:List Value):Prop:=dT W.w (fun b=>W.aV b∧ar<=b) e vs
theorem qN.ext {W W':al} {ar:Nat} {e:aS.de} {vs:List Value} (h:qN W ar e vs) (x:Ext W W'):qN W' ar e vs:=
 dT.move (fun b I _=>⟨⟨x.sub b I.1,I.2⟩,x.du b I.1⟩) h
theorem dT.h3 {W:al} {w:World} {ar aQ:Nat} {e:aS.de} {vs:List Value} (h:dT w (fun b=>aQ<=b) e vs) (hw:W.w=w) (cB:s8 aQ W) (bk:ar<=aQ):qN W ar e vs:=by
 subst hw;exact dT.move (fun b I aO=>⟨⟨cB b I aO,iz bk I⟩,rfl⟩) h
theorem qN.new {W:al} {ar:Nat} {e:aS.de} {vs:List Value} (h:qN W ar e vs):dT W.w (fun b=>ar<=b) e vs:=dT.move (fun b I _=>⟨I.2,rfl⟩) h
theorem dT.len {w:World} {eV:Nat->Prop} {e:aS.de} {vs:List Value} (h:dT w eV e vs):vs.length=6:=by
 cases e;simp only[dT] at h;obtain⟨a,c,ls,rfl,_⟩:=h;rfl
theorem dT.mL {w:World} {eV:Nat->Prop} {e:aS.de} {vs:List Value} (h:dT w eV e vs):∃(op k n:Int) (t aT:ByteArray) (a:Option Addr) (len c:Nat),vs=[.int .u8 op,.int .u8 k,.int .i64 n,.string t,.string aT,.slice a len c]:=by
 cases e;simp only[dT] at h;obtain⟨a,c,ls,rfl,_⟩:=h;exact⟨_,_,_,_,_,_,_,_,rfl⟩
theorem dT.lW (w:World) (eV:Nat->Prop) (op k n:Int) (t aT:ax.aM):dT w eV (.mk op k n t aT []) (D_ op k n t aT none 0 0):=by
 simp only[dT,nj];exact⟨none,0,[],rfl,eD.nil _ _ _,rfl⟩
theorem uX {w:World} {eV:Nat->Prop} {b:Nat} {cs:List Value} {ty:TypeId} (h:w.heap[b]? =some (.cells cs.toArray ty)) (qH:eV b) {n sz:Nat} (aO:cs.length=n*sz):eD w eV (some ⟨b,0,none⟩) n n sz cs:=by
 refine⟨aO,e9 _,.inr ⟨b,0,rfl,qH,(fq.1 h).1,fun aj u hu=>?_⟩⟩;simp[World.cell?,h,hu]
theorem dT.eB {w:World} {eV:Nat->Prop} {b:Nat} {x:aS.de} {vs:List Value} {ty:TypeId} (h:w.heap[b]? =some (.cells vs.toArray ty)) (qH:eV b) (j:dT w eV x vs) (o:Int):dT w eV (aS.kh o x) (D_ o 0 0 [] [] (some ⟨b,0,none⟩) 1 1):=by
 simp only[aS.kh,dT,nj];exact⟨_,1,vs,rfl,uX h qH (by rw[j.len];simp),vs,[],by simp,j,rfl⟩
theorem dT.e2 {w:World} {eV:Nat->Prop} {b:Nat} {x y:aS.de} {vs us:List Value} {ty:TypeId} (h:w.heap[b]? =some (.cells (vs++us).toArray ty)) (qH:eV b) (j:dT w eV x vs) (bE:dT w eV y us) (o:Int):dT w eV (aS.qL o x y) (D_ o 0 0 [] [] (some ⟨b,0,none⟩) 2 2):=by
 simp only[aS.qL,dT,nj];exact⟨_,2,vs++us,rfl,uX h qH (by rw[fR,j.len,bE.len];simp),vs,us,rfl,j,us,[],by simp,bE,rfl⟩
def y6 (m:Nat) (a:Option Addr) (c:Nat) (ts:List ax.cJ) (s:ax.aM) (e:Ending) (w':World):Prop:=match aS.eo s ts with
 |none=>e= .panicked gl
 |some r=>∃bB bG,e= .returned (.tuple #[])∧w'.heap[m]? =some (.cells #[.slice bB r.length bG] 142)∧jj a c ts bB bG r
theorem jO (W:al) (m:Nat):¬(W.fz [m]).aV m:=fun h=>h.2 (bd.2 rfl)
theorem H9 (m:Nat) (a:Option Addr) (c:Nat) (ts:List ax.cJ) (s:ByteArray) (W:al) (hm:W.w.heap[m]? =some (.cells #[.slice a ts.length c] 142)) (bf:¬W.aV m) (cC:p1 W a c ts):
  bK prog 172 #[.pointer (some ⟨m,0,none⟩),.string s] W (y6 m a c ts s.data.toList):=by
 refine Ze ts.length c s a m W _ hm bf ?_;refine jA fun I _=>bK.mono (D9 m a c ts s (W.fz [m]) hm (jO W m) (cC.ext (iv (Ext.refl W) bf))) fun e w' aA ⟨bn,aJ,gk,fk,he,aY,bD,aH⟩=>?_
 subst he;refine⟨gk.length,aJ,fk,bn,rfl,fun b I=>by obtain rfl:=bd.1 I;exact aY,fun cn bh bH bz=>?_⟩;simp only[aU];refine aK (fun c=>HU ?_) fun c=>aP fun I _ _=>?_
 ·have c:fk=false:=by simpa[U] using c
  rcases aH with⟨aH,_⟩|⟨_,aH,_⟩
  ·rw[c] at aH;cases aH
  ·unfold y6;rw[aH];rfl
 ·have c:fk=true:=by simpa[U] using c
  rcases aH with⟨_,aH⟩|⟨aH,_⟩
  ·unfold y6;rw[aH];exact⟨bn,aJ,rfl,I _ (bd.2 rfl),bD⟩
  ·rw[c] at aH;cases aH
def mo (ts:List ax.cJ):Prop:=∀t∈ts,ax.en t.k t.t=true∧t.t.length<=100
theorem mo.eP {ts r:List ax.cJ} (h:mo ts) (k:∃k,r=ts.drop k):mo r:=by
 obtain⟨k,rfl⟩:=k;exact fun t bb=>h t (vC bb)
theorem mo.tail {t:ax.cJ} {r:List ax.cJ} (h:mo (t::r)):mo r:=fun u hu=>h u (dq _ hu)
def y7 (ar m:Nat) (a:Option Addr) (c:Nat) (ts:List ax.cJ) (o:Option (aS.de×List ax.cJ)) (e:Ending) (w':World):Prop:=match o with
 |none=>e= .panicked gl
 |some p=>∃bB bG vs,e= .returned (.agg vs.toArray)∧dT w' (fun b=>ar<=b) p.1 vs∧w'.heap[m]? =some (.cells #[.slice bB p.2.length bG] 142)∧jj a c ts bB bG p.2
theorem y7.out {ar m:Nat} {a:Option Addr} {c:Nat} {ts:List ax.cJ} {o:Option (aS.de×List ax.cJ)} {e:Ending} {w':World} (h:y7 ar m a c ts o e w'):(o=none∧e= .panicked gl)∨
  ∃x r bB bG op k n t aT dt len dp,o=some (x,r)∧e= .returned (.agg #[.int .u8 op,.int .u8 k,.int .i64 n,.string t,.string aT,.slice dt len dp])∧dT w' (fun b=>ar<=b) x [.int .u8 op,.int .u8 k,.int .i64 n,.string t,.string aT,.slice dt len dp]∧w'.heap[m]? =some (.cells #[.slice bB r.length bG] 142)∧jj a c ts bB bG r:=by
 cases o with
 |none=>exact .inl ⟨rfl,h⟩
 |some p=>
  obtain⟨bB,bG,vs,he,j,aY,bD⟩:=h;obtain⟨op,k,n,t,aT,dt,len,dp,rfl⟩:=j.mL;exact .inr ⟨p.1,p.2,bB,bG,op,k,n,t,aT,dt,len,dp,rfl,he,j,aY,bD⟩
theorem y6.out {m:Nat} {a:Option Addr} {c:Nat} {ts:List ax.cJ} {s:ax.aM} {e:Ending} {w':World} (h:y6 m a c ts s e w'):(aS.eo s ts=none∧e= .panicked gl)∨
  ∃r bB bG,aS.eo s ts=some r∧e= .returned (.tuple #[])∧w'.heap[m]? =some (.cells #[.slice bB r.length bG] 142)∧jj a c ts bB bG r:=by
 unfold y6 at h;cases bD:aS.eo s ts with
 |none=>rw[bD] at h;exact .inl ⟨rfl,h⟩
 |some r=>rw[bD] at h;obtain⟨bB,bG,J,an,aI⟩:=h;exact .inr ⟨r,bB,bG,rfl,J,an,aI⟩
def Ea (n:Nat):Prop:=∀(m:Nat) (a:Option Addr) (c:Nat) (ts:List ax.cJ) (W:al),W.w.heap[m]? =some (.cells #[.slice a ts.length c] 142)->¬W.aV m->p1 W a c ts->lh W->mo ts->3*ts.length+1<=n->
 bK prog 149 #[.pointer (some ⟨m,0,none⟩)] W (y7 W.w.heap.size m a c ts (aS.eB n ts))
def Eb (n:Nat):Prop:=∀(lj:Int) (m:Nat) (a:Option Addr) (c:Nat) (ts:List ax.cJ) (W:al),W.w.heap[m]? =some (.cells #[.slice a ts.length c] 142)->¬W.aV m->p1 W a c ts->lh W->mo ts->3*ts.length+2<=n->
 bK prog 109 #[.pointer (some ⟨m,0,none⟩),.int .i64 lj] W (y7 W.w.heap.size m a c ts (aS.e2 n lj ts))
theorem y8 {s:ax.aM} {t:ax.cJ} {r q:List ax.cJ} (h:aS.eo s (t::r)=some q):t.k=4∧t.t=s∧q=r:=by
 simp only[aS.eo] at h;split at h
 ·rename_i aA;exact⟨aA.1,aA.2,(bm h).symm⟩
 ·cases h
theorem y9 {s:ax.aM} {t:ax.cJ} {r:List ax.cJ} (h:aS.eo s (t::r)=none) (aA:t.k=4):¬t.t=s:=by
 intro e;simp[aS.eo,aA,e] at h
theorem Z0 (n:Nat) (cF:Ea n) (uH:Eb n):Ea (n+1):=by
 intro m a c ts W hm bf cC b7 fj cB;refine ZE ts.length c a m W _ hm bf ?_;refine bY fun m1 W1 _ bM=>jA fun I _=>bK.mono (D9 m a c ts ⟨#[45]⟩ (W1.fz [m]) (I _ (bd.2 rfl)) (jO W1 m) (cC.ext (iv bM bf))) fun e w' aA ⟨bn,aJ,gk,fk,he,aY,ni,n0⟩=>?_
 subst he;refine⟨gk.length,aJ,fk,bn,rfl,fun b I=>by obtain rfl:=bd.1 I;exact aY,fun cn bh dG bz=>?_⟩;have bH:=aD bM dG;simp only[aU];refine aK (fun wT=>?_) fun wT=>?_
 ·
  have aH:aS.eo [45] ts=some gk:=by
   rcases n0 with⟨_,h⟩|⟨h,_⟩
   ·exact h
   ·rw[show fk=true from wT] at h;cases h
  cases ts with
  |nil=>cases aH
  |cons t r=>
   obtain⟨cc,bb,rfl⟩:=y8 aH;have b8:aS.eB (n+1) (t::gk)=(aS.eB n gk).map fun p=>(aS.kh 3 p.1,p.2):=by simp[aS.eB,cc,bb]
   refine jA fun I _=>bK.mono (cF m bn aJ gk (cn.fz [m]) (I _ (bd.2 rfl)) (jO cn m) ((ni W cC).ext (iv bH bf)) (b7.ext (iv bH bf)) fj.tail (by simp only[e5] at cB;omega)) fun e w' aA fe=>?_
   rcases fe.out with⟨bc,rfl⟩|⟨x,r,bB,bG,op,k,dd,cR,aT,dt,len,dp,bc,rfl,j,aY,bD⟩
   ·rw[b8,bc];rfl
   ·refine⟨op,k,dd,len,dp,r.length,bG,cR,aT,dt,bB,rfl,fun b I=>by obtain rfl:=bd.1 I;exact aY,fun cq c8 eK bJ=>?_⟩;have bo:=aD bH eK;have hk:=dT.h3 j c8 bJ (by exact bH.size);simp only[aU];refine bY fun m2 dH jK cd=>bS fun dI cA=>aP fun I _ _=>?_
    rw[b8,bc];have J:=I _ (c6 ..);have an:=I _ (dq _ (c6 ..));exact⟨bB,bG,_,rfl,dT.eB J jK ((hk.ext cd).ext cA).new 3,an,ni.trans bD⟩
 have wU:aS.eo [45] ts=none∧gk=ts:=by
  rcases n0 with⟨h,_⟩|⟨_,h⟩
  ·rw[show fk=false from wT] at h;cases h
  ·exact h
 obtain⟨wU,rfl⟩:=wU;have H_:=ni W cC;refine jA fun I _=>bK.mono (D9 m bn aJ gk ⟨#[33]⟩ (cn.fz [m]) (I _ (bd.2 rfl)) (jO cn m) (H_.ext (iv bH bf))) fun e w' aA ⟨a2,c2,j6,kx,he,aY,mj,sf⟩=>?_
 subst he;refine⟨j6.length,c2,kx,a2,rfl,fun b I=>by obtain rfl:=bd.1 I;exact aY,fun cq c8 eK bJ=>?_⟩;have bo:=aD bH eK;simp only[aU];refine aK (fun wV=>?_) fun wV=>?_
 ·
  have aH:aS.eo [33] gk=some j6:=by
   rcases sf with⟨_,h⟩|⟨h,_⟩
   ·exact h
   ·rw[show kx=true from wV] at h;cases h
  cases gk with
  |nil=>cases aH
  |cons t r=>
   obtain⟨cc,bb,rfl⟩:=y8 aH;have b8:aS.eB (n+1) (t::j6)=(aS.eB n j6).map fun p=>(aS.kh 4 p.1,p.2):=by simp[aS.eB,cc,bb]
   refine jA fun I _=>bK.mono (cF m a2 c2 j6 (cq.fz [m]) (I _ (bd.2 rfl)) (jO cq m) ((mj W H_).ext (iv bo bf)) (b7.ext (iv bo bf)) fj.tail (by simp only[e5] at cB;omega)) fun e w' aA fe=>?_
   rcases fe.out with⟨bc,rfl⟩|⟨x,r,bB,bG,op,k,dd,cR,aT,dt,len,dp,bc,rfl,j,aY,bD⟩
   ·rw[b8,bc];rfl
   ·refine⟨op,k,dd,len,dp,r.length,bG,cR,aT,dt,bB,rfl,fun b I=>by obtain rfl:=bd.1 I;exact aY,fun dH gj dO cH=>?_⟩;have cd:=aD bo dO;have hk:=dT.h3 j gj cH (by exact bo.size);simp only[aU];refine bY fun m2 dI jK cA=>bS fun cV bU=>aP fun I _ _=>?_
    rw[b8,bc];have J:=I _ (c6 ..);have an:=I _ (dq _ (c6 ..));exact⟨bB,bG,_,rfl,dT.eB J jK ((hk.ext cA).ext bU).new 4,an,(ni.trans mj).trans bD⟩
 have wW:aS.eo [33] gk=none∧j6=gk:=by
  rcases sf with⟨h,_⟩|⟨_,h⟩
  ·rw[show kx=false from wV] at h;cases h
  ·exact h
 obtain⟨wW,rfl⟩:=wW;have sx:=mj W H_;refine jA fun I _=>bK.mono (D9 m a2 c2 j6 ⟨#[40]⟩ (cq.fz [m]) (I _ (bd.2 rfl)) (jO cq m) (sx.ext (iv bo bf))) fun e w' aA ⟨a3,c3,jP,jd,he,aY,kI,pn⟩=>?_
 subst he;refine⟨jP.length,c3,jd,a3,rfl,fun b I=>by obtain rfl:=bd.1 I;exact aY,fun dH gj dO cH=>?_⟩;have cd:=aD bo dO;simp only[aU];refine aK (fun Ia=>?_) fun Ia=>?_
 ·
  have aH:aS.eo [40] j6=some jP:=by
   rcases pn with⟨_,h⟩|⟨h,_⟩
   ·exact h
   ·rw[show jd=true from Ia] at h;cases h
  cases j6 with
  |nil=>cases aH
  |cons t r=>
   obtain⟨cc,bb,rfl⟩:=y8 aH;have b8:aS.eB (n+1) (t::jP)=(aS.e2 n 1 jP).bind fun p=>(aS.eo [41] p.2).map fun q=>(p.1,q):=by simp[aS.eB,cc,bb]
   refine jA fun I _=>bK.mono (uH 1 m a3 c3 jP (dH.fz [m]) (I _ (bd.2 rfl)) (jO dH m) ((kI W sx).ext (iv cd bf)) (b7.ext (iv cd bf)) fj.tail (by simp only[e5] at cB;omega)) fun e w' aA fe=>?_
   rcases fe.out with⟨bc,rfl⟩|⟨x,r,bB,bG,op,k,dd,cR,aT,dt,len,dp,bc,rfl,j,aY,bD⟩
   ·rw[b8,bc];rfl
   ·refine⟨op,k,dd,len,dp,r.length,bG,cR,aT,dt,bB,rfl,fun b I=>by obtain rfl:=bd.1 I;exact aY,fun dI hx ej cM=>?_⟩;have cA:=aD cd ej;have hk:=dT.h3 j hx cM (by exact cd.size);have N5:=kI.trans bD;simp only[aU];refine bY fun m2 cV jK bU=>bS fun dQ df=>jA fun I _=>bK.mono (H9 m bB bG r ⟨#[41]⟩ (dQ.fz [m]) (I _ (bd.2 rfl)) (jO dQ m) ((N5 W sx).ext (iv (aD (aD cA bU) df) bf))) fun e w' aA fe=>?_
    rcases fe.out with⟨bg,rfl⟩|⟨q,gz,bw,bg,rfl,aY,Ib⟩
    ·rw[b8,bc,lK];have bg:aS.eo [41] r=none:=bg;simp only[bg];rfl
    ·have bg:aS.eo [41] r=some q:=bg;refine⟨q.length,bw,gz,rfl,fun b I=>by obtain rfl:=bd.1 I;exact aY,fun dX sl dK gG=>bS fun fm eY=>aP fun I _ _=>?_⟩;rw[b8,bc,lK];simp only[bg];exact⟨gz,bw,_,rfl,((((hk.ext bU).ext df).ext dK).ext eY).new,I _ (bd.2 rfl),((ni.trans mj).trans N5).trans Ib⟩
 have Ic:aS.eo [40] j6=none∧jP=j6:=by
  rcases pn with⟨h,_⟩|⟨_,h⟩
  ·rw[show jd=false from Ia] at h;cases h
  ·exact h
 obtain⟨Ic,rfl⟩:=Ic;have Ec:=kI W sx;have Z1:=(ni.trans mj).trans kI;cases jP with
 |nil=>
  refine a6 rfl (a6 rfl (a6 rfl (aK (fun c0=>?_) fun _=>HU rfl)));cases c0
 |cons t r=>
  have j:(t::r)[0]? =some t:=rfl;have c1:=b_.dL Ec (by simp);have N6:=Ec.ext cd;refine a6 ?_ (a6 ?_ (a6 ?_ (aK (fun _=>cI ⟨t.k,fun W' x=>?_,?_⟩) fun c0=>?_)))
  ·simp only[U];rw[c1];simp
  ·simp[U,er]
  ·simp only[U];rw[dW (by simp only[e5];omega)];simp
  ·exact ed (P:=prog) rE N6 H8 (k:=0) j (by decide) (u:=.int .u8 t.k) rfl x
  ·simp only[aU];refine aK (fun aJ=>HU ?_) fun aJ=>cI ⟨t.k,⟨t.t.toArray⟩,fun W' x=>?_,?_⟩
   ·have aA:t.k=4:=by simpa[U] using aJ
    have:aS.eB (n+1) (t::r)=none:=by
     simp only[aS.eB];rw[if_pos aA,if_neg (y9 wU aA),if_neg (y9 wW aA),if_neg (y9 Ic aA)]
    rw[this];rfl
   ·exact gh (P:=prog) rE (by decide) N6 ZX ZY j x
   ·simp only[aU];have sk:¬t.k=4:=by simpa[U] using aJ
    have wX:jj a c (t::r) (jw a3 1 c3 2) (c3-1) r:=Z1.trans (Br a3 c3 t r);have yN:(⟨t.t.toArray⟩:ByteArray).data.toList=t.t:=by simp
    have heq:∀l:List UInt8,((⟨t.t.toArray⟩:ByteArray).data.toList==(⟨l.toArray⟩:ByteArray).data.toList)=decide (t.t=l):=fun l=>by rw[oc];simp
    refine bY fun m2 dI jK cA=>bS fun cV bU=>a6 ?_ (tt (bS fun dQ df=>aK (fun b0=>?_) fun b0=>aK (fun eG=>?_) fun eG=>?_))
    ·simp only[U];exact c_ (by simp only[e5];omega)
    ·
     have b0:t.k=1:=by simpa[U] using b0
     have b8:aS.eB (n+1) (t::r)=some (aS.lW 1 (aS.pk t.t) [],r):=by simp[aS.eB,b0]
     rw[b8];have bV:=fj t (c6 ..);refine iV (fun _ _=>NG ⟨t.t.toArray⟩ (by rw[<-kH,yN];omega) dQ (b7.ext (aD (aD (aD cd cA) bU) df))) fun v w' _ ⟨dd,e,aB,J,an,aI⟩=>⟨dd,e,NH J,aB,fun dX _ dK _=>?_⟩
     simp only[aU];refine cj fun fm eY=>bS fun fU fu=>aP fun I _ _=>?_
     have qy:dd=aS.pk t.t:=by
      rw[yN] at aI
      have hp:ax.y2 (Lib.parseIntB 64 t.t)=true:=by
       have:=bV.1;rw[b0] at this;simp only[ax.en,if_true,ax.lf,bT] at this;exact this.1
      unfold aS.pk;cases bg:Lib.parseIntB 64 t.t with
      |ok v=>exact aI v bg
      |_=>rw[bg] at hp;cases hp
     subst qy;refine⟨_,_,_,rfl,dT.lW _ _ 1 1 (aS.pk t.t) [] [],?_,wX⟩;have:=I _ (bd.2 rfl);simpa[U,b4.at] using this
    ·
     have eG:t.k=3:=by simpa[U] using eG
     have b8:aS.eB (n+1) (t::r)=some (aS.lW 3 0 t.t,r):=by simp[aS.eB,eG]
     rw[b8];refine bS fun dX dK=>aP fun I _ _=>⟨_,_,_,rfl,dT.lW _ _ 1 3 0 t.t [],?_,wX⟩
     have:=I _ (bd.2 rfl);simpa[U,b4.at] using this
    ·have b0:¬t.k=1:=by simpa[U] using b0
     have eG:¬t.k=3:=by simpa[U] using eG
     refine aK (fun Bs=>aK (fun gU=>?_) fun gU=>?_) fun Bs=>aK (fun js=>?_) fun js=>?_
     ·have gU:t.t=[121,101,115]:=by simpa[U] using gU
      have b8:aS.eB (n+1) (t::r)=some (aS.lW 2 1 [],r):=by simp[aS.eB,sk,b0,eG,gU]
      rw[b8];refine cj fun _ _=>bS fun dX dK=>aP fun I _ _=>⟨_,_,_,rfl,dT.lW _ _ 1 2 1 [] [],?_,wX⟩
      have:=I _ (bd.2 rfl);simpa[U,b4.at] using this
     ·have gU:¬t.t=[121,101,115]:=by simpa[U] using gU
      have il:t.t=[110,111]:=by
       simp only[U,heq,h8,decide_eq_true_eq] at Bs;exact Bs.resolve_left gU
      have b8:aS.eB (n+1) (t::r)=some (aS.lW 2 0 [],r):=by simp[aS.eB,sk,b0,eG,il]
      rw[b8];refine cj fun _ _=>bS fun dX dK=>aP fun I _ _=>⟨_,_,_,rfl,dT.lW _ _ 1 2 0 [] [],?_,wX⟩
      have:=I _ (bd.2 rfl);simpa[U,b4.at] using this
     ·
      have js:t.t=[108,101,110]:=by simpa[U] using js
      have b8:aS.eB (n+1) (t::r)=(aS.eo [40] r).bind fun gk=>(aS.e2 n 1 gk).bind fun p=>(aS.eo [41] p.2).map fun q=>(aS.kh 16 p.1,q):=by simp[aS.eB,sk,b0,eG,js]
      have N7:=aD (aD (aD cd cA) bU) df;refine jA fun I _=>bK.mono (H9 m _ _ r ⟨#[40]⟩ (dQ.fz [m]) (by have:=I _ (bd.2 rfl);show dQ.w.heap[m]? =_;simpa[U,b4.at] using this) (jO dQ m) ((wX W cC).ext (iv N7 bf))) fun e w' aA fe=>?_
      rcases fe.out with⟨bg,rfl⟩|⟨q,gz,bw,bg,rfl,aY,Ib⟩
      ·have bg:aS.eo [40] r=none:=bg;rw[b8,bg];rfl
      ·have bg:aS.eo [40] r=some q:=bg;rw[b8,bg,lK];have pZ:=aS.rG bg;refine⟨q.length,bw,gz,rfl,fun b I=>by obtain rfl:=bd.1 I;exact aY,fun dX sl jB gG=>?_⟩;have dK:=aD N7 jB;have N8:=wX.trans Ib;simp only[aU];refine jA fun I _=>bK.mono (uH 1 m gz bw q (dX.fz [m]) (I _ (bd.2 rfl)) (jO dX m) ((N8 W cC).ext (iv dK bf)) (b7.ext (iv dK bf)) (fj.tail.eP pZ.2) (by simp only[e5] at cB;omega)) fun e w' aA fe=>?_
       rcases fe.out with⟨bc,rfl⟩|⟨x,fF,bB,bG,op,k,dd,cR,aT,dt,len,dp,bc,rfl,j,aY,bD⟩
       ·rw[bc];rfl
       ·refine⟨op,k,dd,len,dp,fF.length,bG,cR,aT,dt,bB,rfl,fun b I=>by obtain rfl:=bd.1 I;exact aY,fun fm Ht kJ hD=>?_⟩;have eY:=aD dK kJ;have hk:=dT.h3 j Ht hD (by exact dK.size);have N9:=N8.trans bD;rw[bc,lK];simp only[aU];refine bY fun m3 fU Ie fu=>bS fun jQ ki=>jA fun I _=>bK.mono (H9 m bB bG fF ⟨#[41]⟩ (jQ.fz [m]) (I _ (bd.2 rfl)) (jO jQ m) ((N9 W cC).ext (iv (aD (aD eY fu) ki) bf))) fun e w' aA fe=>?_
        rcases fe.out with⟨pa,rfl⟩|⟨iT,hO,cZ,pa,rfl,aY,Z2⟩
        ·have pa:aS.eo [41] fF=none:=pa;simp only[pa];rfl
        ·have pa:aS.eo [41] fF=some iT:=pa;simp only[pa];refine⟨iT.length,cZ,hO,rfl,fun b I=>by obtain rfl:=bd.1 I;exact aY,fun lX Ed kX Ig=>?_⟩;simp only[aU];refine bY fun m4 lY uY kj=>bS fun kk kl=>aP fun I _ _=>?_
         have J:=I _ (c6 ..);have an:=I _ (dq _ (c6 ..));exact⟨hO,cZ,_,rfl,dT.eB J uY (((((hk.ext fu).ext ki).ext kX).ext kj).ext kl).new 16,an,N9.trans Z2⟩
     ·
      have js:¬t.t=[108,101,110]:=by simpa[U] using js
      have bE:¬t.t=[121,101,115]∧¬t.t=[110,111]:=by
       simp only[U,heq,k1,decide_eq_false_iff_not] at Bs;exact Bs
      have b8:aS.eB (n+1) (t::r)=some (aS.name t.t,r):=by simp[aS.eB,sk,b0,eG,js,bE.1,bE.2]
      rw[b8];refine bS fun dX dK=>aP fun I _ _=>⟨_,_,_,rfl,dT.lW _ _ 2 0 0 [] t.t,?_,wX⟩
      have:=I _ (bd.2 rfl);simpa[U,b4.at] using this
  ·simp[U] at c0;omega
theorem Z3 {s:ax.aM} {o:Int} {b:ax.aM×Int×Int} (h:aS.qM s o=some b):1<=b.2.2∧b.2.2<=5:=by
 have:=Ad h;simp only[aS.binds,dh,eT,or_false] at this;rcases this with rfl|rfl|rfl|rfl|rfl|rfl|rfl|rfl|rfl|rfl|rfl<;>decide
theorem Z4 (n:Nat) (Dw:Ea n) (cF:∀k,k<n->Eb k):Eb (n+1):=by
 intro lj m a c ts W hm bf cC b7 fj cB;refine ZO lj ts.length c a m W _ hm bf ?_;refine bY fun m1 W1 j8 bM=>jA fun I _=>bK.mono (Dw m a c ts (W1.fz [m]) (I _ (bd.2 rfl)) (jO W1 m) (cC.ext (iv bM bf)) (b7.ext (iv bM bf)) fj (by omega)) fun e w' aA fe=>?_
 have b8:aS.e2 (n+1) lj ts=(aS.eB n ts).bind fun p=>aS.loop n lj 7 p.1 p.2:=rfl
 rcases fe.out with⟨bc,rfl⟩|⟨fa,r,bB,bG,op,k,dd,cR,aT,dt,len,dp,bc,rfl,j,aY,bD⟩
 ·rw[b8,bc];rfl
 refine⟨op,k,dd,len,dp,r.length,bG,cR,aT,dt,bB,rfl,fun b I=>by obtain rfl:=bd.1 I;exact aY,fun cn bh dG bz=>?_⟩;have bH:=aD bM dG;have hk:=dT.h3 j bh bz (by exact bM.size);have oI:=aS.D8 bc;rw[b8,bc,lK];simp only[aU];refine bY fun m2 cq jK eK=>bS fun dH dO=>?_
 have cd:=aD (aD bH eK) dO;have Z5:=(hk.ext eK).ext dO
 refine dJ (fun aj vs ls V=>∃(f:Nat) (lZ op k dd:Int) (t aT:ByteArray) (dt:Option Addr) (len dp:Nat) (x:aS.de) (q:List ax.cJ) (l0:Option Addr) (jN:Nat),vs=[.int .i64 lZ,.int .u8 op,.int .u8 k,.int .i64 dd,.string t,.string aT,.slice dt len dp,.slice l0 q.length jN]∧ls=[]∧aj=q.length∧
  f<=n∧3*q.length+1<=f∧jj a c ts l0 jN q∧mo q∧qN V W.w.heap.size x [.int .u8 op,.int .u8 k,.int .i64 dd,.string t,.string aT,.slice dt len dp]∧aS.loop n lj 7 fa r=aS.loop f lj lZ x q) r.length ⟨n,7,op,k,dd,cR,aT,dt,len,dp,fa,r,bB,bG,rfl,rfl,rfl,e9 _,by have:=oI.1;omega,bD,fj.eP oI.2,Z5,rfl⟩ ?_
 rintro aj vs ls V fC ⟨f,lZ,op,k,dd,t,aT,dt,len,dp,x,q,l0,jN,rfl,rfl,rfl,j7,bs,Ih,bg,hk,hz⟩;have Ee:=aD cd fC;obtain⟨f,rfl⟩:∃g,f=g+1:=⟨f-1,by omega⟩;refine⟨lZ,op,k,dd,len,dp,q.length,jN,t,aT,dt,l0,rfl,rfl,fun _=>?_⟩;simp only[aU]
 have out:∀(Ef:al),Ext V Ef->Ef.w.heap[m]? =some (.cells #[.slice l0 q.length jN] 142)->aS.loop (f+1) lj lZ x q=some (x,q)->y7 W.w.heap.size m a c ts (aS.loop n lj 7 fa r) (.returned (.agg #[.int .u8 op,.int .u8 k,.int .i64 dd,.string t,.string aT,.slice dt len dp])) Ef.w:=fun Ef y aY he=>by
  rw[hz,he];exact⟨l0,jN,_,rfl,(hk.ext y).new,aY,Ih⟩
 cases q with
 |nil=>
  refine a6 rfl (a6 rfl (a6 rfl (aK (fun c0=>?_) fun _=>bS fun jR iH=>aP fun I _ _=>?_)))
  ·cases c0
  ·exact out jR iH (I _ (bd.2 rfl)) rfl
 |cons u q=>
  have wY:=(Ih W cC).ext Ee;have j:(u::q)[0]? =some u:=rfl;have c1:=b_.dL wY (by simp);refine a6 ?_ (a6 ?_ (a6 ?_ (aK (fun _=>cI ⟨u.k,fun W' x=>?_,?_⟩) fun c0=>?_)))
  ·simp only[U];rw[c1];simp
  ·simp[U,er]
  ·simp only[U];rw[dW (by simp only[e5];omega)];simp
  ·exact ed (P:=prog) rE wY H8 (k:=0) j (by decide) (u:=.int .u8 u.k) rfl x
  ·simp only[aU];refine aK (fun aJ=>cI ⟨⟨u.t.toArray⟩,fun W' x=>?_,?_⟩) fun aJ=>bS fun jR iH=>aP fun I _ _=>?_
   ·exact ed (P:=prog) rE wY N4 (k:=1) j (by decide) (u:=.string ⟨u.t.toArray⟩) rfl x
   ·have aA:u.k=4:=by simpa[U] using aJ
    simp only[aU];have Bt:=ZW ⟨u.t.toArray⟩ 0 V;rw[show(⟨u.t.toArray⟩:ByteArray).data.toList=u.t by simp] at Bt;cases qz:aS.qM u.t 0 with
    |none=>
     rw[qz] at Bt;refine b5 (fun _ _=>Bt) ⟨0,0,false,⟨#[]⟩,rfl,fun jR iH=>?_⟩;simp only[aU];refine bY fun m3 oK Ie dG=>bS fun sy eK=>aK (fun _=>bS fun rH dO=>aP fun I _ _=>?_) fun c2=>?_
     ·exact out rH (aD (aD (aD iH dG) eK) dO) (I _ (bd.2 rfl)) (by simp[aS.loop,aA,qz])
     ·simp[U] at c2
    |some b=>
     rw[qz] at Bt;obtain⟨yG,axV⟩:=Z3 qz;refine b5 (fun _ _=>Bt) ⟨b.2.1,b.2.2,true,⟨b.1.toArray⟩,rfl,fun jR iH=>?_⟩;simp only[aU];refine bY fun m3 oK Ie dG=>bS fun sy eK=>aK (fun c2=>bS fun rH dO=>aP fun I _ _=>?_) fun c2=>?_
     ·have c2:b.2.2<lj∨lZ<b.2.2:=by
       simp only[U,uf,kr,h8,cX] at c2;exact c2
      exact out rH (aD (aD (aD iH dG) eK) dO) (I _ (bd.2 rfl)) (by simp only[aS.loop,aA,qz,if_true];rw[if_pos c2])
     ·have c2:¬(b.2.2<lj∨lZ<b.2.2):=by
       simp only[U,uf,kr,k1,c7] at c2;omega
      have wZ:=aD (aD iH dG) eK;have hw:IntKind.i64.wrap (b.2.2+1)=b.2.2+1:=cE (by omega) (by omega)
      have N_:aS.loop (f+1) lj lZ x (u::q)=(aS.e2 f (b.2.2+1) q).bind fun p=>aS.loop f lj (if b.2.2=3 then 2 else b.2.2) (aS.qL b.2.1 x p.1) p.2:=by
       simp only[aS.loop,aA,qz,if_true];rw[if_neg c2]
      have Oa:jj a c ts (jw l0 1 jN 2) (jN-1) q:=Ih.trans (Br l0 jN u q);refine a6 ?_ (tt (bS fun rH dO=>cj fun po ej=>?_))
      ·simp only[U];exact c_ (by simp only[e5];omega)
      have z5:=aD (aD wZ dO) ej;have cA:=aD Ee z5
      have Z6:po.w.heap[m]? =some (.cells #[.slice (jw l0 1 jN 2) q.length (jN-1)] 142)->bK prog 109 #[.pointer (some ⟨m,0,none⟩),.int .i64 (IntKind.i64.wrap (b.2.2+1))] (po.fz [m]) (y7 po.w.heap.size m (jw l0 1 jN 2) (jN-1) q (aS.e2 f (b.2.2+1) q)):=fun aY=>by
       rw[hw];exact cF f (by omega) (b.2.2+1) m (jw l0 1 jN 2) (jN-1) q (po.fz [m]) aY (jO po m) ((Oa W cC).ext (iv cA bf)) (b7.ext (iv cA bf)) bg.tail (by simp only[e5] at bs;omega)
      refine jA fun I _=>bK.mono (Z6 (by have:=I _ (bd.2 rfl);simpa[U,b4.at] using this)) fun e w' aA fe=>?_
      rcases fe.out with⟨bc,rfl⟩|⟨lD,fF,bB,bG,oL,dA,p2,cR,nk,oM,oN,oO,bc,rfl,gE,aY,kY⟩
      ·rw[hz,N_,bc];rfl
      ·refine⟨oL,dA,p2,oN,oO,fF.length,bG,cR,nk,oM,bB,rfl,fun b I=>by obtain rfl:=bd.1 I;exact aY,fun Bu ow jk e0=>?_⟩;have bU:=aD cA jk;have Z7:=dT.h3 gE ow e0 (by exact cA.size);have Eg:=hk.ext (aD z5 jk);have fr:=aS.y3 bc;simp only[aU];refine cj fun y_ l1=>bY fun m4 uZ uY jB=>cj fun Eh kJ=>bS fun Bv iY=>?_
       have Ob:=aD (aD (aD l1 jB) kJ) iY
       have gy:∀(Ei:Int) (rI:al),Ext Bv rI->Ei=(if b.2.2=3 then 2 else b.2.2)->rI.aV m4->rI.w.heap[m4]? =some (.cells ([.int .u8 op,.int .u8 k,.int .i64 dd,.string t,.string aT,.slice dt len dp]++[.int .u8 oL,.int .u8 dA,.int .i64 p2,.string cR,.string nk,.slice oM oN oO]:List Value).toArray 56)->
         ∃fZ,fZ<(u::q).length∧∃(f:Nat) (lZ op k dd:Int) (t aT:ByteArray) (dt:Option Addr) (len dp:Nat) (x:aS.de) (q:List ax.cJ) (l0:Option Addr) (jN:Nat),[Value.int .i64 Ei,.int .u8 b.2.1,.int .u8 0,.int .i64 0,.string ⟨#[]⟩,.string ⟨#[]⟩,.slice (some ⟨m4,0,none⟩) 2 2,.slice bB fF.length bG]=[.int .i64 lZ,.int .u8 op,.int .u8 k,.int .i64 dd,.string t,.string aT,.slice dt len dp,.slice l0 q.length jN]∧([]:List (List Value))=[]∧fZ=q.length∧
         f<=n∧3*q.length+1<=f∧jj a c ts l0 jN q∧mo q∧qN rI W.w.heap.size x [.int .u8 op,.int .u8 k,.int .i64 dd,.string t,.string aT,.slice dt len dp]∧aS.loop n lj 7 fa r=aS.loop f lj lZ x q:=fun Ei rI mq aO Z8 za=>by
        refine⟨fF.length,by have:=fr.1;simp only[e5];omega,f,Ei,b.2.1,0,0,⟨#[]⟩,⟨#[]⟩,some ⟨m4,0,none⟩,2,2,aS.qL b.2.1 x lD,fF,bB,bG,rfl,rfl,rfl,by omega,by have:=fr.1;simp only[e5] at bs;omega,Oa.trans kY,bg.tail.eP fr.2,?_,by rw[hz,N_,bc,aO];rfl⟩;exact dT.e2 za ⟨Z8,uY⟩ (Eg.ext (aD Ob mq)) (Z7.ext (aD Ob mq)) b.2.1
       refine aK (fun c3=>eC fun rI Ej mq Bw Bx=>b1 ?_) fun c3=>eC fun rI Ej mq Bw Bx=>b1 ?_
       ·have c3:b.2.2=3:=by simpa[U] using c3
        refine gy (IntKind.i64.wrap (b.2.2-1)) rI mq ?_ (Bw _ (c6 ..) uY) (Bx _ (c6 ..));rw[if_pos c3,c3];decide
       ·have c3:¬b.2.2=3:=by simpa[U] using c3
        exact gy b.2.2 rI mq (by rw[if_neg c3]) (Bw _ (c6 ..) uY) (Bx _ (c6 ..))
   ·have aA:¬u.k=4:=by simpa[U] using aJ
    exact out jR iH (I _ (bd.2 rfl)) (by simp only[aS.loop];rw[if_neg aA])
  ·simp only[U,c7,e5] at c0;omega
theorem Z9:∀n:Nat,Ea n∧Eb n:=by
 intro n;induction n using Nat.strongRecOn with
 |ind n cF=>
  cases n with
  |zero=>exact⟨fun m a c ts W _ _ _ _ _ h=>by omega,fun mu m a c ts W _ _ _ _ _ h=>by omega⟩
  |succ n=>exact⟨Z0 n (cF n (by omega)).1 (cF n (by omega)).2,Z4 n (cF n (by omega)).1 fun k aA=>(cF k (by omega)).2⟩
end Go.Proofs.YtkpjmlnhhggenaaGreatDoor
end
section
namespace aS
open Go
open ax hiding none run first
mutual
def iZ:de->Bool
 | .mk _ _ n t aT l=>(decide (l.length<=1000)&&(decide (t.length<=140737488351232)&&(decide (aT.length<=140737488351232)&&(decide (-9223372036854775808<=n)&&decide (n<=9223372036854775807)))))&&qO l
def qO:List de->Bool
 |[]=>true
 |e::l=>iZ e&&qO l
end
theorem u0 {l:List de} {e:de} (h:qO l=true) (he:e∈l):iZ e=true:=by
 induction l with
 |nil=>cases he
 |cons x l cF=>
  simp only[qO,bT] at h;rcases dh.1 he with rfl|he
  ·exact h.1
  ·exact cF h.2 he
theorem Oc (l:List de) (e:de):kW (l++[e])=max (kW l) (gF e):=by
 induction l with
 |nil=>simp[kW]
 |cons x l cF=>simp only[vM,kW,cF];omega
theorem Od {l:List de} {e:de} (h:e∈l):gF e<=kW l:=by
 induction l with
 |nil=>cases h
 |cons x l cF=>
  simp only[kW];rcases dh.1 h with rfl|h
  ·omega
  ·have:=cF h;omega
theorem Oe (l:List de):∀i:Nat,kW (l.take i)<=kW l:=by
 induction l with
 |nil=>simp
 |cons x l cF=>intro i;cases i with
  |zero=>simp[kW]
  |succ i=>have:=cF i;simp only[List.take_succ_cons,kW];omega
theorem Z_ (e:de):1<=gF e:=by cases e;simp[gF]
def pq (n:Nat) (e:de) (r:List cJ):Prop:=iZ e=true∧gF e+r.length<=n
theorem Ii {n:Nat} {o:Int} {e:de} {r:List cJ} (h:pq n e r):pq (n+1) (kh o e) r:=by
 obtain⟨J,an⟩:=h;refine⟨by simp[kh,iZ,qO,J],?_⟩;simp only[kh,gF,kW];omega
theorem By {n k m:Int} {t aT:aM} {r:List cJ} (J:t.length<=1000) (an:aT.length<=1000) (aI: -9223372036854775808<=n∧n<=9223372036854775807):pq (r.length+1) (.mk k m n t aT []) r:=⟨by simp[iZ,qO];omega,by simp[gF,kW];omega⟩
theorem aaa (l:aM): -9223372036854775808<=pk l∧pk l<=9223372036854775807:=by
 unfold pk;split
 ·rename_i n h;have:=Lib.parseIntB_bounds h;omega
 ·decide
def Small (ts:List cJ):Prop:=∀t∈ts,t.t.length<=1000
theorem Small.eP {ts r:List cJ} (h:Small ts) (k:iU ts r):Small r:=by
 obtain⟨_,k,rfl⟩:=k;exact fun t bb=>h t (vC bb)
theorem Small.tail {t:cJ} {ts:List cJ} (h:Small (t::ts)):Small ts:=fun u hu=>h u (dq _ hu)
theorem pq.le {n m:Nat} {e:de} {r s:List cJ} (h:pq n e r) (aO:s.length+n<=m+r.length):pq m e s:=⟨h.1,by have:=h.2;omega⟩
theorem Of:∀n:Nat,(∀ts e r,Small ts->eB n ts=some (e,r)->pq ts.length e r)∧(∀m ts e r,Small ts->e2 n m ts=some (e,r)->pq ts.length e r)∧(∀m l x ts e r T,Small ts->loop n m l x ts=some (e,r)->pq T x ts->pq T e r)
 |0=>⟨fun _ _ _ _ h=>by simp[eB] at h,fun _ _ _ _ _ h=>by simp[e2] at h,fun _ _ _ _ _ _ _ _ h=>by simp[loop] at h⟩
 |n+1=>by
  obtain⟨J,an,aI⟩:=Of n;refine⟨fun ts e r bD h=>?_,fun m ts e r bD h=>?_,fun m l x ts e r T bD h j=>?_⟩
  ·cases ts with
   |nil=>simp[eB] at h
   |cons t s=>
    have bb:=bD t (c6 ..);simp only[eB] at h;split at h
    ·split at h
     ·obtain⟨p,hp,he⟩:=map_some h;obtain⟨rfl,rfl⟩:=fD he;exact Ii (J _ _ _ bD.tail hp)
     ·split at h
      ·obtain⟨p,hp,he⟩:=map_some h;obtain⟨rfl,rfl⟩:=fD he;exact Ii (J _ _ _ bD.tail hp)
      ·split at h
       ·obtain⟨p,hp,he⟩:=bind_some h;obtain⟨q,bg,he⟩:=map_some he;obtain⟨rfl,rfl⟩:=fD he;have:=(rG bg).1;exact(an _ _ _ _ bD.tail hp).le (by simp only[e5];omega)
       ·cases h
    ·split at h
     ·obtain⟨rfl,rfl⟩:=fD (bm h);exact By (by simp) (by simp) (aaa _)
     ·split at h
      ·obtain⟨rfl,rfl⟩:=fD (bm h);exact By bb (by simp) (by decide)
      ·split at h
       ·obtain⟨rfl,rfl⟩:=fD (bm h);exact By (by simp) (by simp) (by decide)
       ·split at h
        ·obtain⟨rfl,rfl⟩:=fD (bm h);exact By (by simp) (by simp) (by decide)
        ·split at h
         ·obtain⟨gk,aw,he⟩:=bind_some h;obtain⟨p,hp,he⟩:=bind_some he;obtain⟨q,bg,he⟩:=map_some he;obtain⟨rfl,rfl⟩:=fD he;have bg:=(rG bg).1;have kc:=(rG aw).1;refine(Ii (an _ _ _ _ (bD.tail.eP (rG aw)) hp)).le (by simp only[e5];omega)
         ·obtain⟨rfl,rfl⟩:=fD (bm h);exact By (by simp) bb (by decide)
  ·simp only[e2] at h;obtain⟨p,hp,he⟩:=bind_some h;exact aI _ _ _ _ _ _ _ (bD.eP (D8 hp)) he (J _ _ _ bD hp)
  ·cases ts with
   |nil=>simp only[loop] at h;obtain⟨rfl,rfl⟩:=fD (bm h);exact j
   |cons t s=>
    simp only[loop] at h;split at h
    ·split at h
     ·obtain⟨rfl,rfl⟩:=fD (bm h);exact j
     ·split at h
      ·obtain⟨rfl,rfl⟩:=fD (bm h);exact j
      ·obtain⟨p,hp,he⟩:=bind_some h;have bs:=an _ _ _ _ bD.tail hp;refine aI _ _ _ _ _ _ _ (bD.tail.eP (y3 hp)) he ⟨?_,?_⟩
       ·simp[qL,iZ,qO,j.1,bs.1]
       ·have b0:=j.2;have bZ:=bs.2;have eG:=(y3 hp).1;have gu:=Z_ p.1;simp only[qL,gF,kW,e5] at b0 ⊢;omega
    ·obtain⟨rfl,rfl⟩:=fD (bm h);exact j
mutual
def eb:de->de->Bool
 | .mk o k n t aT l,.mk hb dA fZ cR nk fx=>(o==hb&&((k==dA&&(n==fZ&&t==cR))&&aT==nk))&&nA l fx
def nA:List de->List de->Bool
 |[],[]=>true
 |a::l,b::m=>eb a b&&nA l m
 |_,_=>false
end
mutual
theorem jc:∀{a b:de},eb a b=true->a=b
 | .mk o k n t aT l,.mk hb dA fZ cR nk fx,h=>by
  simp only[eb,bT,beq_iff_eq] at h;obtain⟨⟨rfl,⟨rfl,rfl,rfl⟩,rfl⟩,h⟩:=h;rw[s_ h]
theorem s_:∀{l m:List de},nA l m=true->l=m
 |[],[],_=>rfl
 |a::l,b::m,h=>by
  simp only[nA,bT] at h;rw[jc h.1,s_ h.2]
 |[],_::_,h=>by simp[nA] at h
 |_::_,[],h=>by simp[nA] at h
end
theorem aab {n:Nat} {m:Int} {ts r:List cJ} {e:de} (bD:Small ts) (h:e2 n m ts=some (e,r)):pq ts.length e r:=(Of n).2.1 _ _ _ _ bD h
end aS
end
section
namespace Go.Proofs.YtkpjmlnhhggenaaGreatDoor
open Go.Proofs.Tryz Go Go.RowKit Go.cK
def iK (W:al) (e:aS.de) (vs:List Value):Prop:=dT W.w W.aV e vs
theorem iK.ext {W W':al} {e:aS.de} {vs:List Value} (h:iK W e vs) (x:Ext W W'):iK W' e vs:=dT.move (fun b I _=>⟨x.sub b I,x.du b I⟩) h
theorem qN.i {W:al} {ar:Nat} {e:aS.de} {vs:List Value} (h:qN W ar e vs):iK W e vs:=dT.move (fun b I _=>⟨I.1,rfl⟩) h
theorem dT.i {W:al} {w:World} {aQ:Nat} {e:aS.de} {vs:List Value} (h:dT w (fun b=>aQ<=b) e vs) (hw:W.w=w) (cB:s8 aQ W):iK W e vs:=(h.h3 hw cB (e9 _)).i
theorem tx {w:World} {eV:Nat->Prop}:∀{l:List aS.de} {ls:List Value},nj w eV l ls->∀{i:Nat} {x:aS.de},l[i]? =some x->∃vs,dT w eV x vs∧∀aj,aj<6->ls[i*6+aj]? =vs[aj]?
 |[],ls,h,i,x,j=>by simp at j
 |e::l,ls,h,i,x,j=>by
  simp only[nj] at h;obtain⟨y,m,rfl,bE,hm⟩:=h;cases i with
  |zero=>
   simp only[yf,nT] at j;subst j;exact⟨y,bE,fun aj cu=>by rw[Nat.zero_mul,mY,List.getElem?_append_left (by rw[bE.len];exact cu)]⟩
  |succ i=>
   rw[rZ] at j;obtain⟨vs,aB,aH⟩:=tx hm j
   exact⟨vs,aB,fun aj cu=>by
    rw[Ac (by rw[bE.len];omega),bE.len,show(i+1)*6+aj-6=i*6+aj from by omega];exact aH aj cu⟩
theorem tz {W:al} {a:Option Addr} {n c sz:Nat} {xs:List Value} (h:b_ W a n c sz xs) {t:TypeId} (ee:hr prog t=some true) (c1:hK prog t=some sz) {i:Nat} {vs:List Value} (aB:vs.length=sz) (cS:0<sz) (bP:∀aj,aj<sz->xs[i*sz+aj]? =vs[aj]?)
  {W':al} (sw:Ext W W'):(Instr.loadAt t (.pointer (some ((a.getD default).add (i*sz+0))))).run prog W'.w= .ok (.agg vs.toArray) W'.w:=by
 obtain⟨J,an,aI⟩:=h.ext sw;rcases aI with⟨_,rfl,rfl⟩|⟨b,o,rfl,bf,I,aH⟩
 ·exfalso;have bk:=bP 0 cS;have:xs=[]:=sW.1 (by simpa using J);rw[this,List.getElem?_nil,dn (l:=vs) (by omega)] at bk;cases bk
 ·refine Bq ee c1 aB fun aj u hu=>?_
  have cu:aj<sz:=by rw[<-aB];exact(nU.1 hu).1
  have:=aH (i*sz+aj) u (by rw[bP aj cu];exact hu);simp only[ny,ff];rw[ky,ky,show o+i*sz+aj=o+(i*sz+aj) from by omega];exact this
theorem u1:hr prog 56=some true:=by kernel_rfl
theorem tA:hK prog 56=some 6:=by kernel_rfl
theorem aac (n:Nat):∀(x:aS.de) (vs:List Value) (W:al),aS.gF x<=n->n<=1000000->aS.iZ x=true->iK W x vs->da prog 52 #[.agg vs.toArray] W (.int .i64 (aS.gF x:Nat)):=by
 induction n with
 |zero=>intro x vs W h;cases x;simp[aS.gF] at h
 |succ n cF=>
  intro x vs W a_ cB fL j;obtain⟨op,k,dd,t,aT,args⟩:=x;have j:=j.ext W.dw;simp only[iK,dT] at j;obtain⟨a,c,ls,rfl,c1,fe⟩:=j;simp only[aS.gF] at a_;simp only[aS.iZ,bT,decide_eq_true_eq] at fL;refine ZU op k dd args.length c ⟨t.toArray⟩ ⟨aT.toArray⟩ a W.all _ ?_;refine bY fun m W1 _ bM=>dJ (fun aj vs ls _=>∃i:Nat,vs=[.int .i64 (aS.kW (args.take i):Nat),.int .i64 (i:Nat)]∧ls=[]∧i<=args.length∧aj=args.length-i) args.length ⟨0,by simp[aS.kW,U],rfl,dr _,rfl⟩ ?_
  rintro aj vs fG cn bH ⟨i,rfl,rfl,a8,rfl⟩;have gM:=aD bM bH;refine⟨((aS.kW (args.take i):Nat):Int),(i:Int),rfl,rfl,fun _=>?_⟩;have hle:=aS.Oe args i;refine aK (fun aJ=>?_) fun aJ=>?_
  ·simp only[U,cX] at aJ;have cp:i<args.length:=by omega
   have j:args[i]? =some args[i]:=dn cp;obtain⟨us,hu,bP⟩:=tx fe j;obtain⟨oL,dA,p2,cR,nk,oM,oN,oO,rfl⟩:=hu.mL;have bD:=aS.Od (h9 cp);refine a6 ?_ (a6 ?_ (cI ⟨oL,dA,p2,oN,oO,cR,nk,oM,fun cq bo=>?_,?_⟩))
   ·simp only[E.b,aR,aX.push];exact b_.dL c1 (by omega)
   ·simp only[U];exact c_ (by omega)
   ·have:=tz (W:=W.all) c1 u1 tA rfl (by decide) bP (aD gM bo);simp only[U] at this ⊢;exact this
   ·simp only[aU];have qP:iK W.all args[i] _:=hu;have bg:∀V,Ext cn V->_:=fun V fC=>cF args[i] _ V (by omega) (by omega) (aS.u0 fL.2 (h9 cp)) (qP.ext (aD gM fC))
    refine bY fun m2 cq _ bo=>bS fun dH cd=>b5 (fun _ _=>bg dH (aD bo cd)) ⟨((aS.gF args[i]:Nat):Int),rfl,fun dI cA=>?_⟩
    simp only[aU];refine eC fun _ _ _ _ _=>b1 ⟨args.length-(i+1),by omega,i+1,?_,rfl,by omega,rfl⟩
    simp only[U];have bb:args.take (i+1)=args.take i++[args[i]]:=by rw[List.take_add_one,j];rfl
    rw[bb,aS.Oc,cE (by omega) (by omega)];congr 2
    ·congr 1;omega
  ·simp only[U,c7] at aJ;obtain rfl:i=args.length:=by omega
   refine aP fun _ _ _=>⟨_,rfl,?_⟩
   simp only[U,List.take_length,aS.gF] at hle ⊢;rw[cE (by omega) (by omega)];rfl
section
variable {P:Program} {ops:Array Oper} {Q:Exit->Act->World->Prop} {a:Act} {w w':World} {rest:List Oper} {o:Oper}
theorem aad (v:Value) (bP:o.guard=none) (aw:(execOp a.eval o).run P w= .ok (.value v) w') (h:wpList P ops Q rest (a.put o.dst v) w'):wpList P ops Q (o::rest) a w:=
 wpList_plain bP fun K cy=>by unfold Oper.wp;rw[aw];exact cy _ _ h
theorem Ek (bP:o.guard=none) (aw:(execOp a.eval o).run P w= .ok .skip w') (h:wpList P ops Q rest (a.put o.dst undef) w'):wpList P ops Q (o::rest) a w:=
 wpList_plain bP fun K cy=>by unfold Oper.wp;rw[aw];exact cy _ _ h
end
theorem aae {P:Program} {ops:Array Oper} {Q:Act->Prop} {a:Act} {w:World} {rest:List Oper} {o:Oper} (bP:o.guard=none) (aw:(execOp a.eval o).run P w= .ok .skip w) (h:wpStill P ops w Q rest (a.put o.dst undef)):wpStill P ops w Q (o::rest) a:=
 wpStill_step fun K cy=>by simp only[Region.wanted,bP,if_true];unfold Oper.still;rw[aw];exact⟨rfl,cy _ h⟩
theorem aaf {w:World} {g:Nat} {cs:Array Value} {t:TypeId} (h:w.heap[g]? =some (.cells cs t)):w.setRow g cs=w:=by
 have e:(w.setRow g cs).heap=w.heap:=by
  refine Array.ext_getElem? fun i=>?_
  by_cases a8:i=g
  ·subst a8;rw[setRow_heap _ _ _ _ _ (0,0) h,h]
  ·exact setRow_other _ _ _ _ a8
 have bh:w.setRow g cs={w with heap:=(w.setRow g cs).heap}:=rfl;rw[bh,e]
def qQ:List Value:=[.int .u8 0,.int .u8 0,.int .i64 0,.string ⟨#[]⟩,.string ⟨#[]⟩,.slice none 0 0]
theorem El (ρ:aX) (vs:List Value):af.b2 ρ (vs.map .val)=vs:=by
 rw[af.jF,List.map_map];exact(List.map_congr_left fun v _=>rfl).trans (List.map_id vs)
theorem Ij {w:World} {p:Nat} {vs:List Value} {a b c d e f:Value} (hp:w.heap[p]? =some (.cells vs.toArray 56)) (aO:vs.length=6) (J:∀u∈[a,b,c,d,e,f],u.oneCell'=true):(storeVar 56 ⟨p,0,none⟩ (.agg #[a,b,c,d,e,f])).run prog w= .ok () (w.setRow p #[a,b,c,d,e,f]):=by
 have h:=F7 (P:=prog) (ρ:={V:=[a,b,c,d,e,f]}) (t:=56) (cs:=vs.map .val) (vs:=[.var 0,.var 1,.var 2,.var 3,.var 4,.var 5]) (off:=0) (n:=6) (s:=.agg [.var 0,.var 1,.var 2,.var 3,.var 4,.var 5]) (fun v aB=>J v aB) rfl tA rfl (by simp[aO]) (w:=w) (b:=p) (ty:=56) (by rw[El];exact hp);rw[CS,El,fV (by simp[aO])] at h;exact h
theorem aag:hK prog 4=some 1:=by kernel_rfl
theorem Og {w:World} {p:Nat} {v:Value} {b:Bool} (hp:w.heap[p]? =some (.cells #[v] 4)):(storeVar 4 ⟨p,0,none⟩ (.bool b)).run prog w= .ok () (w.setRow p #[.bool b]):=by
 have h:=F7 (P:=prog) (ρ:={B:=[b]}) (t:=4) (cs:=[v].map .val) (vs:=[.bool (.bv 0)]) (off:=0) (n:=1) (s:=.bool (.bv 0)) (fun v aB=>by cases aB) rfl aag rfl (by simp) (w:=w) (b:=p) (ty:=4) (by rw[El];exact hp);rw[CS,El,fV (by simp)] at h;exact h
theorem aah (p q:Nat) (vs:List Value) (ok:Value) (Oh:List PanicEntry) (w:World) (hp:w.heap[p]? =some (.cells vs.toArray 56)) (aO:vs.length=6) (bg:w.heap[q]? =some (.cells #[ok] 4)) (aai:p≠q):
  CallsD prog 108 #[.pointer (some ⟨p,0,none⟩),.pointer (some ⟨q,0,none⟩)] (.panicking ({v:=.iface 139 (.agg #[]),recovered:=false}::Oh)) w fun e Bz w'=>
   e= .returned (.tuple #[])∧Bz= .panicking ({v:=.iface 139 (.agg #[]),recovered:=true}::Oh)∧w'=(w.setRow p qQ.toArray).setRow q #[.bool false]:=by
 refine callsD_of_wpS func108 rfl fun Oi cs hu=>?_
 apply wpS_seq;apply wpS_region;simp[wpOpsS,go_sem,recoverD,hu,ntmps108,Exit.thenS];refine wpS_of_wp ?_;apply wp_seq;refine wp_region_list ?_;simp[wpList,go_sem,Exit.then];left;left;refine wp_cond (t:=true) (by simp[Act.eval,Array.replicate]) ?_;simp only[if_true];apply wp_seq;refine wp_region_list ?_
 have HI:∀w,(Instr.typeAssert (.iface 139 (.agg #[])) 20 139 false).run prog w= .ok (.agg #[]) w:=fun w=>by
  simp[Instr.typeAssert,run_underlying (show prog.underlying 139=some (.struct #[]) by kernel_rfl),go_sem,Result.andThen]
 simp[wpList,go_sem,Exit.then,HI];left;left;refine wp_region_list ?_;have jH:(storeVar 56 ⟨p,0,none⟩ (.agg qQ.toArray)).run prog w= .ok () (w.setRow p qQ.toArray):=Ij hp aO (by simp[Value.oneCell']);have Em:(storeVar 4 ⟨q,0,none⟩ (.bool false)).run prog (w.setRow p qQ.toArray)= .ok () ((w.setRow p qQ.toArray).setRow q #[.bool false]):=Og (v:=ok) (by rw[setRow_other _ _ _ _ (Ne.symm aai)];exact bg)
 refine aad (.agg qQ.toArray) rfl (w':=w) (by simp[execOp,Instr.build,go_sem,qQ]) (Ek rfl (w':=w.setRow p qQ.toArray) (by
  simp[execOp,Instr.storeAt,Instr.sureAddr,Act.eval,Act.put,jH]) (Ek rfl (w':=(w.setRow p qQ.toArray).setRow q #[.bool false]) (by
  simp[execOp,Instr.storeAt,Instr.sureAddr,Act.eval,Act.put,Em]) (wpList_nil ?_)))
 simp[bodyPostS,results,results108,Act.put]
theorem aaj (p q:Nat) (w:World):CallsD prog 108 #[.pointer (some ⟨p,0,none⟩),.pointer (some ⟨q,0,none⟩)] .returning w fun e Bz w'=>e= .returned (.tuple #[])∧Bz= .returning∧w'=w:=by
 refine callsD_of_wpS func108 rfl fun Oi cs hu=>?_
 apply wpS_seq;apply wpS_region;simp[wpOpsS,go_sem,recoverD,hu,ntmps108,Exit.thenS];refine wpS_of_wp ?_;apply wp_seq;refine wp_region_list ?_;simp[wpList,go_sem,Exit.then];left;left;refine wp_cond (t:=false) (by simp[Act.eval,Array.replicate]) ?_;simp only[rX,if_false];refine wp_skip ?_;cases Oi
 simp_all [bodyPostS,results,results108]
theorem Ik (w:World) (o:Obj) (k:Nat):(w.alloc o).heap[k]? =if k=w.heap.size then some o else w.heap[k]? :=by
 rw[show(w.alloc o).heap=w.heap.push o from rfl,Array.getElem?_push]
theorem u2 (w:World) (o:Obj):(w.alloc o).heap.size=w.heap.size+1:=by
 rw[show(w.alloc o).heap=w.heap.push o from rfl,Array.size_push]
def cq (W:al) (a b c:Obj):al:=⟨((W.w.alloc a).alloc b).alloc c,fun k=>k<W.w.heap.size+2,fun k h=>by rw[u2,u2,u2];omega⟩
theorem Oj (W:al) (a b c:Obj):(cq W a b c).w.heap.size=W.w.heap.size+3:=by
 show(((W.w.alloc a).alloc b).alloc c).heap.size=_;rw[u2,u2,u2]
theorem En (W:al) (a b c:Obj) (k:Nat):(cq W a b c).w.heap[k]? =if k=W.w.heap.size+1+1 then some c else if k=W.w.heap.size+1 then some b else if k=W.w.heap.size then some a else W.w.heap[k]? :=by
 show(((W.w.alloc a).alloc b).alloc c).heap[k]? =_;rw[Ik,Ik,Ik,u2,u2]
theorem aak (W:al) (a b c:Obj):Ext W (cq W a b c):=
 ⟨by rw[Oj];omega,fun k h=>by have:=W.lt k h;show k<_;omega,fun k h=>by
  have:=W.lt k h;rw[En,if_neg (by omega),if_neg (by omega),if_neg (by omega)],rfl,rfl,rfl⟩
theorem Il {w:World} {m:Nat} {a b c d e f:Value} {ty:TypeId} (h:w.heap[m]? =some (.cells #[a,b,c,d,e,f] ty)):w.cell? ⟨m,0,none⟩=some a∧w.cell? ⟨m,1,none⟩=some b∧w.cell? ⟨m,2,none⟩=some c∧w.cell? ⟨m,3,none⟩=some d∧w.cell? ⟨m,4,none⟩=some e∧w.cell? ⟨m,5,none⟩=some f:=by
 simp[World.cell?,h]
theorem Eo {w:World} {m:Nat} {a:Value} {ty:TypeId} (h:w.heap[m]? =some (.cells #[a] ty)):w.cell? ⟨m,0,none⟩=some a:=by simp[World.cell?,h]
theorem Ep {V:al} {w:World} (h:cO V w) {g:Nat} (bP:¬V.aV g) (cs:Array Value):cO V (w.setRow g cs):=
 ⟨h.os,h.tape,h.output,by simpa using h.size,fun b I=>by
  rw[setRow_other _ _ _ _ (show b≠g from fun e=>bP (by rw[<-e];exact I))];exact h.du b I⟩
def aal (ar:Nat) (ts:List ax.cJ) (v:Value) (w':World):Prop:=∃op k n t aT dt len dp,v= .tuple #[.agg #[.int .u8 op,.int .u8 k,.int .i64 n,.string t,.string aT,.slice dt len dp],.bool (aS.whole ts).isSome]∧∀x,aS.whole ts=some x->dT w' (fun b=>ar<=b) x [.int .u8 op,.int .u8 k,.int .i64 n,.string t,.string aT,.slice dt len dp]
theorem aam (a:Option Addr) (c:Nat) (ts:List ax.cJ) (W:al) (cC:p1 W a c ts) (b7:lh W) (fj:mo ts):gR prog 51 #[.slice a ts.length c] W (aal W.w.heap.size ts):=by
 have bo:=aak W (.cells #[.int .u8 0,.int .u8 0,.int .i64 0,.string ⟨#[]⟩,.string ⟨#[]⟩,.slice none 0 0] 56) (.cells #[.bool false] 4) (.cells #[.slice a ts.length c] 142);have e2:=(Z9 (3*ts.length+2)).2 1 (W.w.heap.size+1+1) a c ts _ (by rw[En,if_pos rfl]) (fun h=>by have h:W.w.heap.size+1+1<W.w.heap.size+2:=h;omega) (cC.ext bo) (b7.ext bo) fj (e9 _);have aan:∀(fn:Fn) (first cap:Array Value) (w:World),(Instr.makeFunc fn first cap).run prog w= .ok (.func fn first cap) w:=fun _ _ _ _=>rfl
 have hw:aS.whole ts=match aS.e2 (3*ts.length+2) 1 ts with
  |some (e,[])=>some e
  |_=>none:=rfl
 unfold gR bK
 go_enter_defers func51,ntmps51
 go_wp2_with fail
 rename_i axW aao Ok K cy;refine Calls.mono e2 fun e w' ⟨aA,fe⟩=>?_
 have bk:w'.heap[W.w.heap.size]? =some (.cells qQ.toArray 56):=by
  rw[aA.du _ (by show _<_;omega),En,if_neg (by omega),if_neg (by omega),if_pos rfl];rfl
 have J:w'.heap[W.w.heap.size+1]? =some (.cells #[.bool false] 4):=by
  rw[aA.du _ (by show _<_;omega),En,if_neg (by omega),if_pos rfl]
 rcases fe.out with⟨bc,rfl⟩|⟨x,r,bB,bG,op,k,dd,cR,aT,dt,len,dp,bc,rfl,j,aY,bD⟩
 ·simp only[];refine leaves_cons (f:=108) (args:=#[.pointer (some ⟨W.w.heap.size,0,none⟩),.pointer (some ⟨W.w.heap.size+1,0,none⟩)]) (by simp) (by simp[go_sem]) ?_;refine(aah _ _ qQ (.bool false) [] w' bk rfl J (by omega)).mono ?_;rintro e Bz iE ⟨rfl,rfl,rfl⟩;generalize eS:(w'.setRow W.w.heap.size qQ.toArray).setRow (W.w.heap.size+1) #[.bool false]=F;have f1:F.heap[W.w.heap.size+1]? =some (.cells #[.bool false] 4):=by rw[<-eS];exact setRow_heap _ _ _ _ _ (0,0) (by rw[setRow_other _ _ _ _ (by omega)];exact J)
  have f0:F.heap[W.w.heap.size]? =some (.cells #[.int .u8 0,.int .u8 0,.int .i64 0,.string ⟨#[]⟩,.string ⟨#[]⟩,.slice none 0 0] 56):=by rw[<-eS,setRow_other _ _ _ _ (by omega)];exact setRow_heap _ _ _ _ _ (0,0) bk
  obtain⟨g0,g1,g2,g3,g4,g5⟩:=Il f0;have Ol:=Eo f1;simp[Leaves,settle,results,results51,go_sem,g0,g1,g2,g3,g4,g5,Ol];refine⟨?_,_,rfl,0,0,0,⟨#[]⟩,⟨#[]⟩,none,0,0,?_,fun x j=>?_⟩
  ·rw[<-eS];exact Ep (Ep (cO.start bo aA) (fun h=>by have:=W.lt _ h;omega) _) (fun h=>by have:=W.lt _ h;omega) _
  ·rw[hw,bc];rfl
  ·rw[hw,bc] at j;cases j
 ·simp only[];have jH:(storeVar 56 ⟨W.w.heap.size,0,none⟩ (.agg #[.int .u8 op,.int .u8 k,.int .i64 dd,.string cR,.string aT,.slice dt len dp])).run prog w'= .ok () (w'.setRow W.w.heap.size #[.int .u8 op,.int .u8 k,.int .i64 dd,.string cR,.string aT,.slice dt len dp]):=Ij bk rfl (by simp[Value.oneCell'])
  refine cy _ _ (Ek rfl (w':=w'.setRow W.w.heap.size #[.int .u8 op,.int .u8 k,.int .i64 dd,.string cR,.string aT,.slice dt len dp]) (by
   simp[execOp,Instr.storeAt,Instr.sureAddr,Act.eval,Act.put,jH]) (wpList_nil ?_))
  generalize eS:w'.setRow W.w.heap.size #[.int .u8 op,.int .u8 k,.int .i64 dd,.string cR,.string aT,.slice dt len dp]=F;have f1:F.heap[W.w.heap.size+1]? =some (.cells #[.bool false] 4):=by rw[<-eS,setRow_other _ _ _ _ (by omega)];exact J
  have f0:F.heap[W.w.heap.size]? =some (.cells #[.int .u8 op,.int .u8 k,.int .i64 dd,.string cR,.string aT,.slice dt len dp] 56):=by rw[<-eS];exact setRow_heap _ _ _ _ _ (0,0) bk
  have f2:F.heap[W.w.heap.size+1+1]? =some (.cells #[.slice bB r.length bG] 142):=by rw[<-eS,setRow_other _ _ _ _ (by omega)];exact aY
  obtain⟨g0,g1,g2,g3,g4,g5⟩:=Il f0;have Ol:=Eo f1;have hZ:=Eo f2;show aao _ _;refine Ok _ _ ?_;apply wp_seq;clear jH cy Ok fe e2 aan;refine wp_region_still_tail 8 (by kernel_rfl) (by kernel_rfl) ?_;simp only[List.take_succ_cons,List.take_zero,List.drop_succ_cons,List.drop_zero]
  iterate 7 still_step
  have jH:(storeVar 56 ⟨W.w.heap.size,0,none⟩ (.agg #[.int .u8 op,.int .u8 k,.int .i64 dd,.string cR,.string aT,.slice dt len dp])).run prog F.drew= .ok () F.drew:=by
   rw[Ij (w:=F.drew) (vs:=[.int .u8 op,.int .u8 k,.int .i64 dd,.string cR,.string aT,.slice dt len dp]) (show F.drew.heap[_]? =_ from f0) rfl (by simp[Value.oneCell']),aaf (w:=F.drew) f0]
  refine aae rfl (by simp[execOp,Instr.storeAt,Instr.sureAddr,Act.eval,Act.put,jH]) (wpStill_nil ?_);have Em:(storeVar 4 ⟨W.w.heap.size+1,0,none⟩ (.bool ((r.length:Int)==0))).run prog F.drew= .ok () (F.drew.setRow (W.w.heap.size+1) #[.bool ((r.length:Int)==0)]):=Og (v:=.bool false) f1;refine Ek rfl (w':=F.drew.setRow (W.w.heap.size+1) #[.bool ((r.length:Int)==0)]) (by simp[execOp,Instr.storeAt,Instr.sureAddr,Act.eval,Act.put,Em]) (wpList_nil ?_);generalize Er:F.drew.setRow (W.w.heap.size+1) #[.bool ((r.length:Int)==0)]=G;have b0:G.heap[W.w.heap.size+1]? =some (.cells #[.bool ((r.length:Int)==0)] 4):=by rw[<-Er];exact setRow_heap _ _ _ _ _ (0,0) f1
  have gQ:G.heap[W.w.heap.size]? =some (.cells #[.int .u8 op,.int .u8 k,.int .i64 dd,.string cR,.string aT,.slice dt len dp] 56):=by rw[<-Er,setRow_other _ _ _ _ (by omega)];exact f0
  show Code.wp _ _ _ _ _;refine wp_ret ?_;clear jH Em;refine leaves_cons (f:=108) (args:=#[.pointer (some ⟨W.w.heap.size,0,none⟩),.pointer (some ⟨W.w.heap.size+1,0,none⟩)]) (by simp[Act.put]) (by simp[go_sem]) ?_;refine(aaj _ _ G).mono ?_;rintro e Bz iE ⟨rfl,rfl,rfl⟩;obtain⟨u3,pP,iT,rj,wo,AI⟩:=Il gQ;have aap:=Eo b0;simp[Leaves,settle,results,results51,go_sem,u3,pP,iT,rj,wo,AI,aap,Act.put];refine⟨?_,_,rfl,op,k,dd,cR,aT,dt,len,dp,?_,fun y bE=>?_⟩
  ·have BA:cO W F:=by rw[<-eS];exact Ep (cO.start bo aA) (fun h=>by have:=W.lt _ h;omega) _
   have aaq:cO W F.drew:=⟨BA.os,BA.tape,BA.output,BA.size,BA.du⟩;rw[<-Er];exact Ep aaq (fun h=>by have:=W.lt _ h;omega) _
  ·rw[hw,bc];cases r<;>simp;omega
  ·rw[hw,bc] at bE;cases r with
   |cons _ _=>cases bE
   |nil=>
    obtain rfl:=bm bE;refine dT.move (fun b I _=>?_) j;have I:W.w.heap.size+3<=b:=by rw[Oj] at I;exact I
    refine⟨by omega,?_⟩;rw[<-Er,setRow_other _ _ _ _ (by omega)];show F.heap[b]? =_;rw[<-eS,setRow_other _ _ _ _ (by omega)]
open Go.Proofs.Tryz Go Go.RowKit Go.cK
abbrev Im:af:=(.agg [aL 1,aL 2,aq 3,ag 1,ag 2,ai 1 2 3])
abbrev Io:af:=(.agg [di 0,di 0,bI 0,ek,ek,.db])
abbrev aar:Tree:=(.wr (.ret (.cU [Io,aq 0]) [] [] []))
abbrev aas:Tree:=(.wr (.ret (.cU [Io,bI 4]) [] [] []))
abbrev aat:Tree:=(.wr (.ret (.cU [Io,bI 40]) [] [] []))
abbrev aau:Tree:=(.wr (.ret (.cU [Im,bI 0]) [] [] []))
abbrev aav:Tree:=(.call 52 [Im] [] [] [] (aq 4) cg (.aC (bO (ah 16) (ae 4)) aat aau))
abbrev aaw:Tree:=(.call 51 [ai 0 0 1] [] [] [] (.cU [Im,ba 0]) ⟨3,2,1,2,0,1,0,0⟩ (.new (.wr (.aC (bR (cG 0)) aas aav))))
abbrev Om:Tree:=
(.new (.call 50 [ag 0] [] [] [] (.cU [ai 0 0 1,aq 0]) ⟨1,2,0,0,0,1,0,0⟩ (.aC (bR (aZ (ae 0) (ah 0))) aar aaw)))
theorem aax:cN prog cW f23 [ag 0] [] [] ie=some Om:=by kernel_rfl
theorem aay (t0:ByteArray) (W:al) (R:Ending->World->Prop) (h:Om.ak prog W.w.heap.size R [] {T:=[t0]} W):bK prog 23 #[.string t0] W R:=
 dP func23 _ _ {T:=[t0]} _ aax (fun v aB=>by cases aB) h
theorem On:∀(n:Nat) (m:ax.aM) (ts:List ax.cJ),m.length<=100->ax.h2 n m=some ts->mo ts
 |0,m,ts,_,h=>by simp[ax.h2] at h
 |n+1,[],ts,_,h=>by
  simp only[ax.h2,nT] at h;subst h;intro t bb;cases bb
 |n+1,c::r,ts,aO,h=>by
  simp only[ax.h2] at h;split at h
  ·cases h
  ·rename_i aH;simp only[h8,not_or,decide_eq_true_eq,hq,Bool.not_eq_false] at aH;obtain⟨Es,J,rfl⟩:=aS.map_some h;have a_:=ax.ss ((c::r).drop (ax.first (c::r)).2);rw[sV] at a_;have cF:=On n _ Es (by omega) J;intro t bb;rcases dh.1 bb with rfl|bb
   ·refine⟨aH.2,?_⟩;have:=@H3 (c::r);omega
   ·exact cF t bb
theorem zb (s:ax.aM):mo (ax.fl s).1:=by
 unfold ax.fl;split
 ·intro t bb;cases bb
 ·split
  ·rename_i ts h;exact On _ _ ts (by have:=ax.ss s;omega) h
  ·intro t bb;cases bb
theorem Ip (w:World) (eV:Nat->Prop):dT w eV aS.none_ [.int .u8 0,.int .u8 0,.int .i64 0,.string ⟨#[]⟩,.string ⟨#[]⟩,.slice none 0 0]:=dT.lW w eV 0 0 0 [] []
theorem Oo:∀(n:Nat) (m:ax.aM) (ts:List ax.cJ),ax.h2 n m=some ts->ts.length<=m.length
 |0,m,ts,h=>by simp[ax.h2] at h
 |n+1,[],ts,h=>by
  simp only[ax.h2,nT] at h;subst h;simp
 |n+1,c::r,ts,h=>by
  simp only[ax.h2] at h;split at h
  ·cases h
  ·rename_i aH;simp only[h8,not_or,decide_eq_true_eq,hq,Bool.not_eq_false] at aH;obtain⟨Es,J,rfl⟩:=aS.map_some h;have cF:=Oo n _ Es J;have a_:=ax.ss ((c::r).drop (ax.first (c::r)).2);rw[sV] at a_;have bk:=aH.1;simp only[e5] at*;omega
theorem Et (s:ax.aM):(ax.fl s).1.length<=100:=by
 unfold ax.fl;split
 ·simp
 ·split
  ·rename_i ts h;have:=Oo _ _ ts h;have:=ax.ss s;show ts.length<=100;omega
  ·simp
theorem mo.small {ts:List ax.cJ} (h:mo ts):aS.Small ts:=fun t bb=>iz (h t bb).2 (by decide)
theorem Eu {ts:List ax.cJ} {x:aS.de} (bD:mo ts) (h:aS.whole ts=some x):aS.iZ x=true∧aS.gF x<=ts.length:=by
 unfold aS.whole at h;split at h
 ·rename_i e J;obtain rfl:=bm h;have:=aS.aab bD.small J;exact⟨this.1,by have:=this.2;simp at this;omega⟩
 ·cases h
theorem aaz (t:ByteArray) (W:al) (b7:lh W):gR prog 23 #[.string t] W.all fun v w'=>∃op k n mi aT dt len dp,v= .tuple #[.agg #[.int .u8 op,.int .u8 k,.int .i64 n,.string mi,.string aT,.slice dt len dp],.int .i64 (aS.fT t.data.toList).2]∧
  dT w' (fun b=>W.w.heap.size<=b) (aS.fT t.data.toList).1 [.int .u8 op,.int .u8 k,.int .i64 n,.string mi,.string aT,.slice dt len dp]:=by
 refine aay t W.all _ ?_;have b7:=b7.ext W.dw;refine bY fun m W1 _ bM=>iV (fun _ _=>YI t W1 (b7.ext bM)) fun v w' _ ⟨a,c,aB,cC⟩=>⟨(ax.fl t.data.toList).2,(ax.fl t.data.toList).1.length,c,a,aB,fun cn bh dG bz=>?_⟩
 have bH:=aD bM dG;have sx:p1 cn a c (ax.fl t.data.toList).1:=eD.h3 cC bh bz;simp only[aU];refine aK (fun c0=>bS fun _ _=>aP fun _ _ _=>⟨_,rfl,0,0,0,⟨#[]⟩,⟨#[]⟩,none,0,0,?_,?_⟩) fun c0=>?_
 ·have c0:¬(ax.fl t.data.toList).2=0:=by simpa[U] using c0
  simp only[aS.fT,c0,if_false];rfl
 ·have c0:¬(ax.fl t.data.toList).2=0:=by simpa[U] using c0
  simp only[aS.fT,c0,if_false];exact Ip _ _
 ·have c0:(ax.fl t.data.toList).2=0:=by simpa[U] using c0
  have eU:=Et t.data.toList;refine iV (fun _ _=>aam a c _ cn.all (sx.ext cn.dw) ((b7.ext bH).ext cn.dw) (zb _)) fun v w' _ ⟨op,k,n,mi,aT,dt,len,dp,aB,hk⟩=>⟨op,k,n,len,dp,(aS.whole (ax.fl t.data.toList).1).isSome,mi,aT,dt,aB,fun cq c8 eK bJ=>?_⟩
  simp only[aU];refine bY fun m2 dH _ cd=>bS fun dI cA=>aK (fun aJ=>bS fun _ _=>aP fun _ _ _=>⟨_,rfl,0,0,0,⟨#[]⟩,⟨#[]⟩,none,0,0,?_,?_⟩) fun aJ=>?_
  ·have aJ:aS.whole (ax.fl t.data.toList).1=none:=by simpa[U] using aJ
   simp only[aS.fT,c0,if_true,aJ];rfl
  ·have aJ:aS.whole (ax.fl t.data.toList).1=none:=by simpa[U] using aJ
   simp only[aS.fT,c0,if_true,aJ];exact Ip _ _
  ·have aJ:(aS.whole (ax.fl t.data.toList).1).isSome=true:=by simpa[U] using aJ
   obtain⟨x,j⟩:=Aa.1 aJ;obtain⟨fL,aaA⟩:=Eu (zb _) j;have aaB:qN cq W.all.w.heap.size x _:=dT.h3 (hk x j) c8 bJ (by exact bH.size);have Oq:=(aaB.ext cd).ext cA;have a7:aS.fT t.data.toList=if 16<aS.gF x then(aS.none_,40) else(x,0):=by simp only[aS.fT,c0,if_true,j]
   refine b5 (fun _ _=>aac 1000000 x _ dI (by omega) (e9 _) fL Oq.i) ⟨((aS.gF x:Nat):Int),rfl,fun cV bU=>?_⟩;simp only[aU];refine aK (fun c2=>bS fun _ _=>aP fun _ _ _=>⟨_,rfl,0,0,0,⟨#[]⟩,⟨#[]⟩,none,0,0,?_,?_⟩) fun c2=>bS fun dQ df=>aP fun _ _ _=>⟨_,rfl,op,k,n,mi,aT,dt,len,dp,?_,?_⟩
   ·have c2:16<aS.gF x:=by simp only[U,cX] at c2;omega
    rw[a7,if_pos c2];rfl
   ·have c2:16<aS.gF x:=by simp only[U,cX] at c2;omega
    rw[a7,if_pos c2];exact Ip _ _
   ·have c2:¬16<aS.gF x:=by simp only[U,c7] at c2;omega
    rw[a7,if_neg c2];rfl
   ·have c2:¬16<aS.gF x:=by simp only[U,c7] at c2;omega
    rw[a7,if_neg c2];exact((Oq.ext bU).ext df).new
abbrev aaC:Tree:=(.a1 (bQ (ah 0) (ae 0)) (.aC (bW (bW (bO (kg (b9 0) (ae 0)) (ah 32)) (bO (ah 126) (kg (b9 0) (ae 0)))) (aZ (kg (b9 0) (ae 0)) (ah 39))) (.ret (cY false) [] [] []) (.again 0 [(.int .i64 (.un (.wrap .i64) (bX (ae 0) (ah 1))))] [])))
abbrev aaD:Tree:=(.aC (bO (ae 0) (.un .len (b9 0))) aaC (.ret (.bool (bQ (.un .len (b9 0)) (ah 40))) [] [] []))
abbrev Ot:Tree:=
(.loop [bI 0] [] [aq 0] [] cg aaD)
theorem aaE:cN prog {cW with inl:=[55,56,57],ei:=[⟨2,[.az 6]⟩]} f58 [ag 0] [] [] ie=some Ot:=by kernel_rfl
theorem aaF (t0:ByteArray) (W:al) (R:Ending->World->Prop) (h:Ot.ak prog W.w.heap.size R [] {T:=[t0]} W):bK prog 58 #[.string t0] W R:=
 dP func58 _ _ {T:=[t0]} _ aaE (fun v aB=>by cases aB) h
abbrev aaG:Tree:=(.ret (.bool (cL (aZ (ae 0) (ah 0)) (cL (aZ (ae 1) (ah 0)) (eW (b9 0) (.bN []))))) [] [] [])
abbrev aaH:Tree:=(.grow (.ret (.bool (cL (aZ (ae 0) (ah 1)) (cL (aZ (ae 1) (ae 1)) (eW (b9 0) (.bN []))))) [] [] []))
abbrev aaI:Tree:=(.grow (.ret (.bool (cL (aZ (ae 0) (ah 2)) (cL (aZ (ae 1) (ah 1)) (eW (b9 0) (.bN []))))) [] [] []))
abbrev aaJ:Tree:=(.grow (.ret (.bool (cL (aZ (ae 0) (ah 2)) (cL (aZ (ae 1) (ah 0)) (eW (b9 0) (.bN []))))) [] [] []))
abbrev aaK:Tree:=(.jZ 58 [ag 0] [] [] (ba 0) dv (.grow (.ret (ba 0) [] [] [])))
abbrev aaL:Tree:=(.aC (cL (aZ (ae 0) (ah 3)) (cL (aZ (ae 1) (ah 0)) (eW (b9 0) (b9 0)))) aaK (.grow (.ret (cY false) [] [] [])))
abbrev aaM:Tree:=(.aC (aZ (ae 0) (ah 2)) (.aC (bR (aZ (ae 1) (ah 0))) aaI aaJ) (.aC (aZ (ae 0) (ah 3)) aaL (.ret (cY false) [] [] [])))
abbrev Ou:Tree:=
(.new (.aC (aZ (ae 0) (ah 0)) aaG (.aC (aZ (ae 0) (ah 1)) aaH aaM)))
theorem aaN:cN prog {cW with inl:=[55,56,57]} f25 [(.agg [aL 0,aq 1,ag 0])] [] [] ⟨2,0,0,1,0,0,0,0⟩=some Ou:=by kernel_rfl
theorem aaO (i0 i1:Int) (t0:ByteArray) (W:al) (R:Ending->World->Prop) (h:Ou.ak prog W.w.heap.size R [] {aV:=[i0,i1],T:=[t0]} W):bK prog 25 #[.agg #[.int .u8 i0,.int .i64 i1,.string t0]] W R:=
 dP func25 _ _ {aV:=[i0,i1],T:=[t0]} _ aaN (fun v aB=>by cases aB) h
end Go.Proofs.YtkpjmlnhhggenaaGreatDoor
end
section
namespace fv
structure V where
 k:Int
 n:Int
 t:ByteArray
def none:V:=⟨0,0,⟨#[]⟩⟩
def num (n:Int):V:=⟨1,n,⟨#[]⟩⟩
def w0 (b:Bool):V:=⟨2,if b then 1 else 0,⟨#[]⟩⟩
def text (s:ByteArray):V:=⟨3,0,s⟩
def w1 (x:Int):Bool:=decide (-9223372036854775808<=x)&&decide (x<=9223372036854775807)
def told (x:Int):V×Int:=if w1 x then(num x,0) else(none,20)
def numbers (op a b:Int):V×Int:=
 if op=5 then told (a*b)
 else if op=6 then(if b=0 then(none,21) else told (a.tdiv b))
 else if op=7 then(if b=0 then(none,21) else if w1 (a.tdiv b) then(num (a.tmod b),0) else(none,20))
 else if op=8 then told (a+b)
 else told (a-b)
def aaP (a b:Int):Int:=if a<b then-1 else if b<a then 1 else 0
def cmp (a b:V):Int:=if a.k=3 then Go.Lib.compareBytes a.t.data.toList b.t.data.toList else aaP a.n b.n
def yes (a:V):Bool:=(a.k==2)&&(a.n != 0)
def equal (a b:V):Bool:=if a.k=2 then yes a==yes b else cmp a b==0
def fits (op Ev yP:Int):Bool:=
 (Ev==yP)&&(((Ev==1)&&(op != 13)&&(op != 14))||((Ev==2)&&((op==11)||(op==12)||(op==13)||(op==14)))||((Ev==3)&&((op==8)||(op==9)||(op==10)||(op==11)||(op==12))))
def sum (s t:ByteArray):V×Int:=if 40<s.size+t.size then(none,20) else(text (s++t),0)
def e2 (op:Int) (a b:V):V×Int:=
 if op<5∨15<op then(none,4)
 else if fits op a.k b.k=false then(none,23)
 else if op=9 then(w0 (decide (cmp a b<0)),0)
 else if op=10 then(w0 (decide (cmp a b<=0)),0)
 else if op=11 then(w0 (equal a b),0)
 else if op=12 then(w0 (!equal a b),0)
 else if op=13 then(w0 (yes a&&yes b),0)
 else if op=14 then(w0 (yes a||yes b),0)
 else if a.k=3 then sum a.t b.t
 else numbers op a.n b.n
def eB (op:Int) (v:V):V×Int:=
 if op=3 then(if v.k=1 then told (0-v.n) else(none,23))
 else if op=4 then(if v.k=2 then(w0 (!yes v),0) else(none,23))
 else if op=16 then(if v.k=3 then(num v.t.size,0) else(none,23))
 else(none,4)
end fv
namespace fv
theorem Ai {p:Int} (h:w1 p=true): -9223372036854775808<=p∧p<=9223372036854775807:=by simpa[w1] using h
open Go Go.RowKit
theorem aaQ (n:Int):wrap64 n=(n+9223372036854775808) % 18446744073709551616-9223372036854775808:=by unfold wrap64;rfl
def Fit (x:Int):Prop:= -9223372036854775808<=x∧x<=9223372036854775807
theorem Fit.iff {x:Int}:Fit x↔w1 x=true:=by simp[Fit,w1]
theorem Fit.wrap {x:Int} (h:Fit x):wrap64 x=x:=IntWalk.wrap64_in x ⟨h.1,by have:=h.2;omega⟩
theorem Ov (x:Int) (h:x.natAbs<=9223372036854775807):Fit x:=by unfold Fit;omega
theorem aaR (a b:Int):(a.tdiv b).natAbs<=a.natAbs:=by rw[Int.natAbs_tdiv];exact Nat.div_le_self _ _
theorem aaS (a b:Int) (h:2<=b.natAbs):(a.tdiv b).natAbs<=a.natAbs/2:=by rw[Int.natAbs_tdiv];exact Nat.div_le_div_left h (by omega)
theorem aaT (a b:Int) (bl:Fit a) (I:b≠0) (h:¬(a= -9223372036854775808∧b= -1)):Fit (a.tdiv b):=by
 have hle:=aaR a b;unfold Fit at bl
 by_cases J:a= -9223372036854775808
 ·by_cases yG:b=1
  ·subst yG;rw[Int.tdiv_one];unfold Fit;omega
  ·have:=aaS a b (by omega);exact Ov _ (by omega)
 ·exact Ov _ (by omega)
theorem aaU:((-9223372036854775808:Int).tdiv (-1))=9223372036854775808:=by decide
theorem Ow (a b:Int) (bl:Fit a) (I:b≠0):((a != -9223372036854775808)||(b != -1))=w1 (a.tdiv b):=by
 rw[oc,<-Fit.iff];constructor
 ·intro h;refine aaT a b bl I fun c=>?_
  simp[c.1,c.2] at h
 ·intro h
  by_cases J:a= -9223372036854775808
  ·by_cases an:b= -1
   ·subst J;subst an;rw[aaU] at h;unfold Fit at h;omega
   ·simp[an]
  ·simp[J]
open Go
def p3 (c:UInt8):Bool:=!(((c.toNat:Int)<32:Bool)||((126<(c.toNat:Int):Bool))||((c.toNat:Int)==39))
def plain (t:ByteArray):Bool:=t.data.toList.all p3&&decide ((t.size:Int)<=40)
def en (v:V):Bool:=
 if v.k=0 then(v.n==0)&&(v.t.data.toList==[])
 else if v.k=1 then v.t.data.toList==[]
 else if v.k=2 then((v.n==0)||(v.n==1))&&(v.t.data.toList==[])
 else if v.k=3 then(v.n==0)&&plain v.t
 else false
end fv
end
section
namespace Go.Proofs.YtkpjmlnhhggenaaGreatDoor
open Go.Proofs.Tryz Go Go.RowKit Go.cK
namespace Iq
theorem qK (l:List UInt8) (i:Nat) (h:i<l.length):l.drop i=aR l i 0::l.drop (i+1):=by
 rw[CP h];exact mG h
theorem kH (t:ByteArray):t.data.toList.length=t.size:=by rw[sS];rfl
theorem c_ {a b:Int} (h:a<=b):er a b=true:=by simpa[er] using h
theorem aaV {x:Int} (bk: -9223372036854775808<=x) (J:x<=9223372036854775807):IntKind.i64.wrap x=x:=Ai .i64 x (by simpa[IntKind.min,IntKind.bits,IntKind.signed] using bk) (by simpa[IntKind.max,IntKind.bits,IntKind.signed] using J)
theorem aaW (t:ByteArray) (bb:t.size<=9223372036854775807) (W:al):da prog 58 #[.string t] W (.bool (fv.plain t)):=by
 refine aaF t W.all _ ?_;refine dJ (fun n vs ls _=>∃i:Nat,vs=[.int .i64 (i:Int)]∧ls=[]∧i<=t.size∧n=t.size-i∧(t.data.toList.drop i).all fv.p3=t.data.toList.all fv.p3) t.size ⟨0,rfl,rfl,dr _,rfl,rfl⟩ ?_;rintro n vs ls W' x ⟨i,rfl,rfl,a8,rfl,bl⟩;have bD:=kH t;refine⟨(i:Int),rfl,rfl,fun _=>?_⟩;simp only[aU];refine aK (fun c=>?_) fun c=>?_
 ·simp only[U,cX] at c;have a_:=qK t.data.toList i (by omega);rw[a_,qe] at bl;refine a6 ?_ (aK (fun c2=>?_) fun c2=>?_)
  ·simp only[U];exact c_ (by omega)
  ·simp only[U] at c2;have aA:fv.p3 (aR t.data.toList i 0)=false:=by unfold fv.p3;simp only[eg] at c2;simp[c2]
   rw[aA,jX] at bl;refine aP fun _ _ _=>⟨_,rfl,?_⟩
   simp[fv.plain,<-bl,af.ak,E.b]
  ·simp only[U] at c2;have aA:fv.p3 (aR t.data.toList i 0)=true:=by unfold fv.p3;simp only[eg] at c2;rw[c2];rfl
   rw[aA,eX] at bl;refine b1 ⟨t.size-(i+1),by omega,i+1,?_,rfl,by omega,rfl,bl⟩;simp only[U];rw[aaV (by omega) (by omega)];rfl
 ·simp only[U,c7] at c;refine aP fun _ _ _=>⟨_,rfl,?_⟩
  have:t.data.toList.drop i=[]:=fV (by omega);rw[this] at bl;simp[fv.plain,<-bl,U,er]
  try rfl
theorem D2 (k n:Int) (t:ByteArray) (bb:t.size<=9223372036854775807) (W:al):da prog 25 #[.agg #[.int .u8 k,.int .i64 n,.string t]] W (.bool (fv.en ⟨k,n,t⟩)):=by
 refine aaO k n t W.all _ ?_;have h:=aaW t bb
 repeat' (first|(with_reducible refine aK (fun _=>?_) (fun _=>?_))|(with_reducible refine bY fun _ _ _ _=>?_)|(with_reducible refine bS fun _ _=>?_)|(with_reducible refine cj fun _ _=>?_)|(with_reducible refine aP fun _ _ _=>?_))
 all_goals try ((with_reducible refine lF ?_);refine⟨fv.plain t,fun W' x _ _=>h W',?_⟩)
 repeat' (first|(with_reducible refine aK (fun _=>?_) (fun _=>?_))|(with_reducible refine bY fun _ _ _ _=>?_)|(with_reducible refine bS fun _ _=>?_)|(with_reducible refine cj fun _ _=>?_)|(with_reducible refine aP fun _ _ _=>?_))
 all_goals (try refine⟨_,rfl,?_⟩)
 all_goals simp only[U] at*
 all_goals generalize hp:fv.plain t=p at*
 all_goals first|(simp_all [fv.en];done)|(simp only[fv.en,hp];cases bk:n==0<;>simp_all)
end Iq
end Go.Proofs.YtkpjmlnhhggenaaGreatDoor
end
section
namespace bF
open Go
open aS
structure Var where
 name:ax.aM
 k:Int
 n:Int
 t:ax.aM
def zc:List Int:=[0,0,0,1,1,2,2,2,2,2,2,2,2,2,2,2,1]
def qR (o:Int):Int:=zc.getD o.toNat 0
def nm:List (List (Int×Int)):=[[],[],[],[(1,1)],[(2,2)],[(1,1)],[(1,1)],[(1,1)],[(1,1),(3,3)],[(1,2),(3,2)],[(1,2),(3,2)],[(1,2),(2,2),(3,2)],[(1,2),(2,2),(3,2)],[(2,2)],[(2,2)],[(1,1)],[(3,1)]]
def kK (o:Int):List (Int×Int):=nm.getD o.toNat []
def whole:Nat->de->Bool
 |0,_=>false
 |n+1,.mk op k m t aT l=>(decide (1<=op)&&decide (op<=16))&&(((l.length:Int)==qR op)&&((op != 1||fv.en ⟨k,m,⟨t.toArray⟩⟩)&&l.all (whole n)))
def mS (k:Int):Int×Int:=if k<1∨3<k then(0,23) else(k,0)
def sorted (o:Int) (e4:List Int):Int×Int:=match (kK o).find? fun s=>e4.all (· ==s.1) with
 |some s=>(s.2,0)
 |none=>(0,23)
def named (vars:List Var) (aT:ax.aM):Int×Int:=match vars.find? fun v=>v.name==aT with
 |some v=>mS v.k
 |none=>(0,22)
mutual
def gm (vars:List Var):de->Int×Int
 | .mk op k n t aT l=>if op=1 then mS k else if op=2 then named vars aT else match jS vars l with
  | .error f=>(0,f)
  | .ok e4=>sorted op e4
def jS (vars:List Var):List de->Except Int (List Int)
 |[]=>.ok []
 |e::l=>if(gm vars e).2=0 then(match jS vars l with
   | .error f=>.error f
   | .ok r=>.ok ((gm vars e).1::r)) else .error (gm vars e).2
end
def type (vars:List Var) (e:de):Int×Int:=if whole 16 e then gm vars e else(0,4)
theorem Ir {n:Nat} {l:List de} (h:l.all (whole n)=true) {e:de} (he:e∈l):whole n e=true:=ep.1 h e he
theorem aaX (vars:List Var) (l:List de) (e:de):jS vars (l++[e])=match jS vars l with
  | .error f=>.error f
  | .ok r=>if(gm vars e).2=0 then .ok (r++[(gm vars e).1]) else .error (gm vars e).2:=by
 induction l with
 |nil=>
  simp only[yi,jS]
 |cons x l cF=>
  simp only[vM,jS,cF]
  by_cases j:(gm vars x).2=0
  ·rw[if_pos j,if_pos j];cases jS vars l with
   |error f=>rfl
   |ok r=>
    dsimp only
    by_cases he:(gm vars e).2=0
    ·rw[if_pos he,if_pos he];rfl
    ·rw[if_neg he,if_neg he]
  ·rw[if_neg j,if_neg j]
theorem aaY {vars:List Var} {l:List de} {f:Int} (m:List de) (h:jS vars l= .error f):jS vars (l++m)= .error f:=by
 induction l with
 |nil=>cases h
 |cons x l cF=>
  simp only[vM,jS] at h ⊢
  by_cases j:(gm vars x).2=0
  ·rw[if_pos j] at h ⊢;cases aO:jS vars l with
   |error g=>rw[aO] at h cF;injection h with h;subst h;rw[cF rfl]
   |ok r=>rw[aO] at h;cases h
  ·rw[if_neg j] at h ⊢;exact h
theorem Ox {vars:List Var}:∀{l:List de} {r:List Int},jS vars l= .ok r->r.length=l.length
 |[],r,h=>by injection h with h;subst h;rfl
 |e::l,r,h=>by
  simp only[jS] at h;split at h
  ·split at h
   ·cases h
   ·rename_i fF aw;injection h with h
    subst h;simp[Ox aw]
  ·cases h
end bF
end
section
namespace Go.Proofs.YtkpjmlnhhggenaaGreatDoor
open Go.Proofs.Tryz Go Go.RowKit Go.cK
abbrev Oy:b4:=⟨0,56,[aL 2,aL 3,aq 4,ag 2,ag 3,ai 0 0 1]⟩
abbrev Is:b4:=⟨0,56,[aL 0,aL 1,aq 2,ag 0,ag 1,ai 1 2 3]⟩
abbrev tB:af:=(.agg [aL 0,aL 1,aq 2,ag 0,ag 1,ai 0 0 1])
abbrev Oz:af:=(.agg [aL 2,aL 3,aq 4,ag 0,ag 1,ai 1 2 3])
abbrev OA:af:=(.agg [aL 4,aL 5,aq 6,ag 2,ag 3,ai 3 6 7])
abbrev OB:af:=(.agg [aL 1,aL 2,aq 3,ag 1,ag 2,ai 1 2 3])
abbrev aaZ:Tree:=(.call 151 [ai 0 0 1,(.fn 152 [.ptr 1 0])] [⟨1,3,[aq 3]⟩] [] [] (ba 1) dv (.ret (.bool (bR (cG 1))) [] [] []))
abbrev aa0:Tree:=(.jZ 25 [(.agg [aL 1,aq 2,ag 0])] [] [] (ba 0) dv (.grow (.aC (bR (cG 0)) (.ret (cY false) [] [] []) aaZ)))
abbrev aa1:Tree:=(.call 151 [ai 0 0 1,(.fn 152 [.ptr 1 0])] [⟨1,3,[aq 3]⟩] [] [] (ba 0) dv (.ret (.bool (bR (cG 0))) [] [] []))
abbrev aa2:Tree:=(.grow (.aC (bR (aZ (aG 0) (ae 4))) (.ret (cY false) [] [] []) aa1))
abbrev aa3:Tree:=(.aC (cL (aZ (aG 0) (ae 4)) (aZ (ae 0) (ah 1))) aa0 aa2)
abbrev aa4:Tree:=(.a1 (bQ (ah 0) (ae 0)) (.a1 (bO (ae 0) (ah 17)) (.m_ ⟨4,0,none⟩ (.cl 3 (.b6 1 (ae 0) 1 0) (aq 4) cg aa3))))
abbrev OC:Tree:=
(.new (.new (.aC (bR (bW (bW (bO (ae 3) (ah 1)) (bO (ae 0) (ah 1))) (bO (ah 16) (ae 0)))) aa4 (.grow (.ret (cY false) [] [] [])))))
theorem aa5:cN prog cW f110 [tB,aq 3] [] [] ⟨4,2,0,2,0,1,0,0⟩=some OC:=by kernel_rfl
theorem OD (i0 i1 i2 i3:Int) (ar aQ:Nat) (t0 t1:ByteArray) (a0:Option Addr) (W:al) (R:Ending->World->Prop) (h:OC.ak prog W.w.heap.size R [] {aV:=[i0,i1,i2,i3],N:=[ar,aQ],T:=[t0,t1],A:=[a0]} W):bK prog 110 #[.agg #[.int .u8 i0,.int .u8 i1,.int .i64 i2,.string t0,.string t1,.slice a0 ar aQ],.int .i64 i3] W R:=
 dP func110 _ _ {aV:=[i0,i1,i2,i3],N:=[ar,aQ],T:=[t0,t1],A:=[a0]} _ aa5 (fun v aB=>by cases aB) h
abbrev OE:Tree:=
(.new (.call 110 [tB,(.int .i64 (.un (.wrap .i64) (HV (ae 3) (ah 1))))] [] [] [] (ba 0) dv (.ret (.bool (bR (cG 0))) [] [] [])))
theorem aa6:cN prog cW f152 [tB,.ptr 0 0] [] [⟨0,3,[aq 3]⟩] ⟨4,2,0,2,0,1,1,0⟩=some OE:=by kernel_rfl
theorem aa7 (i0 i1 i2 i3:Int) (ar aQ:Nat) (t0 t1:ByteArray) (a0:Option Addr) (m0:Nat) (W:al) (R:Ending->World->Prop) (fi:W.w.heap[m0]? =some (.cells #[.int .i64 i3] 3)) (fP:W.aV m0) (h:OE.ak prog W.w.heap.size R [] {aV:=[i0,i1,i2,i3],N:=[ar,aQ],T:=[t0,t1],A:=[a0],M:=[m0]} W):bK prog 152 #[.agg #[.int .u8 i0,.int .u8 i1,.int .i64 i2,.string t0,.string t1,.slice a0 ar aQ],.pointer (some ⟨m0,0,none⟩)] W R:=
 kf func152 _ _ [⟨0,3,[aq 3]⟩] {aV:=[i0,i1,i2,i3],N:=[ar,aQ],T:=[t0,t1],A:=[a0],M:=[m0]} _ aa6 (fun v aB=>by cases aB) (fun b I=>by simp only[dh,eT,or_false] at I;rcases I with rfl<;>(first|exact fi)) (fun b I=>by simp only[dh,eT,or_false] at I;rcases I with rfl<;>(first|exact fP)) h
abbrev aa8:Tree:=(.aC (cG 0) (.ret (aq 1) [] [] []) (.again 0 [(.int .i64 (.un (.wrap .i64) (bX (ae 1) (ah 1))))] []))
abbrev aa9:Tree:=(.call 152 [Oz,.ptr 0 0] [⟨0,3,[aq 0]⟩] [] [] (ba 0) dv aa8)
abbrev aa_:Tree:=(.a1 (.sm 0) (.a1 (bQ (ah 0) (ae 1)) (.cl 56 (.b6 0 (ae 1) 6 0) Oz Bo aa9)))
abbrev OF:Tree:=
(.loop [bI 0] [] [aq 1] [] cg (.aC (bO (ae 1) (aG 0)) aa_ (.ret (bI (-1)) [] [] [])))
theorem aba:cN prog {cW with ei:=[⟨2,[.az 8]⟩]} f176 [ai 0 0 1,(.fn 152 [.ptr 0 0])] [] [⟨0,3,[aq 0]⟩] Bn=some OF:=by kernel_rfl
theorem abb (i0:Int) (ar aQ:Nat) (a0:Option Addr) (m0:Nat) (W:al) (R:Ending->World->Prop) (fi:W.w.heap[m0]? =some (.cells #[.int .i64 i0] 3)) (fP:W.aV m0) (h:OF.ak prog W.w.heap.size R [] {aV:=[i0],N:=[ar,aQ],A:=[a0],M:=[m0]} W):bK prog 176 #[.slice a0 ar aQ,.func (.func 152) #[] #[.pointer (some ⟨m0,0,none⟩)]] W R:=
 kf func176 _ _ [⟨0,3,[aq 0]⟩] {aV:=[i0],N:=[ar,aQ],A:=[a0],M:=[m0]} _ aba (fun v aB=>by cases aB) (fun b I=>by simp only[dh,eT,or_false] at I;rcases I with rfl<;>(first|exact fi)) (fun b I=>by simp only[dh,eT,or_false] at I;rcases I with rfl<;>(first|exact fP)) h
abbrev OG:Tree:=
(.call 176 [ai 0 0 1,(.fn 152 [.ptr 0 0])] [⟨0,3,[aq 0]⟩] [] [] (aq 1) cg (.ret (.bool (bQ (ah 0) (ae 1))) [] [] []))
theorem abc:cN prog cW f151 [ai 0 0 1,(.fn 152 [.ptr 0 0])] [] [⟨0,3,[aq 0]⟩] Bn=some OG:=by kernel_rfl
theorem abd (i0:Int) (ar aQ:Nat) (a0:Option Addr) (m0:Nat) (W:al) (R:Ending->World->Prop) (fi:W.w.heap[m0]? =some (.cells #[.int .i64 i0] 3)) (fP:W.aV m0) (h:OG.ak prog W.w.heap.size R [] {aV:=[i0],N:=[ar,aQ],A:=[a0],M:=[m0]} W):bK prog 151 #[.slice a0 ar aQ,.func (.func 152) #[] #[.pointer (some ⟨m0,0,none⟩)]] W R:=
 kf func151 _ _ [⟨0,3,[aq 0]⟩] {aV:=[i0],N:=[ar,aQ],A:=[a0],M:=[m0]} _ abc (fun v aB=>by cases aB) (fun b I=>by simp only[dh,eT,or_false] at I;rcases I with rfl<;>(first|exact fi)) (fun b I=>by simp only[dh,eT,or_false] at I;rcases I with rfl<;>(first|exact fP)) h
abbrev OH:Tree:=
(.new (.call 110 [tB,bI 16] [] [] [] (ba 0) dv (.ret (ba 0) [] [] [])))
theorem abe:cN prog cW f53 [tB] [] [] Bo=some OH:=by kernel_rfl
theorem abf (i0 i1 i2:Int) (ar aQ:Nat) (t0 t1:ByteArray) (a0:Option Addr) (W:al) (R:Ending->World->Prop) (h:OH.ak prog W.w.heap.size R [] {aV:=[i0,i1,i2],N:=[ar,aQ],T:=[t0,t1],A:=[a0]} W):bK prog 53 #[.agg #[.int .u8 i0,.int .u8 i1,.int .i64 i2,.string t0,.string t1,.slice a0 ar aQ]] W R:=
 dP func53 _ _ {aV:=[i0,i1,i2],N:=[ar,aQ],T:=[t0,t1],A:=[a0]} _ abe (fun v aB=>by cases aB) h
abbrev OI:Tree:=
(.aC (bW (bO (ae 0) (ah 1)) (bO (ah 3) (ae 0))) (.ret (.cU [di 0,bI 23]) [] [] []) (.ret (.cU [aL 0,bI 0]) [] [] []))
theorem abg:cN prog cW f111 [aL 0] [] [] cg=some OI:=by kernel_rfl
theorem abh (i0:Int) (W:al) (R:Ending->World->Prop) (h:OI.ak prog W.w.heap.size R [] {aV:=[i0]} W):bK prog 111 #[.int .u8 i0] W R:=
 dP func111 _ _ {aV:=[i0]} _ abg (fun v aB=>by cases aB) h
abbrev OJ:Tree:=
(.new (.ret (.bool (eW (b9 0) (b9 3))) [] [] []))
theorem abi:cN prog cW f113 [(.agg [ag 0,aL 0,aq 1,ag 1]),.ptr 0 0] [] [Oy] ⟨5,2,0,4,0,1,1,0⟩=some OJ:=by kernel_rfl
theorem abj (i0 i1 i2 i3 i4:Int) (ar aQ:Nat) (t0 t1 t2 t3:ByteArray) (a0:Option Addr) (m0:Nat) (W:al) (R:Ending->World->Prop) (fi:W.w.heap[m0]? =some (.cells #[.int .u8 i2,.int .u8 i3,.int .i64 i4,.string t2,.string t3,.slice a0 ar aQ] 56)) (fP:W.aV m0) (h:OJ.ak prog W.w.heap.size R [] {aV:=[i0,i1,i2,i3,i4],N:=[ar,aQ],T:=[t0,t1,t2,t3],A:=[a0],M:=[m0]} W):bK prog 113 #[.agg #[.string t0,.int .u8 i0,.int .i64 i1,.string t1],.pointer (some ⟨m0,0,none⟩)] W R:=
 kf func113 _ _ [Oy] {aV:=[i0,i1,i2,i3,i4],N:=[ar,aQ],T:=[t0,t1,t2,t3],A:=[a0],M:=[m0]} _ abi (fun v aB=>by cases aB) (fun b I=>by simp only[dh,eT,or_false] at I;rcases I with rfl<;>(first|exact fi)) (fun b I=>by simp only[dh,eT,or_false] at I;rcases I with rfl<;>(first|exact fP)) h
abbrev abk:Tree:=(.aC (cG 0) (.ret (aq 3) [] [] []) (.again 0 [(.int .i64 (.un (.wrap .i64) (bX (ae 3) (ah 1))))] []))
abbrev abl:Tree:=(.call 113 [(.agg [ag 2,aL 4,aq 5,ag 3]),.ptr 0 0] [Is] [] [] (ba 0) dv abk)
abbrev abm:Tree:=(.a1 (.sm 0) (.a1 (bQ (ah 0) (ae 3)) (.cl 41 (.b6 0 (ae 3) 4 0) (.agg [ag 2,aL 4,aq 5,ag 3]) wM abl)))
abbrev OK:Tree:=
(.loop [bI 0] [] [aq 3] [] cg (.aC (bO (ae 3) (aG 0)) abm (.ret (bI (-1)) [] [] [])))
theorem abn:cN prog {cW with ei:=[⟨2,[.az 8]⟩]} f112 [ai 0 0 1,(.fn 113 [.ptr 0 0])] [] [Is] ⟨3,4,0,2,0,2,1,0⟩=some OK:=by kernel_rfl
theorem abo (i0 i1 i2:Int) (ar aQ bz bJ:Nat) (t0 t1:ByteArray) (a0 bn:Option Addr) (m0:Nat) (W:al) (R:Ending->World->Prop) (fi:W.w.heap[m0]? =some (.cells #[.int .u8 i0,.int .u8 i1,.int .i64 i2,.string t0,.string t1,.slice bn bz bJ] 56)) (fP:W.aV m0) (h:OK.ak prog W.w.heap.size R [] {aV:=[i0,i1,i2],N:=[ar,aQ,bz,bJ],T:=[t0,t1],A:=[a0,bn],M:=[m0]} W):bK prog 112 #[.slice a0 ar aQ,.func (.func 113) #[] #[.pointer (some ⟨m0,0,none⟩)]] W R:=
 kf func112 _ _ [Is] {aV:=[i0,i1,i2],N:=[ar,aQ,bz,bJ],T:=[t0,t1],A:=[a0,bn],M:=[m0]} _ abn (fun v aB=>by cases aB) (fun b I=>by simp only[dh,eT,or_false] at I;rcases I with rfl<;>(first|exact fi)) (fun b I=>by simp only[dh,eT,or_false] at I;rcases I with rfl<;>(first|exact fP)) h
abbrev OL:Tree:=
(.ret (.bool (bR (aZ (ae 0) (ae 1)))) [] [] [])
theorem abp:cN prog cW f115 [aL 0,.ptr 0 0] [] [⟨0,150,[aL 1,aL 2]⟩] ⟨3,0,0,0,0,0,1,0⟩=some OL:=by kernel_rfl
theorem abq (i0 i1 i2:Int) (m0:Nat) (W:al) (R:Ending->World->Prop) (fi:W.w.heap[m0]? =some (.cells #[.int .u8 i1,.int .u8 i2] 150)) (fP:W.aV m0) (h:OL.ak prog W.w.heap.size R [] {aV:=[i0,i1,i2],M:=[m0]} W):bK prog 115 #[.int .u8 i0,.pointer (some ⟨m0,0,none⟩)] W R:=
 kf func115 _ _ [⟨0,150,[aL 1,aL 2]⟩] {aV:=[i0,i1,i2],M:=[m0]} _ abp (fun v aB=>by cases aB) (fun b I=>by simp only[dh,eT,or_false] at I;rcases I with rfl<;>(first|exact fi)) (fun b I=>by simp only[dh,eT,or_false] at I;rcases I with rfl<;>(first|exact fP)) h
abbrev abr:Tree:=(.aC (cG 0) (.ret (aq 2) [] [] []) (.again 0 [(.int .i64 (.un (.wrap .i64) (bX (ae 2) (ah 1))))] []))
abbrev abt:Tree:=(.call 115 [aL 3,.ptr 0 0] [⟨0,150,[aL 0,aL 1]⟩] [] [] (ba 0) dv abr)
abbrev abu:Tree:=(.a1 (.sm 0) (.a1 (bQ (ah 0) (ae 2)) (.cl 5 (.b6 0 (ae 2) 1 0) (aL 3) cg abt)))
abbrev OM:Tree:=
(.loop [bI 0] [] [aq 2] [] cg (.aC (bO (ae 2) (aG 0)) abu (.ret (bI (-1)) [] [] [])))
theorem abv:cN prog {cW with ei:=[⟨2,[.az 8]⟩]} f153 [ai 0 0 1,(.fn 115 [.ptr 0 0])] [] [⟨0,150,[aL 0,aL 1]⟩] ⟨2,2,0,0,0,1,1,0⟩=some OM:=by kernel_rfl
theorem abw (i0 i1:Int) (ar aQ:Nat) (a0:Option Addr) (m0:Nat) (W:al) (R:Ending->World->Prop) (fi:W.w.heap[m0]? =some (.cells #[.int .u8 i0,.int .u8 i1] 150)) (fP:W.aV m0) (h:OM.ak prog W.w.heap.size R [] {aV:=[i0,i1],N:=[ar,aQ],A:=[a0],M:=[m0]} W):bK prog 153 #[.slice a0 ar aQ,.func (.func 115) #[] #[.pointer (some ⟨m0,0,none⟩)]] W R:=
 kf func153 _ _ [⟨0,150,[aL 0,aL 1]⟩] {aV:=[i0,i1],N:=[ar,aQ],A:=[a0],M:=[m0]} _ abv (fun v aB=>by cases aB) (fun b I=>by simp only[dh,eT,or_false] at I;rcases I with rfl<;>(first|exact fi)) (fun b I=>by simp only[dh,eT,or_false] at I;rcases I with rfl<;>(first|exact fP)) h
abbrev ON:Tree:=
(.call 153 [ai 0 0 1,(.fn 115 [.ptr 0 0])] [⟨0,150,[aL 0,aL 1]⟩] [] [] (aq 2) cg (.ret (.bool (bQ (ah 0) (ae 2))) [] [] []))
theorem abx:cN prog cW f114 [ai 0 0 1,(.fn 115 [.ptr 0 0])] [] [⟨0,150,[aL 0,aL 1]⟩] ⟨2,2,0,0,0,1,1,0⟩=some ON:=by kernel_rfl
theorem aby (i0 i1:Int) (ar aQ:Nat) (a0:Option Addr) (m0:Nat) (W:al) (R:Ending->World->Prop) (fi:W.w.heap[m0]? =some (.cells #[.int .u8 i0,.int .u8 i1] 150)) (fP:W.aV m0) (h:ON.ak prog W.w.heap.size R [] {aV:=[i0,i1],N:=[ar,aQ],A:=[a0],M:=[m0]} W):bK prog 114 #[.slice a0 ar aQ,.func (.func 115) #[] #[.pointer (some ⟨m0,0,none⟩)]] W R:=
 kf func114 _ _ [⟨0,150,[aL 0,aL 1]⟩] {aV:=[i0,i1],N:=[ar,aQ],A:=[a0],M:=[m0]} _ abx (fun v aB=>by cases aB) (fun b I=>by simp only[dh,eT,or_false] at I;rcases I with rfl<;>(first|exact fi)) (fun b I=>by simp only[dh,eT,or_false] at I;rcases I with rfl<;>(first|exact fP)) h
abbrev abz:Tree:=(.call 111 [aL 1] [] [] [] (.cU [aL 3,aq 4]) mn (.ret (.cU [aL 3,aq 4]) [] [] []))
abbrev abA:Tree:=(.call 111 [aL 4] [] [] [] (.cU [aL 5,aq 6]) mn (.ret (.cU [aL 5,aq 6]) [] [] []))
abbrev abB:Tree:=(.a1 (.sm 1) (.a1 (bQ (ah 0) (ae 3)) (.a1 (bO (ae 3) (aG 2)) (.cl 5 (.b6 1 (ae 3) 4 1) (aL 4) cg abA))))
abbrev abC:Tree:=(.aC (bO (ae 3) (ah 0)) (.ret (.cU [di 0,bI 22]) [] [] []) abB)
abbrev abD:Tree:=(.call 112 [ai 1 2 3,(.fn 113 [.ptr 0 0])] [⟨0,56,[aL 0,aL 1,aq 2,ag 0,ag 1,ai 0 0 1]⟩] [] [] (aq 3) cg abC)
abbrev abE:Tree:=(.ret (.cU [di 0,aq 8]) [] [] [⟨ai 2 4 5,aG 4,5,1,[.l 0]⟩])
abbrev abF:Tree:=(.new (.a1 (bQ (bX (aG 4) (ah 1)) (ah 140737488355328)) (.eu (bX (aG 4) (ah 1)) (.eM [⟨2,5,[aL 7]⟩,⟨1,56,[aL 4,aL 5,aq 6,ag 2,ag 3,ai 3 6 7]⟩] (.again 0 [(.int .i64 (.un (.wrap .i64) (bX (ae 3) (ah 1)))),(.bt 4 (bX (aG 4) (ah 1)) (aG 8))] [⟨(.bt 4 (bX (aG 4) (ah 1)) (aG 8)),(bX (aG 4) (ah 1)),5,1,[.l 0,(.s (aL 7))]⟩])))))
abbrev abG:Tree:=(.new (.wr (.call 54 [OA,ai 1 2 3] [] [⟨ai 2 4 5,aG 4,5,1,[.l 0]⟩] [] (.cU [aL 7,aq 8]) mn (.aC (bR (aZ (ae 8) (ah 0))) abE abF))))
abbrev abH:Tree:=(.a1 (.sm 0) (.a1 (bQ (ah 0) (ae 3)) (.cl 56 (.b6 0 (ae 3) 6 0) OA Bo abG)))
abbrev abI:Tree:=(.ret (.cU [aL 6,bI 0]) [] [] [⟨ai 5 8 9,aG 8,5,1,[.l 1]⟩])
abbrev abJ:Tree:=(.eM [⟨1,150,[aL 5,aL 6]⟩] (.again 1 [(.int .i64 (.un (.wrap .i64) (bX (ae 4) (ah 1)))),ai 5 8 9] [⟨ai 5 8 9,aG 8,5,1,[.l 1]⟩]))
abbrev abK:Tree:=(.new (.wr (.call 114 [ai 5 8 9,(.fn 115 [.ptr 1 0])] [⟨1,150,[aL 5,aL 6]⟩] [⟨ai 5 8 9,aG 8,5,1,[.l 1]⟩] [] (ba 0) dv (.aC (bR (cG 0)) abI abJ))))
abbrev abL:Tree:=(.a1 (.sm 4) (.a1 (bQ (ah 0) (ae 4)) (.cl 150 (.b6 4 (ae 4) 2 0) (.agg [aL 5,aL 6]) mn abK)))
abbrev abM:Tree:=(.ret (.cU [di 0,bI 23]) [] [] [⟨ai 5 8 9,aG 8,5,1,[.l 1]⟩])
abbrev abN:Tree:=(.loop [bI 0,ai 2 4 5] [⟨ai 2 4 5,aG 4,5,1,[.l 0]⟩] [aq 4,ai 5 8 9] [⟨ai 5 8 9,aG 8,5,1,[.l 1]⟩] pX (.aC (bO (ae 4) (aG 6)) abL abM))
abbrev abO:Tree:=(.a1 (bQ (ah 0) (ae 0)) (.a1 (bO (ae 0) (ah 17)) (.m_ ⟨1,0,none⟩ (.cl 147 (.b6 3 (ae 0) 1 0) (ai 4 6 7) ga abN))))
abbrev abP:Tree:=(.loop [bI 0,.db] [⟨.db,ah 0,5,1,[]⟩] [aq 3,ai 2 4 5] [⟨ai 2 4 5,aG 4,5,1,[.l 0]⟩] pX (.aC (bO (ae 3) (aG 0)) abH abO))
abbrev OO:Tree:=
(.new (.aC (aZ (ae 0) (ah 1)) abz (.aC (aZ (ae 0) (ah 2)) abD abP)))
theorem abQ:cN prog {cW with ei:=[⟨11,[.az 43,.row 7 77]⟩,⟨19,[.az 66,.row 7 77]⟩]} f54 [tB,ai 1 2 3] [] [] uR=some OO:=by kernel_rfl
theorem abR (i0 i1 i2:Int) (ar aQ bz bJ:Nat) (t0 t1:ByteArray) (a0 bn:Option Addr) (W:al) (R:Ending->World->Prop) (h:OO.ak prog W.w.heap.size R [] {aV:=[i0,i1,i2],N:=[ar,aQ,bz,bJ],T:=[t0,t1],A:=[a0,bn]} W):bK prog 54 #[.agg #[.int .u8 i0,.int .u8 i1,.int .i64 i2,.string t0,.string t1,.slice a0 ar aQ],.slice bn bz bJ] W R:=
 dP func54 _ _ {aV:=[i0,i1,i2],N:=[ar,aQ,bz,bJ],T:=[t0,t1],A:=[a0,bn]} _ abQ (fun v aB=>by cases aB) h
abbrev abS:Tree:=(.call 54 [tB,ai 1 2 3] [] [] [] (.cU [aL 3,aq 4]) mn (.ret (.cU [aL 3,aq 4]) [] [] []))
abbrev abT:Tree:=(.aC (bR (cG 0)) (.ret (.cU [di 0,bI 4]) [] [] []) abS)
abbrev OP:Tree:=
(.new (.call 53 [tB] [] [] [] (ba 0) dv abT))
theorem abU:cN prog cW f24 [tB,ai 1 2 3] [] [] uR=some OP:=by kernel_rfl
theorem abV (i0 i1 i2:Int) (ar aQ bz bJ:Nat) (t0 t1:ByteArray) (a0 bn:Option Addr) (W:al) (R:Ending->World->Prop) (h:OP.ak prog W.w.heap.size R [] {aV:=[i0,i1,i2],N:=[ar,aQ,bz,bJ],T:=[t0,t1],A:=[a0,bn]} W):bK prog 24 #[.agg #[.int .u8 i0,.int .u8 i1,.int .i64 i2,.string t0,.string t1,.slice a0 ar aQ],.slice bn bz bJ] W R:=
 dP func24 _ _ {aV:=[i0,i1,i2],N:=[ar,aQ,bz,bJ],T:=[t0,t1],A:=[a0,bn]} _ abU (fun v aB=>by cases aB) h
abbrev abW:Tree:=(.aC (cL (aZ (ae 6) (ah 0)) (bR (aZ (ae 5) (ae 0)))) (.ret (bI 23) [] [] []) (.ret (aq 6) [] [] []))
abbrev abX:Tree:=(.call 24 [OB,ai 0 0 1] [] [] [] (.cU [aL 5,aq 6]) mn abW)
abbrev abY:Tree:=(.new (.wr (.aC (bR (aZ (ae 4) (ah 0))) (.ret (aq 4) [] [] []) abX)))
abbrev OQ:Tree:=
(.call 23 [ag 0] [] [] [] (.cU [OB,aq 4]) ⟨4,2,0,2,0,1,0,0⟩ abY)
theorem abZ:cN prog cW f35 [ag 0,ai 0 0 1,aL 0] [] [] ⟨1,2,0,1,0,1,0,0⟩=some OQ:=by kernel_rfl
theorem ab0 (i0:Int) (ar aQ:Nat) (t0:ByteArray) (a0:Option Addr) (W:al) (R:Ending->World->Prop) (h:OQ.ak prog W.w.heap.size R [] {aV:=[i0],N:=[ar,aQ],T:=[t0],A:=[a0]} W):bK prog 35 #[.string t0,.slice a0 ar aQ,.int .u8 i0] W R:=
 dP func35 _ _ {aV:=[i0],N:=[ar,aQ],T:=[t0],A:=[a0]} _ abZ (fun v aB=>by cases aB) h
theorem h4 {α:Type} {l:List α} {i:Nat} (h:i<l.length):l.drop i=l[i]::l.drop (i+1):=mG h
def BB (s:Int×Int):List Value:=[.int .u8 s.1,.int .u8 s.2]
structure mr (W:al):Prop where
 args:∃ty,W.w.heap[4]? =some (.cells (bF.zc.map fun n=>Value.int .i64 n).toArray ty)
 It:W.aV 4
 OR:∃(hS:List (Option Addr×Nat)) (ty:TypeId),hS.length=17∧W.w.heap[1]? =some (.cells ((List.range 17).map fun i=>Value.slice (hS.getD i (none,0)).1 (bF.nm.getD i []).length (hS.getD i (none,0)).2).toArray ty)∧
  ∀i,i<17->b_ W (hS.getD i (none,0)).1 (bF.nm.getD i []).length (hS.getD i (none,0)).2 2 ((bF.nm.getD i []).flatMap BB)
 Iu:W.aV 1
theorem mr.ext {W W':al} (h:mr W) (x:Ext W W'):mr W':=by
 obtain⟨ty,J⟩:=h.args;obtain⟨hS,DP,an,aI,cc⟩:=h.OR;exact⟨⟨ty,by rw[x.du _ h.It];exact J⟩,x.sub _ h.It,⟨hS,DP,an,by rw[x.du _ h.Iu];exact aI,fun i a8=>(cc i a8).ext x⟩,x.sub _ h.Iu⟩
theorem nn:hr prog 3=some false:=by kernel_rfl
theorem pr:hr prog 5=some false:=by kernel_rfl
theorem ab1:hr prog 150=some true:=by kernel_rfl
theorem ab2:hK prog 150=some 2:=by kernel_rfl
theorem ab3:hr prog 147=some false:=by kernel_rfl
theorem Ew:hr prog 41=some true:=by kernel_rfl
theorem Ex:hK prog 41=some 4:=by kernel_rfl
theorem Iv {vs:List Value} {W:al} {g:Nat} {ty t:TypeId} (h:W.w.heap[g]? =some (.cells vs.toArray ty)) (bf:W.aV g) (ee:hr prog t=some false) {i:Nat} {u:Value} (j:vs[i]? =some u)
  {W':al} (e:Ext W W'):(Instr.loadAt t (.pointer (some (((some ⟨g,0,none⟩:Option Addr).getD default).add (i*1+0))))).run prog W'.w= .ok u W'.w:=by
 refine D6 ee ?_;simp only[ny];rw[ky,D5 e bf];simp[World.cell?,h,j]
def Ey (n:Nat):Prop:=∀(x:aS.de) (vs:List Value) (W:al),aS.iZ x=true->iK W x vs->mr W->da prog 110 #[.agg vs.toArray,.int .i64 (n:Nat)] W (.bool (bF.whole n x))
theorem ab4 (n:Nat) (cB:n<1000) (cF:Ey n) (x:aS.de) (vs:List Value) (W:al) (fL:aS.iZ x=true) (j:iK W x vs) (b7:mr W) (p:Nat) (hp:W.w.heap[p]? =some (.cells #[.int .i64 ((n+1:Nat):Int)] 3)) (bf:W.aV p):
  da prog 152 #[.agg vs.toArray,.pointer (some ⟨p,0,none⟩)] W (.bool (!bF.whole n x)):=by
 obtain⟨op,k,dd,t,aT,dt,len,dp,rfl⟩:=j.mL;refine aa7 op k dd ((n+1:Nat):Int) len dp t aT dt p W.all _ hp (W.lt p bf) ?_;refine bY fun m W1 _ bM=>?_
 have OS:=aD W.dw bM;have bg:=cF x _ W1 fL (j.ext OS) (b7.ext OS);have hw:IntKind.i64.wrap (((n+1:Nat):Int)-1)=(n:Int):=by rw[cE (by omega) (by omega)];omega
 rw[<-hw] at bg;refine b5 (fun _ _=>bg) ⟨bF.whole n x,rfl,fun cn bH=>aP fun _ _ _=>⟨_,rfl,rfl⟩⟩
theorem ab5 (n:Nat) (cB:n<1000) (cF:Ey n) (args:List aS.de) (a:Option Addr) (c:Nat) (ls:List Value) (W:al) (aO:args.length<=1000) (fL:aS.qO args=true) (c1:b_ W a args.length c 6 ls) (fe:nj W.w W.aV args ls) (b7:mr W) (p:Nat) (hp:W.w.heap[p]? =some (.cells #[.int .i64 ((n+1:Nat):Int)] 3)) (bf:W.aV p):
  gR prog 176 #[.slice a args.length c,.func (.func 152) #[] #[.pointer (some ⟨p,0,none⟩)]] W.all fun v w'=>∃r:Int,v= .int .i64 r∧er 0 r= !args.all (bF.whole n):=by
 refine abb ((n+1:Nat):Int) args.length c a p W.all _ hp (W.lt p bf) ?_;refine dJ (fun aj vs ls _=>∃i:Nat,vs=[.int .i64 (i:Nat)]∧ls=[]∧i<=args.length∧aj=args.length-i∧args.all (bF.whole n)=(args.drop i).all (bF.whole n)) args.length ⟨0,by simp[U],rfl,dr _,rfl,rfl⟩ ?_;rintro aj vs fG cn bH ⟨i,rfl,rfl,a8,rfl,bl⟩;have gM:=aD W.dw bH;refine⟨(i:Int),rfl,rfl,fun _=>aK (fun aJ=>?_) fun aJ=>aP fun _ _ _=>⟨_,rfl,-1,rfl,?_⟩⟩
 ·simp only[U,cX] at aJ;have cp:i<args.length:=by omega
  have j:args[i]? =some args[i]:=dn cp;obtain⟨us,hu,bP⟩:=tx fe j;have qP:iK W args[i] us:=hu;obtain⟨oL,dA,p2,cR,nk,oM,oN,oO,rfl⟩:=hu.mL;refine a6 ?_ (a6 ?_ (cI ⟨oL,dA,p2,oN,oO,cR,nk,oM,fun cq bo=>?_,?_⟩))
  ·simp only[E.b,aR,aX.push];exact b_.dL c1 (by omega)
  ·simp only[U];exact c_ (by omega)
  ·have:=tz (W:=W) c1 u1 tA rfl (by decide) bP (aD gM bo);simp only[U] at this ⊢;exact this
  ·simp only[aU];have bg:=ab4 n cB cF args[i] _ cn (aS.u0 fL (h9 cp)) (qP.ext gM) (b7.ext gM) p (by rw[gM.du p bf];exact hp) (gM.sub p bf);have hP:args.all (bF.whole n)=(bF.whole n args[i]&&(args.drop (i+1)).all (bF.whole n)):=by rw[bl,h4 cp];rfl
   refine b5 (fun _ _=>bg) ⟨!bF.whole n args[i],rfl,fun cq bo=>aK (fun c2=>aP fun _ _ _=>⟨_,rfl,(i:Int),rfl,?_⟩) fun c2=>b1 ⟨args.length-(i+1),by omega,i+1,?_,rfl,by omega,rfl,?_⟩⟩
   ·have c2:bF.whole n args[i]=false:=by simpa[U] using c2
    rw[hP,c2];exact c_ (by omega)
   ·simp only[U];rw[cE (by omega) (by omega)];rfl
   ·have c2:bF.whole n args[i]=true:=by simpa[U] using c2
    rw[hP,c2,eX]
 ·simp only[U,c7] at aJ;rw[bl,fV (by omega)];rfl
theorem ab6 (n:Nat) (cB:n<1000) (cF:Ey n) (args:List aS.de) (a:Option Addr) (c:Nat) (ls:List Value) (W:al) (aO:args.length<=1000) (fL:aS.qO args=true) (c1:b_ W a args.length c 6 ls) (fe:nj W.w W.aV args ls) (b7:mr W) (p:Nat) (hp:W.w.heap[p]? =some (.cells #[.int .i64 ((n+1:Nat):Int)] 3)) (bf:W.aV p):
  da prog 151 #[.slice a args.length c,.func (.func 152) #[] #[.pointer (some ⟨p,0,none⟩)]] W (.bool (!args.all (bF.whole n))):=by
 refine abd ((n+1:Nat):Int) args.length c a p W.all _ hp (W.lt p bf) ?_;refine iV (fun _ _=>ab5 n cB cF args a c ls W.all aO fL (eD.move (fun b I _=>⟨W.lt b I,rfl⟩) c1) (nj.move (fun b I _=>⟨W.lt b I,rfl⟩) fe) (b7.ext W.dw) p hp (W.lt p bf)) fun v w' _ ⟨r,aB,aw⟩=>⟨r,aB,fun cn _ _ _=>aP fun _ _ _=>⟨_,rfl,?_⟩⟩
 show Value.bool (er 0 r)=_;rw[aw]
theorem ab7 {op:Int} (h:1<=op) (an:op<=16):(bF.zc.map fun n=>Value.int .i64 n)[op.toNat]? =some (.int .i64 (bF.qR op)):=by
 obtain⟨k,rfl⟩:∃k:Nat,op=k:=⟨op.toNat,by omega⟩;have:k<=16:=by omega
 simp only[eH]
 have e:bF.zc[k]? =some (bF.qR (k:Int)):=by
  unfold bF.qR;rw[ih,oe,dn (by simp only[bF.zc,e5,yg];omega)];rfl
 rw[mD,e];rfl
theorem Ow:∀n:Nat,n<1000->Ey n:=by
 intro n;induction n with
 |zero=>
  intro _ x vs W fL j b7;obtain⟨op,k,dd,t,aT,dt,len,dp,rfl⟩:=j.mL;refine OD op k dd ((0:Nat):Int) len dp t aT dt W.all _ ?_;refine bY fun _ _ _ _=>bY fun _ _ _ _=>tr ?_ (cj fun _ _=>aP fun _ _ _=>⟨_,rfl,?_⟩)
  ·simp[U,eg]
  ·rfl
 |succ n cF=>
  intro cB x vs W fL j b7;have cF:=cF (by omega);obtain⟨op,k,dd,t,aT,args⟩:=x;have j:=j.ext W.dw;have b7:=b7.ext W.dw;simp only[iK,dT] at j;obtain⟨a,c,ls,rfl,c1,fe⟩:=j;simp only[aS.iZ,bT,decide_eq_true_eq] at fL;obtain⟨⟨ke,h0,w2,u4,ps⟩,fL⟩:=fL;refine OD op k dd ((n+1:Nat):Int) args.length c ⟨t.toArray⟩ ⟨aT.toArray⟩ a W.all _ ?_;have ab8:(⟨t.toArray⟩:ByteArray).size=t.length:=by rw[<-kH]
  rw[show bF.whole (n+1) (.mk op k dd t aT args)=((decide (1<=op)&&decide (op<=16))&&(((args.length:Int)==bF.qR op)&&((op != 1||fv.en ⟨k,dd,⟨t.toArray⟩⟩)&&args.all (bF.whole n)))) from rfl];refine bY fun m0 W1 fi bM=>bY fun m1 cn j8 bH=>aK (fun c0=>?_) fun c0=>cj fun _ _=>aP fun _ _ _=>⟨_,rfl,?_⟩
  ·have dG:=aD bM bH
   have nO:1<=op∧op<=16:=by
    simp only[U,hq,k1,c7] at c0;omega
   have d1:decide (1<=op)=true:=by simp[nO.1]
   have d2:decide (op<=16)=true:=by simp[nO.2]
   rw[d1,d2,eX,eX];obtain⟨ty,ab9⟩:=b7.args;refine a6 ?_ (a6 ?_ (Bm (cI ⟨bF.qR op,fun V fC=>?_,?_⟩)))
   ·simp only[U];exact c_ (by omega)
   ·simp only[U];exact dW (by omega)
   ·simp only[U];exact Iv ab9 b7.It nn (ab7 nO.1 nO.2) (aD dG fC)
   simp only[aU];have OT:∀V,Ext cn V->V.w.heap[m1]? =some (.cells #[.int .i64 ((n+1:Nat):Int)] 3)->_:=fun V fC hp=>ab6 n (by omega) cF args a c ls V.all ke fL (eD.move (fun b I _=>⟨(aD (aD dG fC) V.dw).sub b I,(aD dG fC).du b I⟩) c1) (nj.move (fun b I _=>⟨(aD (aD dG fC) V.dw).sub b I,(aD dG fC).du b I⟩) fe) (b7.ext (aD (aD dG fC) V.dw)) m1 hp (fq.1 hp).1
   refine aK (fun aJ=>?_) fun aJ=>cj fun cq bo=>aK (fun c2=>aP fun _ _ _=>⟨_,rfl,?_⟩) fun c2=>?_
   ·simp only[U,bT] at aJ;have a7:(op != 1)=false:=by have:=aJ.2;rw[beq_iff_eq] at this;rw[this];rfl
    rw[aJ.1,a7,eX,kr];refine lF ⟨fv.en ⟨k,dd,⟨t.toArray⟩⟩,fun V fC _ _=>Iq.D2 k dd ⟨t.toArray⟩ (by rw[ab8];omega) V,cj fun cq bo=>aK (fun c2=>aP fun _ _ _=>⟨_,rfl,?_⟩) fun c2=>?_⟩
    ·simp only[U] at c2 ⊢;have c2:fv.en ⟨k,dd,⟨t.toArray⟩⟩=false:=by simpa using c2
     rw[c2];rfl
    ·simp only[U] at c2;have c2:fv.en ⟨k,dd,⟨t.toArray⟩⟩=true:=by simpa using c2
     rw[c2,eX];refine b5 (fun I _=>OT cq bo (I _ (bd.2 rfl))) ⟨!args.all (bF.whole n),rfl,fun cV bU=>aP fun _ _ _=>⟨_,rfl,?_⟩⟩;show Value.bool (!!args.all (bF.whole n))=_;rw[Bool.not_not]
   ·simp only[U] at c2 ⊢;have c2:((args.length:Int)==bF.qR op)=false:=by simpa using c2
    rw[c2];rfl
   ·simp only[U] at aJ c2;have c2:((args.length:Int)==bF.qR op)=true:=by simpa using c2
    rw[c2,eX] at aJ;have a7:(op != 1)=true:=by rw[bne,aJ];rfl
    rw[c2,a7,eX,qh,eX];refine b5 (fun I _=>OT cq bo (I _ (bd.2 rfl))) ⟨!args.all (bF.whole n),rfl,fun cV bU=>aP fun _ _ _=>⟨_,rfl,?_⟩⟩;show Value.bool (!!args.all (bF.whole n))=_;rw[Bool.not_not]
  ·simp only[U] at c0 ⊢;congr 1;have fr:eg ((n+1:Nat):Int) 1=false:=by rw[c7];omega
   rw[fr] at c0
   have:¬(1<=op)∨¬(op<=16):=by
    simp only[kt,kr,h8,cX] at c0;omega
   rcases this with h|h<;>simp[h]
theorem ab_ (x:aS.de) (vs:List Value) (W:al) (fL:aS.iZ x=true) (j:iK W x vs) (b7:mr W):da prog 53 #[.agg vs.toArray] W (.bool (bF.whole 16 x)):=by
 obtain⟨op,k,dd,t,aT,dt,len,dp,rfl⟩:=j.mL;refine abf op k dd len dp t aT dt W.all _ ?_;have h:=Ow 16 (by decide);refine bY fun m0 W1 _ bM=>b5 (fun _ _=>h x _ W1 fL (j.ext (aD W.dw bM)) (b7.ext (aD W.dw bM))) ⟨bF.whole 16 x,rfl,fun cn bH=>aP fun _ _ _=>⟨_,rfl,rfl⟩⟩
def BC (p:Int×Int):Value:=.tuple #[.int .u8 p.1,.int .i64 p.2]
theorem OU (k:Int) (W:al):da prog 111 #[.int .u8 k] W (BC (bF.mS k)):=by
 refine abh k W.all _ ?_;refine aK (fun c=>aP fun _ _ _=>⟨_,rfl,?_⟩) fun c=>aP fun _ _ _=>⟨_,rfl,?_⟩
 ·have c:k<1∨3<k:=by simpa only[U,h8,cX] using c
  rw[bF.mS,if_pos c];rfl
 ·have c:¬(k<1∨3<k):=by
   simp only[U,k1,c7] at c;omega
  rw[bF.mS,if_neg c];rfl
def e7 (v:bF.Var):List Value:=[.string ⟨v.name.toArray⟩,.int .u8 v.k,.int .i64 v.n,.string ⟨v.t.toArray⟩]
theorem mv (v:bF.Var):(e7 v).length=4:=rfl
def pt (W:al) (a:Option Addr) (c:Nat) (vars:List bF.Var):Prop:=b_ W a vars.length c 4 (vars.flatMap e7)
theorem pt.ext {W W':al} {a:Option Addr} {c:Nat} {vars:List bF.Var} (h:pt W a c vars) (x:Ext W W'):pt W' a c vars:=b_.ext h x
theorem pt.all {W:al} {a:Option Addr} {c:Nat} {vars:List bF.Var} (h:pt W a c vars):pt W.all a c vars:=b_.ext h W.dw
def Found (vars:List bF.Var) (aT:ax.aM) (r:Int):Prop:=(r= -1∧vars.find? (fun v=>v.name==aT)=none)∨∃(i:Nat) (v:bF.Var),r=(i:Int)∧vars[i]? =some v∧vars.find? (fun v=>v.name==aT)=some v
theorem tC (a b:ax.aM):((⟨a.toArray⟩:ByteArray).data.toList==(⟨b.toArray⟩:ByteArray).data.toList)=(a==b):=by simp
theorem aca (op k n:Int) (t aT:ByteArray) (dt:Option Addr) (len dp:Nat) (qS:ax.aM) (w3:aT=⟨qS.toArray⟩) (vars:List bF.Var) (a:Option Addr) (c:Nat) (W:al) (aO:vars.length<=1000000) (ct:pt W a c vars) (p:Nat) (hp:W.w.heap[p]? =some (.cells #[.int .u8 op,.int .u8 k,.int .i64 n,.string t,.string aT,.slice dt len dp] 56)) (bf:W.aV p):
  gR prog 112 #[.slice a vars.length c,.func (.func 113) #[] #[.pointer (some ⟨p,0,none⟩)]] W.all fun v w'=>∃r:Int,v= .int .i64 r∧Found vars qS r:=by
 subst w3;refine abo op k n vars.length c len dp t ⟨qS.toArray⟩ a dt p W.all _ hp (W.lt p bf) ?_;refine dJ (fun aj vs ls _=>∃i:Nat,vs=[.int .i64 (i:Nat)]∧ls=[]∧i<=vars.length∧aj=vars.length-i∧vars.find? (fun v=>v.name==qS)=(vars.drop i).find? fun v=>v.name==qS) vars.length ⟨0,by simp[U],rfl,dr _,rfl,rfl⟩ ?_;rintro aj vs fG cn bH ⟨i,rfl,rfl,a8,rfl,bl⟩;have gM:=aD W.dw bH;refine⟨(i:Int),rfl,rfl,fun _=>aK (fun aJ=>?_) fun aJ=>aP fun _ _ _=>⟨_,rfl,-1,rfl,.inl ⟨rfl,?_⟩⟩⟩
 ·simp only[U,cX] at aJ;have cp:i<vars.length:=by omega
  have j:vars[i]? =some vars[i]:=dn cp;have hP:vars.find? (fun v=>v.name==qS)=(vars[i]::vars.drop (i+1)).find? fun v=>v.name==qS:=by rw[bl,h4 cp]
  refine a6 ?_ (a6 ?_ (cI ⟨vars[i].k,vars[i].n,⟨vars[i].name.toArray⟩,⟨vars[i].t.toArray⟩,fun cq bo=>?_,?_⟩))
  ·simp only[E.b,aR,aX.push];exact b_.dL ct (by omega)
  ·simp only[U];exact c_ (by omega)
  ·have:=gh mv (by decide) ct Ew Ex j (aD gM bo);simp only[U] at this ⊢;exact this
  ·simp only[aU]
   have bg:∀V,Ext cn V->da prog 113 #[.agg #[.string ⟨vars[i].name.toArray⟩,.int .u8 vars[i].k,.int .i64 vars[i].n,.string ⟨vars[i].t.toArray⟩],.pointer (some ⟨p,0,none⟩)] V (.bool (vars[i].name==qS)):=fun V fC=>by
    refine abj vars[i].k vars[i].n op k n len dp ⟨vars[i].name.toArray⟩ ⟨vars[i].t.toArray⟩ t ⟨qS.toArray⟩ dt p V.all _ (by rw[(aD (aD gM fC) V.dw).du p bf];exact hp) ((aD (aD gM fC) V.dw).sub p bf) ?_;refine bY fun _ _ _ _=>aP fun _ _ _=>⟨_,rfl,?_⟩
    simp only[U,tC]
   refine b5 (fun _ _=>bg cn (Ext.refl _)) ⟨vars[i].name==qS,rfl,fun cq bo=>aK (fun c2=>aP fun _ _ _=>⟨_,rfl,(i:Int),rfl,.inr ⟨i,vars[i],rfl,j,?_⟩⟩) fun c2=>b1 ⟨vars.length-(i+1),by omega,i+1,?_,rfl,by omega,rfl,?_⟩⟩
   ·have c2:(vars[i].name==qS)=true:=by simpa only[U] using c2
    rw[hP,hY,c2]
   ·simp only[U];rw[cE (by omega) (by omega)];rfl
   ·have c2:(vars[i].name==qS)=false:=by simpa only[U] using c2
    rw[hP,hY,c2]
 ·simp only[U,c7] at aJ;rw[bl,fV (by omega)];rfl
def rJ (l:List Int):List Value:=l.flatMap fun t=>[Value.int .u8 t]
theorem acb (s:Int×Int) (e4:List Int) (a:Option Addr) (c:Nat) (W:al) (aO:e4.length<=1000000) (ct:b_ W a e4.length c 1 (rJ e4)) (p:Nat) (hp:W.w.heap[p]? =some (.cells #[.int .u8 s.1,.int .u8 s.2] 150)) (bf:W.aV p):
  gR prog 153 #[.slice a e4.length c,.func (.func 115) #[] #[.pointer (some ⟨p,0,none⟩)]] W.all fun v w'=>∃r:Int,v= .int .i64 r∧er 0 r= !e4.all (· ==s.1):=by
 refine abw s.1 s.2 e4.length c a p W.all _ hp (W.lt p bf) ?_;refine dJ (fun aj vs ls _=>∃i:Nat,vs=[.int .i64 (i:Nat)]∧ls=[]∧i<=e4.length∧aj=e4.length-i∧e4.all (· ==s.1)=(e4.drop i).all (· ==s.1)) e4.length ⟨0,by simp[U],rfl,dr _,rfl,rfl⟩ ?_;rintro aj vs fG cn bH ⟨i,rfl,rfl,a8,rfl,bl⟩;have gM:=aD W.dw bH;refine⟨(i:Int),rfl,rfl,fun _=>aK (fun aJ=>?_) fun aJ=>aP fun _ _ _=>⟨_,rfl,-1,rfl,?_⟩⟩
 ·simp only[U,cX] at aJ;have cp:i<e4.length:=by omega
  have j:e4[i]? =some e4[i]:=dn cp;have hP:e4.all (· ==s.1)=((e4[i]==s.1)&&(e4.drop (i+1)).all (· ==s.1)):=by rw[bl,h4 cp];rfl
  refine a6 ?_ (a6 ?_ (cI ⟨e4[i],fun cq bo=>?_,?_⟩))
  ·simp only[E.b,aR,aX.push];exact b_.dL ct (by omega)
  ·simp only[U];exact c_ (by omega)
  ·have:=ed (P:=prog) (f:=fun t=>[Value.int .u8 t]) (sz:=1) (fun _=>rfl) ct pr (k:=0) j (by decide) (u:=.int .u8 e4[i]) rfl (aD gM bo);simp only[U] at this ⊢;exact this
  ·simp only[aU]
   have bg:∀V,Ext cn V->da prog 115 #[.int .u8 e4[i],.pointer (some ⟨p,0,none⟩)] V (.bool (!(e4[i]==s.1))):=fun V fC=>by
    refine abq e4[i] s.1 s.2 p V.all _ (by rw[(aD (aD gM fC) V.dw).du p bf];exact hp) ((aD (aD gM fC) V.dw).sub p bf) ?_;exact aP fun _ _ _=>⟨_,rfl,rfl⟩
   refine b5 (fun _ _=>bg cn (Ext.refl _)) ⟨!(e4[i]==s.1),rfl,fun cq bo=>aK (fun c2=>aP fun _ _ _=>⟨_,rfl,(i:Int),rfl,?_⟩) fun c2=>b1 ⟨e4.length-(i+1),by omega,i+1,?_,rfl,by omega,rfl,?_⟩⟩
   ·have c2:(e4[i]==s.1)=false:=by simpa only[U,hq] using c2
    rw[hP,c2];exact c_ (by omega)
   ·simp only[U];rw[cE (by omega) (by omega)];rfl
   ·have c2:(e4[i]==s.1)=true:=by simpa only[U,kt] using c2
    rw[hP,c2,eX]
 ·simp only[U,c7] at aJ;rw[bl,fV (by omega)];rfl
theorem acd (s:Int×Int) (e4:List Int) (a:Option Addr) (c:Nat) (W:al) (aO:e4.length<=1000000) (ct:hN W.w a e4.length c 1 (rJ e4)) (p:Nat) (hp:W.w.heap[p]? =some (.cells #[.int .u8 s.1,.int .u8 s.2] 150)):
  da prog 114 #[.slice a e4.length c,.func (.func 115) #[] #[.pointer (some ⟨p,0,none⟩)]] W (.bool (!e4.all (· ==s.1))):=by
 have bf:p<W.w.heap.size:=(fq.1 hp).1;refine aby s.1 s.2 e4.length c a p W.all _ hp bf ?_;refine iV (fun _ _=>acb s e4 a c W.all aO ct.all p hp bf) fun v w' _ ⟨r,aB,aw⟩=>⟨r,aB,fun cn _ _ _=>aP fun _ _ _=>⟨_,rfl,?_⟩⟩
 show Value.bool (er 0 r)=_;rw[aw]
theorem ace {op:Int} (h:1<=op) (an:op<=16):∃i:Nat,op=(i:Int)∧i<17∧bF.kK op=bF.nm.getD i []:=⟨op.toNat,by omega,by omega,rfl⟩
theorem acf (o:Int):(bF.kK o).length<=3:=by
 unfold bF.kK;rw[oe];cases h:bF.nm[o.toNat]? with
 |none=>simp
 |some l=>
  have:∀l∈bF.nm,l.length<=3:=by decide
  exact this l (k2 h)
def acg (n:Nat):Prop:=∀(x:aS.de) (vs:List Value) (vars:List bF.Var) (a:Option Addr) (c:Nat) (W:al),aS.iZ x=true->bF.whole n x=true->vars.length<=1000000->iK W x vs->pt W a c vars->mr W->
 da prog 54 #[.agg vs.toArray,.slice a vars.length c] W (BC (bF.gm vars x))
theorem ach:∀n:Nat,acg n:=by
 intro n;induction n with
 |zero=>intro x vs vars a c W _ h;cases h
 |succ n cF=>
  intro x vs vars a c W fL OV n5 j ct b7;obtain⟨op,k,dd,t,aT,args⟩:=x;have j:=j.ext W.dw;have b7:=b7.ext W.dw;have ct:=ct.all;simp only[iK,dT] at j;obtain⟨dt,dp,ls,rfl,c1,fe⟩:=j;simp only[aS.iZ,bT,decide_eq_true_eq] at fL;obtain⟨⟨ke,h0,w2,u4,ps⟩,fL⟩:=fL;simp only[bF.whole,bT,decide_eq_true_eq] at OV;obtain⟨⟨aci,w4⟩,h5,Ez,acj⟩:=OV;refine abR op k dd args.length dp vars.length c ⟨t.toArray⟩ ⟨aT.toArray⟩ dt a W.all _ ?_;refine bY fun m0 W1 fi bM=>aK (fun aJ=>?_) fun aJ=>aK (fun c2=>?_) fun c2=>?_
  ·have aJ:op=1:=by simpa[U] using aJ
   refine b5 (fun _ _=>OU k W1) ⟨(bF.mS k).1,(bF.mS k).2,rfl,fun _ _=>aP fun _ _ _=>⟨_,rfl,?_⟩⟩;rw[bF.gm,if_pos aJ];rfl
  ·have aJ:¬op=1:=by simpa[U] using aJ
   have c2:op=2:=by simpa[U] using c2
   have gb:bF.gm vars (.mk op k dd t aT args)=bF.named vars aT:=by rw[bF.gm,if_neg aJ,if_pos c2]
   rw[gb];refine iV (fun I _=>aca op k dd ⟨t.toArray⟩ ⟨aT.toArray⟩ dt args.length dp aT rfl vars a c W1.all n5 (ct.ext (aD bM W1.dw)) m0 (I _ (bd.2 rfl)) (fq.1 (I _ (bd.2 rfl))).1) fun v w' _ ⟨r,aB,aw⟩=>⟨r,aB,fun cn bh bH bz=>?_⟩
   simp only[aU];refine aK (fun c3=>aP fun _ _ _=>⟨_,rfl,?_⟩) fun c3=>?_
   ·have c3:r<0:=by simpa only[U,cX] using c3
    rcases aw with⟨_,aw⟩|⟨i,v,rfl,_,_⟩
    ·rw[bF.named,aw];rfl
    ·omega
   ·have c3:0<=r:=by simpa only[U,c7] using c3
    rcases aw with⟨h,_⟩|⟨i,v,rfl,OW,q6⟩
    ·omega
    ·have cp:i<vars.length:=(nU.1 OW).1;refine a6 ?_ (a6 ?_ (a6 ?_ (cI ⟨v.k,fun V fC=>?_,?_⟩)))
     ·simp only[E.b,aR,aX.push];exact b_.dL ct (by omega)
     ·simp only[U];exact c_ (by omega)
     ·simp only[U];exact dW (by omega)
     ·have:=ed (P:=prog) mv ct pr (k:=1) OW (by decide) (u:=.int .u8 v.k) rfl (aD (aD bM bH) fC);simp only[U] at this ⊢;exact this
     ·simp only[aU];refine b5 (fun _ _=>OU v.k cn) ⟨(bF.mS v.k).1,(bF.mS v.k).2,rfl,fun _ _=>aP fun _ _ _=>⟨_,rfl,?_⟩⟩;rw[bF.named,q6];rfl
  ·have aJ:¬op=1:=by simpa[U] using aJ
   have c2:¬op=2:=by simpa[U] using c2
   have gb:bF.gm vars (.mk op k dd t aT args)=match bF.jS vars args with| .error f=>(0,f)| .ok e4=>bF.sorted op e4:=by
    rw[bF.gm,if_neg aJ,if_neg c2]
    all_goals (cases bF.jS vars args<;>rfl)
   rw[gb];refine dJ (fun aj vs ls _=>∃(i:Nat) (e4:List Int) (a2:Option Addr) (c2:Nat),vs=[.int .i64 (i:Nat),.slice a2 e4.length c2]∧ls=[rJ e4]∧i<=args.length∧aj=args.length-i∧bF.jS vars (args.take i)= .ok e4) args.length ⟨0,[],none,0,rfl,rfl,dr _,rfl,rfl⟩ ?_;rintro aj vs fG cn bH ⟨i,e4,a2,OX,rfl,rfl,a8,rfl,EA⟩;have gM:=aD bM bH;have kF:e4.length=i:=by rw[bF.Ox EA,mX];omega
   refine⟨(i:Int),e4.length,OX,a2,rJ e4,rfl,(by simp[hL,dF,dV.ak,aR,aX.push]),fun gg=>aK (fun c3=>?_) fun c3=>?_⟩
   ·simp only[U,cX] at c3;have cp:i<args.length:=by omega
    have j:args[i]? =some args[i]:=dn cp;obtain⟨us,hu,bP⟩:=tx fe j;obtain⟨oL,dA,p2,cR,nk,oM,oN,oO,rfl⟩:=hu.mL;have qP:iK W.all args[i] _:=hu;have kL:args.take (i+1)=args.take i++[args[i]]:=by rw[List.take_add_one,j];rfl
    have tD:=bF.aaX vars (args.take i) args[i];rw[<-kL,EA] at tD;refine a6 ?_ (a6 ?_ (cI ⟨oL,dA,p2,oN,oO,cR,nk,oM,fun cq bo=>?_,?_⟩))
    ·simp only[E.b,aR,aX.push];exact b_.dL c1 (by omega)
    ·simp only[U];exact c_ (by omega)
    ·have:=tz (W:=W.all) c1 u1 tA rfl (by decide) bP (aD gM bo);simp only[U] at this ⊢;exact this
    ·simp only[aU];refine bY fun m1 cq _ bo=>bS fun dH cd=>?_
     have dO:=aD gM (aD bo cd);have bg:=cF args[i] _ vars a c dH (aS.u0 fL (h9 cp)) (bF.Ir acj (h9 cp)) n5 (qP.ext dO) (ct.ext dO) (b7.ext dO);refine b5 (fun _ _=>bg) ⟨(bF.gm vars args[i]).1,(bF.gm vars args[i]).2,rfl,fun dI cA=>?_⟩;simp only[aU];refine aK (fun c4=>aP fun _ _ _=>⟨_,rfl,?_⟩) fun c4=>?_
     ·have c4:¬(bF.gm vars args[i]).2=0:=by simpa[U] using c4
      dsimp only at tD;rw[if_neg c4] at tD;have:=bF.aaY (args.drop (i+1)) tD;rw[vG] at this;rw[this];rfl
     ·have c4:(bF.gm vars args[i]).2=0:=by simpa[U] using c4
      dsimp only at tD;rw[if_pos c4] at tD;refine bY fun m2 cV _ bU=>a6 ?_ (hj fun a3 tE dQ _ df=>eC fun dX _ dK _ _=>b1 ⟨args.length-(i+1),by omega,i+1,e4++[(bF.gm vars args[i]).1],a3,tE,?_,?_,by omega,rfl,tD⟩)
      ·simp only[U];exact c_ (by omega)
      ·simp only[U];rw[cE (by omega) (by omega)];simp only[fR,e5,yg];congr 2
      ·simp[hL,dF,dV.ak,aR,aX.push,af.ak,E.i,rJ]
   ·simp only[U,c7] at c3;obtain rfl:i=args.length:=by omega
    rw[List.take_length] at EA;rw[EA];obtain⟨iq,BD,OY,tk⟩:=ace aci w4;obtain⟨hS,ty,axX,ack,BE⟩:=b7.OR;have BE:=BE iq OY;rw[<-tk] at BE;have axY:=acf op;refine a6 ?_ (a6 ?_ (Bm (cI ⟨(bF.kK op).length,(hS.getD iq (none,0)).2,(hS.getD iq (none,0)).1,fun V fC=>?_,?_⟩)))
    ·simp only[U];exact c_ (by omega)
    ·simp only[U];exact dW (by omega)
    ·simp only[U];refine Iv ack b7.Iu ab3 ?_ (aD gM fC);rw[BD,ih,mD,Ae OY,l6];rw[<-BD,tk]
    simp only[aU];refine dJ (fun aj vs ls _=>∃(i:Nat) (a2:Option Addr) (c2:Nat),vs=[.int .i64 (i:Nat),.slice a2 e4.length c2]∧ls=[rJ e4]∧i<=(bF.kK op).length∧aj=(bF.kK op).length-i∧((bF.kK op).find? fun s=>e4.all (· ==s.1))=((bF.kK op).drop i).find? fun s=>e4.all (· ==s.1)) (bF.kK op).length ⟨0,a2,OX,rfl,(by simp[hL,dF,dV.ak,aR,aX.push]),dr _,rfl,rfl⟩ ?_;rintro aj vs axZ cq bo ⟨i,a3,EB,rfl,rfl,a8,rfl,q6⟩;have eK:=aD gM bo;refine⟨(i:Int),e4.length,EB,a3,rJ e4,rfl,(by simp[hL,dF,dV.ak,aR,aX.push]),fun gg=>aK (fun c4=>?_) fun c4=>aP fun _ _ _=>⟨_,rfl,?_⟩⟩
    ·simp only[U,cX] at c4;have cp:i<(bF.kK op).length:=by omega
     have j:(bF.kK op)[i]? =some (bF.kK op)[i]:=dn cp;rw[h4 cp] at q6;refine a6 ?_ (a6 ?_ (cI ⟨(bF.kK op)[i].1,(bF.kK op)[i].2,fun V fC=>?_,?_⟩))
     ·simp only[E.b,aR,aX.push];exact b_.dL BE (by omega)
     ·simp only[U];exact c_ (by omega)
     ·have:=gh (f:=BB) (sz:=2) (fun _=>rfl) (by decide) BE ab1 ab2 j (aD eK fC);simp only[U] at this ⊢;exact this
     simp only[aU];refine bY fun m1 dH _ cd=>bS fun dI cA=>b5 (fun I aw=>?_) ⟨!e4.all (· ==(bF.kK op)[i].1),rfl,fun cV bU=>aK (fun c5=>aP fun _ _ _=>⟨_,rfl,?_⟩) fun c5=>eC fun dQ _ df _ _=>b1 ⟨(bF.kK op).length-(i+1),by omega,i+1,a3,EB,?_,?_,by omega,rfl,?_⟩⟩
     ·have aw:=aw _ (bd.2 rfl);have kF:eD dI.w (fun b=>W.all.w.heap.size<=b) a3 e4.length EB 1 (rJ e4++[]):=gW aw.1;rw[mC] at kF;exact acd (bF.kK op)[i] e4 a3 EB dI (by omega) kF.w m1 (I _ (bd.2 rfl))
     ·have c5:e4.all (· ==(bF.kK op)[i].1)=true:=by simpa only[U,Bool.not_not] using c5
      have bD:((bF.kK op).find? fun s=>e4.all (· ==s.1))=some (bF.kK op)[i]:=by rw[q6,hY,c5]
      simp only[bF.sorted,bD];rfl
     ·simp only[U];rw[cE (by omega) (by omega)];rfl
     ·exact(by simp[hL,dF,dV.ak,aR,aX.push])
     ·have c5:e4.all (· ==(bF.kK op)[i].1)=false:=by simpa only[U,Bool.not_not] using c5
      rw[q6,hY,c5]
    ·simp only[U,c7] at c4;have bD:((bF.kK op).find? fun s=>e4.all (· ==s.1))=none:=by rw[q6,fV (by omega)];rfl
     simp only[bF.sorted,bD];rfl
theorem acm (x:aS.de) (vs:List Value) (vars:List bF.Var) (a:Option Addr) (c:Nat) (W:al) (fL:aS.iZ x=true) (n5:vars.length<=1000000) (j:iK W x vs) (ct:pt W a c vars) (b7:mr W):
  da prog 24 #[.agg vs.toArray,.slice a vars.length c] W (BC (bF.type vars x)):=by
 obtain⟨op,k,dd,t,aT,dt,len,dp,rfl⟩:=j.mL;refine abV op k dd len dp vars.length c t aT dt a W.all _ ?_;refine bY fun m0 W1 _ bM=>?_
 have bM:=aD W.dw bM;refine b5 (fun _ _=>ab_ x _ W1 fL (j.ext bM) (b7.ext bM)) ⟨bF.whole 16 x,rfl,fun cn bH=>aK (fun aJ=>aP fun _ _ _=>⟨_,rfl,?_⟩) fun aJ=>?_⟩
 ·have aJ:bF.whole 16 x=false:=by simpa[U] using aJ
  rw[bF.type,aJ];rfl
 ·have aJ:bF.whole 16 x=true:=by simpa[U] using aJ
  have bH:=aD bM bH;refine b5 (fun _ _=>ach 16 x _ vars a c cn fL aJ n5 (j.ext bH) (ct.ext bH) (b7.ext bH)) ⟨(bF.gm vars x).1,(bF.gm vars x).2,rfl,fun _ _=>aP fun _ _ _=>⟨_,rfl,?_⟩⟩;rw[bF.type,aJ];rfl
end Go.Proofs.YtkpjmlnhhggenaaGreatDoor
end
section
namespace ab
open Go
abbrev aM:=List UInt8
abbrev Var:=bF.Var
structure dM where
 aT:aM
 ay:Int
 bp:Int
 on:Int
 ev:Int
 key:aM
 ca:aM
 set:aM
 cb:Bool
 vars:List Var
 bL:List aM
structure hQ where
 dY:Int
 to:Int
 cond:aM
 gN:Bool
structure dR where
 aT:aM
 vars:List Var
 ao:List dM
 bj:List hQ
def qT:List aM:=[[121,101,115],[110,111],[108,101,110]]
def low (b:UInt8):Bool:=decide ((97:Int)<=(b.toNat:Int))&&decide ((b.toNat:Int)<=122)
def lR (b:UInt8):Bool:=(decide ((48:Int)<=(b.toNat:Int))&&decide ((b.toNat:Int)<=57))||decide ((b.toNat:Int)=95)
def nameAt:Nat->aM->Bool
 |_,[]=>true
 |i,b::l=>(low b||(decide (0<i)&&lR b))&&nameAt (i+1) l
def name (s:aM):Bool:=!(s==[]||decide (12<s.length))&&(!qT.contains s&&nameAt 0 s)
def mT:List (List Int):=[[],[0,1,2,3,4,5],[0,1,4,5,7],[0],[0],[0,1,5,6],[1,2,3,6],[0],[0],[0],[0],[0],[0],[0],[0],[1,2,3,4,5]]
def event (k e:Int):Bool:=decide (k<16)&&(mT.getD k.toNat []).contains e
def act (k:Int):Bool:=([3,11,12,14]:List Int).contains k
def scope (k:Int):Bool:=([11,12,13]:List Int).contains k
def hE {α:Type} (aT:α->aM) (is:α->Bool):List α->List α->Bool
 |_,[]=>true
 |pre,x::l=>is x&&(!(pre.any fun y=>aT y==aT x)&&hE aT is (pre++[x]) l)
def jl (v:Var):Bool:=name v.name&&(fv.en ⟨v.k,v.n,⟨v.t.toArray⟩⟩&&!decide (v.k=0))
def vars (l:List Var):Int:=if 8<l.length then 40 else if hE (·.name) jl [] l then 0 else 4
end ab
end
section
namespace Go.Proofs.YtkpjmlnhhggenaaGreatDoor
open Go.Proofs.Tryz Go Go.RowKit Go.cK
abbrev BF:b4:=⟨1,41,[ag 0,aL 0,aq 1,ag 1]⟩
abbrev acn:Tree:=(.aC (eW (b9 0) (b9 1)) (.ret (aq 0) [] [] []) (.again 0 [(.int .i64 (.un (.wrap .i64) (bX (ae 0) (ah 1))))] []))
abbrev aco:Tree:=(.a1 (.sm 0) (.a1 (bQ (ah 0) (ae 0)) (.cl 9 (.b6 0 (ae 0) 1 0) (ag 1) ie acn)))
abbrev OZ:Tree:=
(.loop [bI 0] [] [aq 0] [] cg (.aC (bO (ae 0) (aG 0)) aco (.ret (bI (-1)) [] [] [])))
theorem acp:cN prog {cW with ei:=[⟨2,[.az 8]⟩]} f116 [ai 0 0 1,ag 0] [] [] DZ=some OZ:=by kernel_rfl
theorem acq (ar aQ:Nat) (t0:ByteArray) (a0:Option Addr) (W:al) (R:Ending->World->Prop) (h:OZ.ak prog W.w.heap.size R [] {N:=[ar,aQ],T:=[t0],A:=[a0]} W):bK prog 116 #[.slice a0 ar aQ,.string t0] W R:=
 dP func116 _ _ {N:=[ar,aQ],T:=[t0],A:=[a0]} _ acp (fun v aB=>by cases aB) h
abbrev O0:Tree:=
(.call 116 [ai 0 0 1,ag 0] [] [] [] (aq 0) cg (.ret (.bool (bQ (ah 0) (ae 0))) [] [] []))
theorem acr:cN prog cW f59 [ai 0 0 1,ag 0] [] [] DZ=some O0:=by kernel_rfl
theorem acs (ar aQ:Nat) (t0:ByteArray) (a0:Option Addr) (W:al) (R:Ending->World->Prop) (h:O0.ak prog W.w.heap.size R [] {N:=[ar,aQ],T:=[t0],A:=[a0]} W):bK prog 59 #[.slice a0 ar aQ,.string t0] W R:=
 dP func59 _ _ {N:=[ar,aQ],T:=[t0],A:=[a0]} _ acr (fun v aB=>by cases aB) h
abbrev acu:Tree:=(.aC (aZ (ae 0) (ae 2)) (.ret (aq 1) [] [] []) (.again 0 [(.int .i64 (.un (.wrap .i64) (bX (ae 1) (ah 1))))] []))
abbrev acv:Tree:=(.a1 (.sm 0) (.a1 (bQ (ah 0) (ae 1)) (.cl 5 (.b6 0 (ae 1) 1 0) (aL 2) cg acu)))
abbrev O1:Tree:=
(.loop [bI 0] [] [aq 1] [] cg (.aC (bO (ae 1) (aG 0)) acv (.ret (bI (-1)) [] [] [])))
theorem acw:cN prog {cW with ei:=[⟨2,[.az 8]⟩]} f85 [ai 0 0 1,aL 0] [] [] ⟨1,2,0,0,0,1,0,0⟩=some O1:=by kernel_rfl
theorem acx (i0:Int) (ar aQ:Nat) (a0:Option Addr) (W:al) (R:Ending->World->Prop) (h:O1.ak prog W.w.heap.size R [] {aV:=[i0],N:=[ar,aQ],A:=[a0]} W):bK prog 85 #[.slice a0 ar aQ,.int .u8 i0] W R:=
 dP func85 _ _ {aV:=[i0],N:=[ar,aQ],A:=[a0]} _ acw (fun v aB=>by cases aB) h
abbrev O2:Tree:=
(.call 85 [ai 0 0 1,aL 0] [] [] [] (aq 1) cg (.ret (.bool (bQ (ah 0) (ae 1))) [] [] []))
theorem acy:cN prog cW f44 [ai 0 0 1,aL 0] [] [] ⟨1,2,0,0,0,1,0,0⟩=some O2:=by kernel_rfl
theorem acz (i0:Int) (ar aQ:Nat) (a0:Option Addr) (W:al) (R:Ending->World->Prop) (h:O2.ak prog W.w.heap.size R [] {aV:=[i0],N:=[ar,aQ],A:=[a0]} W):bK prog 44 #[.slice a0 ar aQ,.int .u8 i0] W R:=
 dP func44 _ _ {aV:=[i0],N:=[ar,aQ],A:=[a0]} _ acy (fun v aB=>by cases aB) h
abbrev acA:Tree:=(.aC (cL (bO (ah 0) (ae 0)) (bW (cL (bQ (ah 48) (ae 1)) (bQ (ae 1) (ah 57))) (aZ (ae 1) (ah 95)))) (.again 0 [(.int .i64 (.un (.wrap .i64) (bX (ae 0) (ah 1))))] []) (.ret (cY false) [] [] []))
abbrev acB:Tree:=(.aC (cL (bQ (ah 97) (ae 1)) (bQ (ae 1) (ah 122))) (.again 0 [(.int .i64 (.un (.wrap .i64) (bX (ae 0) (ah 1))))] []) acA)
abbrev acC:Tree:=(.a1 (.sm 1) (.a1 (bQ (ah 0) (ae 0)) (.cl 5 (.b6 1 (ae 0) 1 0) (aL 1) cg acB)))
abbrev acD:Tree:=(.loop [bI 0] [] [aq 0] [] cg (.aC (bO (ae 0) (.un .len (b9 0))) acC (.ret (cY true) [] [] [])))
abbrev acE:Tree:=(.m_ ⟨0,0,none⟩ (.call 59 [(.bt 0 (ah 3) (ah 3)),ag 0] [] [] [] (ba 0) dv (.aC (cG 0) (.ret (cY false) [] [] []) (.q9 (b9 0) acD))))
abbrev O3:Tree:=
(.aC (bR (bW (eW (b9 0) (.bN [])) (bO (ah 12) (.un .len (b9 0))))) acE (.ret (cY false) [] [] []))
theorem acF:cN prog {cW with ei:=[⟨4,[.az 20]⟩]} f27 [ag 0] [] [] ie=some O3:=by kernel_rfl
theorem acG (t0:ByteArray) (W:al) (R:Ending->World->Prop) (h:O3.ak prog W.w.heap.size R [] {T:=[t0]} W):bK prog 27 #[.string t0] W R:=
 dP func27 _ _ {T:=[t0]} _ acF (fun v aB=>by cases aB) h
abbrev acH:Tree:=(.call 44 [ai 1 0 1,aL 1] [] [] [] (ba 0) dv (.ret (ba 0) [] [] []))
abbrev acI:Tree:=(.a1 (bQ (ah 0) (ae 0)) (.a1 (bO (ae 0) (ah 16)) (.m_ ⟨2,0,none⟩ (.cl 77 (.b6 0 (ae 0) 1 0) (ai 1 0 1) ga acH))))
abbrev O4:Tree:=
(.aC (bO (.un (.wrap .i64) (ae 0)) (ah 16)) acI (.ret (cY false) [] [] []))
theorem acJ:cN prog cW f89 [aL 0,aL 1] [] [] mn=some O4:=by kernel_rfl
theorem acK (i0 i1:Int) (W:al) (R:Ending->World->Prop) (h:O4.ak prog W.w.heap.size R [] {aV:=[i0,i1]} W):bK prog 89 #[.int .u8 i0,.int .u8 i1] W R:=
 dP func89 _ _ {aV:=[i0,i1]} _ acJ (fun v aB=>by cases aB) h
abbrev O5:Tree:=
(.new (.call 44 [.fM 0 0 4 4,aL 0] [⟨0,5,[di 3,di 11,di 12,di 14]⟩] [] [] (ba 0) dv (.ret (ba 0) [] [] [])))
theorem acL:cN prog cW f62 [aL 0] [] [] cg=some O5:=by kernel_rfl
theorem acM (i0:Int) (W:al) (R:Ending->World->Prop) (h:O5.ak prog W.w.heap.size R [] {aV:=[i0]} W):bK prog 62 #[.int .u8 i0] W R:=
 dP func62 _ _ {aV:=[i0]} _ acL (fun v aB=>by cases aB) h
abbrev O6:Tree:=
(.new (.call 44 [.fM 0 0 3 3,aL 0] [⟨0,5,[di 11,di 12,di 13]⟩] [] [] (ba 0) dv (.ret (ba 0) [] [] [])))
theorem acN:cN prog cW f17 [aL 0] [] [] cg=some O6:=by kernel_rfl
theorem acO (i0:Int) (W:al) (R:Ending->World->Prop) (h:O6.ak prog W.w.heap.size R [] {aV:=[i0]} W):bK prog 17 #[.int .u8 i0] W R:=
 dP func17 _ _ {aV:=[i0]} _ acN (fun v aB=>by cases aB) h
abbrev acP:Tree:=(.call 25 [(.agg [aL 0,aq 1,ag 1])] [] [] [] (ba 1) dv (.ret (.bool (cL (cG 1) (bR (aZ (ae 0) (ah 0))))) [] [] []))
abbrev O7:Tree:=
(.new (.call 27 [ag 0] [] [] [] (ba 0) dv (.aC (cG 0) acP (.ret (cY false) [] [] []))))
theorem acQ:cN prog cW f86 [(.agg [ag 0,aL 0,aq 1,ag 1])] [] [] wM=some O7:=by kernel_rfl
theorem acR (i0 i1:Int) (t0 t1:ByteArray) (W:al) (R:Ending->World->Prop) (h:O7.ak prog W.w.heap.size R [] {aV:=[i0,i1],T:=[t0,t1]} W):bK prog 86 #[.agg #[.string t0,.int .u8 i0,.int .i64 i1,.string t1]] W R:=
 dP func86 _ _ {aV:=[i0,i1],T:=[t0,t1]} _ acQ (fun v aB=>by cases aB) h
abbrev acS:Tree:=(.grow (.aC (eW (b9 2) (b9 0)) (.ret (aq 2) [] [] []) (.again 0 [(.int .i64 (.un (.wrap .i64) (bX (ae 2) (ah 1))))] [])))
abbrev acT:Tree:=(.a1 (.sm 0) (.a1 (bQ (ah 0) (ae 2)) (.cl 41 (.b6 0 (ae 2) 4 0) (.agg [ag 2,aL 3,aq 4,ag 3]) wM acS)))
abbrev O8:Tree:=
(.loop [bI 0] [] [aq 2] [] cg (.aC (bO (ae 2) (aG 0)) acT (.ret (bI (-1)) [] [] [])))
theorem acU:cN prog {cW with inl:=[88,131],ei:=[⟨2,[.az 8]⟩]} f112 [ai 0 0 1,(.fn 131 [.ptr 0 0,.ptr 1 0])] [] [⟨0,114,[(.fn 88 [])]⟩,BF] ⟨2,2,0,2,0,1,2,0⟩=some O8:=by kernel_rfl
theorem acV (i0 i1:Int) (ar aQ:Nat) (t0 t1:ByteArray) (a0:Option Addr) (m0 m1:Nat) (W:al) (R:Ending->World->Prop) (fi:W.w.heap[m0]? =some (.cells #[.func (.func 88) #[] #[]] 114)) (fP:W.aV m0) (j8:W.w.heap[m1]? =some (.cells #[.string t0,.int .u8 i0,.int .i64 i1,.string t1] 41)) (p4:W.aV m1) (h:O8.ak prog W.w.heap.size R [] {aV:=[i0,i1],N:=[ar,aQ],T:=[t0,t1],A:=[a0],M:=[m0,m1]} W):bK prog 112 #[.slice a0 ar aQ,.func (.func 131) #[] #[.pointer (some ⟨m0,0,none⟩),.pointer (some ⟨m1,0,none⟩)]] W R:=
 kf func112 _ _ [⟨0,114,[(.fn 88 [])]⟩,BF] {aV:=[i0,i1],N:=[ar,aQ],T:=[t0,t1],A:=[a0],M:=[m0,m1]} _ acU (fun v aB=>by cases aB) (fun b I=>by simp only[dh,eT,or_false] at I;rcases I with rfl|rfl<;>(first|exact fi|exact j8)) (fun b I=>by simp only[dh,eT,or_false] at I;rcases I with rfl|rfl<;>(first|exact fP|exact p4)) h
abbrev O9:Tree:=
(.call 112 [ai 0 0 1,(.fn 131 [.ptr 0 0,.ptr 1 0])] [⟨0,114,[(.fn 88 [])]⟩,BF] [] [] (aq 2) cg (.ret (.bool (bQ (ah 0) (ae 2))) [] [] []))
theorem acW:cN prog {cW with inl:=[88,131]} f130 [ai 0 0 1,(.fn 131 [.ptr 0 0,.ptr 1 0])] [] [⟨0,114,[(.fn 88 [])]⟩,BF] ⟨2,2,0,2,0,1,2,0⟩=some O9:=by kernel_rfl
theorem acX (i0 i1:Int) (ar aQ:Nat) (t0 t1:ByteArray) (a0:Option Addr) (m0 m1:Nat) (W:al) (R:Ending->World->Prop) (fi:W.w.heap[m0]? =some (.cells #[.func (.func 88) #[] #[]] 114)) (fP:W.aV m0) (j8:W.w.heap[m1]? =some (.cells #[.string t0,.int .u8 i0,.int .i64 i1,.string t1] 41)) (p4:W.aV m1) (h:O9.ak prog W.w.heap.size R [] {aV:=[i0,i1],N:=[ar,aQ],T:=[t0,t1],A:=[a0],M:=[m0,m1]} W):bK prog 130 #[.slice a0 ar aQ,.func (.func 131) #[] #[.pointer (some ⟨m0,0,none⟩),.pointer (some ⟨m1,0,none⟩)]] W R:=
 kf func130 _ _ [⟨0,114,[(.fn 88 [])]⟩,BF] {aV:=[i0,i1],N:=[ar,aQ],T:=[t0,t1],A:=[a0],M:=[m0,m1]} _ acW (fun v aB=>by cases aB) (fun b I=>by simp only[dh,eT,or_false] at I;rcases I with rfl|rfl<;>(first|exact fi|exact j8)) (fun b I=>by simp only[dh,eT,or_false] at I;rcases I with rfl|rfl<;>(first|exact fP|exact p4)) h
abbrev acY:Tree:=(.eM [⟨1,41,[ag 0,aL 1,aq 2,ag 1]⟩] (.again 0 [(.int .i64 (.un (.wrap .i64) (bX (ae 0) (ah 1))))] []))
abbrev acZ:Tree:=(.a1 (bQ (ae 0) (aG 1)) (.sub 0 (ah 0) (ae 0) (aG 1) 4 (.call 130 [ai 1 2 1,(.fn 131 [.ptr 0 0,.ptr 1 0])] [⟨1,41,[ag 0,aL 1,aq 2,ag 1]⟩,⟨0,114,[(.fn 88 [])]⟩] [] [] (ba 1) dv (.aC (cG 1) (.ret (cY false) [] [] []) acY))))
abbrev ac0:Tree:=(.new (.wr (.call 86 [(.agg [ag 0,aL 1,aq 2,ag 1])] [] [] [] (ba 0) dv (.aC (cG 0) acZ (.ret (cY false) [] [] [])))))
abbrev ac1:Tree:=(.a1 (.sm 0) (.a1 (bQ (ah 0) (ae 0)) (.cl 41 (.b6 0 (ae 0) 4 0) (.agg [ag 0,aL 1,aq 2,ag 1]) wM ac0)))
abbrev O_:Tree:=
(.new (.loop [bI 0] [] [aq 0] [] cg (.aC (bO (ae 0) (aG 0)) ac1 (.ret (cY true) [] [] []))))
theorem ac2:cN prog {cW with ei:=[⟨2,[.az 11]⟩]} f87 [ai 0 0 1,(.fn 88 []),(.fn 86 [])] [] [] ga=some O_:=by kernel_rfl
theorem ac3 (ar aQ:Nat) (a0:Option Addr) (W:al) (R:Ending->World->Prop) (h:O_.ak prog W.w.heap.size R [] {N:=[ar,aQ],A:=[a0]} W):bK prog 87 #[.slice a0 ar aQ,.func (.func 88) #[] #[],.func (.func 86) #[] #[]] W R:=
 dP func87 _ _ {N:=[ar,aQ],A:=[a0]} _ ac2 (fun v aB=>by cases aB) h
abbrev ac4:Tree:=(.aC (bR (cG 0)) (.ret (bI 4) [] [] []) (.ret (bI 0) [] [] []))
abbrev ac5:Tree:=(.call 87 [ai 0 0 1,(.fn 88 []),(.fn 86 [])] [] [] [] (ba 0) dv ac4)
abbrev Pa:Tree:=
(.aC (bO (ah 8) (aG 0)) (.ret (bI 40) [] [] []) ac5)
theorem ac6:cN prog cW f47 [ai 0 0 1] [] [] ga=some Pa:=by kernel_rfl
theorem ac7 (ar aQ:Nat) (a0:Option Addr) (W:al) (R:Ending->World->Prop) (h:Pa.ak prog W.w.heap.size R [] {N:=[ar,aQ],A:=[a0]} W):bK prog 47 #[.slice a0 ar aQ] W R:=
 dP func47 _ _ {N:=[ar,aQ],A:=[a0]} _ ac6 (fun v aB=>by cases aB) h
abbrev ac8:Tree:=(.grow (.aC (eW (b9 1) (b9 0)) (.ret (aq 0) [] [] []) (.again 0 [(.int .i64 (.un (.wrap .i64) (bX (ae 0) (ah 1))))] [])))
abbrev ac9:Tree:=(.a1 (.sm 0) (.a1 (bQ (ah 0) (ae 0)) (.cl 9 (.b6 0 (ae 0) 1 0) (ag 1) ie ac8)))
abbrev Pb:Tree:=
(.loop [bI 0] [] [aq 0] [] cg (.aC (bO (ae 0) (aG 0)) ac9 (.ret (bI (-1)) [] [] [])))
theorem ac_:cN prog {cW with inl:=[103,133],ei:=[⟨2,[.az 8]⟩]} f163 [ai 0 0 1,(.fn 133 [.ptr 0 0,.ptr 1 0])] [] [⟨0,130,[(.fn 103 [])]⟩,⟨1,9,[ag 0]⟩] ⟨0,2,0,1,0,1,2,0⟩=some Pb:=by kernel_rfl
theorem ada (ar aQ:Nat) (t0:ByteArray) (a0:Option Addr) (m0 m1:Nat) (W:al) (R:Ending->World->Prop) (fi:W.w.heap[m0]? =some (.cells #[.func (.func 103) #[] #[]] 130)) (fP:W.aV m0) (j8:W.w.heap[m1]? =some (.cells #[.string t0] 9)) (p4:W.aV m1) (h:Pb.ak prog W.w.heap.size R [] {N:=[ar,aQ],T:=[t0],A:=[a0],M:=[m0,m1]} W):bK prog 163 #[.slice a0 ar aQ,.func (.func 133) #[] #[.pointer (some ⟨m0,0,none⟩),.pointer (some ⟨m1,0,none⟩)]] W R:=
 kf func163 _ _ [⟨0,130,[(.fn 103 [])]⟩,⟨1,9,[ag 0]⟩] {N:=[ar,aQ],T:=[t0],A:=[a0],M:=[m0,m1]} _ ac_ (fun v aB=>by cases aB) (fun b I=>by simp only[dh,eT,or_false] at I;rcases I with rfl|rfl<;>(first|exact fi|exact j8)) (fun b I=>by simp only[dh,eT,or_false] at I;rcases I with rfl|rfl<;>(first|exact fP|exact p4)) h
abbrev Pc:Tree:=
(.call 163 [ai 0 0 1,(.fn 133 [.ptr 0 0,.ptr 1 0])] [⟨0,130,[(.fn 103 [])]⟩,⟨1,9,[ag 0]⟩] [] [] (aq 0) cg (.ret (.bool (bQ (ah 0) (ae 0))) [] [] []))
theorem adb:cN prog {cW with inl:=[103,133]} f132 [ai 0 0 1,(.fn 133 [.ptr 0 0,.ptr 1 0])] [] [⟨0,130,[(.fn 103 [])]⟩,⟨1,9,[ag 0]⟩] ⟨0,2,0,1,0,1,2,0⟩=some Pc:=by kernel_rfl
theorem ade (ar aQ:Nat) (t0:ByteArray) (a0:Option Addr) (m0 m1:Nat) (W:al) (R:Ending->World->Prop) (fi:W.w.heap[m0]? =some (.cells #[.func (.func 103) #[] #[]] 130)) (fP:W.aV m0) (j8:W.w.heap[m1]? =some (.cells #[.string t0] 9)) (p4:W.aV m1) (h:Pc.ak prog W.w.heap.size R [] {N:=[ar,aQ],T:=[t0],A:=[a0],M:=[m0,m1]} W):bK prog 132 #[.slice a0 ar aQ,.func (.func 133) #[] #[.pointer (some ⟨m0,0,none⟩),.pointer (some ⟨m1,0,none⟩)]] W R:=
 kf func132 _ _ [⟨0,130,[(.fn 103 [])]⟩,⟨1,9,[ag 0]⟩] {N:=[ar,aQ],T:=[t0],A:=[a0],M:=[m0,m1]} _ adb (fun v aB=>by cases aB) (fun b I=>by simp only[dh,eT,or_false] at I;rcases I with rfl|rfl<;>(first|exact fi|exact j8)) (fun b I=>by simp only[dh,eT,or_false] at I;rcases I with rfl|rfl<;>(first|exact fP|exact p4)) h
abbrev adf:Tree:=(.eM [⟨1,9,[ag 0]⟩] (.again 0 [(.int .i64 (.un (.wrap .i64) (bX (ae 0) (ah 1))))] []))
abbrev adg:Tree:=(.a1 (bQ (ae 0) (aG 1)) (.sub 0 (ah 0) (ae 0) (aG 1) 1 (.call 132 [ai 1 2 1,(.fn 133 [.ptr 0 0,.ptr 1 0])] [⟨1,9,[ag 0]⟩,⟨0,130,[(.fn 103 [])]⟩] [] [] (ba 1) dv (.aC (cG 1) (.ret (cY false) [] [] []) adf))))
abbrev adh:Tree:=(.new (.wr (.call 27 [ag 0] [] [] [] (ba 0) dv (.aC (cG 0) adg (.ret (cY false) [] [] [])))))
abbrev adi:Tree:=(.a1 (.sm 0) (.a1 (bQ (ah 0) (ae 0)) (.cl 9 (.b6 0 (ae 0) 1 0) (ag 0) ie adh)))
abbrev Pd:Tree:=
(.new (.loop [bI 0] [] [aq 0] [] cg (.aC (bO (ae 0) (aG 0)) adi (.ret (cY true) [] [] []))))
theorem adj:cN prog {cW with ei:=[⟨2,[.az 11]⟩]} f102 [ai 0 0 1,(.fn 103 []),(.fn 27 [])] [] [] ga=some Pd:=by kernel_rfl
theorem adk (ar aQ:Nat) (a0:Option Addr) (W:al) (R:Ending->World->Prop) (h:Pd.ak prog W.w.heap.size R [] {N:=[ar,aQ],A:=[a0]} W):bK prog 102 #[.slice a0 ar aQ,.func (.func 103) #[] #[],.func (.func 27) #[] #[]] W R:=
 dP func102 _ _ {N:=[ar,aQ],A:=[a0]} _ adj (fun v aB=>by cases aB) h
def gO (x:ab.aM):Value:=.string ⟨x.toArray⟩
def lk (l:List ab.aM):List Value:=l.flatMap fun s=>[gO s]
theorem nP:hr prog 9=some false:=by kernel_rfl
structure iL (W:al):Prop where
 dm:∃ty,W.w.heap[0]? =some (.cells (lk ab.qT).toArray ty)
 EC:W.aV 0
 ev:∃(hS:List (Option Addr×Nat)) (ty:TypeId),hS.length=16∧W.w.heap[2]? =some (.cells ((List.range 16).map fun i=>Value.slice (hS.getD i (none,0)).1 (ab.mT.getD i []).length (hS.getD i (none,0)).2).toArray ty)∧
  ∀i,i<16->b_ W (hS.getD i (none,0)).1 (ab.mT.getD i []).length (hS.getD i (none,0)).2 1 (rJ (ab.mT.getD i []))
 Iw:W.aV 2
theorem iL.ext {W W':al} (h:iL W) (x:Ext W W'):iL W':=by
 obtain⟨ty,J⟩:=h.dm;obtain⟨hS,DP,an,aI,cc⟩:=h.ev;exact⟨⟨ty,by rw[x.du _ h.EC];exact J⟩,x.sub _ h.EC,⟨hS,DP,an,by rw[x.du _ h.Iw];exact aI,fun i a8=>(cc i a8).ext x⟩,x.sub _ h.Iw⟩
theorem adl (s:ab.aM) (l:List ab.aM) (a:Option Addr) (c:Nat) (W:al) (aO:l.length<=1000000) (ct:b_ W a l.length c 1 (lk l)):
  gR prog 116 #[.slice a l.length c,.string ⟨s.toArray⟩] W.all fun v w'=>∃r:Int,v= .int .i64 r∧er 0 r=l.any (· ==s):=by
 refine acq l.length c ⟨s.toArray⟩ a W.all _ ?_;refine dJ (fun aj vs ls _=>∃i:Nat,vs=[.int .i64 (i:Nat)]∧ls=[]∧i<=l.length∧aj=l.length-i∧l.any (· ==s)=(l.drop i).any (· ==s)) l.length ⟨0,by simp[U],rfl,dr _,rfl,rfl⟩ ?_;rintro aj vs fG cn bH ⟨i,rfl,rfl,a8,rfl,bl⟩;have gM:=aD W.dw bH;refine⟨(i:Int),rfl,rfl,fun _=>aK (fun aJ=>?_) fun aJ=>aP fun _ _ _=>⟨_,rfl,-1,rfl,?_⟩⟩
 ·simp only[U,cX] at aJ;have cp:i<l.length:=by omega
  have j:l[i]? =some l[i]:=dn cp;have hP:l.any (· ==s)=((l[i]==s)||(l.drop (i+1)).any (· ==s)):=by rw[bl,h4 cp];rfl
  refine a6 ?_ (a6 ?_ (cI ⟨⟨l[i].toArray⟩,fun cq bo=>?_,?_⟩))
  ·simp only[E.b,aR,aX.push];exact b_.dL ct (by omega)
  ·simp only[U];exact c_ (by omega)
  ·have:=ed (P:=prog) (f:=fun s=>[gO s]) (sz:=1) (fun _=>rfl) ct nP (k:=0) j (by decide) (u:=gO l[i]) rfl (aD gM bo);simp only[U] at this ⊢;exact this
  ·simp only[aU];refine aK (fun c2=>aP fun _ _ _=>⟨_,rfl,(i:Int),rfl,?_⟩) fun c2=>b1 ⟨l.length-(i+1),by omega,i+1,?_,rfl,by omega,rfl,?_⟩
   ·have c2:(l[i]==s)=true:=by simp only[U,tC] at c2;rw[<-c2];exact Bool.beq_comm ..
    rw[hP,c2];exact c_ (by omega)
   ·simp only[U];rw[cE (by omega) (by omega)];rfl
   ·have c2:(l[i]==s)=false:=by simp only[U,tC] at c2;rw[<-c2];exact Bool.beq_comm ..
    rw[hP,c2,kr]
 ·simp only[U,c7] at aJ;rw[bl,fV (by omega)];rfl
theorem adm (s:ab.aM) (l:List ab.aM) (a:Option Addr) (c:Nat) (W:al) (aO:l.length<=1000000) (ct:hN W.w a l.length c 1 (lk l)):
  da prog 59 #[.slice a l.length c,.string ⟨s.toArray⟩] W (.bool (l.any (· ==s))):=by
 refine acs l.length c ⟨s.toArray⟩ a W.all _ ?_;refine iV (fun _ _=>adl s l a c W.all aO ct.all) fun v w' _ ⟨r,aB,aw⟩=>⟨r,aB,fun cn _ _ _=>aP fun _ _ _=>⟨_,rfl,?_⟩⟩
 show Value.bool (er 0 r)=_;rw[aw]
theorem adn (s:Int) (l:List Int) (a:Option Addr) (c:Nat) (W:al) (aO:l.length<=1000000) (ct:b_ W a l.length c 1 (rJ l)):
  gR prog 85 #[.slice a l.length c,.int .u8 s] W.all fun v w'=>∃r:Int,v= .int .i64 r∧er 0 r=l.contains s:=by
 refine acx s l.length c a W.all _ ?_;refine dJ (fun aj vs ls _=>∃i:Nat,vs=[.int .i64 (i:Nat)]∧ls=[]∧i<=l.length∧aj=l.length-i∧l.contains s=(l.drop i).contains s) l.length ⟨0,by simp[U],rfl,dr _,rfl,rfl⟩ ?_;rintro aj vs fG cn bH ⟨i,rfl,rfl,a8,rfl,bl⟩;have gM:=aD W.dw bH;refine⟨(i:Int),rfl,rfl,fun _=>aK (fun aJ=>?_) fun aJ=>aP fun _ _ _=>⟨_,rfl,-1,rfl,?_⟩⟩
 ·simp only[U,cX] at aJ;have cp:i<l.length:=by omega
  have j:l[i]? =some l[i]:=dn cp;have hP:l.contains s=((s==l[i])||(l.drop (i+1)).contains s):=by rw[bl,h4 cp];rfl
  refine a6 ?_ (a6 ?_ (cI ⟨l[i],fun cq bo=>?_,?_⟩))
  ·simp only[E.b,aR,aX.push];exact b_.dL ct (by omega)
  ·simp only[U];exact c_ (by omega)
  ·have:=ed (P:=prog) (f:=fun t=>[Value.int .u8 t]) (sz:=1) (fun _=>rfl) ct pr (k:=0) j (by decide) (u:=.int .u8 l[i]) rfl (aD gM bo);simp only[U] at this ⊢;exact this
  ·simp only[aU];refine aK (fun c2=>aP fun _ _ _=>⟨_,rfl,(i:Int),rfl,?_⟩) fun c2=>b1 ⟨l.length-(i+1),by omega,i+1,?_,rfl,by omega,rfl,?_⟩
   ·have c2:(s==l[i])=true:=by simpa only[U] using c2
    rw[hP,c2];exact c_ (by omega)
   ·simp only[U];rw[cE (by omega) (by omega)];rfl
   ·have c2:(s==l[i])=false:=by simpa only[U] using c2
    rw[hP,c2,kr]
 ·simp only[U,c7] at aJ;rw[bl,fV (by omega)];rfl
theorem Ix (s:Int) (l:List Int) (a:Option Addr) (c:Nat) (W:al) (aO:l.length<=1000000) (ct:hN W.w a l.length c 1 (rJ l)):
  da prog 44 #[.slice a l.length c,.int .u8 s] W (.bool (l.contains s)):=by
 refine acz s l.length c a W.all _ ?_;refine iV (fun _ _=>adn s l a c W.all aO ct.all) fun v w' _ ⟨r,aB,aw⟩=>⟨r,aB,fun cn _ _ _=>aP fun _ _ _=>⟨_,rfl,?_⟩⟩
 show Value.bool (er 0 r)=_;rw[aw]
theorem ado (k:Int) (W:al):da prog 62 #[.int .u8 k] W (.bool (ab.act k)):=by
 refine acM k W.all _ ?_;refine bY fun m W1 _ bM=>b5 (fun I _=>Ix k [3,11,12,14] (some ⟨m,0,none⟩) 4 W1 (by decide) (pj (I _ (bd.2 rfl)) rfl)) ⟨ab.act k,rfl,fun cn bH=>aP fun _ _ _=>⟨_,rfl,rfl⟩⟩
theorem ED (k:Int) (W:al):da prog 17 #[.int .u8 k] W (.bool (ab.scope k)):=by
 refine acO k W.all _ ?_;refine bY fun m W1 _ bM=>b5 (fun I _=>Ix k [11,12,13] (some ⟨m,0,none⟩) 3 W1 (by decide) (pj (I _ (bd.2 rfl)) rfl)) ⟨ab.scope k,rfl,fun cn bH=>aP fun _ _ _=>⟨_,rfl,rfl⟩⟩
theorem adp (k e:Int) (Pe:0<=k) (aA:k<256) (W:al) (b7:iL W):da prog 89 #[.int .u8 k,.int .u8 e] W (.bool (ab.event k e)):=by
 have b7:=b7.ext W.dw;refine acK k e W.all _ ?_;have hw:IntKind.i64.wrap k=k:=cE (by omega) (by omega);refine aK (fun aJ=>?_) fun aJ=>aP fun _ _ _=>⟨_,rfl,?_⟩
 ·simp only[U,cX] at aJ;rw[hw] at aJ;obtain⟨hS,ty,J,an,aI⟩:=b7.ev;obtain⟨i,rfl⟩:∃i:Nat,k=(i:Int):=⟨k.toNat,by omega⟩;have a8:i<16:=by omega
  refine a6 ?_ (a6 ?_ (Bm ?_))
  ·simp only[U];exact c_ (by omega)
  ·simp only[U];exact dW (by omega)
  simp only[aU];refine cI ⟨(ab.mT.getD i []).length,(hS.getD i (none,0)).2,(hS.getD i (none,0)).1,fun V fC=>?_,?_⟩
  ·have:=Iv (t:=77) an b7.Iw (by kernel_rfl) (i:=i) (u:=Value.slice (hS.getD i (none,0)).1 (ab.mT.getD i []).length (hS.getD i (none,0)).2) (by simp[a8]) fC;simp only[U] at this ⊢;exact this
  simp only[aU]
  have eU:(ab.mT.getD i []).length<=1000000:=by
   have:∀aj,aj<16->(ab.mT.getD aj []).length<=10:=by decide
   have:=this i a8;omega
  refine b5 (fun _ _=>Ix e (ab.mT.getD i []) _ _ W.all eU (eD.w (aI i a8))) ⟨(ab.mT.getD i []).contains e,rfl,fun cn bH=>aP fun _ _ _=>⟨_,rfl,?_⟩⟩;simp[U,ab.event,af.ak,E.b,aR,aX.push];omega
 ·simp only[U,c7] at aJ;rw[hw] at aJ;have:ab.event k e=false:=by simp[ab.event];intro h;omega
  rw[this];rfl
theorem lH (s:ab.aM):(⟨s.toArray⟩:ByteArray).size=s.length:=by simp[ByteArray.size]
theorem adq (s:ab.aM) (i:Nat) (h:i<s.length):(⟨s.toArray⟩:ByteArray).data.toList.getD i 0=s[i]:=by simp[List.getD,h]
theorem w5 (s:ab.aM) (W:al) (b7:iL W):da prog 27 #[.string ⟨s.toArray⟩] W (.bool (ab.name s)):=by
 have b7:=b7.ext W.dw;refine acG ⟨s.toArray⟩ W.all _ ?_;refine aK (fun aJ=>?_) fun aJ=>aP fun _ _ _=>⟨_,rfl,?_⟩
 ·have aJ:(s==[]||decide (12<s.length))=false:=by
   simp only[U,lH] at aJ;have aJ:¬s=[]∧(s.length:Int)<=12:=by simpa[eg] using aJ
   simp[aJ.1];omega
  obtain⟨ty,aw⟩:=b7.dm;refine Bm ?_;simp only[aU];have c1:b_ W.all (some ⟨0,0,none⟩) 3 3 1 (lk ab.qT):=⟨rfl,e9 _,.inr ⟨_,0,rfl,b7.EC,W.all.lt _ b7.EC,fun aj u hu=>by simp[World.cell?,aw,hu]⟩⟩;refine b5 (fun _ _=>adm s ab.qT _ 3 W.all (by decide) (eD.w c1)) ⟨ab.qT.any (· ==s),rfl,fun W1 bM=>?_⟩;simp only[aU]
  have u5:ab.qT.contains s=ab.qT.any (· ==s):=by
   rw[List.contains_eq_any_beq];congr 1;funext y;exact Bool.beq_comm ..
  refine aK (fun c2=>aP fun _ _ _=>⟨_,rfl,?_⟩) fun c2=>?_
  ·have c2:ab.qT.any (· ==s)=true:=c2;rw[ab.name,aJ,u5,c2];rfl
  ·have c2:ab.qT.any (· ==s)=false:=c2;have w3:ab.name s=ab.nameAt 0 s:=by rw[ab.name,aJ,u5,c2];rfl
   have kF:s.length<=12:=by simp at aJ;omega
   refine W8 fun m c cn bH bf fr I aH=>?_
   simp only[aU];refine dJ (fun aj vs ls _=>∃i:Nat,vs=[.int .i64 (i:Nat)]∧ls=[]∧i<=s.length∧aj=s.length-i∧ab.nameAt 0 s=ab.nameAt i (s.drop i)) s.length ⟨0,by simp[U],rfl,dr _,rfl,rfl⟩ ?_;rintro aj vs fG cq bo ⟨i,rfl,rfl,a8,rfl,bl⟩;refine⟨(i:Int),rfl,rfl,fun _=>aK (fun c3=>?_) fun c3=>aP fun _ _ _=>⟨_,rfl,?_⟩⟩
   ·simp only[U,cX,lH] at c3;have cp:i<s.length:=by omega
    have hP:ab.nameAt 0 s=((ab.low s[i]||(decide (0<i)&&ab.lR s[i]))&&ab.nameAt (i+1) (s.drop (i+1))):=by rw[bl,h4 cp];rfl
    refine a6 ?_ (a6 ?_ (cI ⟨(s[i].toNat:Int),fun dH cd=>?_,?_⟩))
    ·rfl
    ·simp only[U];exact c_ (by omega)
    ·have J:=I i (by simp only[U,lH];omega);simp only[U,adq s i cp] at J;simp only[U];refine D6 pr ?_;simp only[ny,Nat.mul_one,ff];rw[ky,mY,D5 (aD bo cd) bf];exact J
    ·simp only[aU];refine aK (fun c4=>b1 ⟨s.length-(i+1),by omega,i+1,?_,rfl,by omega,rfl,?_⟩) fun c4=>aK (fun c5=>b1 ⟨s.length-(i+1),by omega,i+1,?_,rfl,by omega,rfl,?_⟩) fun c5=>aP fun _ _ _=>⟨_,rfl,?_⟩
     ·simp only[U];rw[cE (by omega) (by omega)];rfl
     ·have c4:ab.low s[i]=true:=by simp only[U] at c4;unfold ab.low;simpa[er] using c4
      rw[hP,c4];rfl
     ·simp only[U];rw[cE (by omega) (by omega)];rfl
     ·have c5:(decide (0<i)&&ab.lR s[i])=true:=by
       simp only[U] at c5;unfold ab.lR;simpa[eg,er] using c5
      rw[hP,c5];simp
     ·have c4:ab.low s[i]=false:=by simp only[U] at c4;unfold ab.low;simpa[er] using c4
      have c5:(decide (0<i)&&ab.lR s[i])=false:=by
       simp only[U] at c5;unfold ab.lR;simpa[eg,er] using c5
      rw[w3,hP,c4,c5];rfl
   ·simp only[U,c7,lH] at c3;rw[w3,bl,fV (by omega)];rfl
 ·have aJ:(s==[]||decide (12<s.length))=true:=by
   simp only[U,lH] at aJ;have aJ:¬s=[]->12<(s.length:Int):=by simpa[eg] using aJ
   by_cases h:s=[]
   ·simp[h]
   ·have:=aJ h;simp;right;omega
  rw[ab.name,aJ];rfl
end Go.Proofs.YtkpjmlnhhggenaaGreatDoor
end
section
namespace ab
open Go
end ab
namespace Go.Proofs.YtkpjmlnhhggenaaGreatDoor
open Go.Proofs.Tryz Go Go.RowKit Go.cK
def n6 (v:ab.Var):Prop:=v.t.length<=9223372036854775807
theorem adr (v:ab.Var) (bs:n6 v) (W:al) (b7:iL W):da prog 86 #[.agg (e7 v).toArray] W (.bool (ab.jl v)):=by
 have b7:=b7.ext W.dw;refine acR v.k v.n ⟨v.name.toArray⟩ ⟨v.t.toArray⟩ W.all _ ?_;refine bY fun m W1 _ bM=>b5 (fun _ _=>w5 v.name W1 (b7.ext bM)) ⟨ab.name v.name,rfl,fun cn bH=>?_⟩
 simp only[aU];refine aK (fun c=>?_) fun c=>aP fun _ _ _=>⟨_,rfl,?_⟩
 ·have c:ab.name v.name=true:=c;refine b5 (fun _ _=>Iq.D2 v.k v.n ⟨v.t.toArray⟩ (by have h:=bs;unfold n6 at h;simpa[ByteArray.size] using h) cn) ⟨fv.en ⟨v.k,v.n,⟨v.t.toArray⟩⟩,rfl,fun cq bo=>aP fun _ _ _=>⟨_,rfl,?_⟩⟩;rw[ab.jl,c,eX];rfl
 ·have c:ab.name v.name=false:=c;rw[ab.jl,c];rfl
theorem ads (x:ab.Var) (l:List ab.Var) (a:Option Addr) (c:Nat) (p q:Nat) (W:al) (aO:l.length<=1000000) (ct:pt W a c l) (hp:W.w.heap[p]? =some (.cells #[.func (.func 88) #[] #[]] 114)) (tF:W.aV p) (bg:W.w.heap[q]? =some (.cells (e7 x).toArray 41)) (tG:W.aV q):
  gR prog 112 #[.slice a l.length c,.func (.func 131) #[] #[.pointer (some ⟨p,0,none⟩),.pointer (some ⟨q,0,none⟩)]] W.all fun v w'=>∃r:Int,v= .int .i64 r∧er 0 r=l.any fun y=>y.name==x.name:=by
 refine acV x.k x.n l.length c ⟨x.name.toArray⟩ ⟨x.t.toArray⟩ a p q W.all _ hp (W.lt p tF) bg (W.lt q tG) ?_;refine dJ (fun aj vs ls _=>∃i:Nat,vs=[.int .i64 (i:Nat)]∧ls=[]∧i<=l.length∧aj=l.length-i∧(l.any fun y=>y.name==x.name)=((l.drop i).any fun y=>y.name==x.name)) l.length ⟨0,by simp[U],rfl,dr _,rfl,rfl⟩ ?_;rintro aj vs fG cn bH ⟨i,rfl,rfl,a8,rfl,bl⟩;have gM:=aD W.dw bH;refine⟨(i:Int),rfl,rfl,fun _=>aK (fun aJ=>?_) fun aJ=>aP fun _ _ _=>⟨_,rfl,-1,rfl,?_⟩⟩
 ·simp only[U,cX] at aJ;have cp:i<l.length:=by omega
  have j:l[i]? =some l[i]:=dn cp;have hP:(l.any fun y=>y.name==x.name)=((l[i].name==x.name)||((l.drop (i+1)).any fun y=>y.name==x.name)):=by rw[bl,h4 cp];rfl
  refine a6 ?_ (a6 ?_ (cI ⟨l[i].k,l[i].n,⟨l[i].name.toArray⟩,⟨l[i].t.toArray⟩,fun cq bo=>?_,?_⟩))
  ·simp only[E.b,aR,aX.push];exact b_.dL ct (by omega)
  ·simp only[U];exact c_ (by omega)
  ·have:=gh (P:=prog) mv (by decide) ct Ew Ex j (aD gM bo);simp only[U,ff] at this ⊢;exact this
  ·simp only[aU];refine cj fun cq bo=>aK (fun c2=>aP fun _ _ _=>⟨_,rfl,(i:Int),rfl,?_⟩) fun c2=>b1 ⟨l.length-(i+1),by omega,i+1,?_,rfl,by omega,rfl,?_⟩
   ·have c2:(l[i].name==x.name)=true:=by simpa only[U,tC] using c2
    rw[hP,c2];exact c_ (by omega)
   ·simp only[U];rw[cE (by omega) (by omega)];rfl
   ·have c2:(l[i].name==x.name)=false:=by simpa only[U,tC] using c2
    rw[hP,c2,kr]
 ·simp only[U,c7] at aJ;rw[bl,fV (by omega)];rfl
theorem adt (x:ab.Var) (l:List ab.Var) (a:Option Addr) (c:Nat) (p q:Nat) (W:al) (aO:l.length<=1000000) (ct:hN W.w a l.length c 4 (l.flatMap e7)) (hp:W.w.heap[p]? =some (.cells #[.func (.func 88) #[] #[]] 114)) (bg:W.w.heap[q]? =some (.cells (e7 x).toArray 41)):
  da prog 130 #[.slice a l.length c,.func (.func 131) #[] #[.pointer (some ⟨p,0,none⟩),.pointer (some ⟨q,0,none⟩)]] W (.bool (l.any fun y=>y.name==x.name)):=by
 have tF:p<W.w.heap.size:=(fq.1 hp).1;have tG:q<W.w.heap.size:=(fq.1 bg).1;refine acX x.k x.n l.length c ⟨x.name.toArray⟩ ⟨x.t.toArray⟩ a p q W.all _ hp tF bg tG ?_;refine iV (fun _ _=>ads x l a c p q W.all aO ct.all hp tF bg tG) fun v w' _ ⟨r,aB,aw⟩=>⟨r,aB,fun cn _ _ _=>aP fun _ _ _=>⟨_,rfl,?_⟩⟩
 show Value.bool (er 0 r)=_;rw[aw]
theorem Iy {w:World} {eV:Nat->Prop} {a:Option Addr} {n c sz:Nat} {xs:List Value} (h:eD w eV a n c sz xs) {i:Nat} (a8:i<=n):eD w eV a i c sz (xs.take (i*sz)):=by
 obtain⟨J,an,aI⟩:=h;have hm:=sR sz a8;refine⟨by rw[mX,J];omega,by omega,?_⟩;rcases aI with⟨_,rfl,rfl⟩|⟨b,o,rfl,bf,I,aH⟩
 ·exact .inl ⟨trivial,by omega,rfl⟩
 ·refine .inr ⟨b,o,rfl,bf,I,fun aj u hu=>aH aj u ?_⟩;rw[oX] at hu;split at hu
  ·exact hu
  ·cases hu
theorem Iz (a:Option Addr) (c sz:Nat):jw a 0 c sz=a:=by
 unfold jw;cases a<;>simp[Addr.add]
theorem EE {α:Type} {f:α->List Value} {sz:Nat} (bs:∀x,(f x).length=sz):∀(l:List α) (i:Nat),(l.flatMap f).take (i*sz)=(l.take i).flatMap f
 |[],i=>by simp
 |x::l,0=>by simp
 |x::l,i+1=>by
  rw[rW,List.take_succ_cons,rW,List.take_append,bs,<-EE bs l i];rw[sQ (by rw[bs];rw[Nat.succ_mul];omega)];congr 2;rw[Nat.succ_mul];omega
theorem adu (l:List ab.Var) (a:Option Addr) (c:Nat) (W:al) (aO:l.length<=1000000) (bs:∀v∈l,n6 v) (ct:hN W.w a l.length c 4 (l.flatMap e7)) (b7:iL W):
  da prog 87 #[.slice a l.length c,.func (.func 88) #[] #[],.func (.func 86) #[] #[]] W (.bool (ab.hE (·.name) ab.jl [] l)):=by
 have b7:=b7.ext W.dw;have ct:=ct.all;refine ac3 l.length c a W.all _ ?_;refine bY fun m W1 hm bM=>?_
 refine dJ (fun aj vs ls _=>∃i:Nat,vs=[.int .i64 (i:Nat)]∧ls=[]∧i<=l.length∧aj=l.length-i∧ab.hE (·.name) ab.jl [] l=ab.hE (·.name) ab.jl (l.take i) (l.drop i)) l.length ⟨0,by simp[U],rfl,dr _,rfl,by simp⟩ ?_;rintro aj vs fG cn bH ⟨i,rfl,rfl,a8,rfl,bl⟩;have dG:=aD bM bH;refine⟨(i:Int),rfl,rfl,fun _=>aK (fun aJ=>?_) fun aJ=>aP fun _ _ _=>⟨_,rfl,?_⟩⟩
 ·simp only[U,cX] at aJ;have cp:i<l.length:=by omega
  have j:l[i]? =some l[i]:=dn cp
  have hP:ab.hE (·.name) ab.jl [] l=(ab.jl l[i]&&(!((l.take i).any fun y=>y.name==l[i].name)&&ab.hE (·.name) ab.jl (l.take (i+1)) (l.drop (i+1)))):=by
   rw[bl,h4 cp,o0 cp];rfl
  refine a6 ?_ (a6 ?_ (cI ⟨l[i].k,l[i].n,⟨l[i].name.toArray⟩,⟨l[i].t.toArray⟩,fun cq bo=>?_,?_⟩))
  ·simp only[E.b,aR,aX.push];exact b_.dL ct (by omega)
  ·simp only[U];exact c_ (by omega)
  ·have:=gh (P:=prog) mv (by decide) ct Ew Ex j (aD dG bo);simp only[U,ff] at this ⊢;exact this
  simp only[aU];refine bY fun m2 cq _ bo=>bS fun dH cd=>?_
  simp only[aU];have dO:=aD dG (aD bo cd);have bg:=adr l[i] (bs _ (h9 cp)) dH (b7.ext dO);refine b5 (v:=.bool (ab.jl l[i])) (fun _ _=>bg) ⟨ab.jl l[i],rfl,fun dI cA=>?_⟩;simp only[aU];have ej:=aD dO cA;refine aK (fun c2=>?_) fun c2=>aP fun _ _ _=>⟨_,rfl,?_⟩
  ·have c2:ab.jl l[i]=true:=c2;refine a6 (by simp only[U];exact c_ (by have:=ct.2.1;omega)) (tt ?_);simp only[aU];have cC:b_ dI a i c 4 ((l.take i).flatMap e7):=by rw[<-EE mv];exact Iy (ct.ext ej) a8
   have eU:(l.take i).length=i:=by rw[mX];omega
   refine b5 (fun I _=>?_) ⟨(l.take i).any fun y=>y.name==l[i].name,rfl,fun cV bU=>?_⟩
   ·have:=adt l[i] (l.take i) a c m m2 dI (by omega) (by rw[eU];exact eD.w cC) (I _ (dq _ (bd.2 rfl))) (I _ (c6 ..));rw[eU] at this;simp only[af.b2,af.ak,E.i,aR,eH,uc,Nat.sub_zero,Iz];exact this
   simp only[aU];refine aK (fun c3=>aP fun _ _ _=>⟨_,rfl,?_⟩) fun c3=>eC fun dQ _ df _ _=>b1 ⟨l.length-(i+1),by omega,i+1,?_,rfl,by omega,rfl,?_⟩
   ·have c3:((l.take i).any fun y=>y.name==l[i].name)=true:=c3;rw[hP,c3];simp[af.ak,E.b]
   ·simp only[U];rw[cE (by omega) (by omega)];rfl
   ·have c3:((l.take i).any fun y=>y.name==l[i].name)=false:=c3;rw[hP,c2,c3];rfl
  ·have c2:ab.jl l[i]=false:=c2;rw[hP,c2];rfl
 ·simp only[U,c7] at aJ;rw[bl,fV (by omega)];rfl
theorem Pf (l:List ab.Var) (a:Option Addr) (c:Nat) (W:al) (aO:l.length<=1000000) (bs:∀v∈l,n6 v) (ct:hN W.w a l.length c 4 (l.flatMap e7)) (b7:iL W):
  da prog 47 #[.slice a l.length c] W (.int .i64 (ab.vars l)):=by
 refine ac7 l.length c a W.all _ ?_;refine aK (fun aJ=>aP fun _ _ _=>⟨_,rfl,?_⟩) fun aJ=>?_
 ·simp only[U,cX] at aJ;rw[ab.vars,if_pos (by omega)];rfl
 ·simp only[U,c7] at aJ;refine b5 (fun _ _=>adu l a c W.all aO bs ct (b7.ext W.dw)) ⟨ab.hE (·.name) ab.jl [] l,rfl,fun cn bH=>?_⟩;simp only[aU];rw[ab.vars,if_neg (by omega)];refine aK (fun c2=>aP fun _ _ _=>⟨_,rfl,?_⟩) fun c2=>aP fun _ _ _=>⟨_,rfl,?_⟩
  ·have c2:ab.hE (·.name) ab.jl [] l=false:=by simpa only[U,hq] using c2
   rw[c2];rfl
  ·have c2:ab.hE (·.name) ab.jl [] l=true:=by simpa only[U,kt] using c2
   rw[c2];rfl
theorem adv (x:ab.aM) (l:List ab.aM) (a:Option Addr) (c:Nat) (p q:Nat) (W:al) (aO:l.length<=1000000) (ct:b_ W a l.length c 1 (lk l)) (hp:W.w.heap[p]? =some (.cells #[.func (.func 103) #[] #[]] 130)) (tF:W.aV p) (bg:W.w.heap[q]? =some (.cells #[gO x] 9)) (tG:W.aV q):
  gR prog 163 #[.slice a l.length c,.func (.func 133) #[] #[.pointer (some ⟨p,0,none⟩),.pointer (some ⟨q,0,none⟩)]] W.all fun v w'=>∃r:Int,v= .int .i64 r∧er 0 r=l.any fun y=>y==x:=by
 refine ada l.length c ⟨x.toArray⟩ a p q W.all _ hp (W.lt p tF) bg (W.lt q tG) ?_;refine dJ (fun aj vs ls _=>∃i:Nat,vs=[.int .i64 (i:Nat)]∧ls=[]∧i<=l.length∧aj=l.length-i∧(l.any fun y=>y==x)=((l.drop i).any fun y=>y==x)) l.length ⟨0,by simp[U],rfl,dr _,rfl,rfl⟩ ?_;rintro aj vs fG cn bH ⟨i,rfl,rfl,a8,rfl,bl⟩;have gM:=aD W.dw bH;refine⟨(i:Int),rfl,rfl,fun _=>aK (fun aJ=>?_) fun aJ=>aP fun _ _ _=>⟨_,rfl,-1,rfl,?_⟩⟩
 ·simp only[U,cX] at aJ;have cp:i<l.length:=by omega
  have j:l[i]? =some l[i]:=dn cp;have hP:(l.any fun y=>y==x)=((l[i]==x)||((l.drop (i+1)).any fun y=>y==x)):=by rw[bl,h4 cp];rfl
  refine a6 ?_ (a6 ?_ (cI ⟨⟨l[i].toArray⟩,fun cq bo=>?_,?_⟩))
  ·simp only[E.b,aR,aX.push];exact b_.dL ct (by omega)
  ·simp only[U];exact c_ (by omega)
  ·have:=ed (P:=prog) (f:=fun s=>[gO s]) (sz:=1) (fun _=>rfl) ct nP (k:=0) j (by decide) (u:=gO l[i]) rfl (aD gM bo);simp only[U] at this ⊢;exact this
  ·simp only[aU];refine cj fun cq bo=>aK (fun c2=>aP fun _ _ _=>⟨_,rfl,(i:Int),rfl,?_⟩) fun c2=>b1 ⟨l.length-(i+1),by omega,i+1,?_,rfl,by omega,rfl,?_⟩
   ·have c2:(l[i]==x)=true:=by simpa only[U,tC] using c2
    rw[hP,c2];exact c_ (by omega)
   ·simp only[U];rw[cE (by omega) (by omega)];rfl
   ·have c2:(l[i]==x)=false:=by simpa only[U,tC] using c2
    rw[hP,c2,kr]
 ·simp only[U,c7] at aJ;rw[bl,fV (by omega)];rfl
theorem adw (x:ab.aM) (l:List ab.aM) (a:Option Addr) (c:Nat) (p q:Nat) (W:al) (aO:l.length<=1000000) (ct:hN W.w a l.length c 1 (lk l)) (hp:W.w.heap[p]? =some (.cells #[.func (.func 103) #[] #[]] 130)) (bg:W.w.heap[q]? =some (.cells #[gO x] 9)):
  da prog 132 #[.slice a l.length c,.func (.func 133) #[] #[.pointer (some ⟨p,0,none⟩),.pointer (some ⟨q,0,none⟩)]] W (.bool (l.any fun y=>y==x)):=by
 have tF:p<W.w.heap.size:=(fq.1 hp).1;have tG:q<W.w.heap.size:=(fq.1 bg).1;refine ade l.length c ⟨x.toArray⟩ a p q W.all _ hp tF bg tG ?_;refine iV (fun _ _=>adv x l a c p q W.all aO ct.all hp tF bg tG) fun v w' _ ⟨r,aB,aw⟩=>⟨r,aB,fun cn _ _ _=>aP fun _ _ _=>⟨_,rfl,?_⟩⟩
 show Value.bool (er 0 r)=_;rw[aw]
theorem adx (l:List ab.aM) (a:Option Addr) (c:Nat) (W:al) (aO:l.length<=1000000) (ct:hN W.w a l.length c 1 (lk l)) (b7:iL W):
  da prog 102 #[.slice a l.length c,.func (.func 103) #[] #[],.func (.func 27) #[] #[]] W (.bool (ab.hE id ab.name [] l)):=by
 have b7:=b7.ext W.dw;have ct:=ct.all;refine adk l.length c a W.all _ ?_;refine bY fun m W1 hm bM=>?_
 refine dJ (fun aj vs ls _=>∃i:Nat,vs=[.int .i64 (i:Nat)]∧ls=[]∧i<=l.length∧aj=l.length-i∧ab.hE id ab.name [] l=ab.hE id ab.name (l.take i) (l.drop i)) l.length ⟨0,by simp[U],rfl,dr _,rfl,by simp⟩ ?_;rintro aj vs fG cn bH ⟨i,rfl,rfl,a8,rfl,bl⟩;have dG:=aD bM bH;refine⟨(i:Int),rfl,rfl,fun _=>aK (fun aJ=>?_) fun aJ=>aP fun _ _ _=>⟨_,rfl,?_⟩⟩
 ·simp only[U,cX] at aJ;have cp:i<l.length:=by omega
  have j:l[i]? =some l[i]:=dn cp
  have hP:ab.hE id ab.name [] l=(ab.name l[i]&&(!((l.take i).any fun y=>y==l[i])&&ab.hE id ab.name (l.take (i+1)) (l.drop (i+1)))):=by
   rw[bl,h4 cp,o0 cp];rfl
  refine a6 ?_ (a6 ?_ (cI ⟨⟨l[i].toArray⟩,fun cq bo=>?_,?_⟩))
  ·simp only[E.b,aR,aX.push];exact b_.dL ct (by omega)
  ·simp only[U];exact c_ (by omega)
  ·have:=ed (P:=prog) (f:=fun s=>[gO s]) (sz:=1) (fun _=>rfl) ct nP (k:=0) j (by decide) (u:=gO l[i]) rfl (aD dG bo);simp only[U] at this ⊢;exact this
  simp only[aU];refine bY fun m2 cq _ bo=>bS fun dH cd=>?_
  simp only[aU];have dO:=aD dG (aD bo cd);have bg:=w5 l[i] dH (b7.ext dO);refine b5 (v:=.bool (ab.name l[i])) (fun _ _=>bg) ⟨ab.name l[i],rfl,fun dI cA=>?_⟩;simp only[aU];have ej:=aD dO cA;refine aK (fun c2=>?_) fun c2=>aP fun _ _ _=>⟨_,rfl,?_⟩
  ·have c2:ab.name l[i]=true:=c2;refine a6 (by simp only[U];exact c_ (by have:=ct.2.1;omega)) (tt ?_);simp only[aU]
   have cC:b_ dI a i c 1 (lk (l.take i)):=by
    have:=EE (f:=fun s=>[gO s]) (sz:=1) (fun _=>rfl) l i;rw[show lk (l.take i)=(lk l).take (i*1) from this.symm];exact Iy (ct.ext ej) a8
   have eU:(l.take i).length=i:=by rw[mX];omega
   refine b5 (fun I _=>?_) ⟨(l.take i).any fun y=>y==l[i],rfl,fun cV bU=>?_⟩
   ·have:=adw l[i] (l.take i) a c m m2 dI (by omega) (by rw[eU];exact eD.w cC) (I _ (dq _ (bd.2 rfl))) (I _ (c6 ..));rw[eU] at this;simp only[af.b2,af.ak,E.i,aR,eH,uc,Nat.sub_zero,Iz];exact this
   simp only[aU];refine aK (fun c3=>aP fun _ _ _=>⟨_,rfl,?_⟩) fun c3=>eC fun dQ _ df _ _=>b1 ⟨l.length-(i+1),by omega,i+1,?_,rfl,by omega,rfl,?_⟩
   ·have c3:((l.take i).any fun y=>y==l[i])=true:=c3;rw[hP,c3];simp[af.ak,E.b]
   ·simp only[U];rw[cE (by omega) (by omega)];rfl
   ·have c3:((l.take i).any fun y=>y==l[i])=false:=c3;rw[hP,c2,c3];rfl
  ·have c2:ab.name l[i]=false:=c2;rw[hP,c2];rfl
 ·simp only[U,c7] at aJ;rw[bl,fV (by omega)];rfl
end Go.Proofs.YtkpjmlnhhggenaaGreatDoor
end
section
section
namespace Go.cK
open Go Go.RowKit
variable {P:Program}
structure Cut where
 k:Nat
 S:bC
 T:Tree
def p5 (k:Nat) (b:Code):Bool:=match sn b with
 |some aj=>Nat.beq aj k
 |none=>false
def ll (k:Nat):Code->Bool
 | .seq a b=>p5 k b||(ll k a||ll k b)
 |_=>false
def w6 (k:Nat) (a b:Code):Bool:=if ll k a then !(p5 k b)&&!(ll k b) else !(p5 k b&&ll k b)
def IA (a b:dj):Bool:=Nat.beq a.aV b.aV&&(Nat.beq a.N b.N&&(Nat.beq a.B b.B&&(Nat.beq a.T b.T&&(Nat.beq a.V b.V&&(Nat.beq a.A b.A&&(Nat.beq a.M b.M&&Nat.beq a.L b.L))))))
theorem ady {a b:dj} (h:IA a b=true):a=b:=by
 cases a;cases b;simp only[IA,bT] at h;obtain⟨J,an,aI,cc,bu,hs,k7,nC⟩:=h;rw[eE J,eE an,eE aI,eE cc,eE bu,eE hs,eE k7,eE nC]
def BG (x:Cut) (s':bC):Option Tree:=
 if cover s' x.S&&(uN s'.rw x.S.rw&&(x.S.kn.isEmpty&&(IA s'.c x.S.c&&Nat.beq x.S.fh s'.fh))) then some x.T else none
theorem adz {x:Cut} {s':bC} {t:Tree} (h:BG x s'=some t) {N:Nat} {W0:al} {ρ:aX} {a:Act} {W:al} (aY:Holds N W0 ρ s' a W):t=x.T∧x.S.fh=s'.fh∧Holds N W0 ρ x.S a W:=by
 unfold BG at h;split at h
 ·rename_i aH;simp only[bT] at aH;obtain⟨J,an,aI,cc,bu⟩:=aH;refine⟨(bm h).symm,eE bu,?_⟩;have aw:=DM an;have aA:x.S.kn=[]:=List.isEmpty_iff.1 aI;have:=aY.cover J (by rw[<-aw];exact aY.A4) (by rw[aA];intro p hp;cases hp);rw[ady cc] at this;exact this
 ·cases h
def tH (P:Program) (cf:ds) (inl:na) (cs:List Cut):Code->bC->(X->bC->Option Tree)->Option Tree
 | .seq a b,s,K=>if cs.all fun x=>w6 x.k a b then
   tH P cf inl cs a s fun x s'=>match x with
    | .iJ=>match cs.find? fun y=>p5 y.k b with
     |some y=>BG y s'
     |none=>tH P cf inl cs b s' K
    |x=>K x s'
  else none
 |c,s,K=>kU P cf inl c s K
def zd (P:Program) (cf:ds) (inl:na) (k:Nat) (cs:List Cut):Code->bC->(X->bC->Option Tree)->Option Tree
 | .seq a b,s,K=>if cs.all fun x=>w6 x.k a b then
   if ll k a then zd P cf inl k cs a s fun x s'=>match x with
    | .iJ=>match cs.find? fun y=>p5 y.k b with
     |some y=>BG y s'
     |none=>tH P cf inl cs b s' K
    |x=>K x s'
   else if p5 k b then tH P cf inl cs b s K else zd P cf inl k cs b s K
  else none
 |_,_,_=>none
def p6 (P:Program) (k:Nat):Code->(Exit->Act->World->Prop)->Act->World->Prop
 | .seq a b,Q,act,w=>if ll k a then p6 P k a (Exit.then (fun act w=>b.wp P Q act w) Q) act w else if p5 k b then b.wp P Q act w else p6 P k b Q act w
 |_,_,_,_=>False
def Claim (P:Program) (N:Nat) (W0:al) (R:Ending->World->Prop) (c:Code) (Q:Exit->Act->World->Prop) (L:ha) (ρ:aX) (W:al) (x:Cut):Prop:=
 ∀d M bB W',Ext W W'->Holds N W0 (ρ.push d) x.S bB W'->x.S.fh=(L++M).length->x.T.ak P N R (L++M) (ρ.push d) W'->p6 P x.k c Q bB W'.w
theorem Claim.step {N:Nat} {W0:al} {R:Ending->World->Prop} {c:Code} {Q:Exit->Act->World->Prop} {L M:ha} {ρ d:aX} {W W1:al} {y:Cut} (h:Claim P N W0 R c Q L ρ W y) (x:Ext W W1):Claim P N W0 R c Q (L++M) (ρ.push d) W1 y:=
 fun e adA bB W' j J an aI=>h (d.push e) (M++adA) bB W' (x.trans j) (by rw[<-nh];exact J) (by rw[<-jW];exact an) (by rw[<-nh,<-jW];exact aI)
section
variable {N:Nat} {W0:al} {R:Ending->World->Prop} {cf:ds} {inl:na} {cs:List Cut}
theorem Claim.left {a b:Code} {Q:Exit->Act->World->Prop} {L:ha} {ρ:aX} {W:al} {y:Cut} (h:Claim P N W0 R (.seq a b) Q L ρ W y) (aH:ll y.k a=true):Claim P N W0 R a (Exit.then (fun act w=>b.wp P Q act w) Q) L ρ W y:=
 fun d M bB W' j J an aI=>by
  have:=h d M bB W' j J an aI;simp only[p6,aH,if_true] at this;exact this
theorem Claim.right {a b:Code} {Q:Exit->Act->World->Prop} {L:ha} {ρ:aX} {W:al} {y:Cut} (h:Claim P N W0 R (.seq a b) Q L ρ W y) (bl:ll y.k a=false) (I:p5 y.k b=false):Claim P N W0 R b Q L ρ W y:=
 fun d M bB W' j J an aI=>by
  have:=h d M bB W' j J an aI;simp only[p6,bl,I] at this;exact this
theorem IB {k:Nat} {a b:Code} (h:w6 k a b=true) (I:ll k b=true):ll k a=false∧p5 k b=false:=by
 unfold w6 at h;split at h
 ·simp[I] at h
 ·rename_i bl;simp only[I,Bool.and_true,hq] at h;exact⟨by simpa using bl,h⟩
theorem adB {k:Nat} {a b:Code} (h:w6 k a b=true) (I:p5 k b=true):ll k a=false:=by
 unfold w6 at h;split at h
 ·simp[I] at h
 ·rename_i bl;simpa using bl
theorem Pg {a b:Code} {K:X->bC->Option Tree} {Q:Exit->Act->World->Prop} {L:ha} {ρ:aX} {W:al} (hc:(cs.all fun x=>w6 x.k a b)=true) (cy:pV P N W0 R L ρ W K Q)
  (j_:∀x∈cs,ll x.k (.seq a b)=true->Claim P N W0 R (.seq a b) Q L ρ W x)
  (q4:∀s K t L ρ act W Q,k_ W0 R Q->tH P cf inl cs b s K=some t->Holds N W0 ρ s act W->s.fh=L.length->t.ak P N R L ρ W->pV P N W0 R L ρ W K Q->(∀x∈cs,ll x.k b=true->Claim P N W0 R b Q L ρ W x)->b.wp P Q act W.w) (b8:k_ W0 R Q):
  pV P N W0 R L ρ W (fun x s'=>match x with
    | .iJ=>match cs.find? fun y=>p5 y.k b with
     |some y=>BG y s'
     |none=>tH P cf inl cs b s' K
    |x=>K x s') (Exit.then (fun act w=>b.wp P Q act w) Q):=by
 intro z s' cR e M bB W' J gE gC an aI;cases z with
 |iJ=>
  dsimp only at J;split at J
  ·rename_i y bE;have hm:=Ad bE;have kz:p5 y.k b=true:=by have:=List.find?_some bE;simpa using this
   have bl:=adB (ep.1 hc y hm) kz;obtain⟨rfl,tf,cc⟩:=adz J an;have:=j_ y hm (by simp[ll,kz]) e M bB W' gE cc (tf.trans gC) aI;simp only[p6,bl,kz,if_true] at this;exact this
  ·exact q4 s' K cR (L++M) (ρ.push e) bB W' Q b8 J an gC aI (cy.step gE) fun x j aH=>by
    have bc:=IB (ep.1 hc x j) aH;exact((j_ x j (by simp[ll,aH])).step gE).right bc.1 bc.2
 |exit id=>exact cy (.exit id) s' cR e M bB W' J gE gC an aI
 |ret=>exact cy .ret s' cR e M bB W' J gE gC an aI
theorem IC (bf:uG P inl):∀(c:Code) (s:bC) (K:X->bC->Option Tree) (t:Tree) (L:ha) (ρ:aX) (a:Act) (W:al) (Q:Exit->Act->World->Prop),k_ W0 R Q->
  tH P cf inl cs c s K=some t->Holds N W0 ρ s a W->s.fh=L.length->t.ak P N R L ρ W->pV P N W0 R L ρ W K Q->(∀x∈cs,ll x.k c=true->Claim P N W0 R c Q L ρ W x)->c.wp P Q a W.w:=by
 intro c;induction c with
 |seq a b lx q4=>
  intro s K t L ρ act W Q b8 j aY aO bb cy j_;simp only[tH] at j;split at j
  ·rename_i hc;refine wp_seq ?_;refine lx s _ t L ρ act W _ (b8.wF _) j aY aO bb (Pg hc cy j_ q4 b8) fun x j aH=>?_
   exact(j_ x j (by simp[ll,aH])).left aH
  ·cases j
 |_=>intro s K t L ρ act W Q b8 j aY aO bb cy j_;exact DQ bf _ s K t L ρ act W Q b8 j aY aO bb cy
theorem adC (bf:uG P inl) {k:Nat}:∀(c:Code) (s:bC) (K:X->bC->Option Tree) (t:Tree) (L:ha) (ρ:aX) (a:Act) (W:al) (Q:Exit->Act->World->Prop),k_ W0 R Q->
  zd P cf inl k cs c s K=some t->Holds N W0 ρ s a W->s.fh=L.length->t.ak P N R L ρ W->pV P N W0 R L ρ W K Q->(∀x∈cs,ll x.k c=true->Claim P N W0 R c Q L ρ W x)->p6 P k c Q a W.w:=by
 intro c;induction c with
 |seq a b lx q4=>
  intro s K t L ρ act W Q b8 j aY aO bb cy j_;simp only[zd] at j;simp only[p6];split at j
  ·rename_i hc;split at j
   ·rename_i aH;rw[if_pos aH];refine lx s _ t L ρ act W _ (b8.wF _) j aY aO bb (Pg hc cy j_ (IC bf b) b8) fun x j aH=>?_
    exact(j_ x j (by simp[ll,aH])).left aH
   ·rename_i aH;rw[if_neg aH];split at j
    ·rename_i I;rw[if_pos I];refine IC bf b s K t L ρ act W Q b8 j aY aO bb cy fun x j aH=>?_
     have bc:=IB (ep.1 hc x j) aH;exact(j_ x j (by simp[ll,aH])).right bc.1 bc.2
    ·rename_i I;rw[if_neg I];refine q4 s K t L ρ act W Q b8 j aY aO bb cy fun x j aH=>?_
     have bc:=IB (ep.1 hc x j) aH;exact(j_ x j (by simp[ll,aH])).right bc.1 bc.2
  ·cases j
 |_=>intro s K t L ρ act W Q b8 j;simp[zd] at j
end
theorem ID {f:FuncId} {fn:Func} (bs:P.funcs[f]? =some fn) (cf:ds) (args:List af) (hp ro:List b4) (ρ:aX) (t:Tree) (j:cN P cf fn args hp ro ρ.cT=some t) (bP:ρ.ew) {W:al} {R:Ending->World->Prop}
  (lb:fA ρ hp W.w) (fB:∀b∈hp,¬W.aV (aR ρ.M b.m 0)) (fW:hp.Pairwise fun a b=>aR ρ.M a.m 0≠aR ρ.M b.m 0) (kE:fA ρ ro W.w) (tp:∀b∈ro,W.aV (aR ρ.M b.m 0)) (ft:t.ak P W.w.heap.size R [] ρ W):bK P f (af.b2 ρ args).toArray W R:=
 yZ (tq cf cf.depth) bs cf args hp ro [] ρ t j bP (e9 _) (fun r aw=>by cases aw) (fun r aw=>by cases aw) List.Pairwise.nil lb fB fW kE tp ft
def BH (P:Program) (fn:Func):X->bC->Option Tree:=fun x s=>match x with
 | .exit _=>none
 |_=>match so P s fn.results.toList with
  |some r=>some (.ret (sq r) (mb s.hp r) (mb s.ro r) s.rw)
  |none=>none
def IE (P:Program) (fn:Func) (hp:List b4):X->bC->Option Tree:=fun x s=>match x with
 | .exit _=>none
 |_=>match so P s fn.results.toList with
  |some r=>some (.ret (sq r) (mb s.hp r++s.hp.filter fun b=>(hp.map (·.m)).contains b.m) (mb s.ro r) s.rw)
  |none=>none
def IF (P:Program) (cf:ds) (fn:Func) (k:Nat) (args:List af) (hp:List b4) (c:dj):Option Tree:=match fn.body with
 |some kG=>zd P cf (tn P cf cf.depth) k [] kG (sr args fn.ntmps hp [] [] c) (IE P fn hp)
 |none=>none
theorem adD {fn:Func} {kG:Code} (I:fn.body=some kG) (cf:ds) (k:Nat) (args:List af) (hp:List b4) (ρ:aX) (t:Tree) (j:IF P cf fn k args hp ρ.cT=some t) (bP:ρ.ew) {W0 W:al} {R:Ending->World->Prop} {a:Act}
  (eU:args.length<=fn.ntmps) (bl:∀(i:Nat) x,args[i]? =some x->a.eval (.tmp i)=x.ak ρ) (cB:a.tmps.size=fn.ntmps) (a_:a.defers=[]) (lb:fA ρ hp W.w) (fB:∀b∈hp,¬W.aV (aR ρ.M b.m 0)) (fW:hp.Pairwise fun a b=>aR ρ.M a.m 0≠aR ρ.M b.m 0)
  (k9:∀b,W.aV b->W0.aV b∨W0.w.heap.size<=b) (yX:Ext W0 W) (ft:t.ak P W0.w.heap.size R [] ρ W):p6 P k kG (bodyPost P fn fun e w'=>cO W0 w'∧R e w') a W.w:=by
 unfold IF at j;rw[I] at j
 have b8:k_ W0 R (bodyPost P fn fun e w'=>cO W0 w'∧R e w'):=⟨fun cD a w' J an aI=>⟨J,an,aI⟩,fun cD a d v w' h=>by
  obtain⟨J,an⟩:=h;exact⟨by cases d<;>exact J,an⟩⟩
 have bf:=tq (P:=P) cf cf.depth
 have aY:Holds W0.w.heap.size W0 ρ (sr args fn.ntmps hp [] [] ρ.cT) a W:=by
  refine⟨rfl,bP,?_,?_,a_,lb,fun b I=>(by cases I),fun r aw=>(by cases aw),fun b I=>(by cases I),fB,fun r aw=>(by cases aw),fW,List.Pairwise.nil,fun p hp=>(by cases hp),k9,e9 _,yX⟩
  ·intro x y j;cases x with
   |tmp t=>
    simp only[dU,sr,HT,dr,if_true,Nat.sub_zero] at j;exact bl t y j
   |const v=>simp only[dU] at j;obtain rfl:=bm j;rw[qm];rfl
   |global g=>simp only[dU] at j;obtain rfl:=bm j;rfl
   |func f=>simp only[dU] at j;obtain rfl:=bm j;simp[Act.eval,af.ak,af.b2]
  ·rw[cB];simp only[sr];split<;>omega
 refine adC bf kG _ _ t [] ρ a W _ b8 j aY rfl ft ?_ fun x j=>(by cases j)
 intro x s' cR e M bB W' J gE gC an aI
 have gy:∀r,so P s' fn.results.toList=some r->cR= .ret (sq r) (mb s'.hp r++s'.hp.filter fun b=>(hp.map (·.m)).contains b.m) (mb s'.ro r) s'.rw->
   bB.defers=[]∧∃v,(results fn bB.tmps).run P W'.w= .ok v W'.w∧(cO W0 W'.w∧R (.returned v) W'.w):=by
  rintro r aw rfl;refine⟨an.iC,_,HS an aw,cO.CZ an.ext,?_⟩;refine aI (fun b I=>?_) (fun b I=>an.ro b (yY b I)) an.rw ⟨an.lA,fun r aw k aA=>(an.gS r aw k aA).1⟩;rcases mE.1 I with I|I
  ·exact an.hp b (yY b I)
  ·exact an.hp b (lJ.1 I).1
 cases x with
 |exit i=>cases J
 |iJ=>
  dsimp only [IE] at J;split at J
  ·rename_i r aw;exact gy r aw (bm J).symm
  ·cases J
 |ret=>
  dsimp only [IE] at J;split at J
  ·rename_i r aw;exact gy r aw (bm J).symm
  ·cases J
end Go.cK
end
end
