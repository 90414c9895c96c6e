/- Texts of the claim, one behind the other: VdRoot VdAll VcVal6 VdCopy VcVl3 VdAwake VlPlain VcVl VlSe VlOpen FrOpen FrLaid Kit VlJoin RnP TtVc TtPlain TtLex. -/
import Derived.Test.YtkpjmlnhhggenaaGreatDoorQn5
import Derived.WalkKit
import Derived.Maps.OwnSet
import Derived.Maps.OwnOps
import Derived.Lib.BufferOwn
import Derived.WalkSpells
import Derived.Deep.RegionWith
import Derived.Deep.OwnRows
import Derived.Deep.DeepCutAuto
import Derived.Test.YtkpjmlnhhggenaaGreatDoorProg
import Derived.Test.YtkpjmlnhhggenaaGreatDoorQn2
import Derived.Test.YtkpjmlnhhggenaaGreatDoorQn3
import Derived.Deep.Slices
import Derived.ChangeSame
import Derived.WideShapes
import Derived.Lib.LaidTab
import Derived.Stop.LaidErr
import Derived.Shelf.Vars
import Derived.Lib.Hide
import Derived.ShutString
import Derived.Deep.Draws
import Derived.Test.YtkpjmlnhhggenaaGreatDoorRows
import Derived.Lib.ParseIntBCases
import GoSem.Op.String
set_option linter.unusedSimpArgs false
set_option linter.unusedVariables false
set_option maxRecDepth 100000
section
namespace au
open Go ab
theorem RC {s:aM} (h:name s=true):s.length<=12:=by
 unfold name at h;simp only[bT,hq,k1,decide_eq_false_iff_not] at h;omega
theorem zw {c:Prop} [Decidable c] {a b:Bool} (h:(if c then(a&&b) else b)=true):b=true:=by
 split at h
 ·rw[bT] at h;exact h.2
 ·exact h
theorem akz {n:dM} (h:gi n=0):n.key.length<=12:=by
 unfold gi at h;split at h
 ·exact absurd h (by decide)
 ·split at h
  ·rename_i J;simp only[bT] at J
   have I:bZ n=[]:=by
    have:=J.2;unfold p8 at this;simp only[bT,beq_iff_eq] at this;exact this.1
   have B8:fc n=true:=by
    have an:=J.1;have k7:mf n=true:=by unfold jy at an;exact zw an
    have hs:kS n=true:=by unfold mf at k7;exact zw k7
    have bu:hv n=true:=by unfold kS at hs;exact zw hs
    have cc:iQ n=true:=by unfold hv at bu;rw[bT] at bu;exact bu.2
    have aI:fS n=true:=by unfold iQ at cc;exact zw cc
    unfold fS at aI;exact zw aI
   by_cases aJ:xj n=true
   ·have:ec n=true:=by unfold fc at B8;exact zw B8
    unfold ec at this;rw[if_pos aJ,bT] at this;exact RC this.1
   ·have jg:b0 n=n.key:=if_neg aJ
    by_cases c2:xk n=true
    ·unfold fc at B8;rw[if_pos c2,jg,bT,h8,bT,beq_iff_eq] at B8;rcases B8.1 with aI|aI
     ·exact RC aI
     ·rw[aI.2];exact dr _
    ·unfold bZ at I;rw[if_neg c2,jg] at I;rw[I];exact dr _
  ·exact absurd h (by decide)
end au
namespace Go.Proofs.YtkpjmlnhhggenaaGreatDoor
open Go.Proofs.Tryz Go Go.RowKit Go.cK Go.Maps Go.Lib Go.WideMaps
theorem akA {P:Program} {c0 aJ c2 y T:Code} {Q:Exit->Act->World->Prop} {a:Act} {w:World} (G:Act->World->Prop) (cC:∀a w,G a w->T.wp P Q a w)
  (h:∀iF:Code,(∀a w,G a w->iF.wp P Q a w)->(c0.seq (aJ.seq (c2.seq (y.seq iF)))).wp P Q a w):(c0.seq (aJ.seq (c2.seq (y.seq T)))).wp P Q a w:=h T cC
set_option maxHeartbeats 2000000 in
theorem akB (p:cP):Ru p:=by
 intro D cr mi m W hp fW bf hm;refine zm bf hm fun V nR j l2=>?_
 rw[<-nR] at hm;clear nR;have hp:=hp.ext j;have h5:=hp.h6;unfold cK.bK;have ME:=@run_makeMap prog
 go_enter func30,ntmps30
 refine akA (fun bB w'=>bB.eval (.tmp 0)= .pointer (some ⟨m,0,none⟩)∧bB.tmps.size=120∧bB.defers=[]∧V.w.grownBy w' none∧au.lq p.av=au.gY (au.oT p.av) 0 p.av.ao) ?_ ?_
 ·rintro bB w' ⟨bk,cB,a_,lN,I⟩;have lD:Ext V ⟨w',V.aV,fun b I=>lv (V.lt b I) lN.size⟩:=⟨lN.size,fun _ h=>h,fun b I=>lN.block b (V.lt b I) (fun e=>nomatch e),lN.os,lN.tape,lN.output⟩
  have As:w'.heap[m]? =some (.cells (pw D p cr mi).toArray nq):=by
   rw[<-hm];exact lN.block m (fq.1 hm).1 (fun e=>nomatch e)
  rw[I];exact akt D.n D.c p.vars.length p.bA p.ao.length p.eF p.bj.length p.ef cr.n cr.c mi.n mi.c ⟨p.aT.toArray⟩ D.a p.bx p.eL p.ea cr.a mi.a m V ⟨w',V.aV,_⟩ _ bB rfl bk cB a_ As l2 (fun b I=>.inl I) lD (akx D cr mi p m _ _ (hp.ext lD) l2)
 intro T cC;generalize gg:(fun(e:Ending) (w':World)=>cO V w'∧(e= .returned (.bool (au.lq p.av))∧w'.heap[m]? =some (.cells (pw D p cr mi).toArray nq)))=R at cC ⊢;have bP:=World.grownBy_alloc V.w (.map #[] 0) none;have zx:m<V.w.heap.size:=(fq.1 hm).1;obtain⟨jR,a7,RD⟩:∃jR:al,jR.w=V.w.alloc (.map #[] 0)∧jR.aV=V.aV:=⟨⟨V.w.alloc (.map #[] 0),V.aV,fun b I=>lv (V.lt b I) bP.size⟩,rfl,rfl⟩;have bM:Ext V jR:=⟨by rw[a7];exact bP.size,fun b h=>by rw[RD];exact h,fun b I=>by rw[a7];exact bP.block b (V.lt b I) (fun e=>nomatch e),by rw[a7];exact bP.os,by rw[a7];exact bP.tape,by rw[a7];exact bP.output⟩
 have j8:jR.w.heap[m]? =some (.cells (pw D p cr mi).toArray nq):=by
  rw[<-hm,a7];exact bP.block m zx (fun e=>nomatch e)
 have jH:=Q6 D cr mi p (-1) m jR (hp.ext bM) (by rw[RD];exact l2) j8;unfold cK.gR cK.bK cK.o4 Q4 at jH;rw[show jR.all.w=V.w.alloc (.map #[] 0) from a7] at jH
 go_upto_region 3 with (go_at_call 64;refine jH.mono ?_;rintro e zy ⟨jg,v,rfl,hO,cZ,rfl,sH⟩)
 generalize aO:(p.ao.filter fun v:d_=>au.sD (-1) v.n)=l at sH ⊢;have RE:l.length<=1000000:=by rw[<-aO];exact iz (List.length_filter_le _ _) h5
 have grow:∀wr,zy.grownBy wr (some V.w.heap.size)->V.w.grownBy wr none:=fun wr h=>
  ⟨by rw[h.os,jg.os];exact bM.os,by rw[h.tape,jg.tape];exact bM.tape,by rw[h.output,jg.output];exact bM.output,iz bM.size (iz jg.size h.size),fun k aA _=>by
   have J:k<jR.w.heap.size:=lv aA bM.size;rw[h.block k (lv J jg.size) (fun e=>by injection e with e;omega),jg.du k J];show jR.w.heap[k]? =_;rw[a7];exact bP.block k aA (fun e=>nomatch e)⟩
 have ni:jR.w.heap.size=V.w.heap.size+1:=by rw[a7];simp
 go_loopw [15] (fun i wr=>∃(k:Nat) (ks:List ab.aM) (D:DataW Unit),k<=l.length∧i= .int .i64 k∧wr.ownsMap prog 9 unitElem V.w.heap.size k D∧zy.grownBy wr (some V.w.heap.size)∧(∀x:ab.aM,Maps.has D (.string x)=ks.contains x)∧Maps.size D=ks.length∧au.B3 (l.map (·.n)) []=au.B3 ((l.drop k).map (·.n)) ks)
  (fun i _=>l.length-(RowKit.intOf i).toNat)
 case atStart=>exact⟨0,[],.map [],dr _,rfl,by
   obtain⟨es,clock,J,an⟩:=World.ownsMap_made (H:=Unit) V.w prog 9 unitElem;refine⟨es,clock,?_,an⟩;rw[jg.du V.w.heap.size (by show _<jR.w.heap.size;omega)];show jR.w.heap[_]? =_;rw[a7];exact J,World.grownBy.refl _ _,fun x=>rfl,rfl,by simp⟩
 case round=>
  obtain⟨k,ks,M,aA,rfl,fB,mO,pC,sI,nw⟩:=hrel;rcases pH k l.length with e8|e8
  ·have fb:l[k]? =some l[k]:=dn e8;rw[h4 e8,jo,au.B3] at nw;generalize l[k]=x at fb nw;obtain⟨_,ax7,aI⟩:=sH;rcases aI with⟨_,cc,_⟩|⟨b,o,rfl,ax8,zz,aH⟩
   ·omega
   have cell:∀aj u,aj<11->(dN x)[aj]? =some u->wr.cell? ⟨b,o+(k*11+aj),none⟩=some u:=fun aj u cu hu=>by
    have bu:=aH (k*11+aj) u (by rw[uW eO aj fb cu];exact hu);rw[<-bu];exact World.cell?_of_block (mO.block b zz (fun e=>by injection e with e;omega))
   have mZ:wr.cell? ⟨b,o+k*11,none⟩=some (.string ⟨x.n.aT.toArray⟩):=cell 0 _ (by decide) rfl;have s1:wr.cell? ⟨b,o+k*11+1,none⟩=some (.int .u8 x.n.ay):=by rw[oW];exact cell 1 _ (by decide) rfl
   have s2:wr.cell? ⟨b,o+k*11+2,none⟩=some (.int .i64 x.n.bp):=by rw[oW];exact cell 2 _ (by decide) rfl
   have Dh:wr.cell? ⟨b,o+k*11+3,none⟩=some (.int .i64 x.n.on):=by rw[oW];exact cell 3 _ (by decide) rfl
   have f_:wr.cell? ⟨b,o+k*11+4,none⟩=some (.int .u8 x.n.ev):=by rw[oW];exact cell 4 _ (by decide) rfl
   have ax9:wr.cell? ⟨b,o+k*11+5,none⟩=some (.string ⟨x.n.key.toArray⟩):=by rw[oW];exact cell 5 _ (by decide) rfl
   have ax_:wr.cell? ⟨b,o+k*11+6,none⟩=some (.string ⟨x.n.ca.toArray⟩):=by rw[oW];exact cell 6 _ (by decide) rfl
   have Jl:wr.cell? ⟨b,o+k*11+7,none⟩=some (.string ⟨x.n.set.toArray⟩):=by rw[oW];exact cell 7 _ (by decide) rfl
   have aya:wr.cell? ⟨b,o+k*11+8,none⟩=some (.bool x.n.cb):=by rw[oW];exact cell 8 _ (by decide) rfl
   have ayb:wr.cell? ⟨b,o+k*11+9,none⟩=some (.slice x.bx x.n.vars.length x.bA):=by rw[oW];exact cell 9 _ (by decide) rfl
   have ayc:wr.cell? ⟨b,o+k*11+10,none⟩=some (.slice x.ch x.n.bL.length x.ck):=by rw[oW];exact cell 10 _ (by decide) rfl
   clear cell
   have yH:x∈p.ao:=by
    have:x∈l:=k2 fb;rw[<-aO] at this;exact(lJ.1 this).1
   have ayd:=au.akz (fW x yH)
   have RF:keyOf prog 9 (.string ⟨x.n.key.toArray⟩)=some (.string x.n.key):=by
    have:=keyOf_string_mk (P:=prog) (k:=9) (s:=⟨x.n.key.toArray⟩) (by kernel_rfl) (by rw[lH];unfold maxLen;omega);simpa using this
   have cS:∀w:World,(zeroValue 100).run prog w= .ok (.agg #[]) w:=fun w=>by kernel_rfl
   have zA:Aside _:=And.intro aO (And.intro mO (And.intro cC (And.intro pC (And.intro sI (And.intro nw grow)))));clear aO fW mO cC pC sI nw aH grow jH
   go_wp2_with (first
    |(at_lookup;refine wpList_lookup_own_unit _ rfl _ _ 98 rfl 9 100 (string_keyed (by kernel_rfl)) (by kernel_rfl) (cS _) V.w.heap.size k M rfl (fB.kept (row:=none) (World.grownBy_alloc _ _ _) (by simp)) _ _ rfl RF ?_)
    |(at_mapUpdate;refine wpList_mapUpdate_own _ rfl _ _ _ 98 rfl 9 100 (string_keyed (by kernel_rfl)) (by kernel_rfl) _ V.w.heap.size k M rfl (fB.kept (row:=none) (grownBy_allocR (World.grownBy_alloc _ _ _) _) (by simp)) (by unfold maxLen;omega) _ _ _ rfl rfl RF _ [] unitElem_mk ?_;intro kQ RG RH)
    |go_in)
   ·obtain⟨aO,mO,cC,pC,sI,nw,grow⟩:=zA.out
    have xJ:((x.n.cb||(!(x.n.ev==0)&&!(x.n.ev==1)))||ks.contains x.n.key)=true->au.lq p.av=false:=by
     intro h;unfold au.lq;rw[zv,aO,nw,if_pos h]
    have xK:au.lq p.av=false:=xJ (by rw[‹x.n.cb=true›];rfl)
    have gy:∀w',V.w.grownBy w' none->R (.returned (.bool false)) w':=by
     intro w' hh;subst gg;exact⟨⟨hh.os,hh.tape,hh.output,hh.size,fun b I=>hh.block b (V.lt b I) (fun e=>nomatch e)⟩,by rw[xK],by rw[<-hm];exact hh.block m zx (fun e=>nomatch e)⟩
    exact gy _ (grow _ (grownBy_allocR (grownBy_allocR mO _) _))
   ·obtain⟨aO,mO,cC,pC,sI,nw,grow⟩:=zA.out
    have xJ:((x.n.cb||(!(x.n.ev==0)&&!(x.n.ev==1)))||ks.contains x.n.key)=true->au.lq p.av=false:=by
     intro h;unfold au.lq;rw[zv,aO,nw,if_pos h]
    have xK:au.lq p.av=false:=xJ (by rw[<-pC,‹Maps.has M (Lit.string x.n.key)=true›,gf])
    have gy:∀w',V.w.grownBy w' none->R (.returned (.bool false)) w':=by
     intro w' hh;subst gg;exact⟨⟨hh.os,hh.tape,hh.output,hh.size,fun b I=>hh.block b (V.lt b I) (fun e=>nomatch e)⟩,by rw[xK],by rw[<-hm];exact hh.block m zx (fun e=>nomatch e)⟩
    exact gy _ (grow _ (grownBy_allocR (grownBy_allocR mO _) _))
   ·obtain⟨aO,mO,cC,pC,sI,nw,grow⟩:=zA.out
    have gv:Maps.has M (Lit.string x.n.key)=false:=by
     first
      |assumption
      |exact Bool.eq_false_iff.2 ‹¬Maps.has M (Lit.string x.n.key)=true›
    have wB:x.n.cb=false:=by
     first
      |assumption
      |exact Bool.eq_false_iff.2 ‹¬x.n.cb=true›
    have uJ:(!(x.n.ev==0)&&!(x.n.ev==1))=false:=by
     first
      |(rw[‹x.n.ev=0›];rfl)
      |(rw[‹x.n.ev=1›];rfl)
    refine⟨⟨k+1,ks++[x.n.key],M.put (.string x.n.key) (.agg []),by omega,rfl,RG,grownBy_trans (grownBy_allocR (grownBy_allocR mO _) _) RH,fun y=>?_,?_,?_⟩,?_⟩
    ·by_cases e:y=x.n.key
     ·subst e;rw[has_put_same fB.isMap (by simp[WideAt.IsKeyLit])];simp
     ·rw[has_put_other (by simpa using e),pC y];simp[e]
    ·rw[size_put (fB.tidy (string_keyed (by kernel_rfl))),if_neg (by rw[gv];exact fun h=>nomatch h),sI,fR];rfl
    ·rw[nw,if_neg (by rw[wB,uJ,<-pC,gv];exact fun h=>nomatch h)]
    ·simp[RowKit.intOf];omega
   ·obtain⟨aO,mO,cC,pC,sI,nw,grow⟩:=zA.out
    have xJ:((x.n.cb||(!(x.n.ev==0)&&!(x.n.ev==1)))||ks.contains x.n.key)=true->au.lq p.av=false:=by
     intro h;unfold au.lq;rw[zv,aO,nw,if_pos h]
    have xK:au.lq p.av=false:=xJ (by rw[<-pC,‹Maps.has M (Lit.string x.n.key)=true›,gf])
    have gy:∀w',V.w.grownBy w' none->R (.returned (.bool false)) w':=by
     intro w' hh;subst gg;exact⟨⟨hh.os,hh.tape,hh.output,hh.size,fun b I=>hh.block b (V.lt b I) (fun e=>nomatch e)⟩,by rw[xK],by rw[<-hm];exact hh.block m zx (fun e=>nomatch e)⟩
    exact gy _ (grow _ (grownBy_allocR (grownBy_allocR mO _) _))
   ·obtain⟨aO,mO,cC,pC,sI,nw,grow⟩:=zA.out
    have gv:Maps.has M (Lit.string x.n.key)=false:=by
     first
      |assumption
      |exact Bool.eq_false_iff.2 ‹¬Maps.has M (Lit.string x.n.key)=true›
    have wB:x.n.cb=false:=by
     first
      |assumption
      |exact Bool.eq_false_iff.2 ‹¬x.n.cb=true›
    have uJ:(!(x.n.ev==0)&&!(x.n.ev==1))=false:=by
     first
      |(rw[‹x.n.ev=0›];rfl)
      |(rw[‹x.n.ev=1›];rfl)
    refine⟨⟨k+1,ks++[x.n.key],M.put (.string x.n.key) (.agg []),by omega,rfl,RG,grownBy_trans (grownBy_allocR (grownBy_allocR mO _) _) RH,fun y=>?_,?_,?_⟩,?_⟩
    ·by_cases e:y=x.n.key
     ·subst e;rw[has_put_same fB.isMap (by simp[WideAt.IsKeyLit])];simp
     ·rw[has_put_other (by simpa using e),pC y];simp[e]
    ·rw[size_put (fB.tidy (string_keyed (by kernel_rfl))),if_neg (by rw[gv];exact fun h=>nomatch h),sI,fR];rfl
    ·rw[nw,if_neg (by rw[wB,uJ,<-pC,gv];exact fun h=>nomatch h)]
    ·simp[RowKit.intOf];omega
   ·obtain⟨aO,mO,cC,pC,sI,nw,grow⟩:=zA.out
    have xJ:((x.n.cb||(!(x.n.ev==0)&&!(x.n.ev==1)))||ks.contains x.n.key)=true->au.lq p.av=false:=by
     intro h;unfold au.lq;rw[zv,aO,nw,if_pos h]
    have xK:au.lq p.av=false:=xJ (by rw[show(x.n.ev==0)=false from beq_eq_false_iff_ne.2 ‹_›,show(x.n.ev==1)=false from beq_eq_false_iff_ne.2 ‹_›];simp)
    have gy:∀w',V.w.grownBy w' none->R (.returned (.bool false)) w':=by
     intro w' hh;subst gg;exact⟨⟨hh.os,hh.tape,hh.output,hh.size,fun b I=>hh.block b (V.lt b I) (fun e=>nomatch e)⟩,by rw[xK],by rw[<-hm];exact hh.block m zx (fun e=>nomatch e)⟩
    exact gy _ (grow _ (grownBy_allocR (grownBy_allocR mO _) _))
  ·obtain rfl:k=l.length:=by omega
   rw[List.drop_length] at nw
   have I:au.lq p.av=(!(ks.length==0)&&au.gY (au.oT p.av) 0 p.av.ao):=by
    unfold au.lq;rw[zv,aO,nw];rfl
   go_wp2_with (first
    |(at_len;refine wpList_len_own _ rfl _ 98 rfl 9 100 (by kernel_rfl) unitElem V.w.heap.size l.length _ rfl fB ?_)
    |go_in)
   ·rw[<-gg];have hh:=grow wr mO;refine⟨⟨hh.os,hh.tape,hh.output,hh.size,fun b I=>hh.block b (V.lt b I) (fun e=>nomatch e)⟩,?_,?_⟩
    ·rw[I,show(ks.length==0)=true from beq_iff_eq.2 (by have h:= ‹(((ks.length:Nat):Int)==0)=true›;rw[beq_iff_eq] at h;omega)];rfl
    ·rw[<-hm];exact hh.block m zx (fun e=>nomatch e)
   ·exact cC _ _ ⟨rfl,rfl,rfl,grow wr mO,by rw[I,show(ks.length==0)=false from beq_eq_false_iff_ne.2 (by first|(have h:= ‹¬(((ks.length:Nat):Int)==0)=true›;rw[beq_iff_eq] at h;omega)|(have h:= ‹(((ks.length:Nat):Int)==0)=false›;rw[beq_eq_false_iff_ne] at h;omega))];rfl⟩
open Go.Proofs.Tryz Go Go.RowKit Go.cK
theorem RI (cQ:List cP) (hV:Option Addr) (hW:Nat) (p:cP) (W:al) (a_:cQ.length<=1000000) (fX:b_ W hV cQ.length hW 4 (cQ.flatMap gA)) (eS:∀q∈cQ,fw q W)
  (hp:fw p W) (b7:lh W) (cC:mr W) (gK:iL W):
  da prog 12 #[.slice hV cQ.length hW,.agg (gA p).toArray] W (.int .i64 (au.fp (cQ.map cP.av) p.av)):=
 aj6 cQ hV hW p W a_ fX eS hp b7 cC gK (akB p)
abbrev akC:Tree:=(.eu (ah 0) (.a1 (bQ (aG 0) (ah 2932031007402)) (.cells 0 (aG 0) (aG 1) 4 [⟨(.bt 1 (ah 0) (aG 2)),ah 0,41,4,[]⟩] (.eu (aG 0) (.ret (ai 2 0 3) [] [] [⟨ai 2 0 3,aG 0,41,4,[.l 0]⟩])))))
abbrev RJ:Tree:=
(.aC (bR (.sm 0)) (.ret .db [] [] []) akC)
theorem akD:cN prog {cW with jJ:=[41,9,25,33]} f81 [ai 0 0 1] [] [] ga=some RJ:=by kernel_rfl
theorem akE (ar aQ:Nat) (a0:Option Addr) (W:al) (R:Ending->World->Prop) (h:RJ.ak prog W.w.heap.size R [] {N:=[ar,aQ],A:=[a0]} W):bK prog 81 #[.slice a0 ar aQ] W R:=
 dP func81 _ _ {N:=[ar,aQ],A:=[a0]} _ akD (fun v aB=>by cases aB) h
abbrev akF:Tree:=(.eu (ah 0) (.a1 (bQ (aG 0) (ah 8796093022208)) (.cells 0 (aG 0) (aG 1) 1 [⟨(.bt 1 (ah 0) (aG 2)),ah 0,9,1,[]⟩] (.eu (aG 0) (.ret (ai 2 0 3) [] [] [⟨ai 2 0 3,aG 0,9,1,[.l 0]⟩])))))
abbrev RL:Tree:=
(.aC (bR (.sm 0)) (.ret .db [] [] []) akF)
theorem akG:cN prog {cW with jJ:=[41,9,25,33]} f84 [ai 0 0 1] [] [] ga=some RL:=by kernel_rfl
theorem akH (ar aQ:Nat) (a0:Option Addr) (W:al) (R:Ending->World->Prop) (h:RL.ak prog W.w.heap.size R [] {N:=[ar,aQ],A:=[a0]} W):bK prog 84 #[.slice a0 ar aQ] W R:=
 dP func84 _ _ {N:=[ar,aQ],A:=[a0]} _ akG (fun v aB=>by cases aB) h
abbrev akI:Tree:=(.eu (ah 0) (.a1 (bQ (aG 0) (ah 925904528653)) (.cells 0 (aG 0) (aG 1) 11 [⟨(.bt 1 (ah 0) (aG 2)),ah 0,25,11,[]⟩] (.eu (aG 0) (.ret (ai 2 0 3) [] [] [⟨ai 2 0 3,aG 0,25,11,[.l 0]⟩])))))
abbrev RM:Tree:=
(.aC (bR (.sm 0)) (.ret .db [] [] []) akI)
theorem akJ:cN prog {cW with jJ:=[41,9,25,33]} f82 [ai 0 0 1] [] [] ga=some RM:=by kernel_rfl
theorem akK (ar aQ:Nat) (a0:Option Addr) (W:al) (R:Ending->World->Prop) (h:RM.ak prog W.w.heap.size R [] {N:=[ar,aQ],A:=[a0]} W):bK prog 82 #[.slice a0 ar aQ] W R:=
 dP func82 _ _ {N:=[ar,aQ],A:=[a0]} _ akJ (fun v aB=>by cases aB) h
abbrev akL:Tree:=(.eu (ah 0) (.a1 (bQ (aG 0) (ah 3518437208883)) (.cells 0 (aG 0) (aG 1) 4 [⟨(.bt 1 (ah 0) (aG 2)),ah 0,33,4,[]⟩] (.eu (aG 0) (.ret (ai 2 0 3) [] [] [⟨ai 2 0 3,aG 0,33,4,[.l 0]⟩])))))
abbrev RN:Tree:=
(.aC (bR (.sm 0)) (.ret .db [] [] []) akL)
theorem akM:cN prog {cW with jJ:=[41,9,25,33]} f83 [ai 0 0 1] [] [] ga=some RN:=by kernel_rfl
theorem akN (ar aQ:Nat) (a0:Option Addr) (W:al) (R:Ending->World->Prop) (h:RN.ak prog W.w.heap.size R [] {N:=[ar,aQ],A:=[a0]} W):bK prog 83 #[.slice a0 ar aQ] W R:=
 dP func83 _ _ {N:=[ar,aQ],A:=[a0]} _ akM (fun v aB=>by cases aB) h
abbrev RO:Tree:=(.again 0 [(.int .i64 (.un (.wrap .i64) (bX (ae 0) (ah 1)))),ai 6 12 13] [⟨ai 6 12 13,aG 12,25,11,[.l 4]⟩])
abbrev akO:Tree:=(.grow (.j0 [.l 2] (ae 0) 9 11 [ai 8 16 17] (.grow (.j0 [.l 3] (ae 0) 10 11 [ai 10 20 21] RO))))
abbrev akP:Tree:=(.grow (.j1 23 (.b6 6 (ae 0) 11 10) (ai 9 18 19) ⟨ai 6 12 13,aG 12,25,11,[.l 2]⟩ ga (.grow (.call 84 [ai 9 18 19] [] [⟨ai 6 12 13,aG 12,25,11,[.l 2]⟩,⟨ai 5 10 11,aG 10,33,4,[.l 1]⟩] [] (ai 10 20 21) ga akO))))
abbrev akQ:Tree:=(.grow (.call 81 [ai 7 14 15] [] [⟨ai 6 12 13,aG 12,25,11,[.l 2]⟩,⟨ai 5 10 11,aG 10,33,4,[.l 1]⟩] [] (ai 8 16 17) ga akP))
abbrev RP:Tree:=(.grow (.j0 [.l 2] (ae 0) 9 11 [ai 9 18 19] (.grow (.j0 [.l 3] (ae 0) 10 11 [ai 10 20 21] RO))))
abbrev akR:Tree:=(.grow (.call 84 [ai 8 16 17] [] [⟨ai 6 12 13,aG 12,25,11,[.l 2]⟩,⟨ai 5 10 11,aG 10,33,4,[.l 1]⟩] [] (ai 10 20 21) ga RP))
abbrev akS:Tree:=(.grow (.j1 23 (.b6 6 (ae 0) 11 10) (ai 8 16 17) ⟨ai 6 12 13,aG 12,25,11,[.l 2]⟩ ga (.grow (.call 81 [ai 7 14 15] [] [⟨ai 6 12 13,aG 12,25,11,[.l 2]⟩,⟨ai 5 10 11,aG 10,33,4,[.l 1]⟩] [] (ai 9 18 19) ga akR))))
abbrev akT:Tree:=(.grow (.j1 22 (.b6 6 (ae 0) 11 9) (ai 7 14 15) ⟨ai 6 12 13,aG 12,25,11,[.l 2]⟩ ga (.lP akQ akS)))
abbrev akU:Tree:=(.grow (.call 84 [ai 7 14 15] [] [⟨ai 6 12 13,aG 12,25,11,[.l 2]⟩,⟨ai 5 10 11,aG 10,33,4,[.l 1]⟩] [] (ai 10 20 21) ga RP))
abbrev akV:Tree:=(.grow (.j1 23 (.b6 6 (ae 0) 11 10) (ai 7 14 15) ⟨ai 6 12 13,aG 12,25,11,[.l 2]⟩ ga (.grow (.j1 22 (.b6 6 (ae 0) 11 9) (ai 8 16 17) ⟨ai 6 12 13,aG 12,25,11,[.l 2]⟩ ga (.grow (.call 81 [ai 8 16 17] [] [⟨ai 6 12 13,aG 12,25,11,[.l 2]⟩,⟨ai 5 10 11,aG 10,33,4,[.l 1]⟩] [] (ai 9 18 19) ga akU))))))
abbrev RQ:Tree:=(.a1 (.sm 6) (.a1 (bQ (ah 0) (ae 0)) (.a1 (bO (ae 0) (aG 12)) (.lP akT akV))))
abbrev RR:Tree:=(.wr (.ret (.agg [ag 0,ai 3 6 7,ai 6 12 13,ai 5 10 11]) [] [] [⟨ai 6 12 13,aG 12,25,11,[.l 2]⟩,⟨ai 5 10 11,aG 10,33,4,[.l 1]⟩]))
abbrev akW:Tree:=(.grow (.new (.grow (.wr (.loop [bI 0,ai 4 8 9] [⟨ai 4 8 9,aG 8,25,11,[.l 0]⟩] [aq 0,ai 6 12 13] [⟨ai 6 12 13,aG 12,25,11,[.l 2]⟩] pX (.aC (bO (ae 0) (aG 8)) RQ RR))))))
abbrev akX:Tree:=(.grow (.oi 83 [ai 2 4 5] [] [⟨ai 4 8 9,aG 8,25,11,[.l 0]⟩] [] (ai 5 10 11) [⟨ai 5 10 11,aG 10,33,4,[.l 1]⟩] uS akW))
abbrev Jo:Tree:=(.grow (.wr (.loop [bI 0,ai 4 8 9] [⟨ai 4 8 9,aG 8,25,11,[.l 0]⟩] [aq 0,ai 6 12 13] [⟨ai 6 12 13,aG 12,25,11,[.l 2]⟩] pX (.aC (bO (ae 0) (aG 8)) RQ RR))))
abbrev akY:Tree:=(.grow (.new (.grow (.oi 83 [ai 2 4 5] [] [⟨ai 4 8 9,aG 8,25,11,[.l 0]⟩] [] (ai 5 10 11) [⟨ai 5 10 11,aG 10,33,4,[.l 1]⟩] uS Jo))))
abbrev akZ:Tree:=(.grow (.oi 82 [ai 1 2 3] [] [] [] (ai 4 8 9) [⟨ai 4 8 9,aG 8,25,11,[.l 0]⟩] uS (.lP akX akY)))
abbrev RS:Tree:=(.grow (.oi 83 [ai 2 4 5] [] [⟨ai 4 8 9,aG 8,25,11,[.l 0]⟩] [] (ai 5 10 11) [⟨ai 5 10 11,aG 10,33,4,[.l 1]⟩] uS Jo))
abbrev ak0:Tree:=(.grow (.new (.grow (.oi 82 [ai 1 2 3] [] [] [] (ai 4 8 9) [⟨ai 4 8 9,aG 8,25,11,[.l 0]⟩] uS RS))))
abbrev ak1:Tree:=(.grow (.call 81 [ai 0 0 1] [] [] [] (ai 3 6 7) ga (.lP akZ ak0)))
abbrev ak2:Tree:=(.grow (.oi 82 [ai 1 2 3] [] [] [] (ai 4 8 9) [⟨ai 4 8 9,aG 8,25,11,[.l 0]⟩] uS RS))
abbrev ak3:Tree:=(.grow (.new (.grow (.call 81 [ai 0 0 1] [] [] [] (ai 3 6 7) ga ak2))))
abbrev RT:Tree:=
(.new (.new (.lP ak1 ak3)))
theorem ak4:cN prog {cW with ei:=[⟨3,[.az 21,.rb 2 2 28]⟩],jJ:=[41,9,25,33],fN:=true,rws:=[(82,[],[(0,25,11)]),(83,[],[(0,33,4)])]} f43 [(.agg [ag 0,ai 0 0 1,ai 1 2 3,ai 2 4 5])] [] [] rC=some RT:=by kernel_rfl
theorem ak5 (ar aQ bz bJ cH cM:Nat) (t0:ByteArray) (a0 bn a2:Option Addr) (W:al) (R:Ending->World->Prop) (h:RT.ak prog W.w.heap.size R [] {N:=[ar,aQ,bz,bJ,cH,cM],T:=[t0],A:=[a0,bn,a2]} W):bK prog 43 #[.agg #[.string t0,.slice a0 ar aQ,.slice bn bz bJ,.slice a2 cH cM]] W R:=
 dP func43 _ _ {N:=[ar,aQ,bz,bJ,cH,cM],T:=[t0],A:=[a0,bn,a2]} _ ak4 (fun v aB=>by cases aB) h
def Jp (ty:TypeId) (sz n:Nat) (w':World) (v:Value) (len:Nat) (xs:List Value):Prop:=∃a c,v= .slice a len c∧w'.ownsRow n ty sz (.slice a len c) len xs
abbrev ak6 (ty:TypeId) (sz:Nat) (b:Int):Tree:=.aC (.un .not (.sm 0)) (.ret .db [] [] []) (.eu (.aE 0) (.a1 (.aF .le (.aW 0) (.aE b)) (.cells 0 (.aW 0) (.aW 1) sz [⟨(.bt 1 (.aE 0) (.aW 2)),(.aE 0),ty,sz,[]⟩] (.eu (.aW 0) (.ret (.bt 2 (.aW 0) (.aW 3)) [] [] [⟨(.bt 2 (.aW 0) (.aW 3)),(.aW 0),ty,sz,[(.l 0)]⟩])))))
theorem RU {ty:TypeId} {sz:Nat} {b:Int} {n c:Nat} {ad:Option Addr} {W:al} {l:List Value} (c1:b_ W ad n c sz l) (J:∀u∈l,u.oneCell'=true) (I:(n:Int)<=b):
  (ak6 ty sz b).ak prog W.w.heap.size (fun e w'=>∃v,e= .returned v∧Jp ty sz W.w.heap.size w' v n l) [] {N:=[n,c],A:=[ad]} W:=by
 refine aK (fun aJ=>?_) fun aJ=>?_
 ·have aJ:ad=none:=by simpa[U] using aJ
  obtain⟨an,_,aI⟩:=c1
  have cB:n=0:=by
   rcases aI with⟨_,z,_⟩|⟨b,o,e,_⟩
   ·exact z
   ·rw[aJ] at e;cases e
  subst cB;obtain rfl:l=[]:=yc (by omega);exact aP fun _ _ _=>⟨_,rfl,none,0,rfl,World.ownsRow_nil _ _ _ _⟩
 ·refine hj fun bn c2 W1 _ bM=>?_
  simp only[aU];refine a6 (eZ (by simp only[U];omega)) (qJ l ?_ J ?_ ?_ (hj fun a2 c3 cn _ bH=>aP fun _ _ aw=>⟨_,rfl,?_⟩))
  ·simp only[U];exact c1.1
  ·intro bk;have bk:ad=none:=bk;simp[U,bk] at aJ
  ·intro a q7 W' DT aj u cu;have q7:ad=some a:=q7;obtain⟨an,_,⟨_,z,_⟩|⟨b,o,e,bf,I,aH⟩⟩:=c1.ext (aD bM DT)
   ·rw[z,Nat.zero_mul] at an;rw[yc an] at cu;simp at cu
   ·rw[q7] at e;obtain rfl:=bm e;rw[ky];exact aH aj u cu
  ·have J:=(aw _ (c6 ..)).1;simp only[dD,af.ak,E.i,eH] at J;exact⟨a2,c3,rfl,J⟩
theorem E0 (W:al):da prog 81 #[.slice none 0 0] W (.slice none 0 0):=by
 refine akE 0 0 none W.all _ ?_;exact qI rfl (aP fun _ _ _=>⟨_,rfl,rfl⟩)
theorem Jq (W:al):da prog 84 #[.slice none 0 0] W (.slice none 0 0):=by
 refine akH 0 0 none W.all _ ?_;exact qI rfl (aP fun _ _ _=>⟨_,rfl,rfl⟩)
theorem E1 (l:List d_):∀u∈l.flatMap dN,u.oneCell'=true:=by
 intro u hu;obtain⟨v,_,aB⟩:=List.mem_flatMap.1 hu;simp only[dN,dh,eT,or_false] at aB;rcases aB with rfl|rfl|rfl|rfl|rfl|rfl|rfl|rfl|rfl|rfl|rfl<;>rfl
theorem E2 (l:List ab.hQ):∀u∈l.flatMap ko,u.oneCell'=true:=by
 intro u hu;obtain⟨v,_,aB⟩:=List.mem_flatMap.1 hu;simp only[ko,dh,eT,or_false] at aB;rcases aB with rfl|rfl|rfl|rfl<;>rfl
theorem ak7 (l:List d_) (ad:Option Addr) (c:Nat) (W:al) (aO:l.length<=1000000) (c1:b_ W ad l.length c 11 (l.flatMap dN)):
  gR prog 82 #[.slice ad l.length c] W.all fun v w'=>Jp i_ 11 W.w.heap.size w' v l.length (l.flatMap dN):=by
 refine akK l.length c ad W.all _ ?_;exact RU (c1.ext W.dw) (E1 l) (by omega)
theorem ak8 (l:List ab.hQ) (ad:Option Addr) (c:Nat) (W:al) (aO:l.length<=1000000) (c1:b_ W ad l.length c 4 (l.flatMap ko)):
  gR prog 83 #[.slice ad l.length c] W.all fun v w'=>Jp 33 4 W.w.heap.size w' v l.length (l.flatMap ko):=by
 refine akN l.length c ad W.all _ ?_;exact RU (c1.ext W.dw) (E2 l) (by omega)
def E3 (p:cP):Prop:=p.bx=none∧p.vars=[]∧p.bA=0∧∀v∈p.ao,v.bx=none∧v.n.vars=[]∧v.bA=0∧v.ch=none∧v.n.bL=[]∧v.ck=0
abbrev own (a:Option Addr) (n c:Nat):Option Nat:=(Value.slice a n c).ownBlock
def E4 (n:Nat) (w':World) (v:Value) (p:cP):Prop:=∃a c bB bG,v= .agg #[gO p.aT,.slice none 0 0,.slice a p.ao.length c,.slice bB p.bj.length bG]∧
 w'.ownsRow n i_ 11 (.slice a p.ao.length c) p.ao.length (p.ao.flatMap dN)∧w'.ownsRow n 33 4 (.slice bB p.bj.length bG) p.bj.length (p.bj.flatMap ko)∧∀k,own a p.ao.length c=some k->own bB p.bj.length bG≠some k
abbrev B9 (n:Nat) (p:cP):Ending->World->Prop:=fun e w'=>∃v,e= .returned v∧E4 n w' v p
theorem ak9 {a b:E} {ρ:aX} (h:a.i ρ<b.i ρ):(E.aF .lt a b).b ρ=true:=dW h
theorem RV {l:List Value} {k:Nat} {v:Value} (h:l[k]? =some v):hg l k [v]=l:=by
 obtain⟨aA,e⟩:=nU.1 h;unfold hg;simp only[q2];rw[jW,List.singleton_append,<-e,List.getElem_cons_drop,vG]
theorem Jr {w:World} {b:Nat} {e:TypeId} {sz:Nat} {a:Option Addr} {n c:Nat} {xs:List Value} (h:w.ownsRow b e sz (.slice a n c) n xs) (cB:0<n):a.isSome=true:=by
 rcases h.2 with⟨a7,z⟩|⟨g,cap,cur,a7,_⟩
 ·omega
 ·injection a7 with bn a2 a3
  rw[bn];rfl
theorem ak_:hr prog 23=some false:=by kernel_rfl
section
variable (p:cP) (m:List Nat) (ar aJ c2:Nat) (bn a2:Option Addr)
abbrev Js:List Nat:=[p.vars.length,p.bA,p.ao.length,p.eF,p.bj.length,p.ef]
abbrev RW:aX:={N:=Js p++[0,0],T:=[⟨p.aT.toArray⟩],A:=[p.bx,p.eL,p.ea,none],M:=m}
abbrev E5:aX:={N:=Js p++[0,0,p.ao.length,aJ],T:=[⟨p.aT.toArray⟩],A:=[p.bx,p.eL,p.ea,none,bn],M:=m,L:=[p.ao.flatMap dN]}
abbrev Jt:aX:={N:=Js p++[0,0,p.ao.length,aJ,p.bj.length,c2],T:=[⟨p.aT.toArray⟩],A:=[p.bx,p.eL,p.ea,none,bn,a2],M:=m,L:=[p.ao.flatMap dN,p.bj.flatMap ko]}
theorem E6 (W:al) (ji:E3 p) (h5:p.ao.length<=1000000) (an:∀k,own bn p.ao.length aJ=some k->own a2 p.bj.length c2≠some k):
  Jo.ak prog ar (B9 ar p) [] (Jt p m aJ c2 bn a2) W:=by
 refine cj fun W1 bM=>bS fun cn bH=>?_
 refine dJ (fun aj vs ls _=>∃i:Nat,vs=[.int .i64 (i:Nat),.slice bn p.ao.length aJ]∧ls=[p.ao.flatMap dN]∧i<=p.ao.length∧aj=p.ao.length-i) p.ao.length ⟨0,rfl,by simp only[dD],dr _,rfl⟩ ?_;rintro aj vs ls cq bo ⟨i,rfl,rfl,a8,rfl⟩;refine⟨(i:Int),p.ao.length,aJ,bn,p.ao.flatMap dN,rfl,by simp only[dD],fun hi=>?_⟩;simp only[aU];have kE:=(hi _ (c6 ..)).1;simp only[dD,af.ak,E.i,eH] at kE;refine aK (fun d1=>?_) fun d1=>?_
 ·simp only[U,cX] at d1;have cp:i<p.ao.length:=by omega
  have j:p.ao[i]? =some p.ao[i]:=dn cp;have aB:=ji.2.2.2 _ (h9 cp);generalize p.ao[i]=v at j aB;obtain⟨fk,kx,jd,vk,xL,ja⟩:=aB;have RX:(dN v)[9]? =some (.slice none 0 0):=by simp only[dN,fk,kx,jd];rfl
  have RY:(dN v)[10]? =some (.slice none 0 0):=by simp only[dN,vk,xL,ja];rfl
  have RZ:∀w,w.ownsRow ar i_ 11 (.slice bn p.ao.length aJ) p.ao.length (p.ao.flatMap dN)->(Instr.loadAt 22 (.pointer (some ((bn.getD default).add (i*11+9))))).run prog w= .ok (.slice none 0 0) w:=fun w J=>by
   have an:b_ (al.of w).all bn p.ao.length aJ 11 (p.ao.flatMap dN):=hN.all (W:=al.of w) ((gW J).mono fun _ _=>trivial);exact ed (P:=prog) eO an tN j (k:=9) (by decide) RX (W':=(al.of w).all) (Ext.refl _)
  have Ju:∀w,w.ownsRow ar i_ 11 (.slice bn p.ao.length aJ) p.ao.length (p.ao.flatMap dN)->(Instr.loadAt 23 (.pointer (some ((bn.getD default).add (i*11+10))))).run prog w= .ok (.slice none 0 0) w:=fun w J=>by
   have an:b_ (al.of w).all bn p.ao.length aJ 11 (p.ao.flatMap dN):=hN.all (W:=al.of w) ((gW J).mono fun _ _=>trivial);exact ed (P:=prog) eO an ak_ j (k:=10) (by decide) RY (W':=(al.of w).all) (Ext.refl _)
  have Jv:hg (p.ao.flatMap dN) (i*11+9) [.slice none 0 0]=p.ao.flatMap dN:=RV (by rw[uW eO 9 j (by decide)];exact RX);have Jw:hg (p.ao.flatMap dN) (i*11+10) [.slice none 0 0]=p.ao.flatMap dN:=RV (by rw[uW eO 10 j (by decide)];exact RY);refine a6 (by simp only[E.b,aR,aX.push];exact Jr kE (by omega)) (a6 (eZ (by simp only[U];omega)) (a6 (ak9 (by simp only[U];omega)) (oF ?_ ?_)))
  ·refine cj fun jR iH=>pW (gr.mk (d:={N:=[0,0],A:=[none]}) ⟨rfl,fun v aB=>by cases aB⟩ ⟨fun w hw=>?_,oF ?_ ?_⟩)
   ·have J:=hw.1;simp only[dD,af.ak,E.i,eH] at J;have:=RZ w J;simp only[U] at this ⊢;exact this
   ·simp only[aU];refine cj fun oK dG=>b5 (fun _ _=>E0 oK) ⟨0,0,none,rfl,fun sy eK=>?_⟩
    simp only[aU];refine cj fun rH dO=>pW (gr.mk (d:={N:=[0,0],A:=[none]}) ⟨rfl,fun v aB=>by cases aB⟩ ⟨fun w hw=>?_,?_⟩)
    ·have J:=hw.1;simp only[dD,af.ak,E.i,eH] at J;have:=Ju w J;simp only[U] at this ⊢;exact this
    simp only[aU];refine cj fun po ej=>b5 (fun _ _=>Jq po) ⟨0,0,none,rfl,fun Bu jk=>?_⟩
    simp only[aU];refine cj fun y_ l1=>oG fun uZ jB=>cj fun Eh kJ=>oG fun Bv iY=>b1 ⟨p.ao.length-(i+1),by omega,i+1,?_,?_,by omega,rfl⟩
    ·simp only[U];rw[cE (by omega) (by omega)];rfl
    ·simp only[dD,U];rw[Jv,Jw]
   ·simp only[aU];refine cj fun rH dO=>pW (gr.mk (d:={N:=[0,0],A:=[none]}) ⟨rfl,fun v aB=>by cases aB⟩ ⟨fun w hw=>?_,?_⟩)
    ·have J:=hw.1;simp only[dD,af.ak,E.i,eH] at J;have:=Ju w J;simp only[U] at this ⊢;exact this
    simp only[aU];refine cj fun oK dG=>b5 (fun _ _=>E0 oK) ⟨0,0,none,rfl,fun sy eK=>?_⟩
    simp only[aU];refine cj fun po ej=>b5 (fun _ _=>Jq po) ⟨0,0,none,rfl,fun Bu jk=>?_⟩
    simp only[aU];refine cj fun y_ l1=>oG fun uZ jB=>cj fun Eh kJ=>oG fun Bv iY=>b1 ⟨p.ao.length-(i+1),by omega,i+1,?_,?_,by omega,rfl⟩
    ·simp only[U];rw[cE (by omega) (by omega)];rfl
    ·simp only[dD,U];rw[Jv,Jw]
  ·refine cj fun jR iH=>pW (gr.mk (d:={N:=[0,0],A:=[none]}) ⟨rfl,fun v aB=>by cases aB⟩ ⟨fun w hw=>?_,?_⟩)
   ·have J:=hw.1;simp only[dD,af.ak,E.i,eH] at J;have:=Ju w J;simp only[U] at this ⊢;exact this
   ·simp only[aU];refine cj fun rH dO=>pW (gr.mk (d:={N:=[0,0],A:=[none]}) ⟨rfl,fun v aB=>by cases aB⟩ ⟨fun w hw=>?_,?_⟩)
    ·have J:=hw.1;simp only[dD,af.ak,E.i,eH] at J;have:=RZ w J;simp only[U] at this ⊢;exact this
    simp only[aU];refine cj fun oK dG=>b5 (fun _ _=>E0 oK) ⟨0,0,none,rfl,fun sy eK=>?_⟩
    simp only[aU];refine cj fun po ej=>b5 (fun _ _=>Jq po) ⟨0,0,none,rfl,fun Bu jk=>?_⟩
    simp only[aU];refine cj fun y_ l1=>oG fun uZ jB=>cj fun Eh kJ=>oG fun Bv iY=>b1 ⟨p.ao.length-(i+1),by omega,i+1,?_,?_,by omega,rfl⟩
    ·simp only[U];rw[cE (by omega) (by omega)];rfl
    ·simp only[dD,U];rw[Jv,Jw]
 ·simp only[U,c7] at d1;refine bS fun dH cd=>aP fun _ _ aw=>⟨_,rfl,bn,aJ,a2,c2,rfl,?_,?_,an⟩
  ·have J:=(aw _ (c6 ..)).1;simp only[dD,af.ak,E.i,eH] at J;exact J
  ·have J:=(aw _ (dq _ (c6 ..))).1;simp only[dD,af.ak,E.i,eH] at J;exact J
abbrev B_ (W:al):Prop:=ar<=W.w.heap.size∧∀k,own bn p.ao.length aJ=some k->k<W.w.heap.size
theorem B_.ext {p:cP} {ar aJ:Nat} {bn:Option Addr} {W W':al} (h:B_ p ar aJ bn W) (x:Ext W W'):B_ p ar aJ bn W':=⟨iz h.1 x.size,fun k aA=>lv (h.2 k aA) x.size⟩
theorem E7 {T:Tree} {rw} (W:al) (hp:fw p W) (J:B_ p ar aJ bn W) (k:∀a2 c2 W',Ext W W'->(∀k,own bn p.ao.length aJ=some k->own a2 p.bj.length c2≠some k)->T.ak prog ar (B9 ar p) [] (Jt p m aJ c2 bn a2) W'):
  (Tree.oi 83 [(.bt 2 (.aW 4) (.aW 5))] [] rw [] (.bt 5 (.aW 10) (.aW 11)) [⟨(.bt 5 (.aW 10) (.aW 11)),(.aW 10),33,4,[(.l 1)]⟩] ⟨0,2,0,0,0,1,0,1⟩ T).ak prog ar (B9 ar p) [] (E5 p m aJ bn) W:=by
 refine DU (fun _ _=>ak8 p.bj p.ea p.ef W hp.mU hp.fs) fun v w' _ eA=>?_
 obtain⟨a2,c2,aB,bc⟩:=id eA;refine gr.mk (d:={N:=[p.bj.length,c2],A:=[a2],L:=[p.bj.flatMap ko]}) ⟨rfl,fun v aB=>by cases aB⟩ ⟨aB,DV J.1 ?_ ?_,fun dH gj cd cH=>?_⟩
 ·simp only[dD,af.ak,E.i,eH];exact bc
 ·simp only[dD];exact E2 _
 ·have e:(E5 p m aJ bn).push {N:=[p.bj.length,c2],A:=[a2],L:=[p.bj.flatMap ko]}=Jt p m aJ c2 bn a2:=by simp[aX.push]
  rw[e]
  exact k a2 c2 dH cd fun k aA e6=>by
   have:=J.2 k aA;have:=(World.ownsRow.lt bc k e6).1;omega
theorem Jx {T:Tree} {rw} (W:al) (hp:fw p W) (cB:ar<=W.w.heap.size) (k:∀bn aJ W',Ext W W'->B_ p ar aJ bn W'->T.ak prog ar (B9 ar p) [] (E5 p m aJ bn) W'):
  (Tree.oi 82 [(.bt 1 (.aW 2) (.aW 3))] [] rw [] (.bt 4 (.aW 8) (.aW 9)) [⟨(.bt 4 (.aW 8) (.aW 9)),(.aW 8),25,11,[(.l 0)]⟩] ⟨0,2,0,0,0,1,0,1⟩ T).ak prog ar (B9 ar p) [] (RW p m) W:=by
 refine DU (fun _ _=>ak7 p.ao p.eL p.eF W hp.h6 hp.ns) fun v w' _ eA=>?_
 obtain⟨bn,aJ,aB,bc⟩:=id eA;refine gr.mk (d:={N:=[p.ao.length,aJ],A:=[bn],L:=[p.ao.flatMap dN]}) ⟨rfl,fun v aB=>by cases aB⟩ ⟨aB,DV cB ?_ ?_,fun dH gj cd cH=>?_⟩
 ·simp only[dD,af.ak,E.i,eH];exact bc
 ·simp only[dD];exact E1 _
 ·have e:(RW p m).push {N:=[p.ao.length,aJ],A:=[bn],L:=[p.ao.flatMap dN]}=E5 p m aJ bn:=by simp[aX.push]
  rw[e];exact k bn aJ dH cd ⟨iz cB cd.size,fun k aA=>by rw[gj];exact(World.ownsRow.lt bc k aA).2⟩
end
theorem R0 (p:cP) (W:al) (hp:fw p W) (ji:E3 p):gR prog 43 #[.agg (gA p).toArray] W.all fun v w'=>E4 W.w.heap.size w' v p:=by
 have hp:=hp.ext W.dw;have h5:=hp.h6;refine ak5 p.vars.length p.bA p.ao.length p.eF p.bj.length p.ef ⟨p.aT.toArray⟩ p.bx p.eL p.ea W.all _ ?_
 have R2:∀W:al,da prog 81 #[.slice p.bx p.vars.length p.bA] W (.slice none 0 0):=fun W=>by
  rw[ji.1,ji.2.1,ji.2.2.1];exact E0 W
 refine bY fun m0 W1 _ bM=>bY fun m1 cn _ bH=>oF ?_ ?_
 ·have dG:=aD bM bH;refine cj fun cq bo=>b5 (fun _ _=>R2 cq) ⟨0,0,none,rfl,fun dH cd=>?_⟩
  have dO:=aD dG (aD bo cd);simp only[aU];refine oF ?_ ?_
  ·refine cj fun dI cA=>Jx p [m0,m1] W.all.w.heap.size dI (hp.ext (aD dO cA)) (aD dO cA).size fun bn aJ cV bU E8=>oF ?_ ?_
   ·refine cj fun dQ df=>E7 p [m0,m1] W.all.w.heap.size aJ bn dQ (hp.ext (aD (aD dO cA) (aD bU df))) (E8.ext df) fun a2 c2 dX dK an=>cj fun fm eY=>bY fun m2 fU _ fu=>?_
    exact E6 p [m0,m1,m2] W.all.w.heap.size aJ c2 bn a2 fU ji h5 an
   ·refine cj fun dQ df=>bY fun m2 dX _ dK=>cj fun fm eY=>E7 p [m0,m1,m2] W.all.w.heap.size aJ bn fm (hp.ext (aD (aD (aD dO cA) (aD bU df)) (aD dK eY))) (E8.ext (aD df (aD dK eY))) fun a2 c2 fU fu an=>?_
    exact E6 p [m0,m1,m2] W.all.w.heap.size aJ c2 bn a2 fU ji h5 an
  ·refine cj fun dI cA=>bY fun m2 cV _ bU=>cj fun dQ df=>Jx p [m0,m1,m2] W.all.w.heap.size dQ (hp.ext (aD (aD dO cA) (aD bU df))) (aD (aD dO cA) (aD bU df)).size fun bn aJ dX dK ala=>cj fun fm eY=>E7 p [m0,m1,m2] W.all.w.heap.size aJ bn fm (hp.ext (aD (aD (aD dO cA) (aD bU df)) (aD dK eY))) (ala.ext eY) fun a2 c2 fU fu an=>?_
   exact E6 p [m0,m1,m2] W.all.w.heap.size aJ c2 bn a2 fU ji h5 an
 ·have dG:=aD bM bH;refine cj fun cq bo=>bY fun m2 aye _ alb=>cj fun alc ald=>b5 (fun _ _=>R2 alc) ⟨0,0,none,rfl,fun dH cd=>?_⟩
  have dO:=aD (aD dG (aD bo alb)) (aD ald cd);simp only[aU];refine cj fun dI cA=>Jx p [m0,m1,m2] W.all.w.heap.size dI (hp.ext (aD dO cA)) (aD dO cA).size fun bn aJ cV bU E8=>cj fun dQ df=>E7 p [m0,m1,m2] W.all.w.heap.size aJ bn dQ (hp.ext (aD (aD dO cA) (aD bU df))) (E8.ext df) fun a2 c2 dX dK an=>?_
  exact E6 p [m0,m1,m2] W.all.w.heap.size aJ c2 bn a2 dX ji h5 an
open Go.Proofs.Tryz Go Go.RowKit Go.cK
abbrev Jy:b4:=⟨3,25,[(.str (.bN [97])),di 1,(bI (-1)),(bI (-1)),di 0,ek,ek,ek,cY false,.db,.db,(.str (.bN [98])),di 3,(bI (-1)),(bI (-1)),di 0,ek,ek,ek,cY false,.db,.db,(.str (.bN [99])),di 2,(bI (-1)),(bI (-1)),di 0,ek,ek,ek,cY false,.db,.db]⟩
abbrev Jz:b4:=⟨4,33,[bI 0,bI 1,ek,cY false,bI 1,bI 2,ek,cY false]⟩
abbrev R3:af:=(.agg [ag 0,ai 0 0 1,ai 1 2 3,ai 2 4 5])
abbrev zB:b3:=⟨(.bt 6 (bX (aG 10) (ah 1)) (aG 12)),(bX (aG 10) (ah 1)),33,4,[.l 6]⟩
abbrev ale:Tree:=(.ret (cY false) [] [] [⟨ai 1 2 3,aG 2,25,11,[.l 0]⟩,⟨ai 2 4 5,aG 4,33,4,[.l 1]⟩])
abbrev alf:Tree:=(.ret (.bool (aZ (ae 3) (ah 23))) [] [] [zB,⟨ai 4 8 9,aG 8,25,11,[.l 5]⟩,⟨ai 1 2 3,aG 2,25,11,[.l 2]⟩,⟨ai 2 4 5,aG 4,33,4,[.l 1]⟩])
abbrev alg:Tree:=(.call 12 [.db,(.agg [ag 1,ai 3 6 7,ai 4 8 9,(.bt 6 (bX (aG 10) (ah 1)) (aG 12))])] [] [zB,⟨ai 4 8 9,aG 8,25,11,[.l 5]⟩,⟨ai 1 2 3,aG 2,25,11,[.l 2]⟩,⟨ai 2 4 5,aG 4,33,4,[.l 1]⟩] [] (aq 3) cg alf)
abbrev JA:Tree:=(.ret (cY false) [] [] [zB,⟨ai 4 8 9,aG 8,25,11,[.l 5]⟩,⟨ai 1 2 3,aG 2,25,11,[.l 2]⟩,⟨ai 2 4 5,aG 4,33,4,[.l 1]⟩])
abbrev alh:Tree:=(.call 12 [.db,R3] [] [zB,⟨ai 4 8 9,aG 8,25,11,[.l 5]⟩,⟨ai 1 2 3,aG 2,25,11,[.l 2]⟩,⟨ai 2 4 5,aG 4,33,4,[.l 1]⟩] [] (aq 2) cg (.aC (aZ (ae 2) (ah 22)) alg JA))
abbrev ali:Tree:=(.call 12 [.db,(.agg [(.str (.bN [112])),.db,.fM 6 0 2 2,.fM 7 0 1 1])] [⟨7,33,[bI 0,bI 1,ek,cY false]⟩,⟨6,25,[(.str (.bN [97])),di 1,(bI (-1)),(bI (-1)),di 0,ek,ek,ek,cY false,.db,.db,(.str (.bN [98])),di 3,(bI (-1)),(bI (-1)),di 0,ek,ek,ek,cY false,.db,.db]⟩] [zB,⟨ai 4 8 9,aG 8,25,11,[.l 5]⟩,⟨ai 1 2 3,aG 2,25,11,[.l 2]⟩,⟨ai 2 4 5,aG 4,33,4,[.l 1]⟩] [] (aq 1) cg (.aC (aZ (ae 1) (ah 4)) alh JA))
abbrev alj:Tree:=(.call 12 [.db,(.agg [(.str (.bN [112])),.db,.fM 3 0 3 3,.fM 4 0 2 2])] [Jz,Jy] [zB,⟨ai 4 8 9,aG 8,25,11,[.l 5]⟩,⟨ai 1 2 3,aG 2,25,11,[.l 2]⟩,⟨ai 2 4 5,aG 4,33,4,[.l 1]⟩] [] (aq 0) cg (.aC (aZ (ae 0) (ah 0)) ali JA))
abbrev alk:Tree:=(.new (.a1 (bQ (bX (aG 10) (ah 1)) (ah 3518437208883)) (.eu (bX (aG 10) (ah 1)) (.wr (.a1 (.sm 6) (.a1 (bO (ah 1) (bX (aG 10) (ah 1))) (.j0 [.l 4,(.s (bI 1)),(.s (bI 2)),.s ek,(.s (cY true))] (ah 1) 2 4 [(.str (.bN [49,32,43,32,49]))] alj)))))))
abbrev alm:Tree:=(.new (.wr (.a1 (.sm 4) (.a1 (bO (ah 1) (aG 8)) (.j0 [.l 3] (ah 1) 1 11 [di 7] alk)))))
abbrev aln:Tree:=(.oi 43 [(.agg [(.str (.bN [112])),.db,.fM 3 0 3 3,.fM 4 0 2 2])] [Jz,Jy] [⟨ai 1 2 3,aG 2,25,11,[.l 2]⟩,⟨ai 2 4 5,aG 4,33,4,[.l 1]⟩] [] (.agg [ag 1,ai 3 6 7,ai 4 8 9,ai 5 10 11]) [⟨ai 4 8 9,aG 8,25,11,[.l 3]⟩,⟨ai 5 10 11,aG 10,33,4,[.l 4]⟩] ⟨0,6,0,1,0,3,0,2⟩ alm)
abbrev alo:Tree:=(.a1 (.sm 1) (.a1 (bQ (ah 0) (ah 1)) (.a1 (bO (ah 1) (aG 2)) (.j0 [.l 0] (ah 1) 0 11 [(.str (.bN [98])),di 4,(bI (-1)),(bI (-1)),di 0,ek,(.str (.bN [49])),(.str (.bN [120])),cY false,.db,.db] aln))))
abbrev R4:Tree:=
(.new (.new (.new (.wr (.wr (.wr (.new (.new (.new (.wr (.new (.new (.new (.wr (.oi 43 [(.agg [(.str (.bN [112])),.db,.fM 3 0 3 3,.fM 4 0 2 2])] [Jz,Jy] [] [] R3 [⟨ai 1 2 3,aG 2,25,11,[.l 0]⟩,⟨ai 2 4 5,aG 4,33,4,[.l 1]⟩] ⟨0,6,0,1,0,3,0,2⟩ (.new (.wr (.aC (bR (aZ (aG 2) (ah 3))) ale alo))))))))))))))))))
theorem alp:cN prog {cW with rws:=[(43,[],[(2,25,11),(3,33,4)])]} f14 [] [] [] D1=some R4:=by kernel_rfl
theorem alq (W:al) (R:Ending->World->Prop) (h:R4.ak prog W.w.heap.size R [] {} W):bK prog 14 #[] W R:=
 dP func14 _ _ {} _ alp (fun v aB=>by cases aB) h
theorem alr {p:cP} {W:al} (ji:E3 p) (h6:p.ao.length<=1000000) (mU:p.bj.length<=1000000) (aA:∀v∈p.ao,0<=v.n.ay∧v.n.ay<256)
  (cB:b_ W p.eL p.ao.length p.eF 11 (p.ao.flatMap dN)) (bs:b_ W p.ea p.bj.length p.ef 4 (p.bj.flatMap ko)):fw p W:=by
 obtain⟨fk,kx,jd,vk⟩:=ji;refine⟨by rw[kx];exact dr _,h6,mU,fun x j=>(by rw[kx] at j;cases j),fun v aB=>?_,by rw[fk,kx,jd];exact eD.nil _ _ _,cB,bs⟩;obtain⟨aJ,c2,c3,c4,c5,bw⟩:=vk v aB;exact⟨(aA v aB).1,(aA v aB).2,by rw[c2];exact dr _,by rw[c5];exact dr _,fun x j=>(by rw[c2] at j;cases j),by rw[aJ,c2,c3];exact eD.nil _ _ _,by rw[c4,c5,bw];exact eD.nil _ _ _⟩
def rS (aT:ab.aM) (ay:Int) (ca set:ab.aM):d_:=⟨⟨aT,ay,-1,-1,0,[],ca,set,false,[],[]⟩,none,0,none,0⟩
def zC (i aj:Int) (c:ab.aM) (e:Bool):ab.hQ:=⟨i,aj,c,e⟩
def xM (ns:List d_) (fs:List ab.hQ) (a:Option Addr) (c:Nat) (bB:Option Addr) (bG:Nat):cP:=⟨[112],[],none,0,ns,a,c,fs,bB,bG⟩
abbrev pD:List d_:=[rS [97] 1 [] [],rS [98] 3 [] [],rS [99] 2 [] []]
abbrev zD:List d_:=[rS [97] 1 [] [],rS [98] 3 [] []]
abbrev zE:List d_:=[rS [97] 1 [] [],rS [98] 4 [49] [120],rS [99] 2 [] []]
abbrev zF:List d_:=[rS [97] 1 [] [],rS [98] 7 [] [],rS [99] 2 [] []]
abbrev qW:List ab.hQ:=[zC 0 1 [] false,zC 1 2 [] false]
abbrev R5:List ab.hQ:=[zC 0 1 [] false]
abbrev R6:List ab.hQ:=[zC 0 1 [] false,zC 1 2 [49,32,43,32,49] false,zC 1 2 [] true]
def Ca (ns:List d_) (fs:List ab.hQ):ab.dR:=⟨[112],[],ns.map (·.n),fs⟩
theorem als:au.fp [] (Ca pD qW)=0:=by decide+kernel
theorem alu:au.fp [] (Ca zD R5)=4:=by decide+kernel
theorem alv:au.fp [] (Ca zE qW)=22:=by decide+kernel
theorem alw:au.fp [] (Ca zF R6)=23:=by decide+kernel
theorem R7 {ns:List d_} (h:ns=pD∨ns=zD∨ns=zE∨ns=zF):∀v∈ns,(v.bx=none∧v.n.vars=[]∧v.bA=0∧v.ch=none∧v.n.bL=[]∧v.ck=0)∧0<=v.n.ay∧v.n.ay<256:=by
 intro v aB;rcases h with rfl|rfl|rfl|rfl<;>simp only[dh,eT,or_false] at aB
 ·rcases aB with rfl|rfl|rfl<;>exact⟨⟨rfl,rfl,rfl,rfl,rfl,rfl⟩,by decide,by decide⟩
 ·rcases aB with rfl|rfl<;>exact⟨⟨rfl,rfl,rfl,rfl,rfl,rfl⟩,by decide,by decide⟩
 ·rcases aB with rfl|rfl|rfl<;>exact⟨⟨rfl,rfl,rfl,rfl,rfl,rfl⟩,by decide,by decide⟩
 ·rcases aB with rfl|rfl|rfl<;>exact⟨⟨rfl,rfl,rfl,rfl,rfl,rfl⟩,by decide,by decide⟩
theorem JB {ns:List d_} (h:ns=pD∨ns=zD∨ns=zE∨ns=zF) (fs:List ab.hQ) (a:Option Addr) (c:Nat) (bB:Option Addr) (bG:Nat):E3 (xM ns fs a c bB bG):=⟨rfl,rfl,rfl,fun v aB=>(R7 h v aB).1⟩
theorem JC {ns:List d_} (h:ns=pD∨ns=zD∨ns=zE∨ns=zF) {fs:List ab.hQ} (bs:fs.length<=3) {a:Option Addr} {c:Nat} {bB:Option Addr} {bG:Nat} {W:al} (J:hN W.w a ns.length c 11 (ns.flatMap dN)) (an:hN W.w bB fs.length bG 4 (fs.flatMap ko)):fw (xM ns fs a c bB bG) W.all:=
 alr (JB h fs a c bB bG) (by show ns.length<=1000000;rcases h with rfl|rfl|rfl|rfl<;>decide) (by show fs.length<=1000000;omega) (fun v aB=>(R7 h v aB).2) J.all an.all
theorem E9 {ns:List d_} (h:ns=pD∨ns=zD∨ns=zE∨ns=zF) {fs:List ab.hQ} (bs:fs.length<=3) {a:Option Addr} {c:Nat} {bB:Option Addr} {bG:Nat} {W:al} {e:Int} (he:au.fp [] (Ca ns fs)=e) (J:hN W.w a ns.length c 11 (ns.flatMap dN)) (an:hN W.w bB fs.length bG 4 (fs.flatMap ko))
  (b7:lh W) (cC:mr W) (gK:iL W):da prog 12 #[.slice none 0 0,.agg #[.string ⟨#[112]⟩,.slice none 0 0,.slice a ns.length c,.slice bB fs.length bG]] W (.int .i64 e):=by
 have:=RI [] none 0 (xM ns fs a c bB bG) W.all (dr _) (eD.nil _ _ _) (fun q bg=>by cases bg) (JC h bs J an) (b7.ext W.dw) (cC.ext W.dw) (gK.ext W.dw);rw[<-he];exact this
theorem E_ {w:World} {ar:Nat} {e:TypeId} {sz:Nat} {a:Option Addr} {n c k:Nat} {xs:List Value} (h:w.ownsRow ar e sz (.slice a n c) k xs):hN w a n c sz xs:=(gW h).mono fun _ _=>trivial
theorem R8 {ar n:Nat} {ρ:aX} {ks:List Nat} {r q:b3} {w:World} (bk:ar<=n) (h:w.ownsRow n r.e r.sz (r.v.ak ρ) (r.n.i ρ).toNat (dF ρ r.xs)) (J:∀u∈dF ρ r.xs,u.oneCell'=true)
  (g:w.ownsRow n q.e q.sz (q.v.ak ρ) (q.n.i ρ).toNat (dF ρ q.xs)) (g1:∀u∈dF ρ q.xs,u.oneCell'=true) (an:∀k,dk ρ r=some k->dk ρ q≠some k):Aq ar n ks ρ [r,q] w:=by
 have a:=DV (ks:=ks) bk h J;have b:=DV (ks:=ks) bk g g1;refine⟨fun x j=>?_,fun x j=>?_,?_⟩
 ·rcases dh.1 j with rfl|j
  ·exact a.at_ _ (bd.2 rfl)
  ·exact b.at_ x j
 ·rcases dh.1 j with rfl|j
  ·exact a.new _ (bd.2 rfl)
  ·exact b.new x j
 ·refine od.2 ⟨fun x j=>?_,jE _ _⟩;obtain rfl:=bd.1 j;exact an
theorem alx (W:al) (b7:lh W) (cC:mr W) (gK:iL W):da prog 14 #[] W (.bool true):=by
 have b7:=b7.ext W.dw;have cC:=cC.ext W.dw;have gK:=gK.ext W.dw;refine alq W.all _ ?_;refine bY fun m0 W1 _ bM=>bY fun m1 cn _ bH=>bY fun m2 cq _ bo=>bS fun dH cd=>bS fun dI cA=>bS fun cV bU=>bY fun m3 dQ _ df=>bY fun m4 dX _ dK=>bY fun m5 fm _ eY=>bS fun fU fu=>bY fun m6 jQ _ ki=>bY fun m7 lX _ kX=>bY fun m8 lY _ kj=>bS fun kk kl=>?_
 have Cb:=aD (aD (aD (aD bM bH) (aD bo cd)) (aD (aD cA bU) (aD df dK))) (aD (aD (aD eY fu) (aD ki kX)) (aD kj kl));clear bM bH bo cd cA bU df dK eY fu ki kX kj kl;simp only[aU];refine DU (R':=fun v w'=>E4 kk.w.heap.size w' v (xM pD qW (some ⟨m3,0,none⟩) 3 (some ⟨m4,0,none⟩) 2)) (fun I _=>?_) fun v w' _ eA=>?_
 ·have cc:=I _ (c6 ..);have aI:=I _ (dq _ (c6 ..));exact R0 (xM pD qW (some ⟨m3,0,none⟩) 3 (some ⟨m4,0,none⟩) 2) kk.all (JC (.inl rfl) (by decide) (pj aI rfl) (pj cc rfl)) (JB (.inl rfl) ..)
 obtain⟨bn,aJ,a2,c2,aB,ec,fc,fS⟩:=eA;refine gr.mk (d:={N:=[0,0,3,aJ,2,c2],T:=[⟨#[112]⟩],A:=[none,bn,a2],L:=[pD.flatMap dN,qW.flatMap ko]}) ⟨rfl,fun v aB=>by cases aB⟩ ⟨aB,R8 Cb.size ?_ ?_ ?_ ?_ fS,fun sF EY p_ n15=>?_⟩
 ·simp only[dD,af.ak,E.i,eH];exact ec
 ·simp only[dD];exact E1 pD
 ·simp only[dD,af.ak,E.i,eH];exact fc
 ·simp only[dD];exact E2 qW
 have EZ:=aD Cb p_;simp only[aU];refine bY fun m9 vg _ xD=>bS fun I_ ER=>tr rfl (a6 (by simp only[E.b,aR];exact Jr ec (show 0<3 by decide)) (a6 rfl (a6 rfl (oG fun ES Ja=>?_))))
 have R9:=aD (aD EZ xD) (aD ER Ja);simp only[aU];refine DU (R':=fun v w'=>E4 ES.w.heap.size w' v (xM pD qW (some ⟨m3,0,none⟩) 3 (some ⟨m4,0,none⟩) 2)) (fun I _=>?_) fun v w' _ eA=>?_
 ·have cc:=I _ (c6 ..);have aI:=I _ (dq _ (c6 ..));exact R0 (xM pD qW (some ⟨m3,0,none⟩) 3 (some ⟨m4,0,none⟩) 2) ES.all (JC (.inl rfl) (by decide) (pj aI rfl) (pj cc rfl)) (JB (.inl rfl) ..)
 obtain⟨a3,c3,a4,c4,aB,ox,qC,Dx⟩:=eA;refine gr.mk (d:={N:=[0,0,3,c3,2,c4],T:=[⟨#[112]⟩],A:=[none,a3,a4],L:=[pD.flatMap dN,qW.flatMap ko]}) ⟨rfl,fun v aB=>by cases aB⟩ ⟨aB,R8 R9.size ?_ ?_ ?_ ?_ Dx,fun Ri ayf Jb n19=>?_⟩
 ·simp only[dD,af.ak,E.i,eH];exact ox
 ·simp only[dD];exact E1 pD
 ·simp only[dD,af.ak,E.i,eH];exact qC
 ·simp only[dD];exact E2 qW
 have aly:=aD R9 Jb;simp only[aU];refine bY fun m10 qU _ ln=>bS fun EU B2=>a6 (by simp only[E.b,aR];exact Jr ox (show 0<3 by decide)) (a6 rfl (oG fun ayg alz=>bY fun m11 ayh _ alA=>a6 (eZ (by simp only[U];decide)) (hj fun a5 c5 ayi bu alB=>bS fun ayj alC=>?_)))
 have alD:=aD (aD (aD aly (aD ln B2)) (aD alz alA)) (aD alB alC);simp only[aU];refine a6 (by simp only[E.b,aR];exact bu (by simp only[U];decide)) (a6 rfl (oG fun ayk alE=>?_));have Fa:=aD alD alE;simp only[aU];refine b5 (fun I aw=>?_) ⟨0,rfl,fun ayl alF=>qI rfl ?_⟩
 ·have cc:=I _ (c6 ..);have aI:=I _ (dq _ (c6 ..));exact E9 (ns:=pD) (fs:=qW) (.inl rfl) (by decide) als (pj aI rfl) (pj cc rfl) (b7.ext Fa) (cC.ext Fa) (gK.ext Fa)
 have Fb:=aD Fa alF;simp only[aU];refine b5 (fun I aw=>?_) ⟨4,rfl,fun aym alG=>qI rfl ?_⟩
 ·have cc:=I _ (c6 ..);have aI:=I _ (dq _ (c6 ..));exact E9 (ns:=zD) (fs:=R5) (.inr (.inl rfl)) (by decide) alu (pj aI rfl) (pj cc rfl) (b7.ext Fb) (cC.ext Fb) (gK.ext Fb)
 have Fc:=aD Fb alG;simp only[aU];refine b5 (fun I aw=>?_) ⟨22,rfl,fun ayn alH=>qI rfl ?_⟩
 ·have jP:=(aw _ (dq _ (dq _ (c6 ..)))).1;have R_:=(aw _ (dq _ (dq _ (dq _ (c6 ..))))).1;simp only[dD,af.ak,E.i,eH] at jP R_;exact E9 (ns:=zE) (fs:=qW) (.inr (.inr (.inl rfl))) (by decide) alv (E_ jP) (E_ R_) (b7.ext Fc) (cC.ext Fc) (gK.ext Fc)
 have JD:=aD Fc alH;simp only[aU];refine b5 (fun I aw=>?_) ⟨23,rfl,fun vh vi=>aP fun _ _ _=>⟨_,rfl,rfl⟩⟩;have gk:=(aw _ (c6 ..)).1;have j6:=(aw _ (dq _ (c6 ..))).1;simp only[dD,af.ak,E.i,eH] at gk j6;exact E9 (ns:=zF) (fs:=R6) (.inr (.inr (.inr rfl))) (by decide) alw (E_ j6) (E_ gk) (b7.ext JD) (cC.ext JD) (gK.ext JD)
end Go.Proofs.YtkpjmlnhhggenaaGreatDoor
end
section
namespace au
open Go ab
end au
end
section
namespace Go.Proofs.YtkpjmlnhhggenaaGreatDoor
open Go.Proofs.Tryz Go Go.RowKit Go.cK
structure Fe (v:d_) (W:al):Prop where
 gQ:0<=v.n.ay
 b0:v.n.ay<256
 pv:∀x∈v.n.vars,n6 x
 vs:b_ W v.bx v.n.vars.length v.bA 4 (v.n.vars.flatMap e7)
 fY:b_ W v.ch v.n.bL.length v.ck 1 (lk v.n.bL)
structure JE (p:cP) (W:al):Prop where
 pv:∀x∈p.vars,n6 x
 fn:∀v∈p.ao,Fe v W
 vs:b_ W p.bx p.vars.length p.bA 4 (p.vars.flatMap e7)
 ns:b_ W p.eL p.ao.length p.eF 11 (p.ao.flatMap dN)
 fs:b_ W p.ea p.bj.length p.ef 4 (p.bj.flatMap ko)
theorem Fe.ext {v:d_} {W W':al} (h:Fe v W) (x:Ext W W'):Fe v W':=⟨h.gQ,h.b0,h.pv,h.vs.ext x,h.fY.ext x⟩
theorem JE.ext {p:cP} {W W':al} (h:JE p W) (x:Ext W W'):JE p W':=⟨h.pv,fun v aB=>(h.fn v aB).ext x,h.vs.ext x,h.ns.ext x,h.fs.ext x⟩
open Go.Proofs.Tryz Go Go.RowKit Go.cK Go.ChangeShapes Go.WideShapes Go.Deep
section
variable {H:Type} {enc:TypeId×Value->H} {w:World} {nc:Nat}
theorem Sa:prog.cellsOf 5=1:=by kernel_rfl
end
open Go.Proofs.Tryz Go Go.RowKit Go.cK Go.ChangeShapes Go.WideShapes Go.Deep
section
variable {H:Type} {enc:TypeId×Value->H} {P:Program} {w:World} {nc:Nat} {sp:Nat->Bool} {held:Bool}
theorem alI {iR:Nat} {t e:TypeId} {n:Nat} {cs:List Value} {zs:List (List UInt8)} {p:List MemPlace}
  (bb:P.underlying t=some (.array n e)) (he:P.underlying e=some .string) (o3:P.cellsOf e=1) (tS:P.cellsOf t=n)
  (h:DataW.trod enc P w nc sp held iR t cs=some (.agg (zs.map fun z=>.lit (.string z)),p)):cs=zs.map fun z=>Value.string ⟨z.toArray⟩:=by
 cases iR with
 |zero=>simp[DataW.trod] at h
 |succ iR=>
  simp only[DataW.trod,bb,o3,tS,Nat.mul_one] at h;split at h
  ·rename_i aO;obtain⟨xs,hm,j⟩:=hI.1 h
   have iM:xs.map (·.1)=zs.map fun z=>(DataW.lit (.string z):DataW H):=by
    have:=congrArg Prod.fst j;simpa using this
   have zG:xs.length=n:=by simpa using Lib.mapM_length hm
   have BV:zs.length=n:=by
    have:=congrArg List.length iM;simp at this;omega
   apply ye;intro i
   by_cases a8:i<n
   ·obtain⟨b,I,bs⟩:=Lib.mapM_at hm i i (by simp[a8]);obtain⟨z,aH,rfl,_⟩:=DataW.trod_string he bs
    have J:cs[i]? =some (.string z):=by
     have:=congrArg (·[0]?) aH;simpa[oX,sO] using this
    have an:(xs.map (·.1))[i]? =some (DataW.lit (.string z.data.toList):DataW H):=by simp[I]
    rw[iM] at an;simp only[mD,hI,DataW.lit.injEq,Lit.string.injEq] at an;obtain⟨yK,AE,rfl⟩:=an;simp[J,AE]
   ·rw[qd (by omega),qd (by simp;omega)]
  ·cases h
theorem Ff {P:Program} {W:World} {g:Nat} {cs:Array Value} {name:String} {d:DataW Unit} {rest:List (String×DataW Unit)} (bP:P.globalNamed name=some g) (h:laidMet P ((name,d)::rest) W) (aB:W.var? P name=some cs) (bk:0<cs.size):∃ty,W.heap[g]? =some (.cells cs ty):=by
 obtain⟨cw,⟨yT,cR,vW,iR,p,q,lN,sJ,nN,a_,_,rfl⟩,_,uQ⟩:=h;obtain rfl:=bm (bP.symm.trans lN);obtain rfl:=bm (aB.symm.trans nN)
 obtain⟨⟨c,ty,aH⟩,_⟩:=uQ g 0 (by
  refine ua _ (ua _ ?_);simp only[MemPlace.row,h7,vL];exact⟨0,bk,by simp⟩)
 refine⟨ty,?_⟩;simp only[World.var?,bP,lK,aH,nT] at aB;rw[aH,aB]
theorem Sb {P:Program} {W:World} {name:String} {zs:List (List UInt8)} {rest:List (String×DataW Unit)} {g:Nat} {t e:TypeId} {n:Nat}
  (bP:P.globalNamed name=some g) (sK:(P.globals[g]?).map (·.type)=some t) (bb:P.underlying t=some (.array n e)) (he:P.underlying e=some .string) (o3:P.cellsOf e=1) (tS:P.cellsOf t=n)
  (h:laidMet P ((name,.agg (zs.map fun z=>.lit (.string z)))::rest) W) (bk:0<zs.length):∃ty,W.heap[g]? =some (.cells (zs.map fun z=>Value.string ⟨z.toArray⟩).toArray ty):=by
 have aB:W.var? P name=some (zs.map fun z=>Value.string ⟨z.toArray⟩).toArray:=by
  obtain⟨cw,⟨yT,cR,cs,iR,p,q,lN,sJ,nN,a_,_,_⟩,_⟩:=id h;obtain rfl:=bm (bP.symm.trans lN);obtain rfl:=bm (sK.symm.trans sJ);rw[nN,<-alI bb he o3 tS a_]
 exact Ff bP h aB (by simpa using bk)
theorem iface_of_trod {H:Type} {enc:TypeId×Value->H} {P:Program} {w:World} {nc:Nat} {sp:Nat->Bool} {iR:Nat} {t:TypeId} {ms:Array (String×TypeId)} {cs:List Value} {aT:String} {d:DataW H} {p:List MemPlace}
  (bb:P.underlying t=some (.interface ms)) (h:DataW.trod enc P w nc sp false iR t cs=some (.iface aT d,p)):∃u v,cs=[.iface u v]:=by
 cases iR with
 |zero=>simp[DataW.trod] at h
 |succ n=>
  unfold DataW.trod at h;rw[bb] at h;split at h<;>simp_all
theorem Sc {P:Program} {W:World} {name aT:String} {d:DataW Unit} {rest:List (String×DataW Unit)} {g:Nat} {t:TypeId} {ms:Array (String×TypeId)}
  (bP:P.globalNamed name=some g) (sK:(P.globals[g]?).map (·.type)=some t) (bb:P.underlying t=some (.interface ms)) (h:laidMet P ((name,.iface aT d)::rest) W):∃nM p,W.var? P name=some #[.iface nM p]:=by
 obtain⟨cw,⟨yT,cR,cs,iR,p,q,lN,sJ,nN,a_,_,_⟩,_⟩:=id h;obtain rfl:=bm (bP.symm.trans lN);obtain rfl:=bm (sK.symm.trans sJ);obtain⟨u,v,aH⟩:=iface_of_trod bb a_;refine⟨u,v,?_⟩;rw[nN];cases cs;simpa using aH
theorem Fg {P:Program} {W:World} {name:String} {g:Nat} {cs:Array Value} (bP:P.globalNamed name=some g) (h:W.var? P name=some cs):g<W.heap.size:=by
 unfold World.var? at h;rw[bP,lK] at h;rcases pH g W.heap.size with hl|hl
 ·exact hl
 ·rw[Array.getElem?_eq_none hl] at h;cases h
theorem alJ {W:World} {g o:Nat} {v:Value} (h:W.cell? ⟨g,o,none⟩=some v):g<W.heap.size:=by
 unfold World.cell? at h;rcases pH g W.heap.size with hl|hl
 ·exact hl
 ·simp[Array.getElem?_eq_none hl] at h
end
open Go.Proofs.Tryz Go Go.RowKit Go.cK Go.ChangeShapes Go.WideShapes Go.Deep
section
variable {H:Type} {enc:TypeId×Value->H} {P:Program} {w:World} {nc:Nat} {sp:Nat->Bool} {held:Bool}
theorem JF {iR:Nat} {t e:TypeId} {n:Nat} {cs:List Value} {xN:List (DataW H)} {p:List MemPlace}
  (bb:P.underlying t=some (.array n e)) (o3:P.cellsOf e=1) (tS:P.cellsOf t=n)
  (h:DataW.trod enc P w nc sp held iR t cs=some (.agg xN,p)):cs.length=n∧xN.length=n∧∀i,i<n->∃v x m,cs[i]? =some v∧xN[i]? =some x.1∧DataW.trod enc P w nc sp held m e [v]=some x:=by
 cases iR with
 |zero=>simp[DataW.trod] at h
 |succ iR=>
  simp only[DataW.trod,bb,o3,tS,Nat.mul_one] at h;split at h
  ·rename_i aO;obtain⟨xs,hm,j⟩:=hI.1 h
   have iM:xs.map (·.1)=xN:=by
    have:=congrArg Prod.fst j;simpa using this
   have zG:xs.length=n:=by simpa using Lib.mapM_length hm
   refine⟨aO,by rw[<-iM];simp[zG],fun i a8=>?_⟩;obtain⟨b,I,bs⟩:=Lib.mapM_at hm i i (by simp[a8]);have aB:cs[i]? =some cs[i]:=dn (by omega);refine⟨cs[i],b,iR,aB,by rw[<-iM,mD,I];rfl,?_⟩;have J:(cs.drop i).take 1=[cs[i]]:=by rw[mG (by omega)];rfl
   rw[J] at bs;exact bs
  ·cases h
theorem alK {iR:Nat} {t e:TypeId} {n:Nat} {k:IntKind} {cs:List Value} {zs:List Int} {p:List MemPlace}
  (bb:P.underlying t=some (.array n e)) (he:P.underlying e=some (.int k)) (o3:P.cellsOf e=1) (tS:P.cellsOf t=n)
  (h:DataW.trod enc P w nc sp held iR t cs=some (.agg (zs.map fun z=>.lit (.int k z)),p)):cs=zs.map fun z=>Value.int k z:=by
 obtain⟨J,an,aI⟩:=JF bb o3 tS h;apply ye;intro i;simp only[mW] at an
 by_cases a8:i<n
 ·obtain⟨v,x,m,aB,a_,j⟩:=aI i a8;obtain⟨z,a7,rfl,_⟩:=DataW.trod_int he j;obtain rfl:v= .int k z:=by simpa using a7
  rw[aB];rw[mD,hI] at a_;obtain⟨yK,AE,bh⟩:=a_;simp only[DataW.lit.injEq,Lit.int.injEq,true_and] at bh;subst bh;simp[AE]
 ·rw[qd (by omega),qd (by simp;omega)]
theorem alL {W:World} {name:String} {k:IntKind} {zs:List Int} {rest:List (String×DataW Unit)} {g:Nat} {t e:TypeId} {n:Nat}
  (bP:P.globalNamed name=some g) (sK:(P.globals[g]?).map (·.type)=some t) (bb:P.underlying t=some (.array n e)) (he:P.underlying e=some (.int k)) (o3:P.cellsOf e=1) (tS:P.cellsOf t=n)
  (h:laidMet P ((name,.agg (zs.map fun z=>.lit (.int k z)))::rest) W) (bk:0<zs.length):∃ty,W.heap[g]? =some (.cells (zs.map fun z=>Value.int k z).toArray ty):=by
 have aB:W.var? P name=some (zs.map fun z=>Value.int k z).toArray:=by
  obtain⟨cw,⟨yT,cR,cs,iR,p,q,lN,sJ,nN,a_,_,_⟩,_⟩:=id h;obtain rfl:=bm (bP.symm.trans lN);obtain rfl:=bm (sK.symm.trans sJ);rw[nN,<-alK bb he o3 tS a_]
 exact Ff bP h aB (by simpa using bk)
theorem alM {a:Addr} {v:Value} (h:w.cell? a=some v):a=⟨a.block,a.off,none⟩∧a.block<w.heap.size:=by
 unfold World.cell? at h;split at h
 ·rename_i c t cr I;split at h
  ·cases h
  ·rename_i bD;obtain⟨b,o,s⟩:=a;cases s with
   |none=>exact⟨rfl,(fq.1 I).1⟩
   |some _=>simp at bD
 ·cases h
def zH {α:Type} (g:α->DataW H):List α->DataW H
 |[]=>.nil
 |x::l=>.slice ((x::l).map g) []
theorem Sd {α:Type} [Inhabited α] {f:α->List Value} {g:α->DataW H} {sz:Nat} (bs:∀x,(f x).length=sz) (cS:0<sz) {e t:TypeId} (bb:P.underlying t=some (.slice e)) (aH:P.cellsOf e=sz)
  (fX:∀n cs x y,DataW.trod enc P w 0 sp held n e cs=some x->x.1=g y->cs=f y) {m:Nat} {v:Value} {l:List α} {x:DataW H×List MemPlace}
  (h:DataW.trod enc P w 0 sp held m t [v]=some x) (j:x.1=zH g l):∃(a:Option Addr) (c:Nat),v= .slice a l.length c∧hN w a l.length c sz (l.flatMap f):=by
 rcases DataW.trod_slice bb h with⟨hx,rfl⟩|⟨a,len,cap,elems,rest,fZ,ur,hx,d5,_,alN,_,jI,iM,ayo,_⟩
 ·have hx:v= .slice none 0 0:=by injection hx
  subst hx;cases l with
  |nil=>exact⟨none,0,rfl,eD.nil _ _ _⟩
  |cons y l=>cases j
 ·have hx:v= .slice (some a) len cap:=by injection hx
  subst hx;rw[d5] at j;cases l with
  |nil=>cases j
  |cons y l=>
   have hm:elems.map (·.1)=(y::l).map g:=by
    simp only[zH,DataW.slice.injEq] at j;exact j.1
   generalize hz:(y::l)=L at*
   have eU:len=L.length:=by
    have:=congrArg List.length hm;simp only[mW] at this;omega
   subst eU;rw[aH] at iM
   have cell:∀i,i<L.length->∃z,L[i]? =some z∧∀aj,aj<sz->w.cell? (a.add (i*sz+aj))=(f z)[aj]? :=fun i a8=>by
    have cc:=iM i a8;have bu:i<elems.length:=by omega
    rw[dn bu] at cc;obtain⟨vW,hs,k7⟩:=vD.1 cc;have nC:(elems.map (·.1))[i]? =some elems[i].1:=by rw[mD,dn bu];rfl
    rw[hm,mD,dn a8] at nC;have yJ:=fX fZ vW elems[i] L[i] k7 (bm nC).symm;subst yJ;obtain⟨_,_,Rq⟩:=World.cells?_some hs;exact⟨L[i],dn a8,fun aj cu=>by rw[<-Deep.add_add];exact Rq aj cu⟩
   have wR:0<L.length:=by rw[<-hz];simp
   obtain⟨z0,ayp,LV⟩:=cell 0 wR;have n0:=LV 0 cS;have bl:a.add (0*sz+0)=a:=by simp[Addr.add]
   rw[bl,dn (by rw[bs];exact cS)] at n0;obtain⟨s1,s2⟩:=alM n0;refine⟨some a,cap,rfl,sv bs L,alN,.inr ⟨a.block,a.off,congrArg some s1,trivial,s2,fun aj u hu=>?_⟩⟩
   have cu:aj<L.length*sz:=by
    have:=(nU.1 hu).1;rw[sv bs] at this;exact this
   have a8:aj/sz<L.length:=(Nat.div_lt_iff_lt_mul cS).2 cu;have aw:aj % sz<sz:=Nat.mod_lt _ cS;have alO:aj/sz*sz+aj % sz=aj:=by rw[Nat.mul_comm];exact Nat.div_add_mod aj sz
   obtain⟨z,alP,alQ⟩:=cell _ a8;have JG:=alQ _ aw;have Cc:=uW bs (aj % sz) alP aw;rw[alO] at JG Cc;rw[hu] at Cc;rw[s1,ky,<-Cc] at JG;exact JG
end
end Go.Proofs.YtkpjmlnhhggenaaGreatDoor
end
section
namespace Go.Own
open Go Go.RowKit
def ig (w w':World):Prop:=Below w.heap.size w w'
theorem ig.refl (w:World):ig w w:=Below.refl _ _
theorem ig.of {w w':World} (h:Below w.heap.size w w'):ig w w':=h
theorem ig.out {w w':World} (h:ig w w'):Below w.heap.size w w':=h
theorem ig.size {w w':World} (h:ig w w'):w.heap.size<=w'.heap.size:=Below.size h
theorem ig.trans {a b c:World} (h:ig a b) (k:ig b c):ig a c:=Below.trans h (Below.mono k h.size)
theorem ig.alloc {a w:World} (h:ig a w) (o:Obj):ig a (w.alloc o):=Below.alloc h h.size o
theorem ig.drew {a w:World} (h:ig a w):ig a w.drew:=Below.drew h
theorem ig.drewN {a w:World} (h:ig a w) (n:Nat):ig a (w.drewN n):=⟨h.out.os,h.out.tape,h.out.output,h.out.size,h.out.block⟩
theorem ig.cell {w w':World} (h:ig w w') {b o:Nat} (hp:b<w.heap.size):w'.cell? ⟨b,o,none⟩=w.cell? ⟨b,o,none⟩:=Below.cell (p:=⟨b,o,none⟩) h hp
theorem ig.frozen {w w':World} (h:ig w w') {b o:Nat} (hp:b<w.heap.size):w'.frozen? ⟨b,o,none⟩=w.frozen? ⟨b,o,none⟩:=Below.frozen (p:=⟨b,o,none⟩) h hp
theorem ig.block {a w:World} (h:ig a w) {n:Nat} (cB:w.heap.size=n):a.heap.size<=n:=cB▸h.size
theorem ig.cells {W zy:World} (h:ig W zy):(∀b o,b<W.heap.size->zy.cell? ⟨b,o,none⟩=W.cell? ⟨b,o,none⟩)∧(∀b o,b<W.heap.size->zy.frozen? ⟨b,o,none⟩=W.frozen? ⟨b,o,none⟩):=
 ⟨fun _ _ I=>h.cell I,fun _ _ I=>h.frozen I⟩
theorem ig.eb {w w':World} (h:w=w'):ig w w':=h▸ig.refl w
end Go.Own
end
section
namespace Go.Proofs.YtkpjmlnhhggenaaGreatDoor
open Go.Proofs.Tryz Go Go.RowKit Go.cK Go.Own Go.ChangeShapes
def tT:List (String×DataW Unit):=Rows.validWholeRow.laid
theorem alR:prog.globalNamed "callboard/lex.signs" =some 3:=by kernel_rfl
theorem JH:prog.globalNamed "callboard/typed.sorts" =some 1:=by kernel_rfl
theorem alS:prog.globalNamed "callboard/typed.args" =some 4:=by kernel_rfl
theorem alT:prog.globalNamed "callboard/model.reserved" =some 0:=by kernel_rfl
theorem JI:prog.globalNamed "callboard/model.events" =some 2:=by kernel_rfl
theorem alU {W:World} (h:laidMetH prog tT W) (JJ:W.ShapedOpen prog):lh (al.of W).all:=by
 have hl:laidMet prog tT W:=h;have t4:=hl.tail.tail.tail.tail;have alV:=Sc HZ (t:=182) (by kernel_rfl) underlying182 t4;have alW:=Sc HY (t:=182) (by kernel_rfl) underlying182 t4.tail;have alX:=Sb (zs:=ax.eN) alR (by kernel_rfl) underlying179 underlying9 (by kernel_rfl) (by kernel_rfl) t4.tail.tail (by decide);obtain⟨m,hm⟩:=Go.Proofs.cell_of_shapedOpen_int (g:=7) (zero:=#[.int .i64 0]) (t:=3) JJ (of_decide_eq_true (by kernel_rfl)) (by kernel_rfl) rfl (by kernel_rfl) (by kernel_rfl) underlying3;obtain⟨ty,sK⟩:=alX;obtain⟨alY,alZ,c1⟩:=alW;obtain⟨al0,al1,gg⟩:=alV;exact⟨⟨ty,sK⟩,(fq.1 sK).1,⟨alY,alZ,c1⟩,Fg HY c1,⟨al0,al1,gg⟩,Fg HZ gg,⟨m,hm⟩,alJ hm⟩
instance:Inhabited (Int×Int):=⟨(0,0)⟩
def Cd (s:Int×Int):DataW Unit:=.agg [.lit (.int .u8 s.1),.lit (.int .u8 s.2)]
theorem al2:Rows.laid_callboard_typed_sorts=DataW.agg (bF.nm.map (zH Cd)):=by kernel_rfl
theorem al3 {enc:TypeId×Value->Unit} {W:World} {sp:Nat->Bool} {held:Bool} (n:Nat) (cs:List Value) (x:DataW Unit×List MemPlace) (y:Int×Int) (h:DataW.trod enc prog W 0 sp held n 150 cs=some x) (j:x.1=Cd y):cs=BB y:=by
 obtain⟨xs,n,rfl,rfl,aO,zG,bs⟩:=DataW.trod_struct underlying150 h;rw[show prog.cellsOf 150=2 from by kernel_rfl] at aO;have zG:xs.length=2:=zG
 match cs,aO,xs,zG with
 |[c0,aJ],_,[fa,bM],_=>
  have bk:DataW.trod enc prog W 0 sp held n 5 ((([c0,aJ]:List Value).drop 0).take (prog.cellsOf 5))=some fa:=bs 0 _ rfl;rw[Sa] at bk;have bk:DataW.trod enc prog W 0 sp held n 5 [c0]=some fa:=bk;have J:DataW.trod enc prog W 0 sp held n 5 ((([c0,aJ]:List Value).drop 1).take (prog.cellsOf 5))=some bM:=bs 1 _ rfl;rw[Sa] at J;have J:DataW.trod enc prog W 0 sp held n 5 [aJ]=some bM:=J;obtain⟨a,fy,d0,_⟩:=DataW.trod_int underlying5 bk;obtain⟨b,a7,d1,_⟩:=DataW.trod_int underlying5 J;obtain rfl:c0= .int .u8 a:=by injection fy
  obtain rfl:aJ= .int .u8 b:=by injection a7
  rw[d0,d1] at j;simp only[Cd,ku,lM,DataW.agg.injEq,ue,DataW.lit.injEq,Lit.int.injEq,true_and,and_true] at j;rw[j.1,j.2];rfl
theorem al4 {W:World} (h:laidMetH prog tT W):mr (al.of W).all:=by
 have hl:laidMet prog tT W:=h;have t7:=hl.tail.tail.tail.tail.tail.tail.tail.tail.tail;have Se:laidMet prog (("callboard/typed.sorts",DataW.agg (bF.nm.map (zH Cd)))::tT.tail.tail.tail.tail.tail.tail.tail.tail.tail.tail) W:=by rw[<-al2];exact t7
 obtain⟨JK,J⟩:=alL (zs:=bF.zc) (k:=.i64) alS (t:=189) (by kernel_rfl) underlying189 underlying3 (by kernel_rfl) (by kernel_rfl) t7.tail (by decide);refine And.elim (fun x y=>(⟨⟨JK,J⟩,(fq.1 J).1,x,y⟩:mr (al.of W).all)) ?_;obtain⟨cw,⟨yT,cR,cs,iR,p,q,lN,sJ,nN,a_,_,_⟩,_⟩:=id Se;obtain rfl:=bm (JH.symm.trans lN);obtain rfl:148=cR:=bm ((show(prog.globals[1]?).map (·.type)=some 148 by kernel_rfl).symm.trans sJ);obtain⟨b0,bZ,eG⟩:=JF underlying148 (by kernel_rfl) (by kernel_rfl) a_
 have hS:∀i,i<17->∃(s:Option Addr×Nat),cs.toList[i]? =some (.slice s.1 (bF.nm.getD i []).length s.2)∧hN W s.1 (bF.nm.getD i []).length s.2 2 ((bF.nm.getD i []).flatMap BB):=fun i a8=>by
  obtain⟨v,x,m,aB,j,bb⟩:=eG i a8;have Ce:i<bF.nm.length:=a8;rw[mD,dn Ce,l6] at j;have j:=(bm j).symm;rw[show bF.nm[i]=bF.nm.getD i [] from by rw[oe,dn Ce];rfl] at j;obtain⟨a,c,rfl,bD⟩:=Sd (f:=BB) (g:=Cd) (sz:=2) (fun _=>rfl) (by decide) underlying147 (by kernel_rfl) al3 bb j;exact⟨(a,c),aB,bD⟩
 obtain⟨X,hk⟩:=Go.Deep.choose_lt hS;have fr:1<W.heap.size:=Fg JH nN;obtain⟨ty,I⟩:=Ff JH Se nN (by rw[<-sS,b0];decide)
 have Cf:∀i,i<17->((List.range 17).map X).getD i (none,0)=X i:=fun i a8=>by
  rw[oe,mD,Ae a8];rfl
 refine⟨⟨(List.range 17).map X,ty,by simp,?_,fun i a8=>?_⟩,fr⟩
 ·have e:cs=((List.range 17).map fun i=>Value.slice (((List.range 17).map X).getD i (none,0)).1 (bF.nm.getD i []).length (((List.range 17).map X).getD i (none,0)).2).toArray:=by
   apply Array.ext';apply ye;intro i
   by_cases a8:i<17
   ·rw[(hk i a8).1,mD,Ae a8,l6,Cf i a8]
   ·rw[qd (by rw[b0];omega),qd (by simp;omega)]
  rw[<-e];exact I
 ·rw[Cf i a8];exact(hk i a8).2.all
def Cg (s:Int):DataW Unit:=.lit (.int .u8 s)
theorem al5:Rows.laid_callboard_model_events=DataW.agg (ab.mT.map (zH Cg)):=by kernel_rfl
theorem al6 {enc:TypeId×Value->Unit} {W:World} {sp:Nat->Bool} {held:Bool} (n:Nat) (cs:List Value) (x:DataW Unit×List MemPlace) (y:Int) (h:DataW.trod enc prog W 0 sp held n 5 cs=some x) (j:x.1=Cg y):cs=[Value.int .u8 y]:=by
 obtain⟨a,fy,d0,_⟩:=DataW.trod_int underlying5 h;rw[d0] at j;simp only[Cg,DataW.lit.injEq,Lit.int.injEq,true_and] at j;rw[fy,j]
theorem al7 {W:World} (h:laidMetH prog tT W):iL (al.of W).all:=by
 have hl:laidMet prog tT W:=h;have t7:=hl.tail.tail.tail.tail.tail.tail.tail;obtain⟨JK,J⟩:=Sb (zs:=ab.qT) alT (by kernel_rfl) underlying94 underlying9 (by kernel_rfl) (by kernel_rfl) t7 (by decide);have t8:=t7.tail;have Sf:laidMet prog (("callboard/model.events",DataW.agg (ab.mT.map (zH Cg)))::tT.tail.tail.tail.tail.tail.tail.tail.tail.tail) W:=by rw[<-al5];exact t8
 refine And.elim (fun x y=>(⟨⟨JK,J⟩,(fq.1 J).1,x,y⟩:iL (al.of W).all)) ?_;obtain⟨cw,⟨yT,cR,cs,iR,p,q,lN,sJ,nN,a_,_,_⟩,_⟩:=id Sf;obtain rfl:=bm (JI.symm.trans lN);obtain rfl:162=cR:=bm ((show(prog.globals[2]?).map (·.type)=some 162 by kernel_rfl).symm.trans sJ);obtain⟨b0,bZ,eG⟩:=JF underlying162 (by kernel_rfl) (by kernel_rfl) a_
 have hS:∀i,i<16->∃(s:Option Addr×Nat),cs.toList[i]? =some (.slice s.1 (ab.mT.getD i []).length s.2)∧hN W s.1 (ab.mT.getD i []).length s.2 1 ((ab.mT.getD i []).flatMap fun t=>[Value.int .u8 t]):=fun i a8=>by
  obtain⟨v,x,m,aB,j,bb⟩:=eG i a8;have Ce:i<ab.mT.length:=a8;rw[mD,dn Ce,l6] at j;have j:=(bm j).symm;rw[show ab.mT[i]=ab.mT.getD i [] from by rw[oe,dn Ce];rfl] at j;obtain⟨a,c,rfl,bD⟩:=Sd (f:=fun t:Int=>[Value.int .u8 t]) (g:=Cg) (sz:=1) (fun _=>rfl) (by decide) underlying77 (by kernel_rfl) al6 bb j;exact⟨(a,c),aB,bD⟩
 obtain⟨X,hk⟩:=Go.Deep.choose_lt hS;have fr:2<W.heap.size:=Fg JI nN;obtain⟨ty,I⟩:=Ff JI Sf nN (by rw[<-sS,b0];decide)
 have Cf:∀i,i<16->((List.range 16).map X).getD i (none,0)=X i:=fun i a8=>by
  rw[oe,mD,Ae a8];rfl
 refine⟨⟨(List.range 16).map X,ty,by simp,?_,fun i a8=>?_⟩,fr⟩
 ·have e:cs=((List.range 16).map fun i=>Value.slice (((List.range 16).map X).getD i (none,0)).1 (ab.mT.getD i []).length (((List.range 16).map X).getD i (none,0)).2).toArray:=by
   apply Array.ext';apply ye;intro i
   by_cases a8:i<16
   ·rw[(hk i a8).1,mD,Ae a8,l6,Cf i a8]
   ·rw[qd (by rw[b0];omega),qd (by simp;omega)]
  rw[<-e];exact I
 ·rw[Cf i a8];exact(hk i a8).2.all
end Go.Proofs.YtkpjmlnhhggenaaGreatDoor
end
section
namespace bq
open Go ab
def event (k e:Int):Bool:=
 if k=1 then decide (e<=5)
 else if k=2 then(((e==0||e==1)||e==4)||e==5)||e==7
 else if k=5 then((e==0||e==1)||e==5)||e==6
 else if k=6 then((e==1||e==2)||e==3)||e==6
 else if k=15 then decide (1<=e)&&decide (e<=5)
 else(decide (3<=k)&&decide (k<=14))&&e==0
def key (n:dM):Bool:=
 if n.ay=14∨n.ev=1∨n.ev=6 then name n.key
 else if n.ev=4∨n.ev=5 then name n.key||((n.ay==1||n.ay==15)&&n.key==[])
 else n.key==[]
def Ch (n:dM):Bool:=!((n.ay==15&&decide (n.on<0))||(!(n.ay==15)&&!(n.on== -1)))
def Ci (n:dM):Bool:=(((n.ay==4||n.ay==12)||n.ev==2)||n.ev==3)==!(n.ca==[])
def xO (n:dM):Bool:=if n.ay=4 then name n.set else n.set==[]
def vl (n:dM):Bool:=!((n.cb&&!((n.ay==15||n.ay==12)||(n.ay==1&&!(n.ev==0))))||((n.ay==15&&n.ev==4)&&!n.cb))
def vm (n:dM):Bool:=!((!scope n.ay&&decide (0<n.vars.length))||(!(n.ay==14)&&decide (0<n.bL.length)))
def nS (n:dM):Bool:=name n.aT&&(decide (-1<=n.bp)&&(event n.ay n.ev&&(key n&&(Ch n&&(Ci n&&xO n)))))
def gi (n:dM):Int:=
 if 100<n.ca.length∨8<n.vars.length∨8<n.bL.length then 40
 else if nS n&&(vl n&&(vm n&&hE id name [] n.bL)) then vars n.vars else 4
def jm (p:dR):Int:=
 if 40<p.ao.length∨80<p.bj.length then 40
 else if p.ao.length=0∨name p.aT=false then 4
 else if vars p.vars≠0 then vars p.vars
 else if fo gi p.ao≠0 then fo gi p.ao
 else fo km p.bj
open au (dc gY)
def is (p:dR) (n:Int):Bool:=decide (0<=n)&&decide (n<(p.ao.length:Int))
def sL (p:dR) (i:Nat) (n:dM):Bool:=!((p.ao.take i).any fun m=>m.aT==n.aT)&&(n.bp== -1||(decide (0<=n.bp)&&(decide (n.bp<(i:Int))&&scope (dc p n.bp.toNat).ay)))
def qX (p:dR) (n:dM):Bool:=!(n.ay==15)||(is p n.on&&(act (dc p n.on.toNat).ay&&(dc p n.on.toNat).bp==n.bp))
def Fh (a b:dM):Bool:=!(((((((!(a.bp==b.bp)||b.ay==1)||b.ay==15)||b.ay==13)||(b.ay==6&&b.ev==6))||a.ay==2)||a.ay==13)||(a.ay==5&&a.ev==6))
def n7 (p:dR) (f:hQ):Bool:=is p f.dY&&(is p f.to&&Fh (dc p f.dY.toNat) (dc p f.to.toNat))
def ho (p:dR):Bool:=gY (sL p) 0 p.ao&&(p.ao.all (qX p)&&p.bj.all (n7 p))
def nx (p:dR) (n:Int):Int:=((p.bj.countP fun f=>f.dY==n:Nat):Int)
def qc (p:dR) (n:Int):Int:=((p.bj.countP fun f=>f.to==n:Nat):Int)
end bq
end
section
namespace Go.Proofs.YtkpjmlnhhggenaaGreatDoor
open Go.Proofs.Tryz Go Go.RowKit Go.cK
abbrev al8:Tree:=(.aC (.aF .fI (.br 0) (.bN [41])) (.ret (.bool (.dB true)) [] [] []) (.ret (.bool (.dB false)) [] [] []))
abbrev al9:Tree:=(.aC (.aF .fI (.br 0) (.bN [33])) (.ret (.bool (.dB true)) [] [] []) (.aC (.aF .fI (.br 0) (.bN [40])) (.ret (.bool (.dB true)) [] [] []) al8))
abbrev al_:Tree:=(.aC (.aF .fI (.br 0) (.bN [47])) (.ret (.bool (.dB true)) [] [] []) (.aC (.aF .fI (.br 0) (.bN [37])) (.ret (.bool (.dB true)) [] [] []) al9))
abbrev ama:Tree:=(.aC (.aF .fI (.br 0) (.bN [45])) (.ret (.bool (.dB true)) [] [] []) (.aC (.aF .fI (.br 0) (.bN [42])) (.ret (.bool (.dB true)) [] [] []) al_))
abbrev amb:Tree:=(.aC (.aF .fI (.br 0) (.bN [33,61])) (.ret (.bool (.dB true)) [] [] []) (.aC (.aF .fI (.br 0) (.bN [43])) (.ret (.bool (.dB true)) [] [] []) ama))
abbrev amc:Tree:=(.aC (.aF .fI (.br 0) (.bN [60,61])) (.ret (.bool (.dB true)) [] [] []) (.aC (.aF .fI (.br 0) (.bN [61,61])) (.ret (.bool (.dB true)) [] [] []) amb))
abbrev amd:Tree:=(.aC (.aF .fI (.br 0) (.bN [38])) (.ret (.bool (.dB true)) [] [] []) (.aC (.aF .fI (.br 0) (.bN [60])) (.ret (.bool (.dB true)) [] [] []) amc))
abbrev Sg:Tree:=
(.aC (.aF .fI (.br 0) (.bN [124])) (.ret (.bool (.dB true)) [] [] []) amd)
theorem ame:cN prog {ex:=false,inl:=[],ei:=[],k5:=[],mu:=[],gT:=[],lQ:=[],jJ:=[],fN:=false,mc:=[],kB:=[],j3:=[],rws:=[]} f156 [(.str (.br 0))] [] [] ⟨0,0,0,1,0,0,0,0⟩=some Sg:=by kernel_rfl
theorem amf (t0:ByteArray) (W:al) (R:Ending->World->Prop) (h:Sg.ak prog W.w.heap.size R [] {T:=[t0]} W):bK prog 156 #[.string t0] W R:=
 dP func156 _ _ {T:=[t0]} _ ame (fun v aB=>by cases aB) h
abbrev amg:Tree:=(.a1 (.aF .le (.aE 0) (.aN 1)) (.grow (.aC (.un .not (.aF .gp (.aF .le (.aE 48) (.aF .hJ (.br 0) (.aN 1))) (.aF .le (.aF .hJ (.br 0) (.aN 1)) (.aE 57)))) (.ret (.bool (.dB false)) [] [] []) (.again 0 [(.int .i64 (.un (.wrap .i64) (.aF .add (.aN 1) (.aE 1))))] []))))
abbrev amh:Tree:=(.ret (.bool (.aF .fE (.aF .lt (.un .len (.br 0)) (.aE 19)) (.aF .fE (.aF .uh (.br 0) (.bN [57,50,50,51,51,55,50,48,51,54,56,53,52,55,55,53,56,48,55])) (.aF .fI (.br 0) (.bN [57,50,50,51,51,55,50,48,51,54,56,53,52,55,55,53,56,48,55]))))) [] [] [])
abbrev ami:Tree:=(.loop [(.int .i64 (.aE 0))] [] [(.int .i64 (.aN 1))] [] ⟨1,0,0,0,0,0,0,0⟩ (.aC (.aF .lt (.aN 1) (.un .len (.br 0))) amg amh))
abbrev amj:Tree:=(.a1 (.aF .fE (.aF .fE (.aF .fI (.br 0) (.bN [])) (.aF .lt (.aE 19) (.un .len (.br 0)))) (.aF .le (.aE 0) (.aE 0))) (.a1 (.aF .fE (.aF .fE (.aF .fI (.br 0) (.bN [])) (.aF .lt (.aE 19) (.un .len (.br 0)))) (.aF .lt (.aE 0) (.un .len (.br 0)))) (.aC (.aF .fE (.aF .fE (.aF .fI (.br 0) (.bN [])) (.aF .lt (.aE 19) (.un .len (.br 0)))) (.aF .gp (.aF .dz (.aF .hJ (.br 0) (.aE 0)) (.aE 48)) (.aF .lt (.aE 1) (.un .len (.br 0))))) (.ret (.bool (.dB false)) [] [] []) ami)))
abbrev amk:Tree:=(.grow (.aC (.aF .gp (.un .not (.aF .gp (.aF .le (.aE 48) (.aF .hJ (.br 0) (.aN 1))) (.aF .le (.aF .hJ (.br 0) (.aN 1)) (.aE 57)))) (.un .not (.aF .dz (.aF .hJ (.br 0) (.aN 1)) (.aE 95)))) (.ret (.bool (.dB false)) [] [] []) (.again 0 [(.int .i64 (.un (.wrap .i64) (.aF .add (.aN 1) (.aE 1))))] [])))
abbrev aml:Tree:=(.a1 (.aF .le (.aE 0) (.aN 1)) (.grow (.aC (.un .not (.aF .gp (.aF .le (.aE 97) (.aF .hJ (.br 0) (.aN 1))) (.aF .le (.aF .hJ (.br 0) (.aN 1)) (.aE 122)))) amk (.again 0 [(.int .i64 (.un (.wrap .i64) (.aF .add (.aN 1) (.aE 1))))] []))))
abbrev amm:Tree:=(.loop [(.int .i64 (.aE 0))] [] [(.int .i64 (.aN 1))] [] ⟨1,0,0,0,0,0,0,0⟩ (.aC (.aF .lt (.aN 1) (.un .len (.br 0))) aml (.ret (.bool (.dB true)) [] [] [])))
abbrev amn:Tree:=(.grow (.aC (.un .not (.aF .gp (.aF .le (.aE 97) (.aF .hJ (.br 0) (.aE 0))) (.aF .le (.aF .hJ (.br 0) (.aE 0)) (.aE 122)))) (.ret (.bool (.dB false)) [] [] []) amm))
abbrev amo:Tree:=(.a1 (.aF .fE (.aF .fE (.aF .fI (.br 0) (.bN [])) (.aF .lt (.aE 12) (.un .len (.br 0)))) (.aF .le (.aE 0) (.aE 0))) (.a1 (.aF .fE (.aF .fE (.aF .fI (.br 0) (.bN [])) (.aF .lt (.aE 12) (.un .len (.br 0)))) (.aF .lt (.aE 0) (.un .len (.br 0)))) (.aC (.un .not (.aF .fE (.aF .fI (.br 0) (.bN [])) (.aF .lt (.aE 12) (.un .len (.br 0))))) amn (.ret (.bool (.dB false)) [] [] []))))
abbrev amp:Tree:=(.a1 (.aF .le (.aE 0) (.aN 1)) (.aC (.aF .fE (.aF .fE (.aF .lt (.aF .hJ (.br 0) (.aN 1)) (.aE 32)) (.aF .lt (.aE 126) (.aF .hJ (.br 0) (.aN 1)))) (.aF .dz (.aF .hJ (.br 0) (.aN 1)) (.aE 39))) (.ret (.bool (.dB false)) [] [] []) (.again 0 [(.int .i64 (.un (.wrap .i64) (.aF .add (.aN 1) (.aE 1))))] [])))
abbrev amq:Tree:=(.loop [(.int .i64 (.aE 0))] [] [(.int .i64 (.aN 1))] [] ⟨1,0,0,0,0,0,0,0⟩ (.aC (.aF .lt (.aN 1) (.un .len (.br 0))) amp (.ret (.bool (.dB true)) [] [] [])))
abbrev amr:Tree:=(.call 156 [(.str (.br 0))] [] [] [] (.bool (.bv 0)) ⟨0,0,1,0,0,0,0,0⟩ (.ret (.bool (.bv 0)) [] [] []))
abbrev ams:Tree:=(.aC (.aF .dz (.aN 0) (.aE 3)) (.aC (.aF .lt (.aE 40) (.un .len (.br 0))) (.ret (.bool (.dB false)) [] [] []) amq) (.aC (.aF .dz (.aN 0) (.aE 4)) amr (.ret (.bool (.dB false)) [] [] [])))
abbrev Sh:Tree:=
(.new (.aC (.aF .dz (.aN 0) (.aE 1)) amj (.aC (.aF .dz (.aN 0) (.aE 2)) amo ams)))
theorem amt:cN prog {ex:=false,inl:=[154,155],ei:=[⟨7,[.az 4]⟩,⟨16,[.az 5]⟩,⟨25,[.az 6]⟩],k5:=[],mu:=[],gT:=[],lQ:=[],jJ:=[],fN:=false,mc:=[],kB:=[],j3:=[],rws:=[]} f157 [(.agg [(.int .u8 (.aN 0)),(.str (.br 0))])] [] [] ⟨1,0,0,1,0,0,0,0⟩=some Sh:=by kernel_rfl
theorem amu (i0:Int) (t0:ByteArray) (W:al) (R:Ending->World->Prop) (h:Sh.ak prog W.w.heap.size R [] {aV:=[i0],T:=[t0]} W):bK prog 157 #[.agg #[.int .u8 i0,.string t0]] W R:=
 dP func157 _ _ {aV:=[i0],T:=[t0]} _ amt (fun v aB=>by cases aB) h
abbrev amv:Tree:=(.again 0 [(.int .i64 (.un (.wrap .i64) (.aF .add (.aN 0) (.aE 1)))),(.bt 0 (.aW 0) (.aW 1))] [⟨(.bt 0 (.aW 0) (.aW 1)),(.aW 0),192,2,[(.l 0)]⟩])
abbrev vn:Tree:=(.ret (.cU [.db,(.int .i64 (.aE 4))]) [] [] [⟨(.bt 0 (.aW 0) (.aW 1)),(.aW 0),192,2,[(.l 0)]⟩])
abbrev amw:Tree:=(.new (.a1 (.aF .le (.aF .add (.aW 0) (.aE 1)) (.aE 5864062014805)) (.eu (.aF .add (.aW 0) (.aE 1)) (.eM [⟨1,192,[(.int .u8 (.aE 1)),(.str (.cut (.br 0) (.aN 0) (.aN 1)))]⟩,⟨0,192,[(.int .u8 (.aE 1)),(.str (.cut (.br 0) (.aN 0) (.aN 1)))]⟩] (.again 0 [(.int .i64 (.aN 1)),(.bt 1 (.aF .add (.aW 0) (.aE 1)) (.aW 2))] [⟨(.bt 1 (.aF .add (.aW 0) (.aE 1)) (.aW 2)),(.aF .add (.aW 0) (.aE 1)),192,2,[(.l 0),(.s (.int .u8 (.aE 1))),(.s (.str (.cut (.br 0) (.aN 0) (.aN 1))))]⟩])))))
abbrev Si:Tree:=(.a1 (.aF .le (.aN 0) (.aN 1)) (.a1 (.aF .le (.aN 1) (.un .len (.br 0))) (.wr (.call 157 [(.agg [(.int .u8 (.aE 1)),(.str (.cut (.br 0) (.aN 0) (.aN 1)))])] [] [⟨(.bt 0 (.aW 0) (.aW 1)),(.aW 0),192,2,[(.l 0)]⟩] [] (.bool (.bv 0)) ⟨0,0,1,0,0,0,0,0⟩ (.aC (.un .not (.bv 0)) vn amw)))))
abbrev amx:Tree:=(.grow (.aC (.aF .gp (.aF .le (.aE 48) (.aF .hJ (.br 0) (.aN 1))) (.aF .le (.aF .hJ (.br 0) (.aN 1)) (.aE 57))) (.again 1 [(.int .i64 (.un (.wrap .i64) (.aF .add (.aN 1) (.aE 1))))] []) Si))
abbrev amy:Tree:=(.a1 (.aF .fE (.un .not (.aF .lt (.aN 1) (.un .len (.br 0)))) (.aF .le (.aE 0) (.aN 1))) (.a1 (.aF .fE (.un .not (.aF .lt (.aN 1) (.un .len (.br 0)))) (.aF .lt (.aN 1) (.un .len (.br 0)))) (.aC (.aF .lt (.aN 1) (.un .len (.br 0))) amx Si)))
abbrev amz:Tree:=(.loop [(.int .i64 (.un (.wrap .i64) (.aF .add (.aN 0) (.aE 1))))] [] [(.int .i64 (.aN 1))] [] ⟨1,0,0,0,0,0,0,0⟩ amy)
abbrev amA:Tree:=(.new (.a1 (.aF .le (.aF .add (.aW 0) (.aE 1)) (.aE 5864062014805)) (.eu (.aF .add (.aW 0) (.aE 1)) (.eM [⟨1,192,[(.int .u8 (.aE 2)),(.str (.cut (.br 0) (.aN 0) (.aN 1)))]⟩,⟨0,192,[(.int .u8 (.aE 2)),(.str (.cut (.br 0) (.aN 0) (.aN 1)))]⟩] (.again 0 [(.int .i64 (.aN 1)),(.bt 1 (.aF .add (.aW 0) (.aE 1)) (.aW 2))] [⟨(.bt 1 (.aF .add (.aW 0) (.aE 1)) (.aW 2)),(.aF .add (.aW 0) (.aE 1)),192,2,[(.l 0),(.s (.int .u8 (.aE 2))),(.s (.str (.cut (.br 0) (.aN 0) (.aN 1))))]⟩])))))
abbrev Sj:Tree:=(.a1 (.aF .le (.aN 0) (.aN 1)) (.a1 (.aF .le (.aN 1) (.un .len (.br 0))) (.wr (.call 157 [(.agg [(.int .u8 (.aE 2)),(.str (.cut (.br 0) (.aN 0) (.aN 1)))])] [] [⟨(.bt 0 (.aW 0) (.aW 1)),(.aW 0),192,2,[(.l 0)]⟩] [] (.bool (.bv 0)) ⟨0,0,1,0,0,0,0,0⟩ (.aC (.un .not (.bv 0)) vn amA)))))
abbrev amB:Tree:=(.grow (.aC (.aF .fE (.aF .gp (.aF .le (.aE 48) (.aF .hJ (.br 0) (.aN 1))) (.aF .le (.aF .hJ (.br 0) (.aN 1)) (.aE 57))) (.aF .dz (.aF .hJ (.br 0) (.aN 1)) (.aE 95))) (.again 1 [(.int .i64 (.un (.wrap .i64) (.aF .add (.aN 1) (.aE 1))))] []) Sj))
abbrev amC:Tree:=(.grow (.aC (.un .not (.aF .gp (.aF .le (.aE 97) (.aF .hJ (.br 0) (.aN 1))) (.aF .le (.aF .hJ (.br 0) (.aN 1)) (.aE 122)))) amB (.again 1 [(.int .i64 (.un (.wrap .i64) (.aF .add (.aN 1) (.aE 1))))] [])))
abbrev amD:Tree:=(.a1 (.aF .fE (.un .not (.aF .lt (.aN 1) (.un .len (.br 0)))) (.aF .le (.aE 0) (.aN 1))) (.a1 (.aF .fE (.un .not (.aF .lt (.aN 1) (.un .len (.br 0)))) (.aF .lt (.aN 1) (.un .len (.br 0)))) (.aC (.aF .lt (.aN 1) (.un .len (.br 0))) amC Sj)))
abbrev amE:Tree:=(.loop [(.int .i64 (.un (.wrap .i64) (.aF .add (.aN 0) (.aE 1))))] [] [(.int .i64 (.aN 1))] [] ⟨1,0,0,0,0,0,0,0⟩ amD)
abbrev amF:Tree:=(.new (.a1 (.aF .le (.aF .add (.aW 0) (.aE 1)) (.aE 5864062014805)) (.eu (.aF .add (.aW 0) (.aE 1)) (.eM [⟨1,192,[(.int .u8 (.aE 3)),(.str (.cut (.br 0) (.un (.wrap .i64) (.aF .add (.aN 0) (.aE 1))) (.aN 1)))]⟩,⟨0,192,[(.int .u8 (.aE 3)),(.str (.cut (.br 0) (.un (.wrap .i64) (.aF .add (.aN 0) (.aE 1))) (.aN 1)))]⟩] (.again 0 [(.int .i64 (.un (.wrap .i64) (.aF .add (.aN 1) (.aE 1)))),(.bt 1 (.aF .add (.aW 0) (.aE 1)) (.aW 2))] [⟨(.bt 1 (.aF .add (.aW 0) (.aE 1)) (.aW 2)),(.aF .add (.aW 0) (.aE 1)),192,2,[(.l 0),(.s (.int .u8 (.aE 3))),(.s (.str (.cut (.br 0) (.un (.wrap .i64) (.aF .add (.aN 0) (.aE 1))) (.aN 1))))]⟩])))))
abbrev amG:Tree:=(.a1 (.aF .le (.aE 0) (.un (.wrap .i64) (.aF .add (.aN 0) (.aE 1)))) (.a1 (.aF .le (.un (.wrap .i64) (.aF .add (.aN 0) (.aE 1))) (.aN 1)) (.a1 (.aF .le (.aN 1) (.un .len (.br 0))) (.wr (.call 157 [(.agg [(.int .u8 (.aE 3)),(.str (.cut (.br 0) (.un (.wrap .i64) (.aF .add (.aN 0) (.aE 1))) (.aN 1)))])] [] [⟨(.bt 0 (.aW 0) (.aW 1)),(.aW 0),192,2,[(.l 0)]⟩] [] (.bool (.bv 0)) ⟨0,0,1,0,0,0,0,0⟩ (.aC (.un .not (.bv 0)) vn amF))))))
abbrev amH:Tree:=(.a1 (.aF .fE (.un .not (.aF .lt (.aN 1) (.un .len (.br 0)))) (.aF .le (.aE 0) (.aN 1))) (.a1 (.aF .fE (.un .not (.aF .lt (.aN 1) (.un .len (.br 0)))) (.aF .lt (.aN 1) (.un .len (.br 0)))) (.aC (.aF .gp (.aF .lt (.aN 1) (.un .len (.br 0))) (.un .not (.aF .dz (.aF .hJ (.br 0) (.aN 1)) (.aE 39)))) (.again 1 [(.int .i64 (.un (.wrap .i64) (.aF .add (.aN 1) (.aE 1))))] []) (.aC (.aF .dz (.aN 1) (.un .len (.br 0))) vn amG))))
abbrev amI:Tree:=(.loop [(.int .i64 (.un (.wrap .i64) (.aF .add (.aN 0) (.aE 1))))] [] [(.int .i64 (.aN 1))] [] ⟨1,0,0,0,0,0,0,0⟩ amH)
abbrev amJ:Tree:=(.new (.a1 (.aF .le (.aF .add (.aW 0) (.aE 1)) (.aE 5864062014805)) (.eu (.aF .add (.aW 0) (.aE 1)) (.eM [⟨1,192,[(.int .u8 (.aE 4)),(.str (.cut (.br 0) (.aN 0) (.un (.wrap .i64) (.aF .add (.un (.wrap .i64) (.aF .add (.aN 0) (.aE 1))) (.aE 1)))))]⟩,⟨0,192,[(.int .u8 (.aE 4)),(.str (.cut (.br 0) (.aN 0) (.un (.wrap .i64) (.aF .add (.un (.wrap .i64) (.aF .add (.aN 0) (.aE 1))) (.aE 1)))))]⟩] (.again 0 [(.int .i64 (.un (.wrap .i64) (.aF .add (.un (.wrap .i64) (.aF .add (.aN 0) (.aE 1))) (.aE 1)))),(.bt 1 (.aF .add (.aW 0) (.aE 1)) (.aW 2))] [⟨(.bt 1 (.aF .add (.aW 0) (.aE 1)) (.aW 2)),(.aF .add (.aW 0) (.aE 1)),192,2,[(.l 0),(.s (.int .u8 (.aE 4))),(.s (.str (.cut (.br 0) (.aN 0) (.un (.wrap .i64) (.aF .add (.un (.wrap .i64) (.aF .add (.aN 0) (.aE 1))) (.aE 1))))))]⟩])))))
abbrev amK:Tree:=(.wr (.call 157 [(.agg [(.int .u8 (.aE 4)),(.str (.cut (.br 0) (.aN 0) (.un (.wrap .i64) (.aF .add (.un (.wrap .i64) (.aF .add (.aN 0) (.aE 1))) (.aE 1)))))])] [] [⟨(.bt 0 (.aW 0) (.aW 1)),(.aW 0),192,2,[(.l 0)]⟩] [] (.bool (.bv 1)) ⟨0,0,1,0,0,0,0,0⟩ (.aC (.un .not (.bv 1)) vn amJ)))
abbrev Sk:Tree:=(.new (.a1 (.aF .le (.aF .add (.aW 0) (.aE 1)) (.aE 5864062014805)) (.eu (.aF .add (.aW 0) (.aE 1)) (.eM [⟨1,192,[(.int .u8 (.aE 4)),(.str (.cut (.br 0) (.aN 0) (.un (.wrap .i64) (.aF .add (.aN 0) (.aE 1)))))]⟩,⟨0,192,[(.int .u8 (.aE 4)),(.str (.cut (.br 0) (.aN 0) (.un (.wrap .i64) (.aF .add (.aN 0) (.aE 1)))))]⟩] (.again 0 [(.int .i64 (.un (.wrap .i64) (.aF .add (.aN 0) (.aE 1)))),(.bt 1 (.aF .add (.aW 0) (.aE 1)) (.aW 2))] [⟨(.bt 1 (.aF .add (.aW 0) (.aE 1)) (.aW 2)),(.aF .add (.aW 0) (.aE 1)),192,2,[(.l 0),(.s (.int .u8 (.aE 4))),(.s (.str (.cut (.br 0) (.aN 0) (.un (.wrap .i64) (.aF .add (.aN 0) (.aE 1))))))]⟩])))))
abbrev amL:Tree:=(.a1 (.aF .le (.aN 0) (.un (.wrap .i64) (.aF .add (.aN 0) (.aE 1)))) (.a1 (.aF .le (.un (.wrap .i64) (.aF .add (.aN 0) (.aE 1))) (.un .len (.br 0))) (.wr (.call 157 [(.agg [(.int .u8 (.aE 4)),(.str (.cut (.br 0) (.aN 0) (.un (.wrap .i64) (.aF .add (.aN 0) (.aE 1)))))])] [] [⟨(.bt 0 (.aW 0) (.aW 1)),(.aW 0),192,2,[(.l 0)]⟩] [] (.bool (.bv 1)) ⟨0,0,1,0,0,0,0,0⟩ (.aC (.un .not (.bv 1)) vn Sk)))))
abbrev amM:Tree:=(.call 156 [(.str (.cut (.br 0) (.aN 0) (.un (.wrap .i64) (.aF .add (.un (.wrap .i64) (.aF .add (.aN 0) (.aE 1))) (.aE 1)))))] [] [⟨(.bt 0 (.aW 0) (.aW 1)),(.aW 0),192,2,[(.l 0)]⟩] [] (.bool (.bv 0)) ⟨0,0,1,0,0,0,0,0⟩ (.aC (.bv 0) amK amL))
abbrev amN:Tree:=(.a1 (.aF .le (.aN 0) (.un (.wrap .i64) (.aF .add (.aN 0) (.aE 1)))) (.a1 (.aF .le (.un (.wrap .i64) (.aF .add (.aN 0) (.aE 1))) (.un .len (.br 0))) (.wr (.call 157 [(.agg [(.int .u8 (.aE 4)),(.str (.cut (.br 0) (.aN 0) (.un (.wrap .i64) (.aF .add (.aN 0) (.aE 1)))))])] [] [⟨(.bt 0 (.aW 0) (.aW 1)),(.aW 0),192,2,[(.l 0)]⟩] [] (.bool (.bv 0)) ⟨0,0,1,0,0,0,0,0⟩ (.aC (.un .not (.bv 0)) vn Sk)))))
abbrev amO:Tree:=(.a1 (.aF .fE (.un .not (.aF .lt (.un (.wrap .i64) (.aF .add (.aN 0) (.aE 1))) (.un .len (.br 0)))) (.aF .le (.aN 0) (.un (.wrap .i64) (.aF .add (.un (.wrap .i64) (.aF .add (.aN 0) (.aE 1))) (.aE 1))))) (.a1 (.aF .fE (.un .not (.aF .lt (.un (.wrap .i64) (.aF .add (.aN 0) (.aE 1))) (.un .len (.br 0)))) (.aF .le (.un (.wrap .i64) (.aF .add (.un (.wrap .i64) (.aF .add (.aN 0) (.aE 1))) (.aE 1))) (.un .len (.br 0)))) (.aC (.aF .lt (.un (.wrap .i64) (.aF .add (.aN 0) (.aE 1))) (.un .len (.br 0))) amM amN)))
abbrev amP:Tree:=(.grow (.aC (.aF .gp (.aF .le (.aE 97) (.aF .hJ (.br 0) (.aN 0))) (.aF .le (.aF .hJ (.br 0) (.aN 0)) (.aE 122))) amE (.aC (.aF .dz (.aF .hJ (.br 0) (.aN 0)) (.aE 39)) amI amO)))
abbrev amQ:Tree:=(.new (.wr (.grow (.aC (.aF .gp (.aF .le (.aE 48) (.aF .hJ (.br 0) (.aN 0))) (.aF .le (.aF .hJ (.br 0) (.aN 0)) (.aE 57))) amz amP))))
abbrev amR:Tree:=(.a1 (.aF .le (.aE 0) (.aN 0)) (.aC (.aF .dz (.aF .hJ (.br 0) (.aN 0)) (.aE 32)) amv amQ))
abbrev amS:Tree:=(.ret (.cU [(.bt 0 (.aW 0) (.aW 1)),(.int .i64 (.aE 0))]) [] [] [⟨(.bt 0 (.aW 0) (.aW 1)),(.aW 0),192,2,[(.l 0)]⟩])
abbrev amT:Tree:=(.loop [(.int .i64 (.aE 0)),.db] [⟨.db,(.aE 0),192,2,[]⟩] [(.int .i64 (.aN 0)),(.bt 0 (.aW 0) (.aW 1))] [⟨(.bt 0 (.aW 0) (.aW 1)),(.aW 0),192,2,[(.l 0)]⟩] ⟨1,2,0,0,0,1,0,1⟩ (.aC (.aF .lt (.aN 0) (.un .len (.br 0))) amR amS))
abbrev Sl:Tree:=
(.aC (.aF .lt (.aE 100) (.un .len (.br 0))) (.ret (.cU [.db,(.int .i64 (.aE 40))]) [] [] []) amT)
theorem amU:cN prog {ex:=false,inl:=[154,155],ei:=[⟨5,[.az 5,.row 4 155]⟩,⟨12,[.az 7]⟩,⟨16,[.az 7]⟩,⟨20,[.az 7]⟩],k5:=[],mu:=[],gT:=[],lQ:=[],jJ:=[],fN:=false,mc:=[],kB:=[],j3:=[],rws:=[]} f125 [(.str (.br 0))] [] [] ⟨0,0,0,1,0,0,0,0⟩=some Sl:=by kernel_rfl
theorem amV (t0:ByteArray) (W:al) (R:Ending->World->Prop) (h:Sl.ak prog W.w.heap.size R [] {T:=[t0]} W):bK prog 125 #[.string t0] W R:=
 dP func125 _ _ {T:=[t0]} _ amU (fun v aB=>by cases aB) h
abbrev amW:Tree:=(.a1 (.aF .le (.aE 1) (.aW 0)) (.sub 0 (.aE 1) (.aW 0) (.aW 1) 2 (.wr (.ret (.bool (.dB true)) [⟨0,160,[(.bt 1 (.aW 2) (.aW 3)),(.bool (.bv 0))]⟩] [] []))))
abbrev amX:Tree:=(.aC (.aF .fI (.br 1) (.br 0)) amW (.ret (.bool (.dB false)) [⟨0,160,[(.bt 0 (.aW 0) (.aW 1)),(.bool (.bv 0))]⟩] [] []))
abbrev amY:Tree:=(.aC (.aF .dz (.aN 0) (.aE 4)) (.cl 9 (.b6 0 (.aE 0) 2 1) (.str (.br 1)) ⟨0,0,0,1,0,0,0,0⟩ amX) (.ret (.bool (.dB false)) [⟨0,160,[(.bt 0 (.aW 0) (.aW 1)),(.bool (.bv 0))]⟩] [] []))
abbrev Sm:Tree:=
(.a1 (.aF .fE (.un .not (.aF .lt (.aE 0) (.aW 0))) (.sm 0)) (.a1 (.aF .fE (.un .not (.aF .lt (.aE 0) (.aW 0))) (.aF .le (.aE 0) (.aE 0))) (.a1 (.aF .fE (.un .not (.aF .lt (.aE 0) (.aW 0))) (.aF .lt (.aE 0) (.aW 0))) (.aC (.aF .lt (.aE 0) (.aW 0)) (.cl 5 (.b6 0 (.aE 0) 2 0) (.int .u8 (.aN 0)) ⟨1,0,0,0,0,0,0,0⟩ amY) (.ret (.bool (.dB false)) [⟨0,160,[(.bt 0 (.aW 0) (.aW 1)),(.bool (.bv 0))]⟩] [] [])))))
theorem amZ:cN prog {ex:=false,inl:=[154,155],ei:=[],k5:=[],mu:=[],gT:=[],lQ:=[],jJ:=[],fN:=false,mc:=[],kB:=[],j3:=[],rws:=[]} f160 [(.ptr 0 0),(.str (.br 0))] [⟨0,160,[(.bt 0 (.aW 0) (.aW 1)),(.bool (.bv 0))]⟩] [] ⟨0,2,1,1,0,1,1,0⟩=some Sm:=by kernel_rfl
theorem am0 (ar aQ:Nat) (cm:Bool) (t0:ByteArray) (a0:Option Addr) (m0:Nat) (W:al) (R:Ending->World->Prop) (hm:W.w.heap[m0]? =some (.cells #[.slice a0 ar aQ,.bool cm] 160)) (bf:¬W.aV m0) (h:Sm.ak prog W.w.heap.size R [] {N:=[ar,aQ],B:=[cm],T:=[t0],A:=[a0],M:=[m0]} W):bK prog 160 #[.pointer (some ⟨m0,0,none⟩),.string t0] W R:=
 mm func160 _ _ [⟨0,160,[(.bt 0 (.aW 0) (.aW 1)),(.bool (.bv 0))]⟩] {N:=[ar,aQ],B:=[cm],T:=[t0],A:=[a0],M:=[m0]} _ amZ (fun v aB=>by cases aB) (fun b I=>by simp only[bd] at I;subst I;exact hm) (fun b I=>by simp only[bd] at I;subst I;exact bf) (jE _ _) h
abbrev Sn:Tree:=
(.new (.new (.new (.new (.new (.new (.ret (.fM 5 0 5 5) [⟨5,23,[(.fM 0 0 1 1),(.fM 1 0 1 1),(.fM 2 0 4 4),(.fM 3 0 2 2),(.fM 4 0 3 3)]⟩,⟨4,9,[(.str (.bN [42])),(.str (.bN [47])),(.str (.bN [37]))]⟩,⟨3,9,[(.str (.bN [43])),(.str (.bN [45]))]⟩,⟨2,9,[(.str (.bN [60])),(.str (.bN [60,61])),(.str (.bN [61,61])),(.str (.bN [33,61]))]⟩,⟨1,9,[(.str (.bN [38]))]⟩,⟨0,9,[(.str (.bN [124]))]⟩] [] [])))))))
theorem am1:cN prog {ex:=false,inl:=[154,155],ei:=[],k5:=[],mu:=[],gT:=[],lQ:=[],jJ:=[],fN:=false,mc:=[],kB:=[],j3:=[],rws:=[]} f159 [] [] [] ⟨0,0,0,0,0,0,0,0⟩=some Sn:=by kernel_rfl
theorem am2 (W:al) (R:Ending->World->Prop) (h:Sn.ak prog W.w.heap.size R [] {} W):bK prog 159 #[] W R:=
 dP func159 _ _ {} _ am1 (fun v aB=>by cases aB) h
abbrev am3:Tree:=(.ret (.int .u8 (.un (.wrap .u8) (.aF .add (.aE 5) (.un (.wrap .u8) (.aE 10))))) [] [] [])
abbrev am4:Tree:=(.aC (.aF .fI (.bN [124]) (.br 0)) (.ret (.int .u8 (.un (.wrap .u8) (.aF .add (.aE 5) (.un (.wrap .u8) (.aE 9))))) [] [] []) (.aC (.aF .fI (.bN [45]) (.br 0)) am3 (.ret (.int .u8 (.aE 0)) [] [] [])))
abbrev am5:Tree:=(.aC (.aF .fI (.bN [38]) (.br 0)) (.ret (.int .u8 (.un (.wrap .u8) (.aF .add (.aE 5) (.un (.wrap .u8) (.aE 8))))) [] [] []) am4)
abbrev am6:Tree:=(.aC (.aF .fI (.bN [33,61]) (.br 0)) (.ret (.int .u8 (.un (.wrap .u8) (.aF .add (.aE 5) (.un (.wrap .u8) (.aE 7))))) [] [] []) am5)
abbrev am7:Tree:=(.aC (.aF .fI (.bN [61,61]) (.br 0)) (.ret (.int .u8 (.un (.wrap .u8) (.aF .add (.aE 5) (.un (.wrap .u8) (.aE 6))))) [] [] []) am6)
abbrev am8:Tree:=(.aC (.aF .fI (.bN [60,61]) (.br 0)) (.ret (.int .u8 (.un (.wrap .u8) (.aF .add (.aE 5) (.un (.wrap .u8) (.aE 5))))) [] [] []) am7)
abbrev am9:Tree:=(.aC (.aF .fI (.bN [60]) (.br 0)) (.ret (.int .u8 (.un (.wrap .u8) (.aF .add (.aE 5) (.un (.wrap .u8) (.aE 4))))) [] [] []) am8)
abbrev am_:Tree:=(.aC (.aF .fI (.bN [43]) (.br 0)) (.ret (.int .u8 (.un (.wrap .u8) (.aF .add (.aE 5) (.un (.wrap .u8) (.aE 3))))) [] [] []) am9)
abbrev ana:Tree:=(.aC (.aF .fI (.bN [37]) (.br 0)) (.ret (.int .u8 (.un (.wrap .u8) (.aF .add (.aE 5) (.un (.wrap .u8) (.aE 2))))) [] [] []) am_)
abbrev anb:Tree:=(.aC (.aF .fI (.bN [47]) (.br 0)) (.ret (.int .u8 (.un (.wrap .u8) (.aF .add (.aE 5) (.un (.wrap .u8) (.aE 1))))) [] [] []) ana)
abbrev So:Tree:=
(.new (.aC (.aF .fI (.bN [42]) (.br 0)) (.ret (.int .u8 (.un (.wrap .u8) (.aF .add (.aE 5) (.un (.wrap .u8) (.aE 0))))) [] [] []) anb))
theorem anc:cN prog {ex:=false,inl:=[154,155],ei:=[],k5:=[(2,12)],mu:=[],gT:=[],lQ:=[],jJ:=[],fN:=false,mc:=[],kB:=[],j3:=[],rws:=[]} f161 [(.str (.br 0))] [] [] ⟨0,0,0,1,0,0,0,0⟩=some So:=by kernel_rfl
theorem ane (t0:ByteArray) (W:al) (R:Ending->World->Prop) (h:So.ak prog W.w.heap.size R [] {T:=[t0]} W):bK prog 161 #[.string t0] W R:=
 dP func161 _ _ {T:=[t0]} _ anc (fun v aB=>by cases aB) h
abbrev anf:Tree:=(.a1 (.aF .le (.aE 0) (.aN 1)) (.again 0 [(.int .i64 (.un (.wrap .i64) (.aF .add (.un (.wrap .i64) (.aF .mul (.aN 0) (.aE 10))) (.un (.wrap .i64) (.un (.wrap .u8) (.aF .sub (.aF .hJ (.br 0) (.aN 1)) (.aE 48))))))),(.int .i64 (.un (.wrap .i64) (.aF .add (.aN 1) (.aE 1))))] []))
abbrev ang:Tree:=(.aC (.aF .lt (.aN 1) (.un .len (.br 0))) anf (.ret (.int .i64 (.aN 0)) [] [] []))
abbrev Sp:Tree:=
(.loop [(.int .i64 (.aE 0)),(.int .i64 (.aE 0))] [] [(.int .i64 (.aN 0)),(.int .i64 (.aN 1))] [] ⟨2,0,0,0,0,0,0,0⟩ ang)
theorem anh:cN prog {ex:=false,inl:=[154,155],ei:=[⟨3,[.az 3,.az 4]⟩],k5:=[],mu:=[],gT:=[],lQ:=[],jJ:=[],fN:=false,mc:=[],kB:=[],j3:=[],rws:=[]} f178 [(.str (.br 0))] [] [] ⟨0,0,0,1,0,0,0,0⟩=some Sp:=by kernel_rfl
theorem ani (t0:ByteArray) (W:al) (R:Ending->World->Prop) (h:Sp.ak prog W.w.heap.size R [] {T:=[t0]} W):bK prog 178 #[.string t0] W R:=
 dP func178 _ _ {T:=[t0]} _ anh (fun v aB=>by cases aB) h
abbrev anj:Tree:=(.wr (.wr (.ret (.agg [(.int .u8 (.aE 0)),(.int .u8 (.aE 0)),(.int .i64 (.aE 0)),(.str (.bN [])),(.str (.bN [])),.db]) [⟨0,160,[(.bt 0 (.aW 0) (.aW 1)),(.bool (.dB true))]⟩] [] [])))
abbrev ank:Tree:=(.new (.wr (.ret (.agg [(.int .u8 (.aE 3)),(.int .u8 (.aE 0)),(.int .i64 (.aE 0)),(.str (.bN [])),(.str (.bN [])),(.fM 2 0 1 1)]) [⟨2,56,[(.int .u8 (.aN 0)),(.int .u8 (.aN 1)),(.int .i64 (.aN 2)),(.str (.br 0)),(.str (.br 1)),(.bt 2 (.aW 4) (.aW 5))]⟩,⟨0,160,[(.bt 3 (.aW 6) (.aW 7)),(.bool (.bv 3))]⟩] [] [])))
abbrev anl:Tree:=(.call 158 [(.ptr 0 0)] [⟨0,160,[(.bt 1 (.aW 2) (.aW 3)),(.bool (.bv 2))]⟩] [] [⟨0,160,[(.bt 3 (.aW 6) (.aW 7)),(.bool (.bv 3))]⟩] (.agg [(.int .u8 (.aN 0)),(.int .u8 (.aN 1)),(.int .i64 (.aN 2)),(.str (.br 0)),(.str (.br 1)),(.bt 2 (.aW 4) (.aW 5))]) ⟨3,4,1,2,0,2,0,0⟩ ank)
abbrev anm:Tree:=(.new (.wr (.ret (.agg [(.int .u8 (.aE 4)),(.int .u8 (.aE 0)),(.int .i64 (.aE 0)),(.str (.bN [])),(.str (.bN [])),(.fM 2 0 1 1)]) [⟨2,56,[(.int .u8 (.aN 0)),(.int .u8 (.aN 1)),(.int .i64 (.aN 2)),(.str (.br 0)),(.str (.br 1)),(.bt 3 (.aW 6) (.aW 7))]⟩,⟨0,160,[(.bt 4 (.aW 8) (.aW 9)),(.bool (.bv 5))]⟩] [] [])))
abbrev ann:Tree:=(.call 158 [(.ptr 0 0)] [⟨0,160,[(.bt 2 (.aW 4) (.aW 5)),(.bool (.bv 4))]⟩] [] [⟨0,160,[(.bt 4 (.aW 8) (.aW 9)),(.bool (.bv 5))]⟩] (.agg [(.int .u8 (.aN 0)),(.int .u8 (.aN 1)),(.int .i64 (.aN 2)),(.str (.br 0)),(.str (.br 1)),(.bt 3 (.aW 6) (.aW 7))]) ⟨3,4,1,2,0,2,0,0⟩ anm)
abbrev ano:Tree:=(.wr (.wr (.ret (.agg [(.int .u8 (.aE 0)),(.int .u8 (.aE 0)),(.int .i64 (.aE 0)),(.str (.bN [])),(.str (.bN [])),.db]) [⟨0,160,[(.bt 4 (.aW 8) (.aW 9)),(.bool (.dB true))]⟩] [] [])))
abbrev anp:Tree:=(.wr (.new (.wr (.ret (.agg [(.int .u8 (.aE 16)),(.int .u8 (.aE 0)),(.int .i64 (.aE 0)),(.str (.bN [])),(.str (.bN [])),(.fM 4 0 1 1)]) [⟨4,56,[(.int .u8 (.aN 1)),(.int .u8 (.aN 2)),(.int .i64 (.aN 3)),(.str (.br 1)),(.str (.br 2)),(.bt 5 (.aW 10) (.aW 11))]⟩,⟨0,160,[(.bt 7 (.aW 14) (.aW 15)),(.bool (.dB true))]⟩] [] []))))
abbrev anq:Tree:=(.new (.wr (.ret (.agg [(.int .u8 (.aE 16)),(.int .u8 (.aE 0)),(.int .i64 (.aE 0)),(.str (.bN [])),(.str (.bN [])),(.fM 4 0 1 1)]) [⟨4,56,[(.int .u8 (.aN 1)),(.int .u8 (.aN 2)),(.int .i64 (.aN 3)),(.str (.br 1)),(.str (.br 2)),(.bt 5 (.aW 10) (.aW 11))]⟩,⟨0,160,[(.bt 7 (.aW 14) (.aW 15)),(.bool (.bv 9))]⟩] [] [])))
abbrev anr:Tree:=(.new (.wr (.call 160 [(.ptr 0 0),(.str (.bN [41]))] [⟨0,160,[(.bt 6 (.aW 12) (.aW 13)),(.bool (.bv 7))]⟩] [] [⟨0,160,[(.bt 7 (.aW 14) (.aW 15)),(.bool (.bv 9))]⟩] (.bool (.bv 8)) ⟨0,2,2,0,0,1,0,0⟩ (.aC (.un .not (.bv 8)) anp anq))))
abbrev ans:Tree:=(.call 126 [(.ptr 0 0),(.int .i64 (.aE 0))] [⟨0,160,[(.bt 4 (.aW 8) (.aW 9)),(.bool (.bv 6))]⟩] [] [⟨0,160,[(.bt 6 (.aW 12) (.aW 13)),(.bool (.bv 7))]⟩] (.agg [(.int .u8 (.aN 1)),(.int .u8 (.aN 2)),(.int .i64 (.aN 3)),(.str (.br 1)),(.str (.br 2)),(.bt 5 (.aW 10) (.aW 11))]) ⟨3,4,1,2,0,2,0,0⟩ anr)
abbrev ant:Tree:=(.a1 (.aF .le (.aE 1) (.aW 4)) (.sub 2 (.aE 1) (.aW 4) (.aW 5) 2 (.wr (.call 160 [(.ptr 0 0),(.str (.bN [40]))] [⟨0,160,[(.bt 3 (.aW 6) (.aW 7)),(.bool (.bv 4))]⟩] [] [⟨0,160,[(.bt 4 (.aW 8) (.aW 9)),(.bool (.bv 6))]⟩] (.bool (.bv 5)) ⟨0,2,2,0,0,1,0,0⟩ (.aC (.un .not (.bv 5)) ano ans)))))
abbrev anu:Tree:=(.wr (.wr (.ret (.agg [(.int .u8 (.aE 0)),(.int .u8 (.aE 0)),(.int .i64 (.aE 0)),(.str (.bN [])),(.str (.bN [])),.db]) [⟨0,160,[(.bt 3 (.aW 6) (.aW 7)),(.bool (.dB true))]⟩] [] [])))
abbrev anv:Tree:=(.wr (.wr (.ret (.agg [(.int .u8 (.aN 1)),(.int .u8 (.aN 2)),(.int .i64 (.aN 3)),(.str (.br 1)),(.str (.br 2)),(.bt 4 (.aW 8) (.aW 9))]) [⟨0,160,[(.bt 6 (.aW 12) (.aW 13)),(.bool (.dB true))]⟩] [] [])))
abbrev anw:Tree:=(.wr (.ret (.agg [(.int .u8 (.aN 1)),(.int .u8 (.aN 2)),(.int .i64 (.aN 3)),(.str (.br 1)),(.str (.br 2)),(.bt 4 (.aW 8) (.aW 9))]) [⟨0,160,[(.bt 6 (.aW 12) (.aW 13)),(.bool (.bv 9))]⟩] [] []))
abbrev anx:Tree:=(.new (.wr (.call 160 [(.ptr 0 0),(.str (.bN [41]))] [⟨0,160,[(.bt 5 (.aW 10) (.aW 11)),(.bool (.bv 7))]⟩] [] [⟨0,160,[(.bt 6 (.aW 12) (.aW 13)),(.bool (.bv 9))]⟩] (.bool (.bv 8)) ⟨0,2,2,0,0,1,0,0⟩ (.aC (.un .not (.bv 8)) anv anw))))
abbrev anz:Tree:=(.call 126 [(.ptr 0 0),(.int .i64 (.aE 0))] [⟨0,160,[(.bt 3 (.aW 6) (.aW 7)),(.bool (.bv 6))]⟩] [] [⟨0,160,[(.bt 5 (.aW 10) (.aW 11)),(.bool (.bv 7))]⟩] (.agg [(.int .u8 (.aN 1)),(.int .u8 (.aN 2)),(.int .i64 (.aN 3)),(.str (.br 1)),(.str (.br 2)),(.bt 4 (.aW 8) (.aW 9))]) ⟨3,4,1,2,0,2,0,0⟩ anx)
abbrev anA:Tree:=(.call 160 [(.ptr 0 0),(.str (.bN [40]))] [⟨0,160,[(.bt 2 (.aW 4) (.aW 5)),(.bool (.bv 4))]⟩] [] [⟨0,160,[(.bt 3 (.aW 6) (.aW 7)),(.bool (.bv 6))]⟩] (.bool (.bv 5)) ⟨0,2,2,0,0,1,0,0⟩ (.aC (.un .not (.bv 5)) anu anz))
abbrev anB:Tree:=(.grow (.wr (.ret (.agg [(.int .u8 (.aE 1)),(.int .u8 (.aE 1)),(.int .i64 (.aN 1)),(.str (.bN [])),(.str (.bN [])),.db]) [⟨0,160,[(.bt 3 (.aW 6) (.aW 7)),(.bool (.bv 4))]⟩] [] [])))
abbrev anC:Tree:=(.call 178 [(.str (.br 0))] [] [] [] (.int .i64 (.aN 1)) ⟨1,0,0,0,0,0,0,0⟩ anB)
abbrev anD:Tree:=(.wr (.ret (.agg [(.int .u8 (.aE 1)),(.int .u8 (.aE 3)),(.int .i64 (.aE 0)),(.str (.br 0)),(.str (.bN [])),.db]) [⟨0,160,[(.bt 3 (.aW 6) (.aW 7)),(.bool (.bv 4))]⟩] [] []))
abbrev anE:Tree:=(.grow (.wr (.ret (.agg [(.int .u8 (.aE 1)),(.int .u8 (.aE 2)),(.int .i64 (.aE 1)),(.str (.bN [])),(.str (.bN [])),.db]) [⟨0,160,[(.bt 3 (.aW 6) (.aW 7)),(.bool (.bv 4))]⟩] [] [])))
abbrev anF:Tree:=(.grow (.wr (.ret (.agg [(.int .u8 (.aE 1)),(.int .u8 (.aE 2)),(.int .i64 (.aE 0)),(.str (.bN [])),(.str (.bN [])),.db]) [⟨0,160,[(.bt 3 (.aW 6) (.aW 7)),(.bool (.bv 4))]⟩] [] [])))
abbrev anG:Tree:=(.wr (.ret (.agg [(.int .u8 (.aE 2)),(.int .u8 (.aE 0)),(.int .i64 (.aE 0)),(.str (.bN [])),(.str (.br 0)),.db]) [⟨0,160,[(.bt 3 (.aW 6) (.aW 7)),(.bool (.bv 4))]⟩] [] []))
abbrev anH:Tree:=(.aC (.aF .fE (.aF .fI (.br 0) (.bN [121,101,115])) (.aF .fI (.br 0) (.bN [110,111]))) (.aC (.aF .fI (.br 0) (.bN [121,101,115])) anE anF) anG)
abbrev anI:Tree:=(.a1 (.aF .le (.aE 1) (.aW 4)) (.sub 2 (.aE 1) (.aW 4) (.aW 5) 2 (.wr (.aC (.aF .dz (.aN 0) (.aE 1)) anC (.aC (.aF .dz (.aN 0) (.aE 3)) anD anH)))))
abbrev anJ:Tree:=(.new (.wr (.aC (.aF .gp (.aF .dz (.aN 0) (.aE 2)) (.aF .fI (.br 0) (.bN [108,101,110]))) ant (.aC (.aF .dz (.aN 0) (.aE 4)) anA anI))))
abbrev anK:Tree:=(.a1 (.sm 2) (.a1 (.aF .le (.aE 0) (.aE 0)) (.a1 (.aF .lt (.aE 0) (.aW 4)) (.cl 192 (.b6 2 (.aE 0) 2 0) (.agg [(.int .u8 (.aN 0)),(.str (.br 0))]) ⟨1,0,0,1,0,0,0,0⟩ anJ))))
abbrev anL:Tree:=(.call 160 [(.ptr 0 0),(.str (.bN [33]))] [⟨0,160,[(.bt 1 (.aW 2) (.aW 3)),(.bool (.bv 2))]⟩] [] [⟨0,160,[(.bt 2 (.aW 4) (.aW 5)),(.bool (.bv 4))]⟩] (.bool (.bv 3)) ⟨0,2,2,0,0,1,0,0⟩ (.aC (.bv 3) ann anK))
abbrev anM:Tree:=(.call 160 [(.ptr 0 0),(.str (.bN [45]))] [⟨0,160,[(.bt 0 (.aW 0) (.aW 1)),(.bool (.bv 0))]⟩] [] [⟨0,160,[(.bt 1 (.aW 2) (.aW 3)),(.bool (.bv 2))]⟩] (.bool (.bv 1)) ⟨0,2,2,0,0,1,0,0⟩ (.aC (.bv 1) anl anL))
abbrev Sq:Tree:=
(.new (.aC (.aF .fE (.bv 0) (.aF .dz (.aW 0) (.aE 0))) anj anM))
theorem anN:cN prog {ex:=false,inl:=[154,155,177,179],ei:=[],k5:=[],mu:=[(160,[0]),(126,[0]),(158,[0])],gT:=[],lQ:=[],jJ:=[],fN:=false,mc:=[],kB:=[],j3:=[],rws:=[]} f158 [(.ptr 0 0)] [⟨0,160,[(.bt 0 (.aW 0) (.aW 1)),(.bool (.bv 0))]⟩] [] ⟨0,2,1,0,0,1,1,0⟩=some Sq:=by kernel_rfl
theorem anO (ar aQ:Nat) (cm:Bool) (a0:Option Addr) (m0:Nat) (W:al) (R:Ending->World->Prop) (hm:W.w.heap[m0]? =some (.cells #[.slice a0 ar aQ,.bool cm] 160)) (bf:¬W.aV m0) (h:Sq.ak prog W.w.heap.size R [] {N:=[ar,aQ],B:=[cm],A:=[a0],M:=[m0]} W):bK prog 158 #[.pointer (some ⟨m0,0,none⟩)] W R:=
 mm func158 _ _ [⟨0,160,[(.bt 0 (.aW 0) (.aW 1)),(.bool (.bv 0))]⟩] {N:=[ar,aQ],B:=[cm],A:=[a0],M:=[m0]} _ anN (fun v aB=>by cases aB) (fun b I=>by simp only[bd] at I;subst I;exact hm) (fun b I=>by simp only[bd] at I;subst I;exact bf) (jE _ _) h
abbrev anP:Tree:=(.wr (.ret (.agg [(.int .u8 (.aN 1)),(.int .u8 (.aN 2)),(.int .i64 (.aN 3)),(.str (.br 0)),(.str (.br 1)),(.bt 1 (.aW 2) (.aW 3))]) [⟨0,160,[(.bt 2 (.aW 4) (.aW 5)),(.bool (.bv 1))]⟩] [] []))
abbrev anQ:Tree:=(.call 158 [(.ptr 0 0)] [⟨0,160,[(.bt 0 (.aW 0) (.aW 1)),(.bool (.bv 0))]⟩] [] [⟨0,160,[(.bt 2 (.aW 4) (.aW 5)),(.bool (.bv 1))]⟩] (.agg [(.int .u8 (.aN 1)),(.int .u8 (.aN 2)),(.int .i64 (.aN 3)),(.str (.br 0)),(.str (.br 1)),(.bt 1 (.aW 2) (.aW 3))]) ⟨3,4,1,2,0,2,0,0⟩ anP)
abbrev anR:Tree:=(.again 1 [(.str (.br 6)),(.int .i64 (.un (.wrap .i64) (.aF .add (.aN 8) (.aE 1)))),(.bt 8 (.aW 16) (.aW 17)),(.bool (.bv 5))] [])
abbrev anS:Tree:=(.again 1 [(.str (.br 4)),(.int .i64 (.un (.wrap .i64) (.aF .add (.aN 8) (.aE 1)))),(.bt 8 (.aW 16) (.aW 17)),(.bool (.bv 5))] [])
abbrev anT:Tree:=(.aC (.bv 4) (.cl 9 (.b6 6 (.aN 8) 1 0) (.str (.br 6)) ⟨0,0,0,1,0,0,0,0⟩ anR) anS)
abbrev anU:Tree:=(.call 160 [(.ptr 0 0),(.str (.br 5))] [⟨0,160,[(.bt 7 (.aW 14) (.aW 15)),(.bool (.bv 3))]⟩] [] [⟨0,160,[(.bt 8 (.aW 16) (.aW 17)),(.bool (.bv 5))]⟩] (.bool (.bv 4)) ⟨0,2,2,0,0,1,0,0⟩ anT)
abbrev anV:Tree:=(.a1 (.sm 6) (.a1 (.aF .le (.aE 0) (.aN 8)) (.cl 9 (.b6 6 (.aN 8) 1 0) (.str (.br 5)) ⟨0,0,0,1,0,0,0,0⟩ anU)))
abbrev anW:Tree:=(.wr (.wr (.ret (.agg [(.int .u8 (.aN 5)),(.int .u8 (.aN 6)),(.int .i64 (.aN 7)),(.str (.br 2)),(.str (.br 3)),(.bt 4 (.aW 8) (.aW 9))]) [⟨0,160,[(.bt 7 (.aW 14) (.aW 15)),(.bool (.aF .fE (.bv 3) (.un .not (.aF .fI (.br 4) (.bN [])))))]⟩] [] [])))
abbrev anX:Tree:=(.grow (.new (.grow (.wr (.eM [⟨4,56,[(.int .u8 (.aN 5)),(.int .u8 (.aN 6)),(.int .i64 (.aN 7)),(.str (.br 2)),(.str (.br 3)),(.bt 4 (.aW 8) (.aW 9)),(.int .u8 (.aN 9)),(.int .u8 (.aN 10)),(.int .i64 (.aN 11)),(.str (.br 5)),(.str (.br 6)),(.bt 8 (.aW 16) (.aW 17))]⟩,⟨3,56,[(.int .u8 (.aN 9)),(.int .u8 (.aN 10)),(.int .i64 (.aN 11)),(.str (.br 5)),(.str (.br 6)),(.bt 8 (.aW 16) (.aW 17))]⟩] (.again 0 [(.int .i64 (.un (.wrap .i64) (.aF .add (.aN 4) (.aE 1)))),(.bt 9 (.aW 18) (.aW 19)),(.bool (.bv 4)),(.int .u8 (.aN 12)),(.int .u8 (.aE 0)),(.int .i64 (.aE 0)),(.str (.bN [])),(.str (.bN [])),(.fM 4 0 2 2)] []))))))
abbrev anY:Tree:=(.new (.wr (.jZ 161 [(.str (.br 4))] [] [] (.int .u8 (.aN 12)) ⟨1,0,0,0,0,0,0,0⟩ anX)))
abbrev anZ:Tree:=(.call 126 [(.ptr 0 0),(.int .i64 (.un (.wrap .i64) (.aF .add (.aN 0) (.aE 1))))] [⟨0,160,[(.bt 7 (.aW 14) (.aW 15)),(.bool (.bv 3))]⟩] [] [⟨0,160,[(.bt 9 (.aW 18) (.aW 19)),(.bool (.bv 4))]⟩] (.agg [(.int .u8 (.aN 9)),(.int .u8 (.aN 10)),(.int .i64 (.aN 11)),(.str (.br 5)),(.str (.br 6)),(.bt 8 (.aW 16) (.aW 17))]) ⟨3,4,1,2,0,2,0,0⟩ anY)
abbrev an0:Tree:=(.aC (.aF .fE (.aF .fI (.br 4) (.bN [])) (.aF .gp (.aF .dz (.aN 0) (.aE 2)) (.aF .lt (.aE 0) (.aN 4)))) anW anZ)
abbrev an1:Tree:=(.aC (.aF .gp (.aF .lt (.aN 8) (.aW 12)) (.aF .fI (.br 4) (.bN []))) anV an0)
abbrev an2:Tree:=(.loop [(.str (.bN [])),(.int .i64 (.aE 0)),(.bt 3 (.aW 6) (.aW 7)),(.bool (.bv 2))] [] [(.str (.br 4)),(.int .i64 (.aN 8)),(.bt 7 (.aW 14) (.aW 15)),(.bool (.bv 3))] [] ⟨1,2,1,1,0,1,0,0⟩ an1)
abbrev an3:Tree:=(.a1 (.sm 5) (.a1 (.aF .le (.aE 0) (.aN 0)) (.a1 (.aF .lt (.aN 0) (.aW 10)) (.cl 23 (.b6 5 (.aN 0) 1 0) (.bt 6 (.aW 12) (.aW 13)) ⟨0,2,0,0,0,1,0,0⟩ an2))))
abbrev an4:Tree:=(.wr (.ret (.agg [(.int .u8 (.aN 5)),(.int .u8 (.aN 6)),(.int .i64 (.aN 7)),(.str (.br 2)),(.str (.br 3)),(.bt 4 (.aW 8) (.aW 9))]) [⟨0,160,[(.bt 3 (.aW 6) (.aW 7)),(.bool (.bv 2))]⟩] [] []))
abbrev an5:Tree:=(.aC (.aF .gp (.aF .lt (.aN 4) (.aE 110)) (.un .not (.bv 2))) (.call 159 [] [] [] [] (.bt 5 (.aW 10) (.aW 11)) ⟨0,2,0,0,0,1,0,0⟩ an3) an4)
abbrev an6:Tree:=(.new (.wr (.loop [(.int .i64 (.aE 0)),(.bt 2 (.aW 4) (.aW 5)),(.bool (.bv 1)),(.int .u8 (.aN 1)),(.int .u8 (.aN 2)),(.int .i64 (.aN 3)),(.str (.br 0)),(.str (.br 1)),(.bt 1 (.aW 2) (.aW 3))] [] [(.int .i64 (.aN 4)),(.bt 3 (.aW 6) (.aW 7)),(.bool (.bv 2)),(.int .u8 (.aN 5)),(.int .u8 (.aN 6)),(.int .i64 (.aN 7)),(.str (.br 2)),(.str (.br 3)),(.bt 4 (.aW 8) (.aW 9))] [] ⟨4,4,1,2,0,2,0,0⟩ an5)))
abbrev an7:Tree:=(.call 126 [(.ptr 0 0),(.int .i64 (.un (.wrap .i64) (.aF .add (.aN 0) (.aE 1))))] [⟨0,160,[(.bt 0 (.aW 0) (.aW 1)),(.bool (.bv 0))]⟩] [] [⟨0,160,[(.bt 2 (.aW 4) (.aW 5)),(.bool (.bv 1))]⟩] (.agg [(.int .u8 (.aN 1)),(.int .u8 (.aN 2)),(.int .i64 (.aN 3)),(.str (.br 0)),(.str (.br 1)),(.bt 1 (.aW 2) (.aW 3))]) ⟨3,4,1,2,0,2,0,0⟩ an6)
abbrev Sr:Tree:=
(.new (.aC (.aF .fE (.bv 0) (.aF .lt (.aE 4) (.aN 0))) anQ an7))
theorem an8:cN prog {ex:=false,inl:=[154,155,177,179],ei:=[⟨5,[.az 6,.cell 0 0,.cell 0 1,.cell 2 0,.cell 2 1,.cell 2 2,.cell 2 3,.cell 2 4,.cell 2 5]⟩,⟨10,[.az 7,.az 9,.cell 0 0,.cell 0 1]⟩],k5:=[],mu:=[(160,[0]),(126,[0]),(158,[0])],gT:=[0],lQ:=[],jJ:=[],fN:=false,mc:=[],kB:=[],j3:=[],rws:=[]} f126 [(.ptr 0 0),(.int .i64 (.aN 0))] [⟨0,160,[(.bt 0 (.aW 0) (.aW 1)),(.bool (.bv 0))]⟩] [] ⟨1,2,1,0,0,1,1,0⟩=some Sr:=by kernel_rfl
theorem an9 (i0:Int) (ar aQ:Nat) (cm:Bool) (a0:Option Addr) (m0:Nat) (W:al) (R:Ending->World->Prop) (hm:W.w.heap[m0]? =some (.cells #[.slice a0 ar aQ,.bool cm] 160)) (bf:¬W.aV m0) (h:Sr.ak prog W.w.heap.size R [] {aV:=[i0],N:=[ar,aQ],B:=[cm],A:=[a0],M:=[m0]} W):bK prog 126 #[.pointer (some ⟨m0,0,none⟩),.int .i64 i0] W R:=
 mm func126 _ _ [⟨0,160,[(.bt 0 (.aW 0) (.aW 1)),(.bool (.bv 0))]⟩] {aV:=[i0],N:=[ar,aQ],B:=[cm],A:=[a0],M:=[m0]} _ an8 (fun v aB=>by cases aB) (fun b I=>by simp only[bd] at I;subst I;exact hm) (fun b I=>by simp only[bd] at I;subst I;exact bf) (jE _ _) h
abbrev an_:Tree:=(.again 0 [(.int .i64 (.aF .max (.aN 3) (.aN 8))),(.int .i64 (.un (.wrap .i64) (.aF .add (.aN 4) (.aE 1))))] [])
abbrev aoa:Tree:=(.call 127 [(.agg [(.int .u8 (.aN 5)),(.int .u8 (.aN 6)),(.int .i64 (.aN 7)),(.str (.br 2)),(.str (.br 3)),(.bt 1 (.aW 2) (.aW 3))])] [] [] [] (.int .i64 (.aN 8)) ⟨1,0,0,0,0,0,0,0⟩ an_)
abbrev aob:Tree:=(.a1 (.sm 0) (.a1 (.aF .le (.aE 0) (.aN 4)) (.cl 56 (.b6 0 (.aN 4) 6 0) (.agg [(.int .u8 (.aN 5)),(.int .u8 (.aN 6)),(.int .i64 (.aN 7)),(.str (.br 2)),(.str (.br 3)),(.bt 1 (.aW 2) (.aW 3))]) ⟨3,2,0,2,0,1,0,0⟩ aoa)))
abbrev aoc:Tree:=(.aC (.aF .lt (.aN 4) (.aW 0)) aob (.ret (.int .i64 (.un (.wrap .i64) (.aF .add (.aN 3) (.aE 1)))) [] [] []))
abbrev Ss:Tree:=
(.new (.loop [(.int .i64 (.aE 0)),(.int .i64 (.aE 0))] [] [(.int .i64 (.aN 3)),(.int .i64 (.aN 4))] [] ⟨2,0,0,0,0,0,0,0⟩ aoc))
theorem aod:cN prog {ex:=false,inl:=[154,155,177,179],ei:=[⟨3,[.az 3,.az 4]⟩],k5:=[],mu:=[(160,[0]),(126,[0]),(158,[0])],gT:=[],lQ:=[],jJ:=[],fN:=false,mc:=[],kB:=[],j3:=[],rws:=[]} f127 [(.agg [(.int .u8 (.aN 0)),(.int .u8 (.aN 1)),(.int .i64 (.aN 2)),(.str (.br 0)),(.str (.br 1)),(.bt 0 (.aW 0) (.aW 1))])] [] [] ⟨3,2,0,2,0,1,0,0⟩=some Ss:=by kernel_rfl
theorem aoe (i0 i1 i2:Int) (ar aQ:Nat) (t0 t1:ByteArray) (a0:Option Addr) (W:al) (R:Ending->World->Prop) (h:Ss.ak prog W.w.heap.size R [] {aV:=[i0,i1,i2],N:=[ar,aQ],T:=[t0,t1],A:=[a0]} W):bK prog 127 #[.agg #[.int .u8 i0,.int .u8 i1,.int .i64 i2,.string t0,.string t1,.slice a0 ar aQ]] W R:=
 dP func127 _ _ {aV:=[i0,i1,i2],N:=[ar,aQ],T:=[t0,t1],A:=[a0]} _ aod (fun v aB=>by cases aB) h
abbrev aof:Tree:=(.wr (.ret (.cU [(.agg [(.int .u8 (.aE 0)),(.int .u8 (.aE 0)),(.int .i64 (.aE 0)),(.str (.bN [])),(.str (.bN [])),.db]),(.int .i64 (.aN 0))]) [] [] []))
abbrev aog:Tree:=(.wr (.ret (.cU [(.agg [(.int .u8 (.aE 0)),(.int .u8 (.aE 0)),(.int .i64 (.aE 0)),(.str (.bN [])),(.str (.bN [])),.db]),(.int .i64 (.aE 4))]) [] [] []))
abbrev aoh:Tree:=(.wr (.ret (.cU [(.agg [(.int .u8 (.aE 0)),(.int .u8 (.aE 0)),(.int .i64 (.aE 0)),(.str (.bN [])),(.str (.bN [])),.db]),(.int .i64 (.aE 40))]) [] [] []))
abbrev aoi:Tree:=(.wr (.ret (.cU [(.agg [(.int .u8 (.aN 1)),(.int .u8 (.aN 2)),(.int .i64 (.aN 3)),(.str (.br 1)),(.str (.br 2)),(.bt 1 (.aW 2) (.aW 3))]),(.int .i64 (.aE 0))]) [] [] []))
abbrev aoj:Tree:=(.call 127 [(.agg [(.int .u8 (.aN 1)),(.int .u8 (.aN 2)),(.int .i64 (.aN 3)),(.str (.br 1)),(.str (.br 2)),(.bt 1 (.aW 2) (.aW 3))])] [] [] [] (.int .i64 (.aN 4)) ⟨1,0,0,0,0,0,0,0⟩ (.aC (.aF .lt (.aE 16) (.aN 4)) aoh aoi))
abbrev aok:Tree:=(.new (.call 126 [(.ptr 1 0),(.int .i64 (.aE 0))] [⟨1,160,[(.bt 0 (.aW 0) (.aW 1)),(.bool (.dB false))]⟩] [] [⟨1,160,[(.bt 2 (.aW 4) (.aW 5)),(.bool (.bv 0))]⟩] (.agg [(.int .u8 (.aN 1)),(.int .u8 (.aN 2)),(.int .i64 (.aN 3)),(.str (.br 1)),(.str (.br 2)),(.bt 1 (.aW 2) (.aW 3))]) ⟨3,4,1,2,0,2,0,0⟩ (.new (.wr (.aC (.aF .fE (.bv 0) (.aF .lt (.aE 0) (.aW 4))) aog aoj)))))
abbrev St:Tree:=
(.new (.call 125 [(.str (.br 0))] [] [] [] (.cU [(.bt 0 (.aW 0) (.aW 1)),(.int .i64 (.aN 0))]) ⟨1,2,0,0,0,1,0,0⟩ (.aC (.un .not (.aF .dz (.aN 0) (.aE 0))) aof aok)))
theorem aol:cN prog {ex:=false,inl:=[154,155,177,179],ei:=[],k5:=[],mu:=[(160,[0]),(126,[0]),(158,[0])],gT:=[],lQ:=[],jJ:=[],fN:=false,mc:=[],kB:=[],j3:=[],rws:=[]} f78 [(.str (.br 0))] [] [] ⟨0,0,0,1,0,0,0,0⟩=some St:=by kernel_rfl
theorem aom (t0:ByteArray) (W:al) (R:Ending->World->Prop) (h:St.ak prog W.w.heap.size R [] {T:=[t0]} W):bK prog 78 #[.string t0] W R:=
 dP func78 _ _ {T:=[t0]} _ aol (fun v aB=>by cases aB) h
abbrev aon:Tree:=(.aC (.aF .gp (.aF .dz (.aN 6) (.aE 0)) (.un .not (.aF .dz (.aN 5) (.aN 0)))) (.ret (.int .i64 (.aE 23)) [] [] []) (.ret (.int .i64 (.aN 6)) [] [] []))
abbrev aoo:Tree:=(.call 79 [(.agg [(.int .u8 (.aN 1)),(.int .u8 (.aN 2)),(.int .i64 (.aN 3)),(.str (.br 1)),(.str (.br 2)),(.bt 1 (.aW 2) (.aW 3))]),(.bt 0 (.aW 0) (.aW 1))] [] [] [] (.cU [(.int .u8 (.aN 5)),(.int .i64 (.aN 6))]) ⟨2,0,0,0,0,0,0,0⟩ aon)
abbrev aop:Tree:=(.new (.wr (.aC (.un .not (.aF .dz (.aN 4) (.aE 0))) (.ret (.int .i64 (.aN 4)) [] [] []) aoo)))
abbrev Su:Tree:=
(.call 78 [(.str (.br 0))] [] [] [] (.cU [(.agg [(.int .u8 (.aN 1)),(.int .u8 (.aN 2)),(.int .i64 (.aN 3)),(.str (.br 1)),(.str (.br 2)),(.bt 1 (.aW 2) (.aW 3))]),(.int .i64 (.aN 4))]) ⟨4,2,0,2,0,1,0,0⟩ aop)
theorem aoq:cN prog {ex:=false,inl:=[154,155,177,179],ei:=[],k5:=[],mu:=[(160,[0]),(126,[0]),(158,[0])],gT:=[],lQ:=[],jJ:=[],fN:=false,mc:=[],kB:=[],j3:=[],rws:=[]} f41 [(.str (.br 0)),(.bt 0 (.aW 0) (.aW 1)),(.int .u8 (.aN 0))] [] [] ⟨1,2,0,1,0,1,0,0⟩=some Su:=by kernel_rfl
theorem aor (i0:Int) (ar aQ:Nat) (t0:ByteArray) (a0:Option Addr) (W:al) (R:Ending->World->Prop) (h:Su.ak prog W.w.heap.size R [] {aV:=[i0],N:=[ar,aQ],T:=[t0],A:=[a0]} W):bK prog 41 #[.string t0,.slice a0 ar aQ,.int .u8 i0] W R:=
 dP func41 _ _ {aV:=[i0],N:=[ar,aQ],T:=[t0],A:=[a0]} _ aoq (fun v aB=>by cases aB) h
abbrev aos:Tree:=(.ret (.bool (.aF .gp (.aF .dz (.aN 1) (.aE 0)) (.aF .fI (.br 0) (.bN [])))) [] [] [])
abbrev aot:Tree:=(.ret (.bool (.aF .gp (.aF .fE (.aF .dz (.aN 1) (.aE 0)) (.aF .dz (.aN 1) (.aE 1))) (.aF .fI (.br 0) (.bN [])))) [] [] [])
abbrev aou:Tree:=(.a1 (.aF .le (.aE 0) (.aN 2)) (.aC (.aF .fE (.aF .fE (.aF .lt (.aF .hJ (.br 0) (.aN 2)) (.aE 32)) (.aF .lt (.aE 126) (.aF .hJ (.br 0) (.aN 2)))) (.aF .dz (.aF .hJ (.br 0) (.aN 2)) (.aE 39))) (.ret (.bool (.dB false)) [] [] []) (.again 0 [(.int .i64 (.un (.wrap .i64) (.aF .add (.aN 2) (.aE 1))))] [])))
abbrev aov:Tree:=(.ret (.bool (.aF .gp (.aF .dz (.aN 1) (.aE 0)) (.aF .le (.un .len (.br 0)) (.aE 40)))) [] [] [])
abbrev aow:Tree:=(.loop [(.int .i64 (.aE 0))] [] [(.int .i64 (.aN 2))] [] ⟨1,0,0,0,0,0,0,0⟩ (.aC (.aF .lt (.aN 2) (.un .len (.br 0))) aou aov))
abbrev aox:Tree:=(.aC (.aF .dz (.aN 0) (.aE 2)) aot (.aC (.aF .dz (.aN 0) (.aE 3)) aow (.ret (.bool (.dB false)) [] [] [])))
abbrev aoy:Tree:=(.aC (.aF .dz (.aN 0) (.aE 1)) (.ret (.bool (.aF .fI (.br 0) (.bN []))) [] [] []) aox)
abbrev Sv:Tree:=
(.new (.aC (.aF .dz (.aN 0) (.aE 0)) aos aoy))
theorem aoz:cN prog {ex:=false,inl:=[154,155,177,179],ei:=[⟨10,[.az 3]⟩],k5:=[],mu:=[(160,[0]),(126,[0]),(158,[0])],gT:=[],lQ:=[],jJ:=[],fN:=false,mc:=[],kB:=[],j3:=[],rws:=[]} f122 [(.agg [(.int .u8 (.aN 0)),(.int .i64 (.aN 1)),(.str (.br 0))])] [] [] ⟨2,0,0,1,0,0,0,0⟩=some Sv:=by kernel_rfl
theorem aoA (i0 i1:Int) (t0:ByteArray) (W:al) (R:Ending->World->Prop) (h:Sv.ak prog W.w.heap.size R [] {aV:=[i0,i1],T:=[t0]} W):bK prog 122 #[.agg #[.int .u8 i0,.int .i64 i1,.string t0]] W R:=
 dP func122 _ _ {aV:=[i0,i1],T:=[t0]} _ aoz (fun v aB=>by cases aB) h
abbrev aoB:Tree:=(.aC (.aF .gp (.aF .lt (.aE 4) (.aN 0)) (.aF .lt (.aN 0) (.aE 16))) (.ret (.int .i64 (.aE 2)) [] [] []) (.ret (.int .i64 (.aE (-1))) [] [] []))
abbrev aoC:Tree:=(.aC (.aF .fE (.aF .fE (.aF .dz (.aN 0) (.aE 3)) (.aF .dz (.aN 0) (.aE 4))) (.aF .dz (.aN 0) (.aE 16))) (.ret (.int .i64 (.aE 1)) [] [] []) aoB)
abbrev Sw:Tree:=
(.aC (.aF .fE (.aF .dz (.aN 0) (.aE 1)) (.aF .dz (.aN 0) (.aE 2))) (.ret (.int .i64 (.aE 0)) [] [] []) aoC)
theorem aoD:cN prog {ex:=false,inl:=[154,155,177,179],ei:=[],k5:=[],mu:=[(160,[0]),(126,[0]),(158,[0])],gT:=[],lQ:=[],jJ:=[],fN:=false,mc:=[],kB:=[],j3:=[],rws:=[]} f180 [(.int .u8 (.aN 0))] [] [] ⟨1,0,0,0,0,0,0,0⟩=some Sw:=by kernel_rfl
theorem aoE (i0:Int) (W:al) (R:Ending->World->Prop) (h:Sw.ak prog W.w.heap.size R [] {aV:=[i0]} W):bK prog 180 #[.int .u8 i0] W R:=
 dP func180 _ _ {aV:=[i0]} _ aoD (fun v aB=>by cases aB) h
abbrev aoF:Tree:=(.aC (.un .not (.bv 1)) (.ret (.bool (.dB false)) [] [] []) (.again 0 [(.int .i64 (.un (.wrap .i64) (.aF .add (.aN 5) (.aE 1))))] []))
abbrev aoG:Tree:=(.call 162 [(.agg [(.int .u8 (.aN 6)),(.int .u8 (.aN 7)),(.int .i64 (.aN 8)),(.str (.br 2)),(.str (.br 3)),(.bt 1 (.aW 2) (.aW 3))]),(.int .i64 (.un (.wrap .i64) (.aF .sub (.aN 3) (.aE 1))))] [] [] [] (.bool (.bv 1)) ⟨0,0,1,0,0,0,0,0⟩ aoF)
abbrev aoH:Tree:=(.a1 (.sm 0) (.a1 (.aF .le (.aE 0) (.aN 5)) (.cl 56 (.b6 0 (.aN 5) 6 0) (.agg [(.int .u8 (.aN 6)),(.int .u8 (.aN 7)),(.int .i64 (.aN 8)),(.str (.br 2)),(.str (.br 3)),(.bt 1 (.aW 2) (.aW 3))]) ⟨3,2,0,2,0,1,0,0⟩ aoG)))
abbrev aoI:Tree:=(.loop [(.int .i64 (.aE 0))] [] [(.int .i64 (.aN 5))] [] ⟨1,0,0,0,0,0,0,0⟩ (.aC (.aF .lt (.aN 5) (.aW 0)) aoH (.ret (.bool (.dB true)) [] [] [])))
abbrev aoJ:Tree:=(.jZ 122 [(.agg [(.int .u8 (.aN 1)),(.int .i64 (.aN 2)),(.str (.br 0))])] [] [] (.bool (.bv 0)) ⟨0,0,1,0,0,0,0,0⟩ (.grow (.aC (.un .not (.bv 0)) (.ret (.bool (.dB false)) [] [] []) aoI)))
abbrev aoK:Tree:=(.aC (.un .not (.bv 0)) (.ret (.bool (.dB false)) [] [] []) (.again 0 [(.int .i64 (.un (.wrap .i64) (.aF .add (.aN 5) (.aE 1))))] []))
abbrev aoL:Tree:=(.call 162 [(.agg [(.int .u8 (.aN 6)),(.int .u8 (.aN 7)),(.int .i64 (.aN 8)),(.str (.br 2)),(.str (.br 3)),(.bt 1 (.aW 2) (.aW 3))]),(.int .i64 (.un (.wrap .i64) (.aF .sub (.aN 3) (.aE 1))))] [] [] [] (.bool (.bv 0)) ⟨0,0,1,0,0,0,0,0⟩ aoK)
abbrev aoM:Tree:=(.a1 (.sm 0) (.a1 (.aF .le (.aE 0) (.aN 5)) (.cl 56 (.b6 0 (.aN 5) 6 0) (.agg [(.int .u8 (.aN 6)),(.int .u8 (.aN 7)),(.int .i64 (.aN 8)),(.str (.br 2)),(.str (.br 3)),(.bt 1 (.aW 2) (.aW 3))]) ⟨3,2,0,2,0,1,0,0⟩ aoL)))
abbrev aoN:Tree:=(.loop [(.int .i64 (.aE 0))] [] [(.int .i64 (.aN 5))] [] ⟨1,0,0,0,0,0,0,0⟩ (.aC (.aF .lt (.aN 5) (.aW 0)) aoM (.ret (.bool (.dB true)) [] [] [])))
abbrev aoO:Tree:=(.grow (.aC (.un .not (.aF .dz (.aW 0) (.aN 4))) (.ret (.bool (.dB false)) [] [] []) aoN))
abbrev aoP:Tree:=(.aC (.aF .gp (.aF .dz (.aW 0) (.aN 4)) (.aF .dz (.aN 0) (.aE 1))) aoJ aoO)
abbrev aoQ:Tree:=(.jZ 180 [(.int .u8 (.aN 0))] [] [] (.int .i64 (.aN 4)) ⟨1,0,0,0,0,0,0,0⟩ aoP)
abbrev Sx:Tree:=
(.new (.aC (.un .not (.aF .lt (.aN 3) (.aE 1))) aoQ (.grow (.ret (.bool (.dB false)) [] [] []))))
theorem aoR:cN prog {ex:=false,inl:=[154,155,177,179],ei:=[⟨4,[.az 5]⟩],k5:=[],mu:=[(160,[0]),(126,[0]),(158,[0])],gT:=[],lQ:=[],jJ:=[],fN:=false,mc:=[],kB:=[],j3:=[],rws:=[]} f162 [(.agg [(.int .u8 (.aN 0)),(.int .u8 (.aN 1)),(.int .i64 (.aN 2)),(.str (.br 0)),(.str (.br 1)),(.bt 0 (.aW 0) (.aW 1))]),(.int .i64 (.aN 3))] [] [] ⟨4,2,0,2,0,1,0,0⟩=some Sx:=by kernel_rfl
theorem Sy (i0 i1 i2 i3:Int) (ar aQ:Nat) (t0 t1:ByteArray) (a0:Option Addr) (W:al) (R:Ending->World->Prop) (h:Sx.ak prog W.w.heap.size R [] {aV:=[i0,i1,i2,i3],N:=[ar,aQ],T:=[t0,t1],A:=[a0]} W):bK prog 162 #[.agg #[.int .u8 i0,.int .u8 i1,.int .i64 i2,.string t0,.string t1,.slice a0 ar aQ],.int .i64 i3] W R:=
 dP func162 _ _ {aV:=[i0,i1,i2,i3],N:=[ar,aQ],T:=[t0,t1],A:=[a0]} _ aoR (fun v aB=>by cases aB) h
abbrev Sz:Tree:=
(.new (.call 162 [(.agg [(.int .u8 (.aN 0)),(.int .u8 (.aN 1)),(.int .i64 (.aN 2)),(.str (.br 0)),(.str (.br 1)),(.bt 0 (.aW 0) (.aW 1))]),(.int .i64 (.aE 16))] [] [] [] (.bool (.bv 0)) ⟨0,0,1,0,0,0,0,0⟩ (.ret (.bool (.bv 0)) [] [] [])))
theorem aoS:cN prog {ex:=false,inl:=[154,155,177,179],ei:=[],k5:=[],mu:=[(160,[0]),(126,[0]),(158,[0])],gT:=[],lQ:=[],jJ:=[],fN:=false,mc:=[],kB:=[],j3:=[],rws:=[]} f128 [(.agg [(.int .u8 (.aN 0)),(.int .u8 (.aN 1)),(.int .i64 (.aN 2)),(.str (.br 0)),(.str (.br 1)),(.bt 0 (.aW 0) (.aW 1))])] [] [] ⟨3,2,0,2,0,1,0,0⟩=some Sz:=by kernel_rfl
theorem aoT (i0 i1 i2:Int) (ar aQ:Nat) (t0 t1:ByteArray) (a0:Option Addr) (W:al) (R:Ending->World->Prop) (h:Sz.ak prog W.w.heap.size R [] {aV:=[i0,i1,i2],N:=[ar,aQ],T:=[t0,t1],A:=[a0]} W):bK prog 128 #[.agg #[.int .u8 i0,.int .u8 i1,.int .i64 i2,.string t0,.string t1,.slice a0 ar aQ]] W R:=
 dP func128 _ _ {aV:=[i0,i1,i2],N:=[ar,aQ],T:=[t0,t1],A:=[a0]} _ aoS (fun v aB=>by cases aB) h
abbrev aoU:Tree:=(.aC (.aF .dz (.aN 1) (.aE 0)) (.ret (.cU [(.int .u8 (.aE 0)),(.int .i64 (.aE 23))]) [] [] []) (.ret (.cU [(.int .u8 (.aN 1)),(.int .i64 (.aE 0))]) [] [] []))
abbrev aoV:Tree:=(.cl 5 (.b6 1 (.aN 3) 4 1) (.int .u8 (.aN 6)) ⟨1,0,0,0,0,0,0,0⟩ (.ret (.cU [(.int .u8 (.aN 6)),(.int .i64 (.aE 0))]) [] [] []))
abbrev aoW:Tree:=(.aC (.aF .lt (.aE 3) (.aN 5)) (.ret (.cU [(.int .u8 (.aE 0)),(.int .i64 (.aE 23))]) [] [] []) aoV)
abbrev aoX:Tree:=(.aC (.un .not (.aF .lt (.aN 4) (.aE 1))) (.cl 5 (.b6 1 (.aN 3) 4 1) (.int .u8 (.aN 5)) ⟨1,0,0,0,0,0,0,0⟩ aoW) (.ret (.cU [(.int .u8 (.aE 0)),(.int .i64 (.aE 23))]) [] [] []))
abbrev aoY:Tree:=(.grow (.aC (.aF .fI (.br 2) (.br 1)) (.cl 5 (.b6 1 (.aN 3) 4 1) (.int .u8 (.aN 4)) ⟨1,0,0,0,0,0,0,0⟩ aoX) (.again 0 [(.int .i64 (.un (.wrap .i64) (.aF .add (.aN 3) (.aE 1))))] [])))
abbrev aoZ:Tree:=(.a1 (.sm 1) (.a1 (.aF .le (.aE 0) (.aN 3)) (.cl 9 (.b6 1 (.aN 3) 4 0) (.str (.br 2)) ⟨0,0,0,1,0,0,0,0⟩ aoY)))
abbrev ao0:Tree:=(.aC (.aF .lt (.aN 3) (.aW 2)) aoZ (.ret (.cU [(.int .u8 (.aE 0)),(.int .i64 (.aE 22))]) [] [] []))
abbrev ao1:Tree:=(.loop [(.int .i64 (.aE 0))] [] [(.int .i64 (.aN 3))] [] ⟨1,0,0,0,0,0,0,0⟩ ao0)
abbrev SA:Tree:=(.aC (.un .not (.aF .dz (.aN 6) (.aE 1))) (.ret (.cU [(.int .u8 (.aE 0)),(.int .i64 (.aE 23))]) [] [] []) (.ret (.cU [(.int .u8 (.aE 1)),(.int .i64 (.aE 0))]) [] [] []))
abbrev SB:Tree:=(.aC (.un .not (.aF .dz (.aN 6) (.aE 2))) (.ret (.cU [(.int .u8 (.aE 0)),(.int .i64 (.aE 23))]) [] [] []) (.ret (.cU [(.int .u8 (.aE 2)),(.int .i64 (.aE 0))]) [] [] []))
abbrev SC:Tree:=(.aC (.un .not (.aF .dz (.aN 6) (.aE 3))) (.ret (.cU [(.int .u8 (.aE 0)),(.int .i64 (.aE 23))]) [] [] []) (.ret (.cU [(.int .u8 (.aE 1)),(.int .i64 (.aE 0))]) [] [] []))
abbrev Fi:Tree:=(.aC (.un .not (.aF .gp (.aF .dz (.aN 6) (.aE 1)) (.aF .dz (.aN 11) (.aE 1)))) (.ret (.cU [(.int .u8 (.aE 0)),(.int .i64 (.aE 23))]) [] [] []) (.ret (.cU [(.int .u8 (.aE 1)),(.int .i64 (.aE 0))]) [] [] []))
abbrev ao2:Tree:=(.aC (.un .not (.aF .gp (.aF .dz (.aN 6) (.aN 11)) (.un .not (.aF .dz (.aN 6) (.aE 2))))) (.ret (.cU [(.int .u8 (.aE 0)),(.int .i64 (.aE 23))]) [] [] []) (.ret (.cU [(.int .u8 (.aN 6)),(.int .i64 (.aE 0))]) [] [] []))
abbrev SD:Tree:=(.aC (.un .not (.aF .gp (.aF .dz (.aN 6) (.aN 11)) (.un .not (.aF .dz (.aN 6) (.aE 2))))) (.ret (.cU [(.int .u8 (.aE 0)),(.int .i64 (.aE 23))]) [] [] []) (.ret (.cU [(.int .u8 (.aE 2)),(.int .i64 (.aE 0))]) [] [] []))
abbrev SE:Tree:=(.aC (.un .not (.aF .dz (.aN 6) (.aN 11))) (.ret (.cU [(.int .u8 (.aE 0)),(.int .i64 (.aE 23))]) [] [] []) (.ret (.cU [(.int .u8 (.aE 2)),(.int .i64 (.aE 0))]) [] [] []))
abbrev ao3:Tree:=(.aC (.un .not (.aF .gp (.aF .dz (.aN 6) (.aE 2)) (.aF .dz (.aN 11) (.aE 2)))) (.ret (.cU [(.int .u8 (.aE 0)),(.int .i64 (.aE 23))]) [] [] []) (.ret (.cU [(.int .u8 (.aE 2)),(.int .i64 (.aE 0))]) [] [] []))
abbrev ao4:Tree:=(.aC (.aF .dz (.aN 0) (.aE 11)) SE (.aC (.aF .dz (.aN 0) (.aE 12)) SE ao3))
abbrev ao5:Tree:=(.aC (.aF .dz (.aN 0) (.aE 9)) SD (.aC (.aF .dz (.aN 0) (.aE 10)) SD ao4))
abbrev ao6:Tree:=(.aC (.aF .dz (.aN 0) (.aE 15)) Fi (.aC (.aF .dz (.aN 0) (.aE 8)) ao2 ao5))
abbrev ao7:Tree:=(.aC (.aF .dz (.aN 0) (.aE 6)) Fi (.aC (.aF .dz (.aN 0) (.aE 7)) Fi ao6))
abbrev ao8:Tree:=(.aC (.aF .dz (.aN 0) (.aE 16)) SC (.aC (.aF .dz (.aN 0) (.aE 5)) Fi ao7))
abbrev ao9:Tree:=(.aC (.aF .dz (.aN 0) (.aE 3)) SA (.aC (.aF .dz (.aN 0) (.aE 4)) SB ao8))
abbrev ao_:Tree:=(.aC (.un .not (.aF .dz (.aN 12) (.aE 0))) (.ret (.cU [(.int .u8 (.aE 0)),(.int .i64 (.aN 12))]) [] [] []) ao9)
abbrev apa:Tree:=(.call 129 [(.agg [(.int .u8 (.aN 8)),(.int .u8 (.aN 9)),(.int .i64 (.aN 10)),(.str (.br 4)),(.str (.br 5)),(.bt 3 (.aW 6) (.aW 7))]),(.bt 1 (.aW 2) (.aW 3))] [] [] [] (.cU [(.int .u8 (.aN 11)),(.int .i64 (.aN 12))]) ⟨2,0,0,0,0,0,0,0⟩ ao_)
abbrev apb:Tree:=(.a1 (.aF .le (.aE 0) (.aE 1)) (.a1 (.aF .lt (.aE 1) (.aW 0)) (.cl 56 (.b6 0 (.aE 1) 6 0) (.agg [(.int .u8 (.aN 8)),(.int .u8 (.aN 9)),(.int .i64 (.aN 10)),(.str (.br 4)),(.str (.br 5)),(.bt 3 (.aW 6) (.aW 7))]) ⟨3,2,0,2,0,1,0,0⟩ apa)))
abbrev Fj:Tree:=(.aC (.un .not (.aF .gp (.aF .dz (.aN 6) (.aE 1)) (.aF .dz (.aN 6) (.aE 1)))) (.ret (.cU [(.int .u8 (.aE 0)),(.int .i64 (.aE 23))]) [] [] []) (.ret (.cU [(.int .u8 (.aE 1)),(.int .i64 (.aE 0))]) [] [] []))
abbrev apc:Tree:=(.aC (.un .not (.aF .gp (.aF .dz (.aN 6) (.aN 6)) (.un .not (.aF .dz (.aN 6) (.aE 2))))) (.ret (.cU [(.int .u8 (.aE 0)),(.int .i64 (.aE 23))]) [] [] []) (.ret (.cU [(.int .u8 (.aN 6)),(.int .i64 (.aE 0))]) [] [] []))
abbrev SF:Tree:=(.aC (.un .not (.aF .gp (.aF .dz (.aN 6) (.aN 6)) (.un .not (.aF .dz (.aN 6) (.aE 2))))) (.ret (.cU [(.int .u8 (.aE 0)),(.int .i64 (.aE 23))]) [] [] []) (.ret (.cU [(.int .u8 (.aE 2)),(.int .i64 (.aE 0))]) [] [] []))
abbrev SG:Tree:=(.aC (.un .not (.aF .dz (.aN 6) (.aN 6))) (.ret (.cU [(.int .u8 (.aE 0)),(.int .i64 (.aE 23))]) [] [] []) (.ret (.cU [(.int .u8 (.aE 2)),(.int .i64 (.aE 0))]) [] [] []))
abbrev apd:Tree:=(.aC (.un .not (.aF .gp (.aF .dz (.aN 6) (.aE 2)) (.aF .dz (.aN 6) (.aE 2)))) (.ret (.cU [(.int .u8 (.aE 0)),(.int .i64 (.aE 23))]) [] [] []) (.ret (.cU [(.int .u8 (.aE 2)),(.int .i64 (.aE 0))]) [] [] []))
abbrev ape:Tree:=(.aC (.aF .dz (.aN 0) (.aE 11)) SG (.aC (.aF .dz (.aN 0) (.aE 12)) SG apd))
abbrev apf:Tree:=(.aC (.aF .dz (.aN 0) (.aE 9)) SF (.aC (.aF .dz (.aN 0) (.aE 10)) SF ape))
abbrev apg:Tree:=(.aC (.aF .dz (.aN 0) (.aE 15)) Fj (.aC (.aF .dz (.aN 0) (.aE 8)) apc apf))
abbrev aph:Tree:=(.aC (.aF .dz (.aN 0) (.aE 6)) Fj (.aC (.aF .dz (.aN 0) (.aE 7)) Fj apg))
abbrev api:Tree:=(.aC (.aF .dz (.aN 0) (.aE 16)) SC (.aC (.aF .dz (.aN 0) (.aE 5)) Fj aph))
abbrev apj:Tree:=(.aC (.aF .dz (.aN 0) (.aE 3)) SA (.aC (.aF .dz (.aN 0) (.aE 4)) SB api))
abbrev apk:Tree:=(.aC (.un .not (.aF .dz (.aN 7) (.aE 0))) (.ret (.cU [(.int .u8 (.aE 0)),(.int .i64 (.aN 7))]) [] [] []) (.aC (.aF .dz (.aW 0) (.aE 2)) apb apj))
abbrev apl:Tree:=(.call 129 [(.agg [(.int .u8 (.aN 3)),(.int .u8 (.aN 4)),(.int .i64 (.aN 5)),(.str (.br 2)),(.str (.br 3)),(.bt 2 (.aW 4) (.aW 5))]),(.bt 1 (.aW 2) (.aW 3))] [] [] [] (.cU [(.int .u8 (.aN 6)),(.int .i64 (.aN 7))]) ⟨2,0,0,0,0,0,0,0⟩ apk)
abbrev apm:Tree:=(.a1 (.sm 0) (.a1 (.aF .le (.aE 0) (.aE 0)) (.a1 (.aF .lt (.aE 0) (.aW 0)) (.cl 56 (.b6 0 (.aE 0) 6 0) (.agg [(.int .u8 (.aN 3)),(.int .u8 (.aN 4)),(.int .i64 (.aN 5)),(.str (.br 2)),(.str (.br 3)),(.bt 2 (.aW 4) (.aW 5))]) ⟨3,2,0,2,0,1,0,0⟩ apl))))
abbrev SH:Tree:=
(.new (.aC (.aF .dz (.aN 0) (.aE 1)) aoU (.aC (.aF .dz (.aN 0) (.aE 2)) ao1 apm)))
theorem apn:cN prog {ex:=false,inl:=[154,155,177,179],ei:=[⟨7,[.az 6]⟩],k5:=[],mu:=[(160,[0]),(126,[0]),(158,[0])],gT:=[],lQ:=[],jJ:=[],fN:=false,mc:=[],kB:=[],j3:=[],rws:=[]} f129 [(.agg [(.int .u8 (.aN 0)),(.int .u8 (.aN 1)),(.int .i64 (.aN 2)),(.str (.br 0)),(.str (.br 1)),(.bt 0 (.aW 0) (.aW 1))]),(.bt 1 (.aW 2) (.aW 3))] [] [] ⟨3,4,0,2,0,2,0,0⟩=some SH:=by kernel_rfl
theorem apo (i0 i1 i2:Int) (ar aQ bz bJ:Nat) (t0 t1:ByteArray) (a0 bn:Option Addr) (W:al) (R:Ending->World->Prop) (h:SH.ak prog W.w.heap.size R [] {aV:=[i0,i1,i2],N:=[ar,aQ,bz,bJ],T:=[t0,t1],A:=[a0,bn]} W):bK prog 129 #[.agg #[.int .u8 i0,.int .u8 i1,.int .i64 i2,.string t0,.string t1,.slice a0 ar aQ],.slice bn bz bJ] W R:=
 dP func129 _ _ {aV:=[i0,i1,i2],N:=[ar,aQ,bz,bJ],T:=[t0,t1],A:=[a0,bn]} _ apn (fun v aB=>by cases aB) h
abbrev app:Tree:=(.call 129 [(.agg [(.int .u8 (.aN 0)),(.int .u8 (.aN 1)),(.int .i64 (.aN 2)),(.str (.br 0)),(.str (.br 1)),(.bt 0 (.aW 0) (.aW 1))]),(.bt 1 (.aW 2) (.aW 3))] [] [] [] (.cU [(.int .u8 (.aN 3)),(.int .i64 (.aN 4))]) ⟨2,0,0,0,0,0,0,0⟩ (.ret (.cU [(.int .u8 (.aN 3)),(.int .i64 (.aN 4))]) [] [] []))
abbrev apq:Tree:=(.aC (.un .not (.bv 0)) (.ret (.cU [(.int .u8 (.aE 0)),(.int .i64 (.aE 4))]) [] [] []) app)
abbrev SI:Tree:=
(.new (.call 128 [(.agg [(.int .u8 (.aN 0)),(.int .u8 (.aN 1)),(.int .i64 (.aN 2)),(.str (.br 0)),(.str (.br 1)),(.bt 0 (.aW 0) (.aW 1))])] [] [] [] (.bool (.bv 0)) ⟨0,0,1,0,0,0,0,0⟩ apq))
theorem apr:cN prog {ex:=false,inl:=[154,155,177,179],ei:=[],k5:=[],mu:=[(160,[0]),(126,[0]),(158,[0])],gT:=[],lQ:=[],jJ:=[],fN:=false,mc:=[],kB:=[],j3:=[],rws:=[]} f79 [(.agg [(.int .u8 (.aN 0)),(.int .u8 (.aN 1)),(.int .i64 (.aN 2)),(.str (.br 0)),(.str (.br 1)),(.bt 0 (.aW 0) (.aW 1))]),(.bt 1 (.aW 2) (.aW 3))] [] [] ⟨3,4,0,2,0,2,0,0⟩=some SI:=by kernel_rfl
theorem aps (i0 i1 i2:Int) (ar aQ bz bJ:Nat) (t0 t1:ByteArray) (a0 bn:Option Addr) (W:al) (R:Ending->World->Prop) (h:SI.ak prog W.w.heap.size R [] {aV:=[i0,i1,i2],N:=[ar,aQ,bz,bJ],T:=[t0,t1],A:=[a0,bn]} W):bK prog 79 #[.agg #[.int .u8 i0,.int .u8 i1,.int .i64 i2,.string t0,.string t1,.slice a0 ar aQ],.slice bn bz bJ] W R:=
 dP func79 _ _ {aV:=[i0,i1,i2],N:=[ar,aQ,bz,bJ],T:=[t0,t1],A:=[a0,bn]} _ apr (fun v aB=>by cases aB) h
end Go.Proofs.YtkpjmlnhhggenaaGreatDoor
end
section
namespace ax
open Go
def jU (c:UInt8):Nat:=c.toNat-48
def val (acc:Nat) (l:aM):Nat:=l.foldl (fun n c=>n*10+jU c) acc
theorem Fk (acc:Nat):val acc []=acc:=rfl
theorem xP (acc:Nat) (c:UInt8) (r:aM):val acc (c::r)=val (acc*10+jU c) r:=by unfold val;rw[vz]
theorem vo {c:UInt8}:eR c=true↔48<=c.toNat∧c.toNat<=57:=by
 unfold eR;simp only[bT,decide_eq_true_eq];omega
theorem Cj:∀(l:aM) (acc:Nat),acc*10^l.length<=val acc l
 |[],acc=>by simp[Fk]
 |c::r,acc=>by
  have:=Cj r (acc*10+jU c);rw[sT,Nat.mul_assoc] at this;rw[e5,Nat.pow_succ,xP,Nat.mul_comm (10^r.length)];omega
theorem JL:∀(l:aM) (acc:Nat),(∀c∈l,eR c=true)->val acc l<(acc+1)*10^l.length
 |[],acc,_=>by simp[Fk]
 |c::r,acc,h=>by
  have:=JL r (acc*10+jU c) fun x j=>h x (dq _ j)
  have aH:=vo.1 (h c (c6 ..));have J:acc*10+jU c+1<=(acc+1)*10:=by unfold jU;omega
  have an:=sR (10^r.length) J;rw[e5,Nat.pow_succ,xP,Nat.mul_comm (10^r.length),<-Nat.mul_assoc];omega
theorem JM:∀(l:aM) (acc:Nat),(∀c∈l,eR c=true)->Lib.parseUintM (2^64-1) acc l= .ok (val acc l)∨(Lib.parseUintM (2^64-1) acc l= .range∧2^63<=val acc l)
 |[],acc,_=>.inl rfl
 |c::r,acc,h=>by
  have aH:=vo.1 (h c (c6 ..));have ge:=Cj r (acc*10+jU c);have p:0<10^r.length:=Nat.pow_pos (by decide);have ayq:acc*10+jU c<=val (acc*10+jU c) r:=iz (Nat.le_mul_of_pos_right _ p) ge;simp only[Lib.parseUintM,aH,and_self,if_true,xP];unfold jU at*;split
  ·right;refine⟨rfl,?_⟩;omega
  ·split
   ·right;refine⟨rfl,?_⟩;omega
   ·exact JM r _ fun x j=>h x (dq _ j)
theorem JN {l:aM} (bk:l≠[]) (h:∀c∈l,eR c=true):y2 (Lib.parseIntB 64 l)=decide (val 0 l<2^63):=by
 cases l with
 |nil=>exact absurd rfl bk
 |cons c r=>
  have aH:=vo.1 (h c (c6 ..));have JO:¬c.toNat=43:=by omega
  have JP:¬c.toNat=45:=by omega
  simp only[Lib.parseIntB,JO,JP,or_self,if_false,Lib.parseUintB,reduceCtorEq,not_false_eq_true,true_and,false_and];rcases JM (c::r) 0 h with e|⟨e,aB⟩
  ·rw[e];simp only;split
   ·rename_i aY;rw[decide_eq_false (by omega)];rfl
   ·rename_i aY;rw[decide_eq_true (by omega)];rfl
  ·rw[e,decide_eq_false (by omega)];rfl
theorem SJ {a b:aM} {m n:Nat} (h:a.length=b.length) (bl:∀c∈a,eR c=true) (apt:m<n):val m a<val n b:=by
 have J:=JL a m bl;have an:=Cj b n;rw[<-h] at an;have aI:=sR (10^a.length) (show m+1<=n from apt);omega
theorem SK:∀(a b:aM) (m:Nat),a.length=b.length->(∀c∈a,eR c=true)->(∀c∈b,eR c=true)->(Op.bytesLess a b||(a==b))=decide (val m a<=val m b)
 |[],[],m,_,_,_=>by simp[Fk,Op.bytesLess]
 |[],_::_,_,h,_,_=>by simp at h
 |_::_,[],_,h,_,_=>by simp at h
 |c::a,d::b,m,h,bl,I=>by
  have aH:=vo.1 (bl c (c6 ..));have a_:=vo.1 (I d (c6 ..));have aO:a.length=b.length:=by simpa using h
  have H5:∀x∈a,eR x=true:=fun x j=>bl x (dq _ j)
  have eI:∀x∈b,eR x=true:=fun x j=>I x (dq _ j)
  rw[xP,xP]
  by_cases e:c=d
  ·subst e;rw[<-SK a b (m*10+jU c) aO H5 eI];simp[Op.bytesLess]
  ·have iA:c.toNat≠d.toNat:=fun h=>e (UInt8.toNat_inj.1 h)
   rcases pH c.toNat d.toNat with fr|yy
   ·have:=SJ (m:=m*10+jU c) (n:=m*10+jU d) aO H5 (by unfold jU;omega);rw[decide_eq_true (Nat.le_of_lt this)];have bu:c<d:=UInt8.lt_iff_toNat_lt.2 fr;simp[Op.bytesLess,bu]
   ·have:=SJ (m:=m*10+jU d) (n:=m*10+jU c) aO.symm eI (by unfold jU;omega);rw[decide_eq_false (Nat.not_le.2 this)];have bu:¬c<d:=fun h=>by have:=UInt8.lt_iff_toNat_lt.1 h;omega
    simp[Op.bytesLess,bu,e]
def top:aM:=[57,50,50,51,51,55,50,48,51,54,56,53,52,55,55,53,56,48,55]
theorem apu:val 0 top=2^63-1:=by decide+kernel
theorem Fl {p:UInt8->Bool} {l:aM}:run p l=l.length↔∀c∈l,p c=true:=by
 refine⟨fun h=>?_,fun h=>?_⟩
 ·induction l with
  |nil=>intro c aH;cases aH
  |cons c s cF=>
   by_cases aH:p c=true
   ·rw[pf aH,e5] at h;intro x j;rcases dh.1 j with rfl|j
    ·exact aH
    ·exact cF (by omega) x j
   ·rw[uU (by simpa using aH)] at h;simp at h
 ·induction l with
  |nil=>rfl
  |cons c s cF=>rw[pf (h c (c6 ..)),cF fun x j=>h x (dq _ j)];rfl
theorem apv {l:aM} (bk:l≠[]) (J:l.length<=19) (an:¬(l.head?=some 48∧1<l.length)) (h:∀c∈l,eR c=true):lf l=(decide (l.length<19)||(Op.bytesLess l top||(l==top))):=by
 have aw:=Fl.2 h
 have cS:((l.length==1)|| !(l.head?==some 48))=true:=by
  cases aY:(l.head?==some 48)
  ·simp
  ·have aO:l.length=1:=by
    have:0<l.length:=List.length_pos_iff.2 bk;have:¬1<l.length:=fun aI=>an ⟨by simpa using aY,aI⟩
    omega
   simp[aO]
 unfold lf;rw[aw,cS,JN bk h];simp only[beq_self_eq_true,Bool.and_true]
 by_cases aO:l.length<19
 ·have:=JL l 0 h;have hp:10^l.length<=10^18:=Nat.pow_le_pow_right (by decide) (by omega);rw[decide_eq_true (show val 0 l<2^63 by omega),decide_eq_true aO];rfl
 ·have he:l.length=top.length:=by show l.length=19;omega
  have:=SK l top 0 he h (by decide);rw[this,apu,decide_eq_false aO,kr];congr 1;rw[eq_iff_iff];omega
theorem SL:lf []=false:=by rw[lf];decide
theorem apw {l:aM} (h:19<l.length):lf l=false:=by
 cases cB:lf l with
 |false=>rfl
 |true=>
  exfalso;unfold lf at cB;simp only[bT,beq_iff_eq] at cB;obtain⟨hp,aw,cS⟩:=cB;have a_:=Fl.1 aw;have bk:l≠[]:=by rintro rfl;simp at h
  rw[JN bk a_,decide_eq_true_eq] at hp;cases l with
  |nil=>exact bk rfl
  |cons c r=>
   have aH:=vo.1 (a_ c (c6 ..))
   have apx:c≠48:=by
    rintro rfl;simp at cS;rw[cS] at h;simp at h
   have ayr:c.toNat≠48:=fun e=>apx (UInt8.toNat_inj.1 e)
   have:=Cj r (0*10+jU c);rw[xP] at hp;have ays:10^19<=10^r.length:=Nat.pow_le_pow_right (by decide) (by simp at h;omega);have aI:1*10^r.length<=(0*10+jU c)*10^r.length:=sR _ (by unfold jU;omega);omega
theorem apy {l:aM} (h:l.head?=some 48) (J:1<l.length):lf l=false:=by
 unfold lf;have an:(l.length==1)=false:=by rw[beq_eq_false_iff_ne];omega
 rw[h,an];simp
theorem apz {l:aM} (h:run eR l≠l.length):lf l=false:=by
 unfold lf;have an:(run eR l==l.length)=false:=by rw[beq_eq_false_iff_ne];exact h
 rw[an];simp
end ax
namespace ax
open Go
def SM (l:aM):Prop:=l=[]∨∃r,l=32::r
theorem SN {p:UInt8->Bool} (hp:p 32=false) {l r:aM} (h:run p l=l.length) (aw:SM r):run p (l++r)=l.length:=by
 induction l with
 |nil=>
  obtain rfl|⟨x,rfl⟩:=aw
  ·rfl
  ·simp[run,vH,hp]
 |cons c s cF=>
  by_cases aH:p c=true
  ·rw[pf aH,e5] at h;rw[qg,pf aH,cF (by omega),e5]
  ·rw[uU (by simpa using aH)] at h;simp at h
theorem Ck {p:UInt8->Bool} {l:aM} (h:run p l=l.length):∀c∈l,p c=true:=by
 induction l with
 |nil=>intro c aH;cases aH
 |cons c s cF=>
  by_cases aH:p c=true
  ·rw[pf aH,e5] at h;intro x j;rcases dh.1 j with rfl|j
   ·exact aH
   ·exact cF (by omega) x j
  ·rw[uU (by simpa using aH)] at h;simp at h
theorem apA {q:aM} (h:∀c∈q,c≠39) (r:aM):lg (q++39::r)=some q:=by
 have J:(q++39::r).takeWhile (· != 39)=q:=by
  induction q with
  |nil=>rfl
  |cons c s cF=>
   have an:(c != 39)=true:=by simpa using h c (c6 ..)
   rw[qg,vH,if_pos an,cF fun x j=>h x (dq _ j)]
 unfold lg;rw[J];simp
theorem apB:y2 (Lib.parseIntB 64 [])=false:=by kernel_rfl
theorem apC {c:UInt8} (h:h1 c=true):eR c=false:=by
 unfold h1 at h;unfold eR;simp only[bT,decide_eq_true_eq,r1,decide_eq_false_iff_not] at h ⊢;omega
theorem vp (c:UInt8) (r:aM):first (c::r)=if eR c then(⟨1,(c::r).take (run eR (c::r))⟩,run eR (c::r))
  else if h1 c then(⟨2,(c::r).take (run fK (c::r))⟩,run fK (c::r))
  else if c=39 then(match lg r with
   |some q=>(⟨3,q⟩,q.length+2)
   |Option.none=>none)
  else match eN.find? fun x=>x.isPrefixOf (c::r) with
   |some x=>(⟨4,x⟩,x.length)
   |Option.none=>none:=rfl
theorem H3 {t:cJ} (h:en t.k t.t=true) {r:aM} (aw:SM r):first (text t++r)=(t,(text t).length):=by
 obtain⟨k,t⟩:=t;unfold en at h;unfold text;simp only at h ⊢
 by_cases J:k=1
 ·subst J;simp only[if_true,show¬((1:Int)=3) by decide,if_false] at h ⊢;unfold lf at h;simp only[bT,beq_iff_eq] at h;obtain⟨hp,a_,-⟩:=h;cases t with
  |nil=>rw[apB] at hp;cases hp
  |cons c s=>
   have aH:=Ck a_ c (c6 ..);have e:=SN (p:=eR) (by decide) a_ aw;rw[qg] at e ⊢;rw[vp,if_pos aH,e];rw[<-qg,List.take_left'];rfl
 ·rw[if_neg J] at h
  by_cases an:k=2
  ·subst an;simp only[if_true,show¬((2:Int)=3) by decide,if_false] at h ⊢;unfold uT at h;cases t with
   |nil=>cases h
   |cons c s=>
    simp only[bT,beq_iff_eq] at h;obtain⟨aH,a_,-⟩:=h;have e:=SN (p:=fK) (by decide) a_ aw;rw[qg] at e ⊢;rw[vp,if_neg (by rw[apC aH];decide),if_pos aH,e];rw[<-qg,List.take_left'];rfl
  ·rw[if_neg an] at h
   by_cases aI:k=3
   ·subst aI;simp only[if_true] at h ⊢;unfold wN at h;simp only[bT,beq_iff_eq,decide_eq_true_eq] at h
    have bg:∀c∈t,c≠39:=by
     intro c aH e;have:=Ck h.1 c aH;subst e;revert this;decide
    have e:lg (t++[39]++r)=some t:=by
     rw[jW];exact apA bg r
    rw[qg];rw[vp,if_neg (by decide),if_neg (by decide),if_pos rfl,e];simp
   ·rw[if_neg aI] at h;rw[if_neg aI]
    by_cases cc:k=4
    ·subst cc;simp only[if_true] at h;rw[yd] at h;simp only[eN,dh,eT,or_false] at h;obtain rfl|⟨x,rfl⟩:=aw
     ·rcases h with rfl|rfl|rfl|rfl|rfl|rfl|rfl|rfl|rfl|rfl|rfl|rfl|rfl|rfl<;>kernel_rfl
     ·rcases h with rfl|rfl|rfl|rfl|rfl|rfl|rfl|rfl|rfl|rfl|rfl|rfl|rfl|rfl<;>kernel_rfl
    ·rw[if_neg cc] at h;cases h
theorem SO (r:aM):iW (32::r)=iW r:=by simp[iW,List.dropWhile_cons]
theorem zI (n:Nat) (c:UInt8) (r:aM):h2 (n+1) (c::r)=if(first (c::r)).2=0|| !(en (first (c::r)).1.k (first (c::r)).1.t) then Option.none else(h2 n (iW ((c::r).drop (first (c::r)).2))).map ((first (c::r)).1:: ·):=rfl
theorem apD {l:aM} (bk:(first l).2≠0):l=text (first l).1++l.drop (first l).2:=by
 cases l with
 |nil=>exact absurd rfl bk
 |cons c r=>
  rw[vp] at bk ⊢
  by_cases J:eR c=true
  ·rw[if_pos J];simp[text,vG]
  ·rw[if_neg J] at bk ⊢
   by_cases an:h1 c=true
   ·rw[if_pos an];simp[text,vG]
   ·rw[if_neg an] at bk ⊢
    by_cases aI:c=39
    ·subst aI;rw[if_pos rfl] at bk ⊢;cases e:lg r with
     |none=>rw[e] at bk;exact absurd rfl bk
     |some q=>
      simp only[text,if_true]
      have bg:r=q++39::r.drop (q.length+1):=by
       unfold lg at e;split at e
       ·rename_i aO;obtain rfl:=bm e;have bu:=List.takeWhile_append_dropWhile (p:=(· != 39)) (l:=r);cases a_:r.dropWhile (· != 39) with
        |nil=>rw[a_,mC] at bu;rw[bu] at aO;omega
        |cons d z=>
         have hs:¬((d != 39)=true):=by
          have:=List.head_dropWhile_not (p:=(· != 39)) (l:=r) (by rw[a_];simp);simp only[a_,List.head_cons] at this;simp[this]
         have k7:d=39:=by simpa using hs
         subst k7;rw[a_] at bu
         have nC:r.drop ((r.takeWhile (· != 39)).length+1)=z:=by
          rw (config:={occs:=.pos [2]}) [<-bu];rw[<-List.drop_drop,List.drop_left];rfl
         rw[nC];exact bu.symm
       ·cases e
      rw[show q.length+2=(q.length+1)+1 from rfl,List.drop_succ_cons]
      conv=>lhs;rw[bg]
      simp
    ·rw[if_neg aI] at bk ⊢;cases e:eN.find? fun x=>x.isPrefixOf (c::r) with
     |none=>rw[e] at bk;exact absurd rfl bk
     |some x=>
      simp only[text,show¬((4:Int)=3) by decide,if_false];have:=List.find?_some e;rw[List.isPrefixOf_iff_prefix] at this;obtain⟨z,cS⟩:=this;rw[<-cS];simp
end ax
namespace ax
open Go
def n8 (b:aM×Bool) (c:UInt8):aM×Bool:=if c=39 then(b.1++[c],!b.2) else if c≠32∨b.2=true then(b.1++[c],b.2) else b
def SP (l:aM):aM×Bool:=l.foldl n8 ([],false)
theorem apE {t:aM} (h:∀c∈t,c≠39∧c≠32) (b:aM):t.foldl n8 (b,false)=(b++t,false):=by
 induction t generalizing b with
 |nil=>simp
 |cons c s cF=>
  have aH:=h c (c6 ..);rw[vz];have e:n8 (b,false) c=(b++[c],false):=by simp[n8,aH.1,aH.2]
  rw[e,cF fun x j=>h x (dq _ j)];simp
theorem apF {t:aM} (h:∀c∈t,c≠39) (b:aM):t.foldl n8 (b,true)=(b++t,true):=by
 induction t generalizing b with
 |nil=>simp
 |cons c s cF=>
  have aH:=h c (c6 ..);rw[vz];have e:n8 (b,true) c=(b++[c],true):=by simp[n8,aH]
  rw[e,cF fun x j=>h x (dq _ j)];simp
theorem SQ (l b:aM):(iW l).foldl n8 (b,false)=l.foldl n8 (b,false):=by
 induction l with
 |nil=>rfl
 |cons c s cF=>
  by_cases h:c=32
  ·subst h;rw[SO,cF,vz];rfl
  ·unfold iW;rw[List.dropWhile_cons,if_neg (by simpa using h)]
theorem clean {t:cJ} (h:en t.k t.t=true) (aI:t.k≠3):∀c∈t.t,c≠39∧c≠32:=by
 obtain⟨k,t⟩:=t;unfold en at h;simp only at h aI ⊢;intro c aH
 by_cases J:k=1
 ·subst J;simp only[if_true] at h;unfold lf at h;simp only[bT,beq_iff_eq] at h;have:=Ck h.2.1 c aH;exact⟨fun e=>by subst e;revert this;decide,fun e=>by subst e;revert this;decide⟩
 ·rw[if_neg J] at h
  by_cases an:k=2
  ·subst an;simp only[if_true] at h;unfold uT at h;cases t with
   |nil=>cases aH
   |cons d s=>
    simp only[bT,beq_iff_eq] at h;have:=Ck h.2.1 c aH;exact⟨fun e=>by subst e;revert this;decide,fun e=>by subst e;revert this;decide⟩
  ·rw[if_neg an,if_neg aI] at h
   by_cases cc:k=4
   ·subst cc;simp only[if_true] at h;rw[yd] at h;have hc:eN.all (fun s=>s.all fun c=>(c != 39)&&(c != 32))=true:=by decide
    have:=ep.1 (ep.1 hc t h) c aH;simpa using this
   ·rw[if_neg cc] at h;cases h
theorem apG {t:cJ} (h:en t.k t.t=true) (aI:t.k=3):∀c∈t.t,c≠39:=by
 obtain⟨k,t⟩:=t;unfold en at h;simp only at h aI ⊢;subst aI;intro c aH;simp only[show¬((3:Int)=1) by decide,show¬((3:Int)=2) by decide,if_false,if_true] at h;unfold wN at h;simp only[bT,beq_iff_eq] at h;intro e;have:=Ck h.1 c aH;subst e;revert this;decide
theorem apH {t:cJ} (h:en t.k t.t=true) (b:aM):(text t).foldl n8 (b,false)=(b++text t,false):=by
 unfold text
 by_cases aI:t.k=3
 ·rw[if_pos aI,vz,List.foldl_append];have e:n8 (b,false) 39=(b++[39],true):=by simp[n8]
  rw[e,apF (apG h aI)];simp[n8]
 ·rw[if_neg aI];exact apE (clean h aI) b
theorem apI {n:Nat} {l:aM} {ts:List cJ} (h:h2 n l=some ts):(l=[]∧ts=[])∨∃m t us,n=m+1∧ts=t::us∧en t.k t.t=true∧l=text t++l.drop (text t).length∧(first l)=(t,(first l).2)∧l.drop (first l).2=l.drop (text t).length∧h2 m (iW (l.drop (first l).2))=some us:=by
 cases n with
 |zero=>cases h
 |succ m=>
  cases l with
  |nil=>exact .inl ⟨rfl,(bm h).symm⟩
  |cons c r=>
   right;rw[zI] at h;split at h
   ·cases h
   ·rename_i aH;simp only[h8,decide_eq_true_eq,hq,not_or,Bool.not_eq_false] at aH;obtain⟨us,hu,rfl⟩:=hI.1 h;have bD:=apD aH.1
    have eU:(c::r).drop (text (first (c::r)).1).length=(c::r).drop (first (c::r)).2:=by
     have:=congrArg (List.drop (text (first (c::r)).1).length) bD;rw[List.drop_left] at this;exact this
    refine⟨m,_,us,rfl,rfl,aH.2,?_,rfl,eU.symm,hu⟩;rw[eU];exact bD
theorem SR:∀(n:Nat) (l:aM) (ts:List cJ),h2 n l=some ts->∀b,l.foldl n8 (b,false)=(b++(ts.map text).flatten,false)∧(ts.map text).flatten.length<=l.length∧(ts.all fun t=>en t.k t.t)=true
 |n,l,ts,h,b=>by
  rcases apI h with⟨rfl,rfl⟩|⟨m,t,us,rfl,rfl,hm,aO,bs,a_,hu⟩
  ·simp
  ·rw[a_] at hu;have cF:=SR m _ us hu (b++text t)
   have e:l.foldl n8 (b,false)=(l.drop (text t).length).foldl n8 (b++text t,false):=by
    conv=>lhs;rw[aO]
    rw[List.foldl_append,apH hm]
   have eU:l.length=(text t).length+(l.drop (text t).length).length:=by
    conv=>lhs;rw[aO]
    rw[fR]
   refine⟨?_,?_,?_⟩
   ·rw[e,<-SQ,cF.1];simp
   ·have:=ss (l.drop (text t).length);simp only[ku,List.flatten_cons,fR];have:=cF.2.1;omega
   ·rw[qe,hm,cF.2.2];rfl
theorem zb {l:aM} {ts:List cJ} {e:Int} (h:fl l=(ts,e)):(e≠0∧ts=[])∨(e=0∧l.length<=100∧SP l=((ts.map text).flatten,false)∧(ts.map text).flatten.length<=l.length∧(ts.all fun t=>en t.k t.t)=true):=by
 unfold fl at h;split at h
 ·injection h with J an;subst J an;exact .inl ⟨by decide,rfl⟩
 ·split at h
  ·rename_i aO Es j;injection h with J an;subst J an
   have:=SR _ _ _ j [];rw[SQ] at this;have bb:=ss l;exact .inr ⟨rfl,by omega,(by simpa[SP] using this.1),by have:=this.2.1;omega,this.2.2⟩
  ·injection h with J an;subst J an;exact .inl ⟨by decide,rfl⟩
end ax
namespace ax
open Go
theorem SS:∀(n m:Nat) (l:aM),l.length<n->l.length<m->h2 n l=h2 m l
 |0,_,_,h,_=>by omega
 |_+1,0,_,_,h=>by omega
 |n+1,m+1,[],_,_=>rfl
 |n+1,m+1,c::r,h,k=>by
  rw[zI,zI]
  by_cases bk:(first (c::r)).2=0
  ·simp[bk]
  ·have J:=ss ((c::r).drop (first (c::r)).2);rw[sV,e5] at J;simp only[e5] at h k;rw[SS n m _ (by omega) (by omega)]
theorem JQ {l:aM} {c:UInt8} (h:c≠32):iW (c::l)=c::l:=by unfold iW;rw[List.dropWhile_cons,if_neg (by simpa using h)]
end ax
namespace ax
open Go
theorem Fm {x:aM}:eN.contains x=true↔x=[60,61]∨x=[61,61]∨x=[33,61]∨x=[124]∨x=[38]∨x=[60]∨x=[43]∨x=[45]∨x=[42]∨x=[47]∨x=[37]∨x=[33]∨x=[40]∨x=[41]:=by
 rw[yd];simp[eN]
theorem JR {c:UInt8} {r:aM} (J:eR c=false) (an:h1 c=false) (aI:c≠39):first (c::r)=match eN.find? fun x=>x.isPrefixOf (c::r) with
  |some x=>(⟨4,x⟩,x.length)
  |Option.none=>none:=by rw[vp,if_neg (by rw[J];decide),if_neg (by rw[an];decide),if_neg aI];try rfl
theorem apJ {c d:UInt8} {r:aM} (J:eR c=false) (an:h1 c=false) (aI:c≠39) (h:eN.contains [c,d]=true):first (c::d::r)=(⟨4,[c,d]⟩,2):=by
 rw[JR J an aI];rw[Fm] at h;simp only[ue,and_true,reduceCtorEq,and_false,or_false] at h;rcases h with⟨rfl,rfl⟩|⟨rfl,rfl⟩|⟨rfl,rfl⟩<;>simp[eN,List.find?,List.isPrefixOf]
theorem apK {c:UInt8} {r:aM} (J:eR c=false) (an:h1 c=false) (aI:c≠39) (gv:∀d s,r=d::s->eN.contains [c,d]=false) (h:eN.contains [c]=true):first (c::r)=(⟨4,[c]⟩,1):=by
 rw[JR J an aI];rw[Fm] at h;simp only[ue,and_true,reduceCtorEq,and_false,false_or] at h;cases r with
 |nil=>rcases h with rfl|rfl|rfl|rfl|rfl|rfl|rfl|rfl|rfl|rfl|rfl<;>simp[eN,List.find?,List.isPrefixOf]
 |cons d s=>
  have a_:=gv d s rfl
  have a_:¬(c=60∧d=61)∧¬(c=33∧d=61):=by
   refine⟨fun⟨a7,bh⟩=>?_,fun⟨a7,bh⟩=>?_⟩<;>subst a7 bh<;>revert a_<;>decide
  have nb:c=60∨c=33->(61==d)=false:=fun h=>by
   rw[beq_eq_false_iff_ne];rintro rfl;rcases h with h|h
   ·exact a_.1 ⟨h,rfl⟩
   ·exact a_.2 ⟨h,rfl⟩
  rcases h with rfl|rfl|rfl|rfl|rfl|rfl|rfl|rfl|rfl|rfl|rfl<;>first
   |(have bu:=nb (.inl rfl);simp[eN,List.find?,List.isPrefixOf,bu];done)
   |(have bu:=nb (.inr rfl);simp[eN,List.find?,List.isPrefixOf,bu];done)
   |(simp[eN,List.find?,List.isPrefixOf];done)
theorem apL {c:UInt8} {r:aM} (J:eR c=false) (an:h1 c=false) (aI:c≠39) (gv:∀d s,r=d::s->eN.contains [c,d]=false) (h:eN.contains [c]=false):(first (c::r)).2=0:=by
 rw[JR J an aI]
 have:(eN.find? fun x=>x.isPrefixOf (c::r))=Option.none:=by
  rw[List.find?_eq_none];intro x j hp;rw[List.isPrefixOf_iff_prefix] at hp;obtain⟨z,cS⟩:=hp;have gE:=yd.2 j;have tM:=Fm.1 gE
  match x,cS,gE,tM with
  |[],_,_,k=>simp at k
  |[a],e,k,_=>
   simp only[vM,yi,ue] at e;obtain⟨rfl,_⟩:=e;rw[h] at k;cases k
  |[a,b],e,k,_=>
   simp only[vM,yi,ue] at e;obtain⟨rfl,e⟩:=e;have:=gv b z e.symm;rw[k] at this;cases this
  |a::b::e::y,_,_,k=>simp at k
 rw[this];rfl
end ax
end
section
namespace Go.Proofs.YtkpjmlnhhggenaaGreatDoor
open Go.Proofs.Tryz Go Go.RowKit Go.cK
theorem SU (t:ByteArray) (W:al):da prog 156 #[.string t] W (.bool (ax.eN.contains t.data.toList)):=by
 refine amf t W.all _ ?_;refine aK (fun c0=>aP fun _ _ _=>⟨_,rfl,?_⟩) fun c0=>?_
 ·simp only[U,beq_iff_eq] at c0;rw[c0];rfl
 refine aK (fun aJ=>aP fun _ _ _=>⟨_,rfl,?_⟩) fun aJ=>?_
 ·simp only[U,beq_iff_eq] at aJ;rw[aJ];rfl
 refine aK (fun c2=>aP fun _ _ _=>⟨_,rfl,?_⟩) fun c2=>?_
 ·simp only[U,beq_iff_eq] at c2;rw[c2];rfl
 refine aK (fun c3=>aP fun _ _ _=>⟨_,rfl,?_⟩) fun c3=>?_
 ·simp only[U,beq_iff_eq] at c3;rw[c3];rfl
 refine aK (fun c4=>aP fun _ _ _=>⟨_,rfl,?_⟩) fun c4=>?_
 ·simp only[U,beq_iff_eq] at c4;rw[c4];rfl
 refine aK (fun c5=>aP fun _ _ _=>⟨_,rfl,?_⟩) fun c5=>?_
 ·simp only[U,beq_iff_eq] at c5;rw[c5];rfl
 refine aK (fun bw=>aP fun _ _ _=>⟨_,rfl,?_⟩) fun bw=>?_
 ·simp only[U,beq_iff_eq] at bw;rw[bw];rfl
 refine aK (fun cv=>aP fun _ _ _=>⟨_,rfl,?_⟩) fun cv=>?_
 ·simp only[U,beq_iff_eq] at cv;rw[cv];rfl
 refine aK (fun cZ=>aP fun _ _ _=>⟨_,rfl,?_⟩) fun cZ=>?_
 ·simp only[U,beq_iff_eq] at cZ;rw[cZ];rfl
 refine aK (fun c9=>aP fun _ _ _=>⟨_,rfl,?_⟩) fun c9=>?_
 ·simp only[U,beq_iff_eq] at c9;rw[c9];rfl
 refine aK (fun y4=>aP fun _ _ _=>⟨_,rfl,?_⟩) fun y4=>?_
 ·simp only[U,beq_iff_eq] at y4;rw[y4];rfl
 refine aK (fun y5=>aP fun _ _ _=>⟨_,rfl,?_⟩) fun y5=>?_
 ·simp only[U,beq_iff_eq] at y5;rw[y5];rfl
 refine aK (fun c12=>aP fun _ _ _=>⟨_,rfl,?_⟩) fun c12=>?_
 ·simp only[U,beq_iff_eq] at c12;rw[c12];rfl
 refine aK (fun Fo=>aP fun _ _ _=>⟨_,rfl,?_⟩) fun Fo=>?_
 ·simp only[U,beq_iff_eq] at Fo;rw[Fo];rfl
 simp only[U,beq_eq_false_iff_ne] at c0 aJ c2 c3 c4 c5 bw cv cZ c9 y4 y5 c12 Fo
 have gv:ax.eN.contains t.data.toList=false:=by
  cases h:ax.eN.contains t.data.toList with
  |false=>rfl
  |true=>rcases ax.Fm.1 h with h|h|h|h|h|h|h|h|h|h|h|h|h|h<;>contradiction
 exact aP fun _ _ _=>⟨_,rfl,by rw[gv];rfl⟩
theorem SV (t:ByteArray):(t.data.toList==([]:List UInt8))=decide (t.size=0):=by
 rw[<-kH];cases t.data.toList<;>simp
theorem zJ {p:UInt8->Bool} {t:ByteArray} {i:Nat} (a8:i<t.size) (bl:i+ax.run p (t.data.toList.drop i)=ax.run p t.data.toList):
  (p (aR t.data.toList i 0)=true->i+1+ax.run p (t.data.toList.drop (i+1))=ax.run p t.data.toList)∧(p (aR t.data.toList i 0)=false->ax.run p t.data.toList≠t.data.toList.length):=by
 have bD:=kH t;rw[qK t.data.toList i (by omega)] at bl;refine⟨fun h=>?_,fun h=>?_⟩
 ·rw[ax.pf h] at bl;omega
 ·rw[ax.uU h] at bl;omega
theorem JS {p:UInt8->Bool} {t:ByteArray} {i:Nat} (a8:i<=t.size) (an:(t.size:Int)<=(i:Int)) (bl:i+ax.run p (t.data.toList.drop i)=ax.run p t.data.toList):ax.run p t.data.toList=t.data.toList.length:=by
 have bD:=kH t;rw[fV (by omega),ax.wP] at bl;omega
theorem apM (k:Int) (t:ByteArray) (bb:t.size<=9223372036854775807) (W:al):da prog 157 #[.agg #[.int .u8 k,.string t]] W (.bool (ax.en k t.data.toList)):=by
 refine amu k t W.all _ ?_;have bD:=kH t;refine bY fun m W1 _ bM=>aK (fun aJ=>?_) fun aJ=>?_
 ·simp only[U,beq_iff_eq] at aJ;have em:ax.en k t.data.toList=ax.lf t.data.toList:=by unfold ax.en;rw[if_pos aJ]
  rw[em];have fy:=SV t;refine a6 ?_ (a6 ?_ (aK (fun c2=>?_) fun c2=>?_))
  ·simp[E.b,E.i,er]
  ·simp only[U,fy]
   by_cases cS:t.size=0
   ·simp[cS]
   ·rw[dW (show(0:Int)<(t.size:Int) by omega),gf]
  ·refine aP fun _ _ _=>⟨_,rfl,?_⟩
   simp only[U,fy,h8,bT,decide_eq_true_eq,cX,beq_iff_eq] at c2;rcases c2 with (c2|c2)|⟨c2,c3⟩
   ·have:t.data.toList=[]:=yc (by omega);rw[this,ax.SL];rfl
   ·rw[ax.apw (by omega)];rfl
   ·have aY:t.data.toList.head?=some 48:=by
     cases aO:t.data.toList with
     |nil=>rw[aO] at bD;simp at bD;omega
     |cons c r=>
      rw[uc,pY aO] at c2;have:c=48:=UInt8.toNat_inj.1 (by show c.toNat=48;omega);rw[this];rfl
    rw[ax.apy aY (by omega)];rfl
  ·simp only[U,fy,k1,r1,decide_eq_false_iff_not,c7,beq_eq_false_iff_ne] at c2;obtain⟨⟨c2,c3⟩,c4⟩:=c2;refine dJ (fun aj vs ls _=>∃i:Nat,vs=[.int .i64 (i:Int)]∧ls=[]∧i<=t.size∧aj=t.size-i∧i+ax.run ax.eR (t.data.toList.drop i)=ax.run ax.eR t.data.toList) t.size ⟨0,rfl,rfl,dr _,rfl,by simp⟩ ?_;rintro n vs ls W' x ⟨i,rfl,rfl,a8,rfl,bl⟩;refine⟨(i:Int),rfl,rfl,fun _=>?_⟩;simp only[aU];refine aK (fun c5=>a6 ?_ (cj fun _ _=>aK (fun bw=>?_) fun bw=>?_)) fun c5=>?_
   ·simp only[U];exact c_ (by omega)
   ·simp only[U,cX] at c5;have bw:(!ax.eR (aR t.data.toList i 0))=true:=bw;refine aP fun _ _ _=>⟨_,rfl,?_⟩
    rw[ax.apz ((zJ (by omega) bl).2 (by simpa using bw))];rfl
   ·simp only[U,cX] at c5;have bw:(!ax.eR (aR t.data.toList i 0))=false:=bw;refine b1 ⟨t.size-(i+1),by omega,i+1,?_,rfl,by omega,rfl,(zJ (by omega) bl).1 (by simpa using bw)⟩;simp only[U];rw[cE (by omega) (by omega)];rfl
   ·simp only[U,c7] at c5;have a_:=ax.Fl.1 (JS a8 c5 bl);refine aP fun _ _ _=>⟨_,rfl,?_⟩
    have bk:t.data.toList≠[]:=fun e=>by rw[e] at bD;simp at bD;omega
    have an:¬(t.data.toList.head?=some 48∧1<t.data.toList.length):=by
     rintro⟨bu,hs⟩;rcases c4 with c4|c4
     ·cases aO:t.data.toList with
      |nil=>exact bk aO
      |cons c r=>
       rw[aO] at bu;obtain rfl:c=48:=by simpa using bu
       rw[uc,pY aO] at c4;exact c4 rfl
     ·omega
    have:=ax.apv bk (by omega) an a_;simp only[U];rw[this,bD];have fr:eg (t.size:Int) 19=decide (t.size<19):=by unfold eg;congr 1;rw[eq_iff_iff];omega
    rw[fr];rfl
 ·simp only[U,beq_eq_false_iff_ne] at aJ;refine aK (fun c2=>?_) fun c2=>?_
  ·simp only[U,beq_iff_eq] at c2;have em:ax.en k t.data.toList=ax.uT t.data.toList:=by unfold ax.en;rw[if_neg aJ,if_pos c2]
   rw[em];have fy:=SV t;refine a6 ?_ (a6 ?_ (aK (fun c3=>cj fun _ _=>aK (fun c4=>?_) fun c4=>?_) fun c3=>?_))
   ·simp[E.b,E.i,er]
   ·simp only[U,fy]
    by_cases cS:t.size=0
    ·simp[cS]
    ·rw[dW (show(0:Int)<(t.size:Int) by omega),gf]
   ·simp only[U,fy,hq,k1,decide_eq_false_iff_not,c7] at c3;have c4:(!ax.h1 (aR t.data.toList 0 0))=true:=c4;refine aP fun _ _ _=>⟨_,rfl,?_⟩
    cases aO:t.data.toList with
    |nil=>rfl
    |cons c r=>
     rw[pY aO] at c4;have:ax.h1 c=false:=by simpa using c4
     simp[ax.uT,this,af.ak,E.b]
   ·simp only[U,fy,hq,k1,decide_eq_false_iff_not,c7] at c3;have c4:(!ax.h1 (aR t.data.toList 0 0))=false:=c4
    have key:ax.uT t.data.toList=(ax.run ax.fK t.data.toList==t.data.toList.length):=by
     cases aO:t.data.toList with
     |nil=>rw[aO] at bD;simp at bD;omega
     |cons c r=>
      rw[pY aO] at c4;have bu:ax.h1 c=true:=by simpa using c4
      have hs:(c::r).length<=12:=by rw[<-aO];omega
      show(ax.h1 c&&((ax.run ax.fK (c::r)==(c::r).length)&&decide ((c::r).length<=12)))=_;rw[bu,decide_eq_true hs,Bool.and_true,eX]
    rw[key];refine dJ (fun aj vs ls _=>∃i:Nat,vs=[.int .i64 (i:Int)]∧ls=[]∧i<=t.size∧aj=t.size-i∧i+ax.run ax.fK (t.data.toList.drop i)=ax.run ax.fK t.data.toList) t.size ⟨0,rfl,rfl,dr _,rfl,by simp⟩ ?_;rintro n vs ls W' x ⟨i,rfl,rfl,a8,rfl,bl⟩;refine⟨(i:Int),rfl,rfl,fun _=>?_⟩;simp only[aU]
    have go:i<t.size->ax.fK (aR t.data.toList i 0)=true->∃fZ,fZ<t.size-i∧∃i':Nat,[Value.int .i64 (IntKind.i64.wrap ((i:Int)+1))]=[.int .i64 (i':Int)]∧([]:List (List Value))=[]∧i'<=t.size∧fZ=t.size-i'∧i'+ax.run ax.fK (t.data.toList.drop i')=ax.run ax.fK t.data.toList:=fun bu hs=>by
     refine⟨t.size-(i+1),by omega,i+1,?_,rfl,by omega,rfl,(zJ bu bl).1 hs⟩;rw[cE (by omega) (by omega)];rfl
    refine aK (fun c5=>a6 ?_ (cj fun _ _=>aK (fun bw=>cj fun _ _=>aK (fun cv=>?_) fun cv=>?_) fun bw=>?_)) fun c5=>?_
    ·simp only[U];exact c_ (by omega)
    ·simp only[U,cX] at c5;have bw:(!ax.h1 (aR t.data.toList i 0))=true:=bw;have cv:((!ax.eR (aR t.data.toList i 0))&&!(((aR t.data.toList i 0).toNat:Int)==95))=true:=cv;refine aP fun _ _ _=>⟨_,rfl,?_⟩
     have nC:ax.fK (aR t.data.toList i 0)=false:=by
      unfold ax.fK;simp only[bT,hq] at bw cv;rw[bw,cv.1,cv.2];rfl
     have:=(zJ (by omega) bl).2 nC;have:(ax.run ax.fK t.data.toList==t.data.toList.length)=false:=by rw[beq_eq_false_iff_ne];exact this
     rw[this];rfl
    ·simp only[U,cX] at c5;have cv:((!ax.eR (aR t.data.toList i 0))&&!(((aR t.data.toList i 0).toNat:Int)==95))=false:=cv;refine b1 (go (by omega) ?_);unfold ax.fK;rw[r1,kt,kt] at cv;rcases cv with cv|cv
     ·rw[cv];simp
     ·rw[cv];simp
    ·simp only[U,cX] at c5;have bw:(!ax.h1 (aR t.data.toList i 0))=false:=bw;refine b1 (go (by omega) ?_);unfold ax.fK;rw[show ax.h1 (aR t.data.toList i 0)=true by simpa using bw];simp
    ·simp only[U,c7] at c5;refine aP fun _ _ _=>⟨_,rfl,?_⟩
     rw[JS a8 c5 bl];simp[af.ak,E.b]
   ·simp only[U,fy,kt,h8,decide_eq_true_eq,cX] at c3;refine aP fun _ _ _=>⟨_,rfl,?_⟩
    cases aO:t.data.toList with
    |nil=>rfl
    |cons c r=>
     have hs:¬(c::r).length<=12:=by
      rw[<-aO];rcases c3 with c3|c3
      ·rw[aO] at bD;simp at bD;omega
      ·omega
     have:ax.uT (c::r)=false:=by
      show(ax.h1 c&&((ax.run ax.fK (c::r)==(c::r).length)&&decide ((c::r).length<=12)))=_;rw[decide_eq_false hs,oY,oY]
     rw[this];rfl
  ·simp only[U,beq_eq_false_iff_ne] at c2;refine aK (fun c3=>?_) fun c3=>?_
   ·simp only[U,beq_iff_eq] at c3;have em:ax.en k t.data.toList=ax.wN t.data.toList:=by unfold ax.en;rw[if_neg aJ,if_neg c2,if_pos c3]
    rw[em];refine aK (fun c4=>?_) fun c4=>?_
    ·simp only[U,cX] at c4;refine aP fun _ _ _=>⟨_,rfl,?_⟩
     unfold ax.wN;rw[decide_eq_false (by omega),oY];rfl
    ·simp only[U,c7] at c4
     have key:ax.wN t.data.toList=(ax.run ax.oH t.data.toList==t.data.toList.length):=by
      unfold ax.wN;rw[decide_eq_true (by omega),Bool.and_true]
     rw[key];refine dJ (fun aj vs ls _=>∃i:Nat,vs=[.int .i64 (i:Int)]∧ls=[]∧i<=t.size∧aj=t.size-i∧i+ax.run ax.oH (t.data.toList.drop i)=ax.run ax.oH t.data.toList) t.size ⟨0,rfl,rfl,dr _,rfl,by simp⟩ ?_;rintro n vs ls W' x ⟨i,rfl,rfl,a8,rfl,bl⟩;refine⟨(i:Int),rfl,rfl,fun _=>?_⟩;simp only[aU]
     have bg:ax.oH (aR t.data.toList i 0)= !((eg ((aR t.data.toList i 0).toNat:Int) 32||eg 126 ((aR t.data.toList i 0).toNat:Int))||(((aR t.data.toList i 0).toNat:Int)==39)):=by
      unfold ax.oH eg;generalize ((aR t.data.toList i 0).toNat:Int)=z;rw[oc];simp only[bT,decide_eq_true_eq,hq,k1,decide_eq_false_iff_not,Int.not_lt]
     refine aK (fun c5=>a6 ?_ (aK (fun bw=>?_) fun bw=>?_)) fun c5=>?_
     ·simp only[U];exact c_ (by omega)
     ·simp only[U,cX] at c5;have bw:((eg ((aR t.data.toList i 0).toNat:Int) 32||eg 126 ((aR t.data.toList i 0).toNat:Int))||(((aR t.data.toList i 0).toNat:Int)==39))=true:=bw;rw[bw] at bg;refine aP fun _ _ _=>⟨_,rfl,?_⟩
      have:=(zJ (by omega) bl).2 bg;have:(ax.run ax.oH t.data.toList==t.data.toList.length)=false:=by rw[beq_eq_false_iff_ne];exact this
      rw[this];rfl
     ·simp only[U,cX] at c5;have bw:((eg ((aR t.data.toList i 0).toNat:Int) 32||eg 126 ((aR t.data.toList i 0).toNat:Int))||(((aR t.data.toList i 0).toNat:Int)==39))=false:=bw;rw[bw] at bg;refine b1 ⟨t.size-(i+1),by omega,i+1,?_,rfl,by omega,rfl,(zJ (by omega) bl).1 bg⟩;simp only[U];rw[cE (by omega) (by omega)];rfl
     ·simp only[U,c7] at c5;refine aP fun _ _ _=>⟨_,rfl,?_⟩
      rw[JS a8 c5 bl];simp[af.ak,E.b]
   ·simp only[U,beq_eq_false_iff_ne] at c3;refine aK (fun c4=>?_) fun c4=>?_
    ·simp only[U,beq_iff_eq] at c4;have em:ax.en k t.data.toList=ax.eN.contains t.data.toList:=by unfold ax.en;rw[if_neg aJ,if_neg c2,if_neg c3,if_pos c4]
     rw[em];refine b5 (fun _ _=>SU t W1) ⟨_,rfl,fun cn bH=>aP fun _ _ _=>⟨_,rfl,rfl⟩⟩
    ·simp only[U,beq_eq_false_iff_ne] at c4;have em:ax.en k t.data.toList=false:=by unfold ax.en;rw[if_neg aJ,if_neg c2,if_neg c3,if_neg c4]
     rw[em];exact aP fun _ _ _=>⟨_,rfl,rfl⟩
end Go.Proofs.YtkpjmlnhhggenaaGreatDoor
namespace Go.Proofs.YtkpjmlnhhggenaaGreatDoor
open Go.Proofs.Tryz Go Go.RowKit Go.cK
theorem xQ (t:ByteArray) (i e:Nat) (he:e<=t.size):t.extract i e=⟨((t.data.toList.drop i).take (e-i)).toArray⟩:=H0 (by simp[ByteArray.data_extract,List.extract_eq_take_drop])
theorem xR {p:UInt8->Bool} {t:ByteArray} {i e:Nat} (he:e<t.size) (bl:e+ax.run p (t.data.toList.drop e)=i+ax.run p (t.data.toList.drop i)):
  (p (aR t.data.toList e 0)=true->e+1+ax.run p (t.data.toList.drop (e+1))=i+ax.run p (t.data.toList.drop i))∧(p (aR t.data.toList e 0)=false->e=i+ax.run p (t.data.toList.drop i)):=by
 have bD:=kH t;rw[qK t.data.toList e (by omega)] at bl;refine⟨fun h=>?_,fun h=>?_⟩
 ·rw[ax.pf h] at bl;omega
 ·rw[ax.uU h] at bl;omega
def SW (ay:Int) (b:Nat) (cut hM:E):Tree:=
 .wr (.call 157 [.agg [.int .u8 (.aE ay),.str cut]] [] [⟨.bt 0 (.aW 0) (.aW 1),.aW 0,192,2,[.l 0]⟩] [] (.bool (.bv b)) ⟨0,0,1,0,0,0,0,0⟩ (.aC (.un .not (.bv b)) vn
  (.new (.a1 (.aF .le (.aF .add (.aW 0) (.aE 1)) (.aE 5864062014805)) (.eu (.aF .add (.aW 0) (.aE 1)) (.eM [⟨1,192,[.int .u8 (.aE ay),.str cut]⟩,⟨0,192,[.int .u8 (.aE ay),.str cut]⟩] (.again 0 [.int .i64 hM,.bt 1 (.aF .add (.aW 0) (.aE 1)) (.aW 2)]
   [⟨.bt 1 (.aF .add (.aW 0) (.aE 1)) (.aW 2),.aF .add (.aW 0) (.aE 1),192,2,[.l 0,.s (.int .u8 (.aE ay)),.s (.str cut)]⟩])))))))
theorem xS {ar:Nat} {R:Ending->World->Prop} {O:List Value->List (List Value)->al->Prop} {Fp:ha} (hH:ax.cJ) {b:Nat} {cut hM:E} {i':Nat} {ts:List ax.cJ} {rF:Nat} {a:Option Addr} {t:ByteArray} {Cl:List Int} {aM:List Bool} {zK:List Nat} {W:al} (I:b=aM.length)
  (su:∀N B A M L,cut.t {aV:=Cl,N:=N,B:=B,T:=[t],A:=A,M:=M,L:=L}=⟨hH.t.toArray⟩) (tD:∀N B A M L,hM.i {aV:=Cl,N:=N,B:=B,T:=[t],A:=A,M:=M,L:=L}=(i':Int)) (eU:hH.t.length<=1000000) (fj:ts.length<=1000000)
  (gl:ax.en hH.k hH.t=false->∀W':al,R (.returned (.tuple #[.slice none 0 0,.int .i64 4])) W'.w)
  (ew:ax.en hH.k hH.t=true->∀bB bG W',O [.int .i64 (i':Int),.slice bB (ts++[hH]).length bG] [lG (ts++[hH])] W'):
  (SW hH.k b cut hM).ak prog ar R (O::Fp) {aV:=Cl,N:=[ts.length,rF],B:=aM,T:=[t],A:=[a],M:=zK,L:=[lG ts]} W:=by
 refine bS fun dI cA=>?_
 have hm:=apM hH.k ⟨hH.t.toArray⟩ (by rw[<-kH];simp only;omega) dI;refine b5 (v:=.bool (ax.en hH.k hH.t)) (fun _ _=>?_) ⟨ax.en hH.k hH.t,?_,fun cV bU=>?_⟩
 ·simp only[af.b2,af.ak,E.i,su];exact hm
 ·subst I;simp only[af.ak,E.b,aX.push];rw[lC]
 have SX:aR (aM++[ax.en hH.k hH.t]) b false=ax.en hH.k hH.t:=by subst I;exact lC _ _ _
 refine aK (fun c9=>?_) fun c9=>?_
 ·simp only[U,SX] at c9;exact aP fun _ _ _=>gl (by simpa using c9) cV
 ·simp only[U,SX] at c9;refine bY fun m7 dQ _ df=>a6 ?_ (hj fun hO cZ dX ayt dK=>?_)
  ·simp only[U];exact c_ (by omega)
  refine eC fun fm _ eY _ _=>b1 ?_
  have:=ew (by simpa using c9) hO cZ fm;show O _ _ _
  have a7:af.b2 ((({aV:=Cl,N:=[ts.length,rF],B:=aM,T:=[t],A:=[a],M:=zK,L:=[lG ts]}:aX).push {B:=[ax.en hH.k hH.t]}).push {M:=[m7]}|>.push {A:=[hO],N:=[cZ]}) [.int .i64 hM,.bt 1 (.aF .add (.aW 0) (.aE 1)) (.aW 2)]=[.int .i64 (i':Int),.slice hO (ts++[hH]).length cZ]:=by
   simp only[U,tD,fR,e5,yg];rfl
  have bh:hL ((({aV:=Cl,N:=[ts.length,rF],B:=aM,T:=[t],A:=[a],M:=zK,L:=[lG ts]}:aX).push {B:=[ax.en hH.k hH.t]}).push {M:=[m7]}|>.push {A:=[hO],N:=[cZ]}) [⟨.bt 1 (.aF .add (.aW 0) (.aE 1)) (.aW 2),.aF .add (.aW 0) (.aE 1),192,2,[.l 0,.s (.int .u8 (.aE hH.k)),.s (.str cut)]⟩]=[lG (ts++[hH])]:=by
   simp only[hL,dF,ku,lM,jq,kv,dV.ak,U,NO,su];rfl
  rw[a7,bh];exact this
set_option maxHeartbeats 1000000 in
theorem apN (t:ByteArray) (W:al):gR prog 125 #[.string t] W.all fun v w'=>∃a c,v= .tuple #[.slice a (ax.fl t.data.toList).1.length c,.int .i64 (ax.fl t.data.toList).2]∧D7 W.w.heap.size w' a c (ax.fl t.data.toList).1:=by
 refine amV t W.all _ ?_;have bD:=kH t;refine aK (fun c=>?_) fun c=>?_
 ·simp only[U,cX] at c;have e:ax.fl t.data.toList=([],40):=by unfold ax.fl;rw[if_pos (by omega)]
  rw[e];exact aP fun _ _ _=>⟨_,rfl,none,0,rfl,eD.nil _ _ _⟩
 simp only[U,c7] at c
 have e:ax.fl t.data.toList=match ax.h2 (t.data.toList.length+1) (ax.iW t.data.toList) with
  |some ts=>(ts,0)
  |none=>([],4):=by unfold ax.fl;rw[if_neg (by omega)];rfl
 have SY:ax.h2 (t.data.toList.length+1) (ax.iW t.data.toList)=none->ax.fl t.data.toList=([],4):=fun h=>by rw[e,h]
 generalize eS:t.data.toList.length+1=F at*
 refine dJ (fun k vs ls _=>∃(i:Nat) (ts:List ax.cJ) (a:Option Addr) (c:Nat),vs=[.int .i64 (i:Int),.slice a ts.length c]∧ls=[lG ts]∧i<=t.size∧ts.length<=i∧k=t.size-i∧
  ax.h2 F (ax.iW t.data.toList)=(ax.h2 F (ax.iW (t.data.toList.drop i))).map (ts++ ·)) t.size ⟨0,[],none,0,rfl,rfl,by omega,by simp,by simp,by simp⟩ ?_
 rintro k vs ls cn bH ⟨i,ts,a,rF,rfl,rfl,a8,tj,rfl,cC⟩;refine⟨(i:Int),ts.length,rF,a,lG ts,rfl,(by simp[hL,dF,dV.ak,aR,aX.push]),fun hi=>?_⟩;simp only[aU];refine aK (fun aJ=>?_) fun aJ=>?_
 rotate_left
 ·simp only[U,c7] at aJ;obtain rfl:i=t.size:=by omega
  have a_:t.data.toList.drop t.size=[]:=fV (by omega)
  have aO:ax.fl t.data.toList=(ts,0):=by
   rw[e,cC,a_,<-eS];simp[ax.iW,ax.h2]
  rw[aO];refine aP fun _ _ aw=>⟨_,rfl,a,rF,rfl,?_⟩
  have:=(aw _ (bd.2 rfl)).1;simp only[dF,jq,kv,dV.ak,U] at this;exact gW this
 simp only[U,cX] at aJ;have cp:i<t.size:=by omega
 have mz:IntKind.i64.wrap ((i:Int)+1)=((i+1:Nat):Int):=by rw[cE (by omega) (by omega)];rfl
 have xT:IntKind.i64.wrap (((i+1:Nat):Int)+1)=((i+2:Nat):Int):=by rw[cE (by omega) (by omega)];omega
 have iX:=qK t.data.toList i (by omega);generalize pd:aR t.data.toList i 0=cD at iX;generalize oE:t.data.toList.drop (i+1)=r at iX;have oI:r.length=t.size-(i+1):=by rw[<-oE,sV];omega
 refine a6 ?_ ?_
 ·simp only[U];exact c_ (by omega)
 refine aK (fun c2=>?_) fun c2=>?_
 ·simp only[U,pd,beq_iff_eq] at c2;have Cm:cD=32:=UInt8.toNat_inj.1 (by show cD.toNat=32;omega);refine b1 ⟨t.size-(i+1),by omega,i+1,ts,a,rF,?_,?_,by omega,by omega,rfl,?_⟩
  ·simp only[U,mz]
  ·simp only[hL,dF,ku,lM,jq,kv,dV.ak,U,lL]
  ·rw[cC,iX,Cm,ax.SO,oE]
 simp only[U,pd,beq_eq_false_iff_ne] at c2;have Cm:cD≠32:=fun e=>c2 (by rw[e];rfl)
 have ew:∀(hH:ax.cJ) (n:Nat),ax.first (cD::r)=(hH,n)->n≠0->ax.en hH.k hH.t=true->ax.h2 F (ax.iW t.data.toList)=(ax.h2 F (ax.iW (t.data.toList.drop (i+n)))).map ((ts++[hH])++ ·):=fun hH n bs cB hm=>by
  rw[cC,iX,ax.JQ Cm,<-eS,ax.zI,bs,if_neg (by simp[cB,hm])];have DL:t.data.toList.drop (i+n)=(cD::r).drop n:=by rw[<-iX,List.drop_drop]
  rw[DL];have J:=ax.ss ((cD::r).drop n);rw[sV,e5] at J;rw[ax.SS (t.data.toList.length+1) t.data.toList.length _ (by omega) (by omega),Option.map_map];congr 1;funext x;simp
 have gl:∀(hH:ax.cJ) (n:Nat),ax.first (cD::r)=(hH,n)->ax.en hH.k hH.t=false->ax.fl t.data.toList=([],4):=fun hH n bs hm=>SY (by
  rw[cC,iX,ax.JQ Cm,<-eS,ax.zI,bs,if_pos (by simp[hm])];rfl)
 have SZ:(ax.first (cD::r)).2=0->ax.fl t.data.toList=([],4):=fun bs=>SY (by
  rw[cC,iX,ax.JQ Cm,<-eS,ax.zI,if_pos (by simp[bs])];rfl)
 have fail:ax.fl t.data.toList=([],4)->∀W':al,o4 (fun v w'=>∃a c,v= .tuple #[.slice a (ax.fl t.data.toList).1.length c,.int .i64 (ax.fl t.data.toList).2]∧D7 W.w.heap.size w' a c (ax.fl t.data.toList).1) (.returned (.tuple #[.slice none 0 0,.int .i64 4])) W'.w:=fun h W'=>by
  rw[h];exact⟨_,rfl,none,0,rfl,eD.nil _ _ _⟩
 refine bY fun m1 cq _ bo=>bS fun dH cd=>cj fun P9 EG=>aK (fun c3=>?_) fun c3=>cj fun BK zg=>?_
 ·have c3:ax.eR (aR t.data.toList i 0)=true:=c3;rw[pd] at c3;have bs:ax.first (cD::r)=(⟨1,(cD::r).take (ax.run ax.eR (cD::r))⟩,ax.run ax.eR (cD::r)):=by rw[ax.vp,if_pos c3]
  have wR:0<ax.run ax.eR (cD::r):=by rw[ax.pf c3];omega
  have hle:=ax.wO ax.eR (cD::r);rw[e5,oI] at hle;refine dJ (fun aj vs ls _=>∃e:Nat,vs=[.int .i64 (e:Int)]∧ls=[]∧i+1<=e∧e<=t.size∧aj=t.size-e∧e+ax.run ax.eR (t.data.toList.drop e)=i+ax.run ax.eR (t.data.toList.drop i)) (t.size-(i+1)) ⟨i+1,?_,rfl,e9 _,by omega,rfl,?_⟩ ?_
  ·simp only[U,mz]
  ·rw[iX,ax.pf c3,oE];omega
  rintro n vs ls W' x ⟨dy,rfl,rfl,ma,he,rfl,bl⟩;refine⟨(dy:Int),rfl,rfl,fun _=>?_⟩;simp only[aU];refine a6 ?_ (a6 ?_ ?_)
  ·simp only[U]
   by_cases h:dy<t.size
   ·rw[c_ (show(0:Int)<=(dy:Int) by omega),gf]
   ·rw[wQ (show(t.size:Int)<=(dy:Int) by omega)];rfl
  ·simp only[U]
   by_cases h:dy<t.size
   ·rw[dW (show(dy:Int)<(t.size:Int) by omega),gf]
   ·rw[wQ (show(t.size:Int)<=(dy:Int) by omega)];rfl
  refine aK (fun c5=>cj fun BL xl=>aK (fun bw=>?_) fun bw=>?_) fun c5=>?_
  ·simp only[U,cX] at c5;have bw:ax.eR (aR t.data.toList dy 0)=true:=bw;refine b1 ⟨t.size-(dy+1),by omega,dy+1,?_,rfl,by omega,by omega,rfl,(xR (by omega) bl).1 bw⟩;simp only[U];rw[cE (by omega) (by omega)];rfl
  ·simp only[U,cX] at c5;have bw:ax.eR (aR t.data.toList dy 0)=false:=bw;have fe:=(xR (by omega) bl).2 bw;rw[iX] at fe;refine a6 ?_ (a6 ?_ (xS ⟨1,(cD::r).take (ax.run ax.eR (cD::r))⟩ (b:=0) (i':=dy) rfl ?_ ?_ ?_ (by omega) (fun hm W'=>fail (gl _ _ bs hm) W') (fun hm bB bG ht=>?_)))
   ·simp only[U];exact c_ (by omega)
   ·simp only[U];exact c_ (by omega)
   ·intro N B A M L;simp only[U];rw[xQ t i dy he,iX];congr 4;omega
   ·intro N B A M L;simp only[U]
   ·simp only[mX,e5];omega
   ·refine⟨t.size-dy,by omega,dy,_,bB,bG,rfl,rfl,by omega,by rw[fR,q2];omega,rfl,?_⟩;rw[fe];exact ew _ _ bs (by omega) hm
  ·simp only[U,c7] at c5;have fe:=bl;rw[fV (by omega),ax.wP,ff] at fe;rw[iX] at fe;refine a6 ?_ (a6 ?_ (xS ⟨1,(cD::r).take (ax.run ax.eR (cD::r))⟩ (b:=0) (i':=dy) rfl ?_ ?_ ?_ (by omega) (fun hm W'=>fail (gl _ _ bs hm) W') (fun hm bB bG ht=>?_)))
   ·simp only[U];exact c_ (by omega)
   ·simp only[U];exact c_ (by omega)
   ·intro N B A M L;simp only[U];rw[xQ t i dy he,iX];congr 4;omega
   ·intro N B A M L;simp only[U]
   ·simp only[mX,e5];omega
   ·refine⟨t.size-dy,by omega,dy,_,bB,bG,rfl,rfl,by omega,by rw[fR,q2];omega,rfl,?_⟩;rw[fe];exact ew _ _ bs (by omega) hm
 have c3:ax.eR (aR t.data.toList i 0)=false:=c3;rw[pd] at c3;refine aK (fun c4=>?_) fun c4=>?_
 ·have c4:ax.h1 (aR t.data.toList i 0)=true:=c4;rw[pd] at c4;have S0:ax.fK cD=true:=by unfold ax.fK;rw[c4];simp
  have bs:ax.first (cD::r)=(⟨2,(cD::r).take (ax.run ax.fK (cD::r))⟩,ax.run ax.fK (cD::r)):=by rw[ax.vp,if_neg (by rw[c3];decide),if_pos c4]
  have wR:0<ax.run ax.fK (cD::r):=by rw[ax.pf S0];omega
  have hle:=ax.wO ax.fK (cD::r);rw[e5,oI] at hle;refine dJ (fun aj vs ls _=>∃e:Nat,vs=[.int .i64 (e:Int)]∧ls=[]∧i+1<=e∧e<=t.size∧aj=t.size-e∧e+ax.run ax.fK (t.data.toList.drop e)=i+ax.run ax.fK (t.data.toList.drop i)) (t.size-(i+1)) ⟨i+1,?_,rfl,e9 _,by omega,rfl,?_⟩ ?_
  ·simp only[U,mz]
  ·rw[iX,ax.pf S0,oE];omega
  rintro n vs ls W' x ⟨dy,rfl,rfl,ma,he,rfl,bl⟩;refine⟨(dy:Int),rfl,rfl,fun _=>?_⟩;simp only[aU];refine a6 ?_ (a6 ?_ ?_)
  ·simp only[U]
   by_cases h:dy<t.size
   ·rw[c_ (show(0:Int)<=(dy:Int) by omega),gf]
   ·rw[wQ (show(t.size:Int)<=(dy:Int) by omega)];rfl
  ·simp only[U]
   by_cases h:dy<t.size
   ·rw[dW (show(dy:Int)<(t.size:Int) by omega),gf]
   ·rw[wQ (show(t.size:Int)<=(dy:Int) by omega)];rfl
  refine aK (fun c5=>cj fun BL xl=>aK (fun bw=>cj fun ayu ayv=>aK (fun cv=>?_) fun cv=>?_) fun bw=>?_) fun c5=>?_
  ·simp only[U,cX] at c5;have cv:(ax.eR (aR t.data.toList dy 0)||(((aR t.data.toList dy 0).toNat:Int)==95))=true:=cv
   have cZ:ax.fK (aR t.data.toList dy 0)=true:=by
    unfold ax.fK;rcases h8 _ _▸cv with h|h<;>rw[h]<;>simp
   refine b1 ⟨t.size-(dy+1),by omega,dy+1,?_,rfl,by omega,by omega,rfl,(xR (by omega) bl).1 cZ⟩;simp only[U];rw[cE (by omega) (by omega)];rfl
  ·simp only[U,cX] at c5;have bw:(!ax.h1 (aR t.data.toList dy 0))=true:=bw;have cv:(ax.eR (aR t.data.toList dy 0)||(((aR t.data.toList dy 0).toNat:Int)==95))=false:=cv
   have cZ:ax.fK (aR t.data.toList dy 0)=false:=by
    unfold ax.fK;rw[k1] at cv;rw[cv.1,cv.2,show ax.h1 (aR t.data.toList dy 0)=false by simpa using bw];rfl
   have fe:=(xR (by omega) bl).2 cZ;rw[iX] at fe;refine a6 ?_ (a6 ?_ (xS ⟨2,(cD::r).take (ax.run ax.fK (cD::r))⟩ (b:=0) (i':=dy) rfl ?_ ?_ ?_ (by omega) (fun hm W'=>fail (gl _ _ bs hm) W') (fun hm bB bG ht=>?_)))
   ·simp only[U];exact c_ (by omega)
   ·simp only[U];exact c_ (by omega)
   ·intro N B A M L;simp only[U];rw[xQ t i dy he,iX];congr 4;omega
   ·intro N B A M L;simp only[U]
   ·simp only[mX,e5];omega
   ·refine⟨t.size-dy,by omega,dy,_,bB,bG,rfl,rfl,by omega,by rw[fR,q2];omega,rfl,?_⟩;rw[fe];exact ew _ _ bs (by omega) hm
  ·simp only[U,cX] at c5;have bw:(!ax.h1 (aR t.data.toList dy 0))=false:=bw
   have cZ:ax.fK (aR t.data.toList dy 0)=true:=by
    unfold ax.fK;rw[show ax.h1 (aR t.data.toList dy 0)=true by simpa using bw];simp
   refine b1 ⟨t.size-(dy+1),by omega,dy+1,?_,rfl,by omega,by omega,rfl,(xR (by omega) bl).1 cZ⟩;simp only[U];rw[cE (by omega) (by omega)];rfl
  ·simp only[U,c7] at c5;have fe:=bl;rw[fV (by omega),ax.wP,ff] at fe;rw[iX] at fe;refine a6 ?_ (a6 ?_ (xS ⟨2,(cD::r).take (ax.run ax.fK (cD::r))⟩ (b:=0) (i':=dy) rfl ?_ ?_ ?_ (by omega) (fun hm W'=>fail (gl _ _ bs hm) W') (fun hm bB bG ht=>?_)))
   ·simp only[U];exact c_ (by omega)
   ·simp only[U];exact c_ (by omega)
   ·intro N B A M L;simp only[U];rw[xQ t i dy he,iX];congr 4;omega
   ·intro N B A M L;simp only[U]
   ·simp only[mX,e5];omega
   ·refine⟨t.size-dy,by omega,dy,_,bB,bG,rfl,rfl,by omega,by rw[fR,q2];omega,rfl,?_⟩;rw[fe];exact ew _ _ bs (by omega) hm
 have c4:ax.h1 (aR t.data.toList i 0)=false:=c4;rw[pd] at c4;refine aK (fun c5=>?_) fun c5=>?_
 ·simp only[U,pd,beq_iff_eq] at c5;have Cn:cD=39:=UInt8.toNat_inj.1 (by show cD.toNat=39;omega)
  have u4:ax.first (cD::r)=match ax.lg r with
   |some q=>(⟨3,q⟩,q.length+2)
   |none=>ax.none:=by rw[ax.vp,if_neg (by rw[c3];decide),if_neg (by rw[c4];decide),if_pos Cn];try rfl
  refine dJ (fun aj vs ls _=>∃e:Nat,vs=[.int .i64 (e:Int)]∧ls=[]∧i+1<=e∧e<=t.size∧aj=t.size-e∧e+ax.run (· != 39) (t.data.toList.drop e)=i+1+ax.run (· != 39) (t.data.toList.drop (i+1))) (t.size-(i+1)) ⟨i+1,?_,rfl,e9 _,by omega,rfl,rfl⟩ ?_
  ·simp only[U,mz]
  rintro n vs ls W' x ⟨dy,rfl,rfl,ma,he,rfl,bl⟩;refine⟨(dy:Int),rfl,rfl,fun _=>?_⟩;simp only[aU];refine a6 ?_ (a6 ?_ ?_)
  ·simp only[U]
   by_cases h:dy<t.size
   ·rw[c_ (show(0:Int)<=(dy:Int) by omega),gf]
   ·rw[wQ (show(t.size:Int)<=(dy:Int) by omega)];rfl
  ·simp only[U]
   by_cases h:dy<t.size
   ·rw[dW (show(dy:Int)<(t.size:Int) by omega),gf]
   ·rw[wQ (show(t.size:Int)<=(dy:Int) by omega)];rfl
  refine aK (fun bw=>?_) fun bw=>aK (fun cv=>?_) fun cv=>?_
  ·simp only[U,bT,cX,hq,beq_eq_false_iff_ne] at bw
   have cZ:(aR t.data.toList dy 0 != 39)=true:=by
    have:aR t.data.toList dy 0≠39:=fun h=>bw.2 (by rw[h];rfl)
    simpa using this
   refine b1 ⟨t.size-(dy+1),by omega,dy+1,?_,rfl,by omega,by omega,rfl,(xR (p:=(· != 39)) (by omega) bl).1 cZ⟩;simp only[U];rw[cE (by omega) (by omega)];rfl
  ·simp only[U,beq_iff_eq] at cv;obtain rfl:dy=t.size:=by omega
   rw[fV (by omega),ax.wP,oE] at bl;have bg:ax.lg r=none:=by unfold ax.lg;rw[if_neg (by unfold ax.run at bl;omega)]
   have:=SZ (by rw[u4,bg];rfl);exact aP fun _ _ _=>fail this _
  ·simp only[U,beq_eq_false_iff_ne] at cv;have fr:dy<t.size:=by omega
   simp only[U,r1,c7,kt,beq_iff_eq] at bw
   have cZ:(aR t.data.toList dy 0 != 39)=false:=by
    rcases bw with bw|bw
    ·omega
    ·have:aR t.data.toList dy 0=39:=UInt8.toNat_inj.1 (by show(aR t.data.toList dy 0).toNat=39;omega);simpa using this
   have fe:=(xR (p:=(· != 39)) (by omega) bl).2 cZ;rw[oE] at fe
   have bg:ax.lg r=some (r.take (ax.run (· != 39) r)):=by
    unfold ax.lg;rw[if_pos (by unfold ax.run at fe;omega)];unfold ax.run;rw[ax.Nu]
   rw[bg] at u4;have apO:=ax.wO (· != 39) r;have pZ:(r.take (ax.run (· != 39) r)).length=ax.run (· != 39) r:=by rw[mX,Nat.min_eq_left apO]
   have Bd:IntKind.i64.wrap ((dy:Int)+1)=((dy+1:Nat):Int):=by rw[cE (by omega) (by omega)];rfl
   refine a6 ?_ (a6 ?_ (a6 ?_ (xS ⟨3,r.take (ax.run (· != 39) r)⟩ (b:=0) (i':=dy+1) rfl ?_ ?_ ?_ (by omega) (fun hm W'=>fail (gl _ _ u4 hm) W') (fun hm bB bG ht=>?_))))
   ·simp only[U,mz];exact c_ (by omega)
   ·simp only[U,mz];exact c_ (by omega)
   ·simp only[U];exact c_ (by omega)
   ·intro N B A M L;simp only[U,mz];rw[xQ t (i+1) dy he,oE];congr 4;omega
   ·intro N B A M L;simp only[U,Bd]
   ·simp only[pZ];omega
   ·refine⟨t.size-(dy+1),by omega,dy+1,_,bB,bG,rfl,rfl,by omega,by rw[fR,q2];omega,rfl,?_⟩;rw[ew _ _ u4 (by omega) hm];simp only[pZ];congr 4;omega
 simp only[U,pd,beq_eq_false_iff_ne] at c5;have Cn:cD≠39:=fun e=>c5 (by rw[e];rfl)
 have gv:∀b:Bool,(i+1<t.size->ax.eN.contains [cD,aR t.data.toList (i+1) 0]=b)->b=false->∀d s,r=d::s->ax.eN.contains [cD,d]=false:=fun b J I d s a_=>by
  have:i+1<t.size:=by rw[a_] at oI;simp at oI;omega
  have an:=qK t.data.toList (i+1) (by omega);rw[oE,a_] at an;injection an with aI cc
  rw[aI,J this,I]
 have eB:(∀d s,r=d::s->ax.eN.contains [cD,d]=false)->∀{Fp:ha} {aM:List Bool} {zK:List Nat} {b:Nat} (W':al),b=aM.length->(Tree.a1 (.aF .le (.aN 0) (.un (.wrap .i64) (.aF .add (.aN 0) (.aE 1)))) (.a1 (.aF .le (.un (.wrap .i64) (.aF .add (.aN 0) (.aE 1))) (.un .len (.br 0))) (SW 4 b (.cut (.br 0) (.aN 0) (.un (.wrap .i64) (.aF .add (.aN 0) (.aE 1)))) (.un (.wrap .i64) (.aF .add (.aN 0) (.aE 1)))))).ak prog W.all.w.heap.size
   (o4 (fun v w'=>∃a c,v= .tuple #[.slice a (ax.fl t.data.toList).1.length c,.int .i64 (ax.fl t.data.toList).2]∧D7 W.w.heap.size w' a c (ax.fl t.data.toList).1))
   ((fun lz fG ht=>∃fZ,fZ<t.size-i∧∃(i:Nat) (ts:List ax.cJ) (a:Option Addr) (c:Nat),lz=[.int .i64 (i:Int),.slice a ts.length c]∧fG=[lG ts]∧i<=t.size∧ts.length<=i∧fZ=t.size-i∧
  ax.h2 F (ax.iW t.data.toList)=(ax.h2 F (ax.iW (t.data.toList.drop i))).map (ts++ ·))::Fp) {aV:=[(i:Int)],N:=[ts.length,rF],B:=aM,T:=[t],A:=[a],M:=zK,L:=[lG ts]} W':=fun cB Fp aM zK b W' I=>by
  refine a6 ?_ (a6 ?_ (xS ⟨4,[cD]⟩ (i':=i+1) I ?_ ?_ (by simp) (by omega) (fun hm W'=>fail ?_ W') (fun hm bB bG ht=>?_)))
  ·simp only[U,mz];exact c_ (by omega)
  ·simp only[U,mz];exact c_ (by omega)
  ·intro N B A M L;simp only[U,mz];rw[xQ t i (i+1) (by omega),iX,show i+1-i=1 from by omega];rfl
  ·intro N B A M L;simp only[U,mz]
  ·have hm:ax.eN.contains [cD]=false:=hm;exact SZ (ax.apL c3 c4 Cn cB hm)
  ·refine⟨t.size-(i+1),by omega,i+1,_,bB,bG,rfl,rfl,by omega,by rw[fR,q2];omega,rfl,?_⟩;have As:ax.eN.contains [cD]=true:=hm;exact ew _ _ (ax.apK c3 c4 Cn cB As) (by decide) hm
 refine a6 ?_ (a6 ?_ (aK (fun bw=>?_) fun bw=>?_))
 ·simp only[U,mz,xT];rw[c_ (show(i:Int)<=((i+2:Nat):Int) by omega),gf]
 ·simp only[U,mz,xT]
  by_cases h:i+1<t.size
  ·rw[c_ (show((i+2:Nat):Int)<=(t.size:Int) by omega),gf]
  ·rw[wQ (show(t.size:Int)<=((i+1:Nat):Int) by omega)];rfl
 ·simp only[U,mz,cX] at bw;have fr:i+1<t.size:=by omega
  have an:=qK t.data.toList (i+1) (by omega);rw[oE] at an;generalize a_:aR t.data.toList (i+1) 0=d at*;generalize t.data.toList.drop (i+1+1)=s at an
  have su:t.extract i (i+2)=⟨[cD,d].toArray⟩:=by
   rw[xQ t i (i+2) (by omega),iX,an,show i+2-i=2 from by omega];rfl
  have uV:=SU ⟨[cD,d].toArray⟩ BK;rw[show(⟨[cD,d].toArray⟩:ByteArray).data.toList=[cD,d] by simp] at uV;refine b5 (v:=.bool (ax.eN.contains [cD,d])) (fun _ _=>?_) ⟨ax.eN.contains [cD,d],rfl,fun dI cA=>aK (fun cv=>?_) fun cv=>?_⟩
  ·simp only[U,mz,xT,su];exact uV
  ·have cv:ax.eN.contains [cD,d]=true:=cv;have bs:=ax.apJ (r:=s) c3 c4 Cn cv;rw[<-an] at bs;simp only[aU];refine xS ⟨4,[cD,d]⟩ (b:=1) (i':=i+2) rfl ?_ ?_ (by simp) (by omega) (fun hm W'=>fail (gl _ _ bs hm) W') (fun hm bB bG ht=>?_)
   ·intro N B A M L;simp only[U,mz,xT,su]
   ·intro N B A M L;simp only[U,mz,xT]
   ·refine⟨t.size-(i+2),by omega,i+2,_,bB,bG,rfl,rfl,by omega,by rw[fR,q2];omega,rfl,?_⟩;exact ew _ _ bs (by decide) hm
  ·have cv:ax.eN.contains [cD,d]=false:=cv;simp only[aU];exact eB (gv false (fun _=>cv) rfl) dI rfl
 ·simp only[U,mz,c7] at bw;exact eB (gv false (fun h=>by omega) rfl) BK rfl
end Go.Proofs.YtkpjmlnhhggenaaGreatDoor
end
