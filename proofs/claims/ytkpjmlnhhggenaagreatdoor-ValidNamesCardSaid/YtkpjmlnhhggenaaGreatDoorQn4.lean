/- Texts of the claim, one behind the other: VcVal2 MdPart MdNode MdProc VdP VcVal3 VdSe VdLink VdLinks VdPlaces VdStarts VdCall VdSeen TyLaws TyCheck VdSays. -/
import Derived.Test.YtkpjmlnhhggenaaGreatDoorQn3
import Derived.Test.YtkpjmlnhhggenaaGreatDoorProg
import Derived.Test.YtkpjmlnhhggenaaGreatDoorQn2
set_option linter.unusedSimpArgs false
set_option linter.unusedVariables false
set_option maxRecDepth 100000
section
namespace Go.Proofs.YtkpjmlnhhggenaaGreatDoor
open Go.Proofs.Tryz Go Go.RowKit Go.cK
abbrev Ph:b4:=⟨1,25,[ag 20,aL 20,aq 21,aq 22,aL 23,ag 21,ag 22,ag 23,ba 11,ai 10 20 21,ai 11 22 23]⟩
abbrev Pj:b4:=⟨1,25,[ag 24,aL 24,aq 25,aq 26,aL 27,ag 25,ag 26,ag 27,ba 13,ai 12 24 25,ai 13 26 27]⟩
abbrev Pk:b4:=⟨1,25,[ag 28,aL 28,aq 29,aq 30,aL 31,ag 29,ag 30,ag 31,ba 15,ai 14 28 29,ai 15 30 31]⟩
abbrev Pl:b4:=⟨1,25,[ag 32,aL 32,aq 33,aq 34,aL 35,ag 33,ag 34,ag 35,ba 17,ai 16 32 33,ai 17 34 35]⟩
abbrev Pm:b4:=⟨1,25,[ag 20,aL 20,aq 21,aq 22,aL 23,ag 21,ag 22,ag 23,ba 10,ai 10 20 21,ai 11 22 23]⟩
abbrev Pn:b4:=⟨1,25,[ag 24,aL 24,aq 25,aq 26,aL 27,ag 25,ag 26,ag 27,ba 12,ai 12 24 25,ai 13 26 27]⟩
abbrev Po:b4:=⟨1,25,[ag 28,aL 28,aq 29,aq 30,aL 31,ag 29,ag 30,ag 31,ba 14,ai 14 28 29,ai 15 30 31]⟩
abbrev Pp:b4:=⟨1,25,[ag 12,aL 12,aq 13,aq 14,aL 15,ag 13,ag 14,ag 15,ba 7,ai 6 12 13,ai 7 14 15]⟩
abbrev Pq:b4:=⟨1,25,[ag 16,aL 16,aq 17,aq 18,aL 19,ag 17,ag 18,ag 19,ba 9,ai 8 16 17,ai 9 18 19]⟩
abbrev Pr:b4:=⟨1,25,[ag 12,aL 12,aq 13,aq 14,aL 15,ag 13,ag 14,ag 15,ba 6,ai 6 12 13,ai 7 14 15]⟩
abbrev Ps:b4:=⟨1,25,[ag 16,aL 16,aq 17,aq 18,aL 19,ag 17,ag 18,ag 19,ba 8,ai 8 16 17,ai 9 18 19]⟩
abbrev Pt:b4:=⟨1,25,[ag 8,aL 8,aq 9,aq 10,aL 11,ag 9,ag 10,ag 11,ba 5,ai 4 8 9,ai 5 10 11]⟩
abbrev Pu:b4:=⟨1,25,[ag 8,aL 8,aq 9,aq 10,aL 11,ag 9,ag 10,ag 11,ba 4,ai 4 8 9,ai 5 10 11]⟩
abbrev Pv:b4:=⟨0,25,[ag 0,aL 0,aq 1,aq 2,aL 3,ek,ag 2,ag 3,ba 0,ai 0 0 1,ai 1 2 3]⟩
abbrev Pw:b4:=⟨0,25,[ag 0,aL 1,aq 2,aq 3,aL 4,ag 1,ag 2,ag 3,ba 0,ai 0 0 1,ai 1 2 3]⟩
abbrev Px:b4:=⟨0,25,[ag 0,aL 0,aq 1,aq 2,aL 3,ag 1,ag 2,ag 3,ba 1,ai 0 0 1,ai 1 2 3]⟩
abbrev mw:b4:=⟨0,25,[ag 0,aL 0,aq 1,aq 2,aL 3,ag 1,ag 2,ag 3,ba 0,ai 0 0 1,ai 1 2 3]⟩
abbrev ze:b4:=⟨1,25,[ag 4,aL 4,aq 5,aq 6,aL 7,ag 5,ag 6,ag 7,ba 1,ai 2 4 5,ai 3 6 7]⟩
abbrev BI:af:=(.agg [ag 0,aL 0,aq 1,aq 2,aL 3,ag 1,ag 2,ag 3,ba 0,ai 0 0 1,ai 1 2 3])
abbrev Py:af:=(.agg [ag 1,aL 2,aq 3,aq 4,aL 5,ag 2,ag 3,ag 4,ba 1,ai 3 6 7,ai 4 8 9])
abbrev Pz:af:=(.agg [ek,di 0,bI 0,bI 0,di 0,ek,ek,ek,cY false,.db,.db])
abbrev PA:Tree:=
(.new (.new (.wr (.wr (.wr (.wr (.wr (.ret (.agg [ek,di 0,bI 0,aq 2,di 0,ag 1,ag 2,ag 3,ba 0,ai 0 0 1,ai 1 2 3]) [] [] []))))))))
theorem adE:cN prog cW f90 [BI] [] [] gL=some PA:=by kernel_rfl
theorem adF (i0 i1 i2 i3:Int) (ar aQ bz bJ:Nat) (cm:Bool) (t0 t1 t2 t3:ByteArray) (a0 bn:Option Addr) (W:al) (R:Ending->World->Prop) (h:PA.ak prog W.w.heap.size R [] {aV:=[i0,i1,i2,i3],N:=[ar,aQ,bz,bJ],B:=[cm],T:=[t0,t1,t2,t3],A:=[a0,bn]} W):bK prog 90 #[.agg #[.string t0,.int .u8 i0,.int .i64 i1,.int .i64 i2,.int .u8 i3,.string t1,.string t2,.string t3,.bool cm,.slice a0 ar aQ,.slice bn bz bJ]] W R:=
 dP func90 _ _ {aV:=[i0,i1,i2,i3],N:=[ar,aQ,bz,bJ],B:=[cm],T:=[t0,t1,t2,t3],A:=[a0,bn]} _ adE (fun v aB=>by cases aB) h
abbrev adG:Tree:=(.ret (.bool (bW (cG 1) (cL (cG 0) (eW (b9 0) (.bN []))))) [] [] [])
abbrev PB:Tree:=
(.call 27 [ag 0] [] [] [] (ba 1) dv adG)
theorem adH:cN prog cW f92 [ag 0,.ptr 0 0] [] [⟨0,4,[ba 0]⟩] ⟨0,0,1,1,0,0,1,0⟩=some PB:=by kernel_rfl
theorem adI (cm:Bool) (t0:ByteArray) (m0:Nat) (W:al) (R:Ending->World->Prop) (fi:W.w.heap[m0]? =some (.cells #[.bool cm] 4)) (fP:W.aV m0) (h:PB.ak prog W.w.heap.size R [] {B:=[cm],T:=[t0],M:=[m0]} W):bK prog 92 #[.string t0,.pointer (some ⟨m0,0,none⟩)] W R:=
 kf func92 _ _ [⟨0,4,[ba 0]⟩] {B:=[cm],T:=[t0],M:=[m0]} _ adH (fun v aB=>by cases aB) (fun b I=>by simp only[dh,eT,or_false] at I;rcases I with rfl<;>(first|exact fi)) (fun b I=>by simp only[dh,eT,or_false] at I;rcases I with rfl<;>(first|exact fP)) h
abbrev PC:Tree:=
(.ret (.bool (bR (eW (b9 0) (.bN [])))) [] [] [])
theorem adJ:cN prog cW f93 [ag 0] [] [] ie=some PC:=by kernel_rfl
theorem adK (t0:ByteArray) (W:al) (R:Ending->World->Prop) (h:PC.ak prog W.w.heap.size R [] {T:=[t0]} W):bK prog 93 #[.string t0] W R:=
 dP func93 _ _ {T:=[t0]} _ adJ (fun v aB=>by cases aB) h
abbrev PD:Tree:=
(.ret (.bool (bW (cL (bQ (ah 0) (ae 0)) (aZ (ae 1) (ah 15))) (cL (aZ (ae 0) (ah (-1))) (bR (aZ (ae 1) (ah 15)))))) [] [] [])
theorem adL:cN prog cW f95 [aq 0,.ptr 0 0] [] [Pw] ⟨5,4,1,4,0,2,1,0⟩=some PD:=by kernel_rfl
theorem adM (i0 i1 i2 i3 i4:Int) (ar aQ bz bJ:Nat) (cm:Bool) (t0 t1 t2 t3:ByteArray) (a0 bn:Option Addr) (m0:Nat) (W:al) (R:Ending->World->Prop) (fi:W.w.heap[m0]? =some (.cells #[.string t0,.int .u8 i1,.int .i64 i2,.int .i64 i3,.int .u8 i4,.string t1,.string t2,.string t3,.bool cm,.slice a0 ar aQ,.slice bn bz bJ] 25)) (fP:W.aV m0) (h:PD.ak prog W.w.heap.size R [] {aV:=[i0,i1,i2,i3,i4],N:=[ar,aQ,bz,bJ],B:=[cm],T:=[t0,t1,t2,t3],A:=[a0,bn],M:=[m0]} W):bK prog 95 #[.int .i64 i0,.pointer (some ⟨m0,0,none⟩)] W R:=
 kf func95 _ _ [Pw] {aV:=[i0,i1,i2,i3,i4],N:=[ar,aQ,bz,bJ],B:=[cm],T:=[t0,t1,t2,t3],A:=[a0,bn],M:=[m0]} _ adL (fun v aB=>by cases aB) (fun b I=>by simp only[dh,eT,or_false] at I;rcases I with rfl<;>(first|exact fi)) (fun b I=>by simp only[dh,eT,or_false] at I;rcases I with rfl<;>(first|exact fP)) h
abbrev PE:Tree:=
(.ret (.bool (bW (bW (cG 0) (bR (aZ (ae 0) (ah 15)))) (bR (aZ (ae 3) (ah 4))))) [] [] [])
theorem adN:cN prog cW f97 [ba 0,.ptr 0 0] [] [Px] ⟨4,4,2,4,0,2,1,0⟩=some PE:=by kernel_rfl
theorem adO (i0 i1 i2 i3:Int) (ar aQ bz bJ:Nat) (cm fk:Bool) (t0 t1 t2 t3:ByteArray) (a0 bn:Option Addr) (m0:Nat) (W:al) (R:Ending->World->Prop) (fi:W.w.heap[m0]? =some (.cells #[.string t0,.int .u8 i0,.int .i64 i1,.int .i64 i2,.int .u8 i3,.string t1,.string t2,.string t3,.bool fk,.slice a0 ar aQ,.slice bn bz bJ] 25)) (fP:W.aV m0) (h:PE.ak prog W.w.heap.size R [] {aV:=[i0,i1,i2,i3],N:=[ar,aQ,bz,bJ],B:=[cm,fk],T:=[t0,t1,t2,t3],A:=[a0,bn],M:=[m0]} W):bK prog 97 #[.bool cm,.pointer (some ⟨m0,0,none⟩)] W R:=
 kf func97 _ _ [Px] {aV:=[i0,i1,i2,i3],N:=[ar,aQ,bz,bJ],B:=[cm,fk],T:=[t0,t1,t2,t3],A:=[a0,bn],M:=[m0]} _ adN (fun v aB=>by cases aB) (fun b I=>by simp only[dh,eT,or_false] at I;rcases I with rfl<;>(first|exact fi)) (fun b I=>by simp only[dh,eT,or_false] at I;rcases I with rfl<;>(first|exact fP)) h
abbrev PF:Tree:=
(.call 47 [ai 0 0 1] [] [] [] (aq 0) cg (.ret (.bool (aZ (ae 0) (ah 0))) [] [] []))
theorem adP:cN prog cW f99 [ai 0 0 1] [] [] ga=some PF:=by kernel_rfl
theorem adQ (ar aQ:Nat) (a0:Option Addr) (W:al) (R:Ending->World->Prop) (h:PF.ak prog W.w.heap.size R [] {N:=[ar,aQ],A:=[a0]} W):bK prog 99 #[.slice a0 ar aQ] W R:=
 dP func99 _ _ {N:=[ar,aQ],A:=[a0]} _ adP (fun v aB=>by cases aB) h
abbrev PG:Tree:=
(.call 102 [ai 0 0 1,(.fn 103 []),(.fn 27 [])] [] [] [] (ba 0) dv (.ret (ba 0) [] [] []))
theorem adR:cN prog cW f101 [ai 0 0 1] [] [] ga=some PG:=by kernel_rfl
theorem adS (ar aQ:Nat) (a0:Option Addr) (W:al) (R:Ending->World->Prop) (h:PG.ak prog W.w.heap.size R [] {N:=[ar,aQ],A:=[a0]} W):bK prog 101 #[.slice a0 ar aQ] W R:=
 dP func101 _ _ {N:=[ar,aQ],A:=[a0]} _ adR (fun v aB=>by cases aB) h
abbrev adT:Tree:=(.wr (.ret (ba 1) [Pv] [] []))
abbrev PH:Tree:=
(.call 27 [ag 1] [] [] [] (ba 1) dv adT)
theorem adU:cN prog cW f91 [.ptr 0 5,(.fn 27 [])] [mw] [] y0=some PH:=by kernel_rfl
theorem adV (i0 i1 i2 i3:Int) (ar aQ bz bJ:Nat) (cm:Bool) (t0 t1 t2 t3:ByteArray) (a0 bn:Option Addr) (m0:Nat) (W:al) (R:Ending->World->Prop) (hm:W.w.heap[m0]? =some (.cells #[.string t0,.int .u8 i0,.int .i64 i1,.int .i64 i2,.int .u8 i3,.string t1,.string t2,.string t3,.bool cm,.slice a0 ar aQ,.slice bn bz bJ] 25)) (bf:¬W.aV m0) (h:PH.ak prog W.w.heap.size R [] {aV:=[i0,i1,i2,i3],N:=[ar,aQ,bz,bJ],B:=[cm],T:=[t0,t1,t2,t3],A:=[a0,bn],M:=[m0]} W):bK prog 91 #[.pointer (some ⟨m0,5,none⟩),.func (.func 27) #[] #[]] W R:=
 mm func91 _ _ [mw] {aV:=[i0,i1,i2,i3],N:=[ar,aQ,bz,bJ],B:=[cm],T:=[t0,t1,t2,t3],A:=[a0,bn],M:=[m0]} _ adU (fun v aB=>by cases aB) (fun b I=>by simp only[bd] at I;subst I;exact hm) (fun b I=>by simp only[bd] at I;subst I;exact bf) (jE _ _) h
abbrev adW:Tree:=(.wr (.ret (ba 2) [Pv] [] []))
abbrev PI:Tree:=
(.call 92 [ag 1,.ptr 1 0] [⟨1,4,[ba 1]⟩] [] [] (ba 2) dv adW)
theorem adX:cN prog cW f91 [.ptr 0 5,(.fn 92 [.ptr 1 0])] [mw] [⟨1,4,[ba 1]⟩] ⟨4,4,2,4,0,2,2,0⟩=some PI:=by kernel_rfl
theorem adY (i0 i1 i2 i3:Int) (ar aQ bz bJ:Nat) (cm fk:Bool) (t0 t1 t2 t3:ByteArray) (a0 bn:Option Addr) (m0 m1:Nat) (W:al) (R:Ending->World->Prop) (hm:W.w.heap[m0]? =some (.cells #[.string t0,.int .u8 i0,.int .i64 i1,.int .i64 i2,.int .u8 i3,.string t1,.string t2,.string t3,.bool cm,.slice a0 ar aQ,.slice bn bz bJ] 25)) (bf:¬W.aV m0) (j8:W.w.heap[m1]? =some (.cells #[.bool fk] 4)) (p4:W.aV m1) (h:PI.ak prog W.w.heap.size R [] {aV:=[i0,i1,i2,i3],N:=[ar,aQ,bz,bJ],B:=[cm,fk],T:=[t0,t1,t2,t3],A:=[a0,bn],M:=[m0,m1]} W):bK prog 91 #[.pointer (some ⟨m0,5,none⟩),.func (.func 92) #[] #[.pointer (some ⟨m1,0,none⟩)]] W R:=
 ID func91 _ _ [mw] [⟨1,4,[ba 1]⟩] {aV:=[i0,i1,i2,i3],N:=[ar,aQ,bz,bJ],B:=[cm,fk],T:=[t0,t1,t2,t3],A:=[a0,bn],M:=[m0,m1]} _ adX (fun v aB=>by cases aB) (fun b I=>by simp only[bd] at I;subst I;exact hm) (fun b I=>by simp only[bd] at I;subst I;exact bf) (jE _ _) (fun b I=>by simp only[dh,eT,or_false] at I;rcases I with rfl<;>(first|exact j8)) (fun b I=>by simp only[dh,eT,or_false] at I;rcases I with rfl<;>(first|exact p4)) h
abbrev adZ:Tree:=(.wr (.ret (ba 1) [⟨0,25,[ag 0,aL 0,aq 1,aq 2,aL 3,ag 1,ek,ag 3,ba 0,ai 0 0 1,ai 1 2 3]⟩] [] []))
abbrev PJ:Tree:=
(.call 93 [ag 2] [] [] [] (ba 1) dv adZ)
theorem ad0:cN prog cW f91 [.ptr 0 6,(.fn 93 [])] [mw] [] y0=some PJ:=by kernel_rfl
theorem ad1 (i0 i1 i2 i3:Int) (ar aQ bz bJ:Nat) (cm:Bool) (t0 t1 t2 t3:ByteArray) (a0 bn:Option Addr) (m0:Nat) (W:al) (R:Ending->World->Prop) (hm:W.w.heap[m0]? =some (.cells #[.string t0,.int .u8 i0,.int .i64 i1,.int .i64 i2,.int .u8 i3,.string t1,.string t2,.string t3,.bool cm,.slice a0 ar aQ,.slice bn bz bJ] 25)) (bf:¬W.aV m0) (h:PJ.ak prog W.w.heap.size R [] {aV:=[i0,i1,i2,i3],N:=[ar,aQ,bz,bJ],B:=[cm],T:=[t0,t1,t2,t3],A:=[a0,bn],M:=[m0]} W):bK prog 91 #[.pointer (some ⟨m0,6,none⟩),.func (.func 93) #[] #[]] W R:=
 mm func91 _ _ [mw] {aV:=[i0,i1,i2,i3],N:=[ar,aQ,bz,bJ],B:=[cm],T:=[t0,t1,t2,t3],A:=[a0,bn],M:=[m0]} _ ad0 (fun v aB=>by cases aB) (fun b I=>by simp only[bd] at I;subst I;exact hm) (fun b I=>by simp only[bd] at I;subst I;exact bf) (jE _ _) h
abbrev ad2:Tree:=(.wr (.ret (ba 1) [⟨0,25,[ag 0,aL 0,aq 1,aq 2,aL 3,ag 1,ag 2,ek,ba 0,ai 0 0 1,ai 1 2 3]⟩] [] []))
abbrev PK:Tree:=
(.call 27 [ag 3] [] [] [] (ba 1) dv ad2)
theorem ad3:cN prog cW f91 [.ptr 0 7,(.fn 27 [])] [mw] [] y0=some PK:=by kernel_rfl
theorem ad4 (i0 i1 i2 i3:Int) (ar aQ bz bJ:Nat) (cm:Bool) (t0 t1 t2 t3:ByteArray) (a0 bn:Option Addr) (m0:Nat) (W:al) (R:Ending->World->Prop) (hm:W.w.heap[m0]? =some (.cells #[.string t0,.int .u8 i0,.int .i64 i1,.int .i64 i2,.int .u8 i3,.string t1,.string t2,.string t3,.bool cm,.slice a0 ar aQ,.slice bn bz bJ] 25)) (bf:¬W.aV m0) (h:PK.ak prog W.w.heap.size R [] {aV:=[i0,i1,i2,i3],N:=[ar,aQ,bz,bJ],B:=[cm],T:=[t0,t1,t2,t3],A:=[a0,bn],M:=[m0]} W):bK prog 91 #[.pointer (some ⟨m0,7,none⟩),.func (.func 27) #[] #[]] W R:=
 mm func91 _ _ [mw] {aV:=[i0,i1,i2,i3],N:=[ar,aQ,bz,bJ],B:=[cm],T:=[t0,t1,t2,t3],A:=[a0,bn],M:=[m0]} _ ad3 (fun v aB=>by cases aB) (fun b I=>by simp only[bd] at I;subst I;exact hm) (fun b I=>by simp only[bd] at I;subst I;exact bf) (jE _ _) h
abbrev ad5:Tree:=(.wr (.ret (ba 2) [⟨0,25,[ag 0,aL 0,aq 1,bI 0,aL 3,ag 1,ag 2,ag 3,ba 0,ai 0 0 1,ai 1 2 3]⟩] [] []))
abbrev PL:Tree:=
(.call 95 [aq 2,.ptr 1 0] [ze] [] [] (ba 2) dv ad5)
theorem ad6:cN prog cW f94 [.ptr 0 3,(.fn 95 [.ptr 1 0])] [mw] [ze] ⟨8,8,2,8,0,4,2,0⟩=some PL:=by kernel_rfl
theorem ad7 (i0 i1 i2 i3 i4 i5 i6 i7:Int) (ar aQ bz bJ cH cM e0 e1:Nat) (cm fk:Bool) (t0 t1 t2 t3 t4 t5 t6 t7:ByteArray) (a0 bn a2 a3:Option Addr) (m0 m1:Nat) (W:al) (R:Ending->World->Prop) (hm:W.w.heap[m0]? =some (.cells #[.string t0,.int .u8 i0,.int .i64 i1,.int .i64 i2,.int .u8 i3,.string t1,.string t2,.string t3,.bool cm,.slice a0 ar aQ,.slice bn bz bJ] 25)) (bf:¬W.aV m0) (j8:W.w.heap[m1]? =some (.cells #[.string t4,.int .u8 i4,.int .i64 i5,.int .i64 i6,.int .u8 i7,.string t5,.string t6,.string t7,.bool fk,.slice a2 cH cM,.slice a3 e0 e1] 25)) (p4:W.aV m1) (h:PL.ak prog W.w.heap.size R [] {aV:=[i0,i1,i2,i3,i4,i5,i6,i7],N:=[ar,aQ,bz,bJ,cH,cM,e0,e1],B:=[cm,fk],T:=[t0,t1,t2,t3,t4,t5,t6,t7],A:=[a0,bn,a2,a3],M:=[m0,m1]} W):bK prog 94 #[.pointer (some ⟨m0,3,none⟩),.func (.func 95) #[] #[.pointer (some ⟨m1,0,none⟩)]] W R:=
 ID func94 _ _ [mw] [ze] {aV:=[i0,i1,i2,i3,i4,i5,i6,i7],N:=[ar,aQ,bz,bJ,cH,cM,e0,e1],B:=[cm,fk],T:=[t0,t1,t2,t3,t4,t5,t6,t7],A:=[a0,bn,a2,a3],M:=[m0,m1]} _ ad6 (fun v aB=>by cases aB) (fun b I=>by simp only[bd] at I;subst I;exact hm) (fun b I=>by simp only[bd] at I;subst I;exact bf) (jE _ _) (fun b I=>by simp only[dh,eT,or_false] at I;rcases I with rfl<;>(first|exact j8)) (fun b I=>by simp only[dh,eT,or_false] at I;rcases I with rfl<;>(first|exact p4)) h
abbrev ad8:Tree:=(.wr (.ret (ba 2) [⟨0,25,[ag 0,aL 0,aq 1,aq 2,aL 3,ag 1,ag 2,ag 3,cY false,ai 0 0 1,ai 1 2 3]⟩] [] []))
abbrev PM:Tree:=
(.call 97 [ba 0,.ptr 1 0] [ze] [] [] (ba 2) dv ad8)
theorem ad9:cN prog cW f96 [.ptr 0 8,(.fn 97 [.ptr 1 0])] [mw] [ze] ⟨8,8,2,8,0,4,2,0⟩=some PM:=by kernel_rfl
theorem ad_ (i0 i1 i2 i3 i4 i5 i6 i7:Int) (ar aQ bz bJ cH cM e0 e1:Nat) (cm fk:Bool) (t0 t1 t2 t3 t4 t5 t6 t7:ByteArray) (a0 bn a2 a3:Option Addr) (m0 m1:Nat) (W:al) (R:Ending->World->Prop) (hm:W.w.heap[m0]? =some (.cells #[.string t0,.int .u8 i0,.int .i64 i1,.int .i64 i2,.int .u8 i3,.string t1,.string t2,.string t3,.bool cm,.slice a0 ar aQ,.slice bn bz bJ] 25)) (bf:¬W.aV m0) (j8:W.w.heap[m1]? =some (.cells #[.string t4,.int .u8 i4,.int .i64 i5,.int .i64 i6,.int .u8 i7,.string t5,.string t6,.string t7,.bool fk,.slice a2 cH cM,.slice a3 e0 e1] 25)) (p4:W.aV m1) (h:PM.ak prog W.w.heap.size R [] {aV:=[i0,i1,i2,i3,i4,i5,i6,i7],N:=[ar,aQ,bz,bJ,cH,cM,e0,e1],B:=[cm,fk],T:=[t0,t1,t2,t3,t4,t5,t6,t7],A:=[a0,bn,a2,a3],M:=[m0,m1]} W):bK prog 96 #[.pointer (some ⟨m0,8,none⟩),.func (.func 97) #[] #[.pointer (some ⟨m1,0,none⟩)]] W R:=
 ID func96 _ _ [mw] [ze] {aV:=[i0,i1,i2,i3,i4,i5,i6,i7],N:=[ar,aQ,bz,bJ,cH,cM,e0,e1],B:=[cm,fk],T:=[t0,t1,t2,t3,t4,t5,t6,t7],A:=[a0,bn,a2,a3],M:=[m0,m1]} _ ad9 (fun v aB=>by cases aB) (fun b I=>by simp only[bd] at I;subst I;exact hm) (fun b I=>by simp only[bd] at I;subst I;exact bf) (jE _ _) (fun b I=>by simp only[dh,eT,or_false] at I;rcases I with rfl<;>(first|exact j8)) (fun b I=>by simp only[dh,eT,or_false] at I;rcases I with rfl<;>(first|exact p4)) h
abbrev aea:Tree:=(.wr (.ret (ba 1) [⟨0,25,[ag 0,aL 0,aq 1,aq 2,aL 3,ag 1,ag 2,ag 3,ba 0,.db,ai 1 2 3]⟩] [] []))
abbrev PN:Tree:=
(.call 99 [ai 0 0 1] [] [] [] (ba 1) dv aea)
theorem aeb:cN prog cW f98 [.ptr 0 9,(.fn 99 [])] [mw] [] y0=some PN:=by kernel_rfl
theorem aec (i0 i1 i2 i3:Int) (ar aQ bz bJ:Nat) (cm:Bool) (t0 t1 t2 t3:ByteArray) (a0 bn:Option Addr) (m0:Nat) (W:al) (R:Ending->World->Prop) (hm:W.w.heap[m0]? =some (.cells #[.string t0,.int .u8 i0,.int .i64 i1,.int .i64 i2,.int .u8 i3,.string t1,.string t2,.string t3,.bool cm,.slice a0 ar aQ,.slice bn bz bJ] 25)) (bf:¬W.aV m0) (h:PN.ak prog W.w.heap.size R [] {aV:=[i0,i1,i2,i3],N:=[ar,aQ,bz,bJ],B:=[cm],T:=[t0,t1,t2,t3],A:=[a0,bn],M:=[m0]} W):bK prog 98 #[.pointer (some ⟨m0,9,none⟩),.func (.func 99) #[] #[]] W R:=
 mm func98 _ _ [mw] {aV:=[i0,i1,i2,i3],N:=[ar,aQ,bz,bJ],B:=[cm],T:=[t0,t1,t2,t3],A:=[a0,bn],M:=[m0]} _ aeb (fun v aB=>by cases aB) (fun b I=>by simp only[bd] at I;subst I;exact hm) (fun b I=>by simp only[bd] at I;subst I;exact bf) (jE _ _) h
abbrev aed:Tree:=(.wr (.ret (ba 1) [⟨0,25,[ag 0,aL 0,aq 1,aq 2,aL 3,ag 1,ag 2,ag 3,ba 0,ai 0 0 1,.db]⟩] [] []))
abbrev PO:Tree:=
(.call 101 [ai 1 2 3] [] [] [] (ba 1) dv aed)
theorem aee:cN prog cW f100 [.ptr 0 10,(.fn 101 [])] [mw] [] y0=some PO:=by kernel_rfl
theorem aef (i0 i1 i2 i3:Int) (ar aQ bz bJ:Nat) (cm:Bool) (t0 t1 t2 t3:ByteArray) (a0 bn:Option Addr) (m0:Nat) (W:al) (R:Ending->World->Prop) (hm:W.w.heap[m0]? =some (.cells #[.string t0,.int .u8 i0,.int .i64 i1,.int .i64 i2,.int .u8 i3,.string t1,.string t2,.string t3,.bool cm,.slice a0 ar aQ,.slice bn bz bJ] 25)) (bf:¬W.aV m0) (h:PO.ak prog W.w.heap.size R [] {aV:=[i0,i1,i2,i3],N:=[ar,aQ,bz,bJ],B:=[cm],T:=[t0,t1,t2,t3],A:=[a0,bn],M:=[m0]} W):bK prog 100 #[.pointer (some ⟨m0,10,none⟩),.func (.func 101) #[] #[]] W R:=
 mm func100 _ _ [mw] {aV:=[i0,i1,i2,i3],N:=[ar,aQ,bz,bJ],B:=[cm],T:=[t0,t1,t2,t3],A:=[a0,bn],M:=[m0]} _ aee (fun v aB=>by cases aB) (fun b I=>by simp only[bd] at I;subst I;exact hm) (fun b I=>by simp only[bd] at I;subst I;exact bf) (jE _ _) h
abbrev aeg:Tree:=(.grow (.aC (bR (cL (eW (b9 0) (b9 2)) (cL (aZ (ae 1) (ae 3)) (cL (aZ (ae 2) (ae 4)) (eW (b9 1) (b9 3)))))) (.ret (cY false) [] [] []) (.again 0 [(.int .i64 (.un (.wrap .i64) (bX (ae 0) (ah 1))))] [])))
abbrev aeh:Tree:=(.a1 (.sm 1) (.a1 (bO (ae 0) (aG 2)) (.cl 41 (.b6 1 (ae 0) 4 0) (.agg [ag 2,aL 3,aq 4,ag 3]) wM aeg)))
abbrev aei:Tree:=(.a1 (.sm 0) (.a1 (bQ (ah 0) (ae 0)) (.cl 41 (.b6 0 (ae 0) 4 0) (.agg [ag 0,aL 1,aq 2,ag 1]) wM aeh)))
abbrev aej:Tree:=(.loop [bI 0] [] [aq 0] [] cg (.aC (bO (ae 0) (aG 0)) aei (.ret (cY true) [] [] [])))
abbrev PQ:Tree:=
(.aC (bR (aZ (aG 0) (aG 2))) (.ret (cY false) [] [] []) aej)
theorem aek:cN prog {cW with ei:=[⟨4,[.az 13]⟩]} f135 [ai 0 0 1,ai 1 2 3] [] [] ⟨0,4,0,0,0,2,0,0⟩=some PQ:=by kernel_rfl
theorem ael (ar aQ bz bJ:Nat) (a0 bn:Option Addr) (W:al) (R:Ending->World->Prop) (h:PQ.ak prog W.w.heap.size R [] {N:=[ar,aQ,bz,bJ],A:=[a0,bn]} W):bK prog 135 #[.slice a0 ar aQ,.slice bn bz bJ] W R:=
 dP func135 _ _ {N:=[ar,aQ,bz,bJ],A:=[a0,bn]} _ aek (fun v aB=>by cases aB) h
abbrev aem:Tree:=(.grow (.aC (bR (eW (b9 0) (b9 1))) (.ret (cY false) [] [] []) (.again 0 [(.int .i64 (.un (.wrap .i64) (bX (ae 0) (ah 1))))] [])))
abbrev aen:Tree:=(.a1 (.sm 1) (.a1 (bO (ae 0) (aG 2)) (.cl 9 (.b6 1 (ae 0) 1 0) (ag 1) ie aem)))
abbrev aeo:Tree:=(.a1 (.sm 0) (.a1 (bQ (ah 0) (ae 0)) (.cl 9 (.b6 0 (ae 0) 1 0) (ag 0) ie aen)))
abbrev aep:Tree:=(.loop [bI 0] [] [aq 0] [] cg (.aC (bO (ae 0) (aG 0)) aeo (.ret (cY true) [] [] [])))
abbrev PR:Tree:=
(.aC (bR (aZ (aG 0) (aG 2))) (.ret (cY false) [] [] []) aep)
theorem aeq:cN prog {cW with ei:=[⟨4,[.az 13]⟩]} f136 [ai 0 0 1,ai 1 2 3] [] [] ⟨0,4,0,0,0,2,0,0⟩=some PR:=by kernel_rfl
theorem aer (ar aQ bz bJ:Nat) (a0 bn:Option Addr) (W:al) (R:Ending->World->Prop) (h:PR.ak prog W.w.heap.size R [] {N:=[ar,aQ,bz,bJ],A:=[a0,bn]} W):bK prog 136 #[.slice a0 ar aQ,.slice bn bz bJ] W R:=
 dP func136 _ _ {N:=[ar,aQ,bz,bJ],A:=[a0,bn]} _ aeq (fun v aB=>by cases aB) h
abbrev aes:Tree:=(.jZ 136 [ai 1 2 3,ai 3 6 7] [] [] (ba 3) dv (.grow (.ret (ba 3) [] [] [])))
abbrev aet:Tree:=(.jZ 135 [ai 0 0 1,ai 2 4 5] [] [] (ba 2) dv (.aC (cG 2) aes (.grow (.ret (cY false) [] [] []))))
abbrev PS:Tree:=
(.new (.new (.aC (cL (eW (b9 0) (b9 4)) (cL (aZ (ae 0) (ae 4)) (cL (aZ (ae 1) (ae 5)) (cL (aZ (ae 2) (ae 6)) (cL (aZ (ae 3) (ae 7)) (cL (eW (b9 1) (b9 5)) (cL (eW (b9 2) (b9 6)) (cL (eW (b9 3) (b9 7)) (DW (cG 0) (cG 1)))))))))) aet (.grow (.ret (cY false) [] [] [])))))
theorem aeu:cN prog {cW with inl:=[134]} f104 [BI,(.agg [ag 4,aL 4,aq 5,aq 6,aL 7,ag 5,ag 6,ag 7,ba 1,ai 2 4 5,ai 3 6 7])] [] [] ⟨8,8,2,8,0,4,0,0⟩=some PS:=by kernel_rfl
theorem aev (i0 i1 i2 i3 i4 i5 i6 i7:Int) (ar aQ bz bJ cH cM e0 e1:Nat) (cm fk:Bool) (t0 t1 t2 t3 t4 t5 t6 t7:ByteArray) (a0 bn a2 a3:Option Addr) (W:al) (R:Ending->World->Prop) (h:PS.ak prog W.w.heap.size R [] {aV:=[i0,i1,i2,i3,i4,i5,i6,i7],N:=[ar,aQ,bz,bJ,cH,cM,e0,e1],B:=[cm,fk],T:=[t0,t1,t2,t3,t4,t5,t6,t7],A:=[a0,bn,a2,a3]} W):bK prog 104 #[.agg #[.string t0,.int .u8 i0,.int .i64 i1,.int .i64 i2,.int .u8 i3,.string t1,.string t2,.string t3,.bool cm,.slice a0 ar aQ,.slice bn bz bJ],.agg #[.string t4,.int .u8 i4,.int .i64 i5,.int .i64 i6,.int .u8 i7,.string t5,.string t6,.string t7,.bool fk,.slice a2 cH cM,.slice a3 e0 e1]] W R:=
 dP func104 _ _ {aV:=[i0,i1,i2,i3,i4,i5,i6,i7],N:=[ar,aQ,bz,bJ,cH,cM,e0,e1],B:=[cm,fk],T:=[t0,t1,t2,t3,t4,t5,t6,t7],A:=[a0,bn,a2,a3]} _ aeu (fun v aB=>by cases aB) h
abbrev aew:Tree:=(.again 0 [(.bool (cL (cG 4) (cG 2))),ag 8,aL 8,aq 9,aq 10,aL 11,ag 9,ag 10,ag 11,ba 5,ai 4 8 9,ai 5 10 11] [])
abbrev aex:Tree:=(.call 91 [.ptr 1 5,(.fn 27 [])] [⟨1,25,[ag 4,aL 4,aq 5,aq 6,aL 7,ag 5,ag 6,ag 7,ba 3,ai 2 4 5,ai 3 6 7]⟩] [] [Pt] (ba 4) iu aew)
abbrev aey:Tree:=(.again 0 [ba 2,ag 4,aL 4,aq 5,aq 6,aL 7,ag 5,ag 6,ag 7,ba 3,ai 2 4 5,ai 3 6 7] [])
abbrev aez:Tree:=(.aC (bW (bW (aZ (ae 0) (ah 14)) (aZ (ae 3) (ah 1))) (aZ (ae 3) (ah 6))) aex aey)
abbrev aeA:Tree:=(.again 0 [(.bool (cL (cG 6) (cG 4))),ag 12,aL 12,aq 13,aq 14,aL 15,ag 13,ag 14,ag 15,ba 7,ai 6 12 13,ai 7 14 15] [])
abbrev aeB:Tree:=(.call 91 [.ptr 1 5,(.fn 92 [.ptr 2 0])] [⟨2,4,[(.bool (bW (aZ (ae 0) (ah 1)) (aZ (ae 0) (ah 15))))]⟩,Pt] [] [Pp] (ba 6) iu aeA)
abbrev aeC:Tree:=(.again 0 [ba 4,ag 8,aL 8,aq 9,aq 10,aL 11,ag 9,ag 10,ag 11,ba 5,ai 4 8 9,ai 5 10 11] [])
abbrev aeD:Tree:=(.aC (bW (aZ (ae 3) (ah 4)) (aZ (ae 3) (ah 5))) aeB aeC)
abbrev aeE:Tree:=(.again 0 [(.bool (cL (cG 8) (cG 6))),ag 16,aL 16,aq 17,aq 18,aL 19,ag 17,ag 18,ag 19,ba 9,ai 8 16 17,ai 9 18 19] [])
abbrev aeF:Tree:=(.call 91 [.ptr 1 6,(.fn 93 [])] [Pp] [] [Pq] (ba 8) iu aeE)
abbrev aeG:Tree:=(.again 0 [ba 6,ag 12,aL 12,aq 13,aq 14,aL 15,ag 13,ag 14,ag 15,ba 7,ai 6 12 13,ai 7 14 15] [])
abbrev aeH:Tree:=(.aC (bW (bW (bW (aZ (ae 0) (ah 4)) (aZ (ae 0) (ah 12))) (aZ (ae 3) (ah 2))) (aZ (ae 3) (ah 3))) aeF aeG)
abbrev aeI:Tree:=(.again 0 [(.bool (cL (cG 10) (cG 8))),ag 20,aL 20,aq 21,aq 22,aL 23,ag 21,ag 22,ag 23,ba 11,ai 10 20 21,ai 11 22 23] [])
abbrev aeJ:Tree:=(.call 91 [.ptr 1 7,(.fn 27 [])] [Pq] [] [Ph] (ba 10) iu aeI)
abbrev aeK:Tree:=(.again 0 [ba 8,ag 16,aL 16,aq 17,aq 18,aL 19,ag 17,ag 18,ag 19,ba 9,ai 8 16 17,ai 9 18 19] [])
abbrev aeL:Tree:=(.again 0 [(.bool (cL (cG 12) (cG 10))),ag 24,aL 24,aq 25,aq 26,aL 27,ag 25,ag 26,ag 27,ba 13,ai 12 24 25,ai 13 26 27] [])
abbrev aeM:Tree:=(.call 94 [.ptr 1 3,(.fn 95 [.ptr 0 0])] [Ph,mw] [] [Pj] (ba 12) iu aeL)
abbrev aeN:Tree:=(.again 0 [(.bool (cL (cG 14) (cG 12))),ag 28,aL 28,aq 29,aq 30,aL 31,ag 29,ag 30,ag 31,ba 15,ai 14 28 29,ai 15 30 31] [])
abbrev aeO:Tree:=(.call 96 [.ptr 1 8,(.fn 97 [.ptr 0 0])] [Pj,mw] [] [Pk] (ba 14) iu aeN)
abbrev aeP:Tree:=(.again 0 [ba 12,ag 24,aL 24,aq 25,aq 26,aL 27,ag 25,ag 26,ag 27,ba 13,ai 12 24 25,ai 13 26 27] [])
abbrev aeQ:Tree:=(.aC (bW (bW (aZ (ae 0) (ah 12)) (aZ (ae 0) (ah 15))) (cL (aZ (ae 0) (ah 1)) (bR (aZ (ae 3) (ah 0))))) aeO aeP)
abbrev aeR:Tree:=(.again 0 [(.bool (cL (cG 17) (cG 14))),ag 32,aL 32,aq 33,aq 34,aL 35,ag 33,ag 34,ag 35,ba 18,ai 16 32 33,ai 17 34 35] [])
abbrev aeS:Tree:=(.call 98 [.ptr 1 9,(.fn 99 [])] [Pk] [] [⟨1,25,[ag 32,aL 32,aq 33,aq 34,aL 35,ag 33,ag 34,ag 35,ba 18,ai 16 32 33,ai 17 34 35]⟩] (ba 17) iu aeR)
abbrev aeT:Tree:=(.again 0 [ba 14,ag 28,aL 28,aq 29,aq 30,aL 31,ag 29,ag 30,ag 31,ba 15,ai 14 28 29,ai 15 30 31] [])
abbrev aeU:Tree:=(.call 17 [aL 0] [] [] [] (ba 16) dv (.aC (cG 16) aeS aeT))
abbrev aeV:Tree:=(.again 0 [(.bool (cL (cG 18) (cG 16))),ag 36,aL 36,aq 37,aq 38,aL 39,ag 37,ag 38,ag 39,ba 19,ai 18 36 37,ai 19 38 39] [])
abbrev aeW:Tree:=(.call 100 [.ptr 1 10,(.fn 101 [])] [Pl] [] [⟨1,25,[ag 36,aL 36,aq 37,aq 38,aL 39,ag 37,ag 38,ag 39,ba 19,ai 18 36 37,ai 19 38 39]⟩] (ba 18) iu aeV)
abbrev aeX:Tree:=(.again 0 [ba 16,ag 32,aL 32,aq 33,aq 34,aL 35,ag 33,ag 34,ag 35,ba 17,ai 16 32 33,ai 17 34 35] [])
abbrev aeY:Tree:=(.aC (bR (cG 20)) (.ret (bI 4) [] [] []) (.ret (bI 0) [] [] []))
abbrev aeZ:Tree:=(.call 104 [(.agg [ag 36,aL 36,aq 37,aq 38,aL 39,ag 37,ag 38,ag 39,ba 19,ai 18 36 37,ai 19 38 39]),Pz] [] [] [] (ba 20) dv aeY)
abbrev ae0:Tree:=(.join (.aC (aZ (ae 0) (ah 14)) aeW aeX) [ba 18,ag 36,aL 36,aq 37,aq 38,aL 39,ag 37,ag 38,ag 39,ba 19,ai 18 36 37,ai 19 38 39] [] iu (.aC (cG 18) aeZ (.ret (bI 4) [] [] [])))
abbrev ae1:Tree:=(.join aeU [ba 16,ag 32,aL 32,aq 33,aq 34,aL 35,ag 33,ag 34,ag 35,ba 17,ai 16 32 33,ai 17 34 35] [] iu ae0)
abbrev ae2:Tree:=(.join aeQ [ba 14,ag 28,aL 28,aq 29,aq 30,aL 31,ag 29,ag 30,ag 31,ba 15,ai 14 28 29,ai 15 30 31] [] iu ae1)
abbrev ae3:Tree:=(.join aeM [ba 12,ag 24,aL 24,aq 25,aq 26,aL 27,ag 25,ag 26,ag 27,ba 13,ai 12 24 25,ai 13 26 27] [] iu ae2)
abbrev ae4:Tree:=(.join (.aC (aZ (ae 0) (ah 4)) aeJ aeK) [ba 10,ag 20,aL 20,aq 21,aq 22,aL 23,ag 21,ag 22,ag 23,ba 11,ai 10 20 21,ai 11 22 23] [] iu ae3)
abbrev ae5:Tree:=(.join aeH [ba 8,ag 16,aL 16,aq 17,aq 18,aL 19,ag 17,ag 18,ag 19,ba 9,ai 8 16 17,ai 9 18 19] [] iu ae4)
abbrev ae6:Tree:=(.join aeD [ba 6,ag 12,aL 12,aq 13,aq 14,aL 15,ag 13,ag 14,ag 15,ba 7,ai 6 12 13,ai 7 14 15] [] iu ae5)
abbrev ae7:Tree:=(.new (.wr (.new (.wr (.join aez [ba 4,ag 8,aL 8,aq 9,aq 10,aL 11,ag 9,ag 10,ag 11,ba 5,ai 4 8 9,ai 5 10 11] [] iu ae6)))))
abbrev ae8:Tree:=(.call 90 [BI] [] [] [] (.agg [ag 4,aL 4,aq 5,aq 6,aL 7,ag 5,ag 6,ag 7,ba 3,ai 2 4 5,ai 3 6 7]) gL ae7)
abbrev ae9:Tree:=(.call 89 [aL 0,aL 3] [] [] [] (ba 2) dv ae8)
abbrev ae_:Tree:=(.again 0 [cY false,ag 8,aL 8,aq 9,aq 10,aL 11,ag 9,ag 10,ag 11,ba 4,ai 4 8 9,ai 5 10 11] [])
abbrev afa:Tree:=(.call 91 [.ptr 1 5,(.fn 27 [])] [⟨1,25,[ag 4,aL 4,aq 5,aq 6,aL 7,ag 5,ag 6,ag 7,ba 2,ai 2 4 5,ai 3 6 7]⟩] [] [Pu] (ba 3) iu ae_)
abbrev afb:Tree:=(.again 0 [cY false,ag 4,aL 4,aq 5,aq 6,aL 7,ag 5,ag 6,ag 7,ba 2,ai 2 4 5,ai 3 6 7] [])
abbrev afc:Tree:=(.aC (bW (bW (aZ (ae 0) (ah 14)) (aZ (ae 3) (ah 1))) (aZ (ae 3) (ah 6))) afa afb)
abbrev afd:Tree:=(.again 0 [(.bool (cL (cG 5) (cG 3))),ag 12,aL 12,aq 13,aq 14,aL 15,ag 13,ag 14,ag 15,ba 6,ai 6 12 13,ai 7 14 15] [])
abbrev afe:Tree:=(.call 91 [.ptr 1 5,(.fn 92 [.ptr 2 0])] [⟨2,4,[(.bool (bW (aZ (ae 0) (ah 1)) (aZ (ae 0) (ah 15))))]⟩,Pu] [] [Pr] (ba 5) iu afd)
abbrev aff:Tree:=(.again 0 [ba 3,ag 8,aL 8,aq 9,aq 10,aL 11,ag 9,ag 10,ag 11,ba 4,ai 4 8 9,ai 5 10 11] [])
abbrev afg:Tree:=(.aC (bW (aZ (ae 3) (ah 4)) (aZ (ae 3) (ah 5))) afe aff)
abbrev afh:Tree:=(.again 0 [(.bool (cL (cG 7) (cG 5))),ag 16,aL 16,aq 17,aq 18,aL 19,ag 17,ag 18,ag 19,ba 8,ai 8 16 17,ai 9 18 19] [])
abbrev afi:Tree:=(.call 91 [.ptr 1 6,(.fn 93 [])] [Pr] [] [Ps] (ba 7) iu afh)
abbrev afj:Tree:=(.again 0 [ba 5,ag 12,aL 12,aq 13,aq 14,aL 15,ag 13,ag 14,ag 15,ba 6,ai 6 12 13,ai 7 14 15] [])
abbrev afk:Tree:=(.aC (bW (bW (bW (aZ (ae 0) (ah 4)) (aZ (ae 0) (ah 12))) (aZ (ae 3) (ah 2))) (aZ (ae 3) (ah 3))) afi afj)
abbrev afl:Tree:=(.again 0 [(.bool (cL (cG 9) (cG 7))),ag 20,aL 20,aq 21,aq 22,aL 23,ag 21,ag 22,ag 23,ba 10,ai 10 20 21,ai 11 22 23] [])
abbrev afm:Tree:=(.call 91 [.ptr 1 7,(.fn 27 [])] [Ps] [] [Pm] (ba 9) iu afl)
abbrev afn:Tree:=(.again 0 [ba 7,ag 16,aL 16,aq 17,aq 18,aL 19,ag 17,ag 18,ag 19,ba 8,ai 8 16 17,ai 9 18 19] [])
abbrev afo:Tree:=(.again 0 [(.bool (cL (cG 11) (cG 9))),ag 24,aL 24,aq 25,aq 26,aL 27,ag 25,ag 26,ag 27,ba 12,ai 12 24 25,ai 13 26 27] [])
abbrev afp:Tree:=(.call 94 [.ptr 1 3,(.fn 95 [.ptr 0 0])] [Pm,mw] [] [Pn] (ba 11) iu afo)
abbrev afq:Tree:=(.again 0 [(.bool (cL (cG 13) (cG 11))),ag 28,aL 28,aq 29,aq 30,aL 31,ag 29,ag 30,ag 31,ba 14,ai 14 28 29,ai 15 30 31] [])
abbrev afr:Tree:=(.call 96 [.ptr 1 8,(.fn 97 [.ptr 0 0])] [Pn,mw] [] [Po] (ba 13) iu afq)
abbrev afs:Tree:=(.again 0 [ba 11,ag 24,aL 24,aq 25,aq 26,aL 27,ag 25,ag 26,ag 27,ba 12,ai 12 24 25,ai 13 26 27] [])
abbrev aft:Tree:=(.aC (bW (bW (aZ (ae 0) (ah 12)) (aZ (ae 0) (ah 15))) (cL (aZ (ae 0) (ah 1)) (bR (aZ (ae 3) (ah 0))))) afr afs)
abbrev afu:Tree:=(.again 0 [(.bool (cL (cG 16) (cG 13))),ag 32,aL 32,aq 33,aq 34,aL 35,ag 33,ag 34,ag 35,ba 17,ai 16 32 33,ai 17 34 35] [])
abbrev afv:Tree:=(.call 98 [.ptr 1 9,(.fn 99 [])] [Po] [] [Pl] (ba 16) iu afu)
abbrev afw:Tree:=(.again 0 [ba 13,ag 28,aL 28,aq 29,aq 30,aL 31,ag 29,ag 30,ag 31,ba 14,ai 14 28 29,ai 15 30 31] [])
abbrev afx:Tree:=(.call 17 [aL 0] [] [] [] (ba 15) dv (.aC (cG 15) afv afw))
abbrev afy:Tree:=(.again 0 [(.bool (cL (cG 17) (cG 15))),ag 36,aL 36,aq 37,aq 38,aL 39,ag 37,ag 38,ag 39,ba 18,ai 18 36 37,ai 19 38 39] [])
abbrev afz:Tree:=(.call 100 [.ptr 1 10,(.fn 101 [])] [⟨1,25,[ag 32,aL 32,aq 33,aq 34,aL 35,ag 33,ag 34,ag 35,ba 16,ai 16 32 33,ai 17 34 35]⟩] [] [⟨1,25,[ag 36,aL 36,aq 37,aq 38,aL 39,ag 37,ag 38,ag 39,ba 18,ai 18 36 37,ai 19 38 39]⟩] (ba 17) iu afy)
abbrev afA:Tree:=(.again 0 [ba 15,ag 32,aL 32,aq 33,aq 34,aL 35,ag 33,ag 34,ag 35,ba 16,ai 16 32 33,ai 17 34 35] [])
abbrev afB:Tree:=(.aC (bR (cG 19)) (.ret (bI 4) [] [] []) (.ret (bI 0) [] [] []))
abbrev afC:Tree:=(.call 104 [(.agg [ag 36,aL 36,aq 37,aq 38,aL 39,ag 37,ag 38,ag 39,ba 18,ai 18 36 37,ai 19 38 39]),Pz] [] [] [] (ba 19) dv afB)
abbrev afD:Tree:=(.join (.aC (aZ (ae 0) (ah 14)) afz afA) [ba 17,ag 36,aL 36,aq 37,aq 38,aL 39,ag 37,ag 38,ag 39,ba 18,ai 18 36 37,ai 19 38 39] [] iu (.aC (cG 17) afC (.ret (bI 4) [] [] [])))
abbrev afE:Tree:=(.join afx [ba 15,ag 32,aL 32,aq 33,aq 34,aL 35,ag 33,ag 34,ag 35,ba 16,ai 16 32 33,ai 17 34 35] [] iu afD)
abbrev afF:Tree:=(.join aft [ba 13,ag 28,aL 28,aq 29,aq 30,aL 31,ag 29,ag 30,ag 31,ba 14,ai 14 28 29,ai 15 30 31] [] iu afE)
abbrev afG:Tree:=(.join afp [ba 11,ag 24,aL 24,aq 25,aq 26,aL 27,ag 25,ag 26,ag 27,ba 12,ai 12 24 25,ai 13 26 27] [] iu afF)
abbrev afH:Tree:=(.join (.aC (aZ (ae 0) (ah 4)) afm afn) [ba 9,ag 20,aL 20,aq 21,aq 22,aL 23,ag 21,ag 22,ag 23,ba 10,ai 10 20 21,ai 11 22 23] [] iu afG)
abbrev afI:Tree:=(.join afk [ba 7,ag 16,aL 16,aq 17,aq 18,aL 19,ag 17,ag 18,ag 19,ba 8,ai 8 16 17,ai 9 18 19] [] iu afH)
abbrev afJ:Tree:=(.join afg [ba 5,ag 12,aL 12,aq 13,aq 14,aL 15,ag 13,ag 14,ag 15,ba 6,ai 6 12 13,ai 7 14 15] [] iu afI)
abbrev afK:Tree:=(.new (.wr (.new (.wr (.join afc [ba 3,ag 8,aL 8,aq 9,aq 10,aL 11,ag 9,ag 10,ag 11,ba 4,ai 4 8 9,ai 5 10 11] [] iu afJ)))))
abbrev afL:Tree:=(.call 90 [BI] [] [] [] (.agg [ag 4,aL 4,aq 5,aq 6,aL 7,ag 5,ag 6,ag 7,ba 2,ai 2 4 5,ai 3 6 7]) gL afK)
abbrev afM:Tree:=(.call 27 [ag 0] [] [] [] (ba 1) dv (.aC (cL (cG 1) (bQ (ah (-1)) (ae 1))) ae9 afL))
abbrev PT:Tree:=
(.new (.aC (bW (bW (bO (ah 100) (.un .len (b9 2))) (bO (ah 8) (aG 0))) (bO (ah 8) (aG 2))) (.ret (bI 40) [] [] []) afM))
theorem afN:cN prog {cW with mu:=[(91,[0]),(94,[0]),(96,[0]),(98,[0]),(100,[0])],j3:=[⟨8,[.az 3,.cell 1 0,.cell 1 1,.cell 1 2,.cell 1 3,.cell 1 4,.cell 1 5,.cell 1 6,.cell 1 7,.cell 1 8,.cell 1 9,.cell 1 10]⟩,⟨10,[.az 3,.cell 1 0,.cell 1 1,.cell 1 2,.cell 1 3,.cell 1 4,.cell 1 5,.cell 1 6,.cell 1 7,.cell 1 8,.cell 1 9,.cell 1 10]⟩,⟨12,[.az 3,.cell 1 0,.cell 1 1,.cell 1 2,.cell 1 3,.cell 1 4,.cell 1 5,.cell 1 6,.cell 1 7,.cell 1 8,.cell 1 9,.cell 1 10]⟩,⟨14,[.az 3,.cell 1 0,.cell 1 1,.cell 1 2,.cell 1 3,.cell 1 4,.cell 1 5,.cell 1 6,.cell 1 7,.cell 1 8,.cell 1 9,.cell 1 10]⟩,⟨15,[.az 3,.cell 1 0,.cell 1 1,.cell 1 2,.cell 1 3,.cell 1 4,.cell 1 5,.cell 1 6,.cell 1 7,.cell 1 8,.cell 1 9,.cell 1 10]⟩,⟨17,[.az 3,.cell 1 0,.cell 1 1,.cell 1 2,.cell 1 3,.cell 1 4,.cell 1 5,.cell 1 6,.cell 1 7,.cell 1 8,.cell 1 9,.cell 1 10]⟩,⟨19,[.az 3,.cell 1 0,.cell 1 1,.cell 1 2,.cell 1 3,.cell 1 4,.cell 1 5,.cell 1 6,.cell 1 7,.cell 1 8,.cell 1 9,.cell 1 10]⟩,⟨21,[.az 3,.cell 1 0,.cell 1 1,.cell 1 2,.cell 1 3,.cell 1 4,.cell 1 5,.cell 1 6,.cell 1 7,.cell 1 8,.cell 1 9,.cell 1 10]⟩]} f48 [BI] [] [] gL=some PT:=by kernel_rfl
theorem afO (i0 i1 i2 i3:Int) (ar aQ bz bJ:Nat) (cm:Bool) (t0 t1 t2 t3:ByteArray) (a0 bn:Option Addr) (W:al) (R:Ending->World->Prop) (h:PT.ak prog W.w.heap.size R [] {aV:=[i0,i1,i2,i3],N:=[ar,aQ,bz,bJ],B:=[cm],T:=[t0,t1,t2,t3],A:=[a0,bn]} W):bK prog 48 #[.agg #[.string t0,.int .u8 i0,.int .i64 i1,.int .i64 i2,.int .u8 i3,.string t1,.string t2,.string t3,.bool cm,.slice a0 ar aQ,.slice bn bz bJ]] W R:=
 dP func48 _ _ {aV:=[i0,i1,i2,i3],N:=[ar,aQ,bz,bJ],B:=[cm],T:=[t0,t1,t2,t3],A:=[a0,bn]} _ afN (fun v aB=>by cases aB) h
abbrev afP:Tree:=(.aC (bW (bW (bO (ae 0) (ah 0)) (bO (ae 1) (ah 0))) (cL (cG 0) (bR (eW (b9 0) (.bN []))))) (.ret (bI 4) [] [] []) (.ret (bI 0) [] [] []))
abbrev PU:Tree:=
(.new (.aC (bO (ah 100) (.un .len (b9 0))) (.ret (bI 40) [] [] []) afP))
theorem afQ:cN prog cW f49 [(.agg [aq 0,aq 1,ag 0,ba 0])] [] [] rB=some PU:=by kernel_rfl
theorem afR (i0 i1:Int) (cm:Bool) (t0:ByteArray) (W:al) (R:Ending->World->Prop) (h:PU.ak prog W.w.heap.size R [] {aV:=[i0,i1],B:=[cm],T:=[t0]} W):bK prog 49 #[.agg #[.int .i64 i0,.int .i64 i1,.string t0,.bool cm]] W R:=
 dP func49 _ _ {aV:=[i0,i1],B:=[cm],T:=[t0]} _ afQ (fun v aB=>by cases aB) h
abbrev afS:Tree:=(.eM [⟨1,25,[ag 1,aL 2,aq 3,aq 4,aL 5,ag 2,ag 3,ag 4,ba 1,ai 3 6 7,ai 4 8 9]⟩] (.again 0 [(.int .i64 (.un (.wrap .i64) (bX (ae 1) (ah 1))))] []))
abbrev afT:Tree:=(.new (.wr (.call 48 [Py] [] [] [] (aq 6) cg (.aC (bR (aZ (ae 6) (ah 0))) (.ret (aq 6) [] [] []) afS))))
abbrev afU:Tree:=(.a1 (.sm 1) (.a1 (bQ (ah 0) (ae 1)) (.cl 25 (.b6 1 (ae 1) 11 0) Py gL afT)))
abbrev afV:Tree:=(.eM [⟨1,33,[aq 3,aq 4,ag 1,ba 1]⟩] (.again 1 [(.int .i64 (.un (.wrap .i64) (bX (ae 2) (ah 1))))] []))
abbrev afW:Tree:=(.new (.wr (.call 49 [(.agg [aq 3,aq 4,ag 1,ba 1])] [] [] [] (aq 5) cg (.aC (bR (aZ (ae 5) (ah 0))) (.ret (aq 5) [] [] []) afV))))
abbrev afX:Tree:=(.a1 (.sm 2) (.a1 (bQ (ah 0) (ae 2)) (.cl 33 (.b6 2 (ae 2) 4 0) (.agg [aq 3,aq 4,ag 1,ba 1]) rB afW)))
abbrev afY:Tree:=(.loop [bI 0] [] [aq 2] [] cg (.aC (bO (ae 2) (aG 4)) afX (.ret (bI 0) [] [] [])))
abbrev afZ:Tree:=(.loop [bI 0] [] [aq 1] [] cg (.aC (bO (ae 1) (aG 2)) afU afY))
abbrev af0:Tree:=(.call 47 [ai 0 0 1] [] [] [] (aq 0) cg (.aC (bR (aZ (ae 0) (ah 0))) (.ret (aq 0) [] [] []) afZ))
abbrev af1:Tree:=(.call 27 [ag 0] [] [] [] (ba 0) dv (.aC (bR (cG 0)) (.ret (bI 4) [] [] []) af0))
abbrev af2:Tree:=(.aC (bR (aZ (aG 2) (ah 0))) af1 (.ret (bI 4) [] [] []))
abbrev PV:Tree:=
(.new (.aC (bW (bO (ah 40) (aG 2)) (bO (ah 80) (aG 4))) (.ret (bI 40) [] [] []) af2))
theorem af3:cN prog {cW with ei:=[⟨9,[.az 41]⟩,⟨16,[.az 54]⟩]} f21 [(.agg [ag 0,ai 0 0 1,ai 1 2 3,ai 2 4 5])] [] [] rC=some PV:=by kernel_rfl
theorem af4 (ar aQ bz bJ cH cM:Nat) (t0:ByteArray) (a0 bn a2:Option Addr) (W:al) (R:Ending->World->Prop) (h:PV.ak prog W.w.heap.size R [] {N:=[ar,aQ,bz,bJ,cH,cM],T:=[t0],A:=[a0,bn,a2]} W):bK prog 21 #[.agg #[.string t0,.slice a0 ar aQ,.slice bn bz bJ,.slice a2 cH cM]] W R:=
 dP func21 _ _ {N:=[ar,aQ,bz,bJ,cH,cM],T:=[t0],A:=[a0,bn,a2]} _ af3 (fun v aB=>by cases aB) h
abbrev i_:TypeId:=25
theorem PW (ay bp on ev:Int) (aT key ca set:ab.aM) (cb:Bool) (bx ch:Option Addr) (fg bA gH ck:Nat) (W:al):da prog 90 #[.agg #[.string ⟨(aT:ab.aM).toArray⟩,.int .u8 ay,.int .i64 bp,.int .i64 on,.int .u8 ev,.string ⟨(key:ab.aM).toArray⟩,.string ⟨(ca:ab.aM).toArray⟩,.string ⟨(set:ab.aM).toArray⟩,.bool cb,.slice bx fg bA,.slice ch gH ck]] W (.agg #[.string ⟨([]:ab.aM).toArray⟩,.int .u8 0,.int .i64 0,.int .i64 on,.int .u8 0,.string ⟨(key:ab.aM).toArray⟩,.string ⟨(ca:ab.aM).toArray⟩,.string ⟨(set:ab.aM).toArray⟩,.bool cb,.slice bx fg bA,.slice ch gH ck]):=by
 refine adF ay bp on ev fg bA gH ck cb ⟨aT.toArray⟩ ⟨key.toArray⟩ ⟨ca.toArray⟩ ⟨set.toArray⟩ bx ch W.all _ ?_;exact bY fun _ _ _ _=>bY fun _ _ _ _=>bS fun _ _=>bS fun _ _=>bS fun _ _=>bS fun _ _=>bS fun _ _=>aP fun _ _ _=>⟨_,rfl,rfl⟩
theorem af5 (s:ab.aM) (a_:Bool) (m:Nat) (W:al) (b7:iL W) (hm:W.w.heap[m]? =some (.cells #[.bool a_] 4)):
  da prog 92 #[.string ⟨s.toArray⟩,.pointer (some ⟨m,0,none⟩)] W (.bool (ab.name s||(a_&&s==[]))):=by
 refine adI a_ ⟨s.toArray⟩ m W.all _ hm (fq.1 hm).1 ?_;refine b5 (fun _ _=>w5 s W.all (b7.ext W.dw)) ⟨ab.name s,rfl,fun cn bH=>aP fun _ _ _=>⟨_,rfl,rfl⟩⟩
theorem af6 (s:ab.aM) (W:al):da prog 93 #[.string ⟨s.toArray⟩] W (.bool (!(s==[]))):=
 adK ⟨s.toArray⟩ W.all _ (aP fun _ _ _=>⟨_,rfl,rfl⟩)
theorem af7 (k:Int) (ay bp on ev:Int) (aT key ca set:ab.aM) (cb:Bool) (bx ch:Option Addr) (fg bA gH ck:Nat) (m:Nat) (W:al) (hm:W.w.heap[m]? =some (.cells #[.string ⟨(aT:ab.aM).toArray⟩,.int .u8 ay,.int .i64 bp,.int .i64 on,.int .u8 ev,.string ⟨(key:ab.aM).toArray⟩,.string ⟨(ca:ab.aM).toArray⟩,.string ⟨(set:ab.aM).toArray⟩,.bool cb,.slice bx fg bA,.slice ch gH ck] i_)):
  da prog 95 #[.int .i64 k,.pointer (some ⟨m,0,none⟩)] W (.bool ((er 0 k&&ay==15)||(k== -1&&!(ay==15)))):=
 adM k ay bp on ev fg bA gH ck cb ⟨aT.toArray⟩ ⟨key.toArray⟩ ⟨ca.toArray⟩ ⟨set.toArray⟩ bx ch m W.all _ hm (fq.1 hm).1 (aP fun _ _ _=>⟨_,rfl,rfl⟩)
theorem af8 (b:Bool) (ay bp on ev:Int) (aT key ca set:ab.aM) (cb:Bool) (bx ch:Option Addr) (fg bA gH ck:Nat) (m:Nat) (W:al) (hm:W.w.heap[m]? =some (.cells #[.string ⟨(aT:ab.aM).toArray⟩,.int .u8 ay,.int .i64 bp,.int .i64 on,.int .u8 ev,.string ⟨(key:ab.aM).toArray⟩,.string ⟨(ca:ab.aM).toArray⟩,.string ⟨(set:ab.aM).toArray⟩,.bool cb,.slice bx fg bA,.slice ch gH ck] i_)):
  da prog 97 #[.bool b,.pointer (some ⟨m,0,none⟩)] W (.bool ((b|| !(ay==15))|| !(ev==4))):=
 adO ay bp on ev fg bA gH ck b cb ⟨aT.toArray⟩ ⟨key.toArray⟩ ⟨ca.toArray⟩ ⟨set.toArray⟩ bx ch m W.all _ hm (fq.1 hm).1 (aP fun _ _ _=>⟨_,rfl,rfl⟩)
theorem af9 (l:List ab.Var) (a:Option Addr) (c:Nat) (W:al) (aO:l.length<=1000000) (bs:∀v∈l,n6 v) (ct:hN W.w a l.length c 4 (l.flatMap e7)) (b7:iL W):
  da prog 99 #[.slice a l.length c] W (.bool (ab.vars l==0)):=by
 refine adQ l.length c a W.all _ ?_;refine b5 (fun _ _=>Pf l a c W.all aO bs ct (b7.ext W.dw)) ⟨ab.vars l,rfl,fun cn bH=>aP fun _ _ _=>⟨_,rfl,rfl⟩⟩
theorem af_ (l:List ab.aM) (a:Option Addr) (c:Nat) (W:al) (aO:l.length<=1000000) (ct:hN W.w a l.length c 1 (lk l)) (b7:iL W):
  da prog 101 #[.slice a l.length c] W (.bool (ab.hE id ab.name [] l)):=by
 refine adS l.length c a W.all _ ?_;refine b5 (fun _ _=>adx l a c W.all aO ct (b7.ext W.dw)) ⟨ab.hE id ab.name [] l,rfl,fun cn bH=>aP fun _ _ _=>⟨_,rfl,rfl⟩⟩
theorem PX (ay bp on ev:Int) (aT key ca set:ab.aM) (cb:Bool) (bx ch:Option Addr) (fg bA gH ck:Nat) (m:Nat) (V:al) (b7:iL V) (hm:V.w.heap[m]? =some (.cells #[.string ⟨(aT:ab.aM).toArray⟩,.int .u8 ay,.int .i64 bp,.int .i64 on,.int .u8 ev,.string ⟨(key:ab.aM).toArray⟩,.string ⟨(ca:ab.aM).toArray⟩,.string ⟨(set:ab.aM).toArray⟩,.bool cb,.slice bx fg bA,.slice ch gH ck] i_)) (bf:¬V.aV m):
  bK prog 91 #[.pointer (some ⟨m,5,none⟩),.func (.func 27) #[] #[]] V fun e w'=>e= .returned (.bool (ab.name key))∧w'.heap[m]? =some (.cells #[.string ⟨(aT:ab.aM).toArray⟩,.int .u8 ay,.int .i64 bp,.int .i64 on,.int .u8 ev,.string ⟨([]:ab.aM).toArray⟩,.string ⟨(ca:ab.aM).toArray⟩,.string ⟨(set:ab.aM).toArray⟩,.bool cb,.slice bx fg bA,.slice ch gH ck] i_):=by
 refine adV ay bp on ev fg bA gH ck cb ⟨aT.toArray⟩ ⟨key.toArray⟩ ⟨ca.toArray⟩ ⟨set.toArray⟩ bx ch m V _ hm bf ?_;refine b5 (fun I _=>w5 key V (b7)) ⟨ab.name key,rfl,fun cn bH=>?_⟩;exact bS fun cq bo=>aP fun J _ _=>⟨rfl,J _ (bd.2 rfl)⟩
theorem PY (ay bp on ev:Int) (aT key ca set:ab.aM) (cb:Bool) (bx ch:Option Addr) (fg bA gH ck:Nat) (m:Nat) (V:al) (b7:iL V) (hm:V.w.heap[m]? =some (.cells #[.string ⟨(aT:ab.aM).toArray⟩,.int .u8 ay,.int .i64 bp,.int .i64 on,.int .u8 ev,.string ⟨(key:ab.aM).toArray⟩,.string ⟨(ca:ab.aM).toArray⟩,.string ⟨(set:ab.aM).toArray⟩,.bool cb,.slice bx fg bA,.slice ch gH ck] i_)) (bf:¬V.aV m):
  bK prog 91 #[.pointer (some ⟨m,7,none⟩),.func (.func 27) #[] #[]] V fun e w'=>e= .returned (.bool (ab.name set))∧w'.heap[m]? =some (.cells #[.string ⟨(aT:ab.aM).toArray⟩,.int .u8 ay,.int .i64 bp,.int .i64 on,.int .u8 ev,.string ⟨(key:ab.aM).toArray⟩,.string ⟨(ca:ab.aM).toArray⟩,.string ⟨([]:ab.aM).toArray⟩,.bool cb,.slice bx fg bA,.slice ch gH ck] i_):=by
 refine ad4 ay bp on ev fg bA gH ck cb ⟨aT.toArray⟩ ⟨key.toArray⟩ ⟨ca.toArray⟩ ⟨set.toArray⟩ bx ch m V _ hm bf ?_;refine b5 (fun I _=>w5 set V (b7)) ⟨ab.name set,rfl,fun cn bH=>?_⟩;exact bS fun cq bo=>aP fun J _ _=>⟨rfl,J _ (bd.2 rfl)⟩
theorem PZ (ay bp on ev:Int) (aT key ca set:ab.aM) (cb:Bool) (bx ch:Option Addr) (fg bA gH ck:Nat) (m:Nat) (V:al) (b7:iL V) (hm:V.w.heap[m]? =some (.cells #[.string ⟨(aT:ab.aM).toArray⟩,.int .u8 ay,.int .i64 bp,.int .i64 on,.int .u8 ev,.string ⟨(key:ab.aM).toArray⟩,.string ⟨(ca:ab.aM).toArray⟩,.string ⟨(set:ab.aM).toArray⟩,.bool cb,.slice bx fg bA,.slice ch gH ck] i_)) (bf:¬V.aV m):
  bK prog 91 #[.pointer (some ⟨m,6,none⟩),.func (.func 93) #[] #[]] V fun e w'=>e= .returned (.bool (!(ca==[])))∧w'.heap[m]? =some (.cells #[.string ⟨(aT:ab.aM).toArray⟩,.int .u8 ay,.int .i64 bp,.int .i64 on,.int .u8 ev,.string ⟨(key:ab.aM).toArray⟩,.string ⟨([]:ab.aM).toArray⟩,.string ⟨(set:ab.aM).toArray⟩,.bool cb,.slice bx fg bA,.slice ch gH ck] i_):=by
 refine ad1 ay bp on ev fg bA gH ck cb ⟨aT.toArray⟩ ⟨key.toArray⟩ ⟨ca.toArray⟩ ⟨set.toArray⟩ bx ch m V _ hm bf ?_;refine b5 (fun I _=>af6 ca V) ⟨!(ca==[]),rfl,fun cn bH=>?_⟩;exact bS fun cq bo=>aP fun J _ _=>⟨rfl,J _ (bd.2 rfl)⟩
theorem P0 (a_:Bool) (m2:Nat) (ay bp on ev:Int) (aT key ca set:ab.aM) (cb:Bool) (bx ch:Option Addr) (fg bA gH ck:Nat) (m:Nat) (V:al) (b7:iL V) (hm:V.w.heap[m]? =some (.cells #[.string ⟨(aT:ab.aM).toArray⟩,.int .u8 ay,.int .i64 bp,.int .i64 on,.int .u8 ev,.string ⟨(key:ab.aM).toArray⟩,.string ⟨(ca:ab.aM).toArray⟩,.string ⟨(set:ab.aM).toArray⟩,.bool cb,.slice bx fg bA,.slice ch gH ck] i_)) (bf:¬V.aV m) (jK:V.w.heap[m2]? =some (.cells #[.bool a_] 4)) (BJ:V.aV m2):
  bK prog 91 #[.pointer (some ⟨m,5,none⟩),.func (.func 92) #[] #[.pointer (some ⟨m2,0,none⟩)]] V fun e w'=>e= .returned (.bool (ab.name key||(a_&&key==[])))∧w'.heap[m]? =some (.cells #[.string ⟨(aT:ab.aM).toArray⟩,.int .u8 ay,.int .i64 bp,.int .i64 on,.int .u8 ev,.string ⟨([]:ab.aM).toArray⟩,.string ⟨(ca:ab.aM).toArray⟩,.string ⟨(set:ab.aM).toArray⟩,.bool cb,.slice bx fg bA,.slice ch gH ck] i_):=by
 refine adY ay bp on ev fg bA gH ck cb a_ ⟨aT.toArray⟩ ⟨key.toArray⟩ ⟨ca.toArray⟩ ⟨set.toArray⟩ bx ch m m2 V _ hm bf jK BJ ?_;refine b5 (fun I _=>af5 key a_ m2 V b7 jK) ⟨ab.name key||(a_&&key==[]),rfl,fun cn bH=>?_⟩;exact bS fun cq bo=>aP fun J _ _=>⟨rfl,J _ (bd.2 rfl)⟩
theorem P1 (p7 w7 w8 tI:Int) (w9 w_ xa xb:ab.aM) (xc:Bool) (xd xe:Option Addr) (xf xg xh xi:Nat) (m2:Nat) (ay bp on ev:Int) (aT key ca set:ab.aM) (cb:Bool) (bx ch:Option Addr) (fg bA gH ck:Nat) (m:Nat) (V:al) (b7:iL V) (hm:V.w.heap[m]? =some (.cells #[.string ⟨(aT:ab.aM).toArray⟩,.int .u8 ay,.int .i64 bp,.int .i64 on,.int .u8 ev,.string ⟨(key:ab.aM).toArray⟩,.string ⟨(ca:ab.aM).toArray⟩,.string ⟨(set:ab.aM).toArray⟩,.bool cb,.slice bx fg bA,.slice ch gH ck] i_)) (bf:¬V.aV m) (jK:V.w.heap[m2]? =some (.cells #[.string ⟨(w9:ab.aM).toArray⟩,.int .u8 p7,.int .i64 w7,.int .i64 w8,.int .u8 tI,.string ⟨(w_:ab.aM).toArray⟩,.string ⟨(xa:ab.aM).toArray⟩,.string ⟨(xb:ab.aM).toArray⟩,.bool xc,.slice xd xf xg,.slice xe xh xi] i_)) (BJ:V.aV m2):
  bK prog 94 #[.pointer (some ⟨m,3,none⟩),.func (.func 95) #[] #[.pointer (some ⟨m2,0,none⟩)]] V fun e w'=>e= .returned (.bool ((er 0 on&&p7==15)||(on== -1&&!(p7==15))))∧w'.heap[m]? =some (.cells #[.string ⟨(aT:ab.aM).toArray⟩,.int .u8 ay,.int .i64 bp,.int .i64 0,.int .u8 ev,.string ⟨(key:ab.aM).toArray⟩,.string ⟨(ca:ab.aM).toArray⟩,.string ⟨(set:ab.aM).toArray⟩,.bool cb,.slice bx fg bA,.slice ch gH ck] i_):=by
 refine ad7 ay bp on ev p7 w7 w8 tI fg bA gH ck xf xg xh xi cb xc ⟨aT.toArray⟩ ⟨key.toArray⟩ ⟨ca.toArray⟩ ⟨set.toArray⟩ ⟨w9.toArray⟩ ⟨w_.toArray⟩ ⟨xa.toArray⟩ ⟨xb.toArray⟩ bx ch xd xe m m2 V _ hm bf jK BJ ?_;refine b5 (fun I _=>af7 on p7 w7 w8 tI w9 w_ xa xb xc xd xe xf xg xh xi m2 V jK) ⟨(er 0 on&&p7==15)||(on== -1&&!(p7==15)),rfl,fun cn bH=>?_⟩;exact bS fun cq bo=>aP fun J _ _=>⟨rfl,J _ (bd.2 rfl)⟩
theorem P2 (p7 w7 w8 tI:Int) (w9 w_ xa xb:ab.aM) (xc:Bool) (xd xe:Option Addr) (xf xg xh xi:Nat) (m2:Nat) (ay bp on ev:Int) (aT key ca set:ab.aM) (cb:Bool) (bx ch:Option Addr) (fg bA gH ck:Nat) (m:Nat) (V:al) (b7:iL V) (hm:V.w.heap[m]? =some (.cells #[.string ⟨(aT:ab.aM).toArray⟩,.int .u8 ay,.int .i64 bp,.int .i64 on,.int .u8 ev,.string ⟨(key:ab.aM).toArray⟩,.string ⟨(ca:ab.aM).toArray⟩,.string ⟨(set:ab.aM).toArray⟩,.bool cb,.slice bx fg bA,.slice ch gH ck] i_)) (bf:¬V.aV m) (jK:V.w.heap[m2]? =some (.cells #[.string ⟨(w9:ab.aM).toArray⟩,.int .u8 p7,.int .i64 w7,.int .i64 w8,.int .u8 tI,.string ⟨(w_:ab.aM).toArray⟩,.string ⟨(xa:ab.aM).toArray⟩,.string ⟨(xb:ab.aM).toArray⟩,.bool xc,.slice xd xf xg,.slice xe xh xi] i_)) (BJ:V.aV m2):
  bK prog 96 #[.pointer (some ⟨m,8,none⟩),.func (.func 97) #[] #[.pointer (some ⟨m2,0,none⟩)]] V fun e w'=>e= .returned (.bool ((cb|| !(p7==15))|| !(tI==4)))∧w'.heap[m]? =some (.cells #[.string ⟨(aT:ab.aM).toArray⟩,.int .u8 ay,.int .i64 bp,.int .i64 on,.int .u8 ev,.string ⟨(key:ab.aM).toArray⟩,.string ⟨(ca:ab.aM).toArray⟩,.string ⟨(set:ab.aM).toArray⟩,.bool false,.slice bx fg bA,.slice ch gH ck] i_):=by
 refine ad_ ay bp on ev p7 w7 w8 tI fg bA gH ck xf xg xh xi cb xc ⟨aT.toArray⟩ ⟨key.toArray⟩ ⟨ca.toArray⟩ ⟨set.toArray⟩ ⟨w9.toArray⟩ ⟨w_.toArray⟩ ⟨xa.toArray⟩ ⟨xb.toArray⟩ bx ch xd xe m m2 V _ hm bf jK BJ ?_;refine b5 (fun I _=>af8 cb p7 w7 w8 tI w9 w_ xa xb xc xd xe xf xg xh xi m2 V jK) ⟨(cb|| !(p7==15))|| !(tI==4),rfl,fun cn bH=>?_⟩;exact bS fun cq bo=>aP fun J _ _=>⟨rfl,J _ (bd.2 rfl)⟩
theorem P3 (l:List ab.Var) (ay bp on ev:Int) (aT key ca set:ab.aM) (cb:Bool) (bx ch:Option Addr) (bA gH ck:Nat) (m:Nat) (V:al) (b7:iL V) (hm:V.w.heap[m]? =some (.cells #[.string ⟨(aT:ab.aM).toArray⟩,.int .u8 ay,.int .i64 bp,.int .i64 on,.int .u8 ev,.string ⟨(key:ab.aM).toArray⟩,.string ⟨(ca:ab.aM).toArray⟩,.string ⟨(set:ab.aM).toArray⟩,.bool cb,.slice bx l.length bA,.slice ch gH ck] i_)) (bf:¬V.aV m) (aO:l.length<=1000000) (bs:∀v∈l,n6 v) (ct:hN V.w bx l.length bA 4 (l.flatMap e7)):
  bK prog 98 #[.pointer (some ⟨m,9,none⟩),.func (.func 99) #[] #[]] V fun e w'=>e= .returned (.bool (ab.vars l==0))∧w'.heap[m]? =some (.cells #[.string ⟨(aT:ab.aM).toArray⟩,.int .u8 ay,.int .i64 bp,.int .i64 on,.int .u8 ev,.string ⟨(key:ab.aM).toArray⟩,.string ⟨(ca:ab.aM).toArray⟩,.string ⟨(set:ab.aM).toArray⟩,.bool cb,.slice none 0 0,.slice ch gH ck] i_):=by
 refine aec ay bp on ev l.length bA gH ck cb ⟨aT.toArray⟩ ⟨key.toArray⟩ ⟨ca.toArray⟩ ⟨set.toArray⟩ bx ch m V _ hm bf ?_;refine b5 (fun I _=>af9 l bx bA V aO bs ct b7) ⟨ab.vars l==0,rfl,fun cn bH=>?_⟩;exact bS fun cq bo=>aP fun J _ _=>⟨rfl,J _ (bd.2 rfl)⟩
theorem P4 (l:List ab.aM) (ay bp on ev:Int) (aT key ca set:ab.aM) (cb:Bool) (bx ch:Option Addr) (fg bA ck:Nat) (m:Nat) (V:al) (b7:iL V) (hm:V.w.heap[m]? =some (.cells #[.string ⟨(aT:ab.aM).toArray⟩,.int .u8 ay,.int .i64 bp,.int .i64 on,.int .u8 ev,.string ⟨(key:ab.aM).toArray⟩,.string ⟨(ca:ab.aM).toArray⟩,.string ⟨(set:ab.aM).toArray⟩,.bool cb,.slice bx fg bA,.slice ch l.length ck] i_)) (bf:¬V.aV m) (aO:l.length<=1000000) (ct:hN V.w ch l.length ck 1 (lk l)):
  bK prog 100 #[.pointer (some ⟨m,10,none⟩),.func (.func 101) #[] #[]] V fun e w'=>e= .returned (.bool (ab.hE id ab.name [] l))∧w'.heap[m]? =some (.cells #[.string ⟨(aT:ab.aM).toArray⟩,.int .u8 ay,.int .i64 bp,.int .i64 on,.int .u8 ev,.string ⟨(key:ab.aM).toArray⟩,.string ⟨(ca:ab.aM).toArray⟩,.string ⟨(set:ab.aM).toArray⟩,.bool cb,.slice bx fg bA,.slice none 0 0] i_):=by
 refine aef ay bp on ev fg bA l.length ck cb ⟨aT.toArray⟩ ⟨key.toArray⟩ ⟨ca.toArray⟩ ⟨set.toArray⟩ bx ch m V _ hm bf ?_;refine b5 (fun I _=>af_ l ch ck V aO ct b7) ⟨ab.hE id ab.name [] l,rfl,fun cn bH=>?_⟩;exact bS fun cq bo=>aP fun J _ _=>⟨rfl,J _ (bd.2 rfl)⟩
end Go.Proofs.YtkpjmlnhhggenaaGreatDoor
end
section
namespace ab
open Go
def xj (n:dM):Bool:=(n.ay==14||n.ev==1)||n.ev==6
def xk (n:dM):Bool:=n.ev==4||n.ev==5
def fW (n:dM):Bool:=n.ay==1||n.ay==15
def zf (n:dM):Bool:=((n.ay==4||n.ay==12)||n.ev==2)||n.ev==3
def u6 (n:dM):Bool:=(n.ay==12||n.ay==15)||(n.ay==1&&!(n.ev==0))
def iI (n:dM):Bool:=name n.aT&&(decide (-1<=n.bp)&&event n.ay n.ev)
def b0 (n:dM):aM:=if xj n then [] else n.key
def ec (n:dM):Bool:=if xj n then name n.key&&iI n else iI n
def bZ (n:dM):aM:=if xk n then [] else b0 n
def fc (n:dM):Bool:=if xk n then(name (b0 n)||(fW n&&b0 n==[]))&&ec n else ec n
def t3 (n:dM):aM:=if zf n then [] else n.ca
def fS (n:dM):Bool:=if zf n then !(n.ca==[])&&fc n else fc n
def f_ (n:dM):aM:=if n.ay==4 then [] else n.set
def iQ (n:dM):Bool:=if n.ay==4 then name n.set&&fS n else fS n
def hv (n:dM):Bool:=((decide (0<=n.on)&&n.ay==15)||(n.on== -1&&!(n.ay==15)))&&iQ n
def ja (n:dM):Bool:=if u6 n then false else n.cb
def kS (n:dM):Bool:=if u6 n then((n.cb|| !(n.ay==15))|| !(n.ev==4))&&hv n else hv n
def mf (n:dM):Bool:=if scope n.ay then(vars n.vars==0)&&kS n else kS n
def jy (n:dM):Bool:=if n.ay==14 then hE id name [] n.bL&&mf n else mf n
def P5 (n:dM):List Var:=if scope n.ay then [] else n.vars
def P6 (n:dM):List aM:=if n.ay==14 then [] else n.bL
def p8 (n:dM):Bool:=bZ n==[]&&(t3 n==[]&&(f_ n==[]&&(ja n==false&&((P5 n).length==0&&(P6 n).length==0))))
def gi (n:dM):Int:=if 100<n.ca.length∨8<n.vars.length∨8<n.bL.length then 40 else if jy n&&p8 n then 0 else 4
end ab
namespace Go.Proofs.YtkpjmlnhhggenaaGreatDoor
open Go.Proofs.Tryz Go Go.RowKit Go.cK
theorem aga (n c:Nat) (a:Option Addr) (W:al):da prog 135 #[.slice a n c,.slice none 0 0] W (.bool (n==0)):=by
 refine ael n c 0 0 a none W.all _ ?_;refine aK (fun aJ=>aP fun _ _ _=>⟨_,rfl,?_⟩) fun aJ=>?_
 ·have:(n==0)=false:=by
   simp only[U,hq,beq_eq_false_iff_ne,ne_eq] at aJ;simp;omega
  rw[this];rfl
 ·have bk:n=0:=by
   simp only[U,kt,beq_iff_eq] at aJ;omega
  subst bk;refine dJ (fun aj vs ls _=>vs=[.int .i64 0]∧ls=[]) 0 ⟨rfl,rfl⟩ ?_;rintro aj vs fG cn bH ⟨rfl,rfl⟩;exact⟨0,rfl,rfl,fun _=>aK (fun c2=>by simp[U,eg] at c2) fun c2=>aP fun _ _ _=>⟨_,rfl,rfl⟩⟩
theorem agb (n c:Nat) (a:Option Addr) (W:al):da prog 136 #[.slice a n c,.slice none 0 0] W (.bool (n==0)):=by
 refine aer n c 0 0 a none W.all _ ?_;refine aK (fun aJ=>aP fun _ _ _=>⟨_,rfl,?_⟩) fun aJ=>?_
 ·have:(n==0)=false:=by
   simp only[U,hq,beq_eq_false_iff_ne,ne_eq] at aJ;simp;omega
  rw[this];rfl
 ·have bk:n=0:=by
   simp only[U,kt,beq_iff_eq] at aJ;omega
  subst bk;refine dJ (fun aj vs ls _=>vs=[.int .i64 0]∧ls=[]) 0 ⟨rfl,rfl⟩ ?_;rintro aj vs fG cn bH ⟨rfl,rfl⟩;exact⟨0,rfl,rfl,fun _=>aK (fun c2=>by simp[U,eg] at c2) fun c2=>aP fun _ _ _=>⟨_,rfl,rfl⟩⟩
theorem P7 (ay bp on ev:Int) (aT key ca set:ab.aM) (cb:Bool) (bx ch:Option Addr) (fg bA gH ck:Nat) (W:al):
  da prog 104 #[.agg #[.string ⟨aT.toArray⟩,.int .u8 ay,.int .i64 bp,.int .i64 on,.int .u8 ev,.string ⟨key.toArray⟩,.string ⟨ca.toArray⟩,.string ⟨set.toArray⟩,.bool cb,.slice bx fg bA,.slice ch gH ck],.agg #[.string ⟨([]:ab.aM).toArray⟩,.int .u8 0,.int .i64 0,.int .i64 0,.int .u8 0,.string ⟨([]:ab.aM).toArray⟩,.string ⟨([]:ab.aM).toArray⟩,.string ⟨([]:ab.aM).toArray⟩,.bool false,.slice none 0 0,.slice none 0 0]] W
   (.bool (((aT==[])&&((ay==0)&&((bp==0)&&((on==0)&&((ev==0)&&((key==[])&&((ca==[])&&((set==[])&&(cb==false)))))))))&&(fg==0&&gH==0))):=by
 refine aev ay bp on ev 0 0 0 0 fg bA gH ck 0 0 0 0 cb false ⟨aT.toArray⟩ ⟨key.toArray⟩ ⟨ca.toArray⟩ ⟨set.toArray⟩ ⟨([]:ab.aM).toArray⟩ ⟨([]:ab.aM).toArray⟩ ⟨([]:ab.aM).toArray⟩ ⟨([]:ab.aM).toArray⟩ bx ch none none W.all _ ?_;refine bY fun m1 W1 _ bM=>bY fun m2 cn _ bH=>aK (fun c=>?_) fun c=>cj fun _ _=>aP fun _ _ _=>⟨_,rfl,?_⟩
 ·simp only[aU];have c:((aT==[])&&((ay==0)&&((bp==0)&&((on==0)&&((ev==0)&&((key==[])&&((ca==[])&&((set==[])&&(cb==false)))))))))=true:=c;rw[c,eX];refine lF ⟨fg==0,fun V _ _ _=>aga fg bA bx V,?_⟩;simp only[aU];refine aK (fun aJ=>?_) fun aJ=>cj fun _ _=>aP fun _ _ _=>⟨_,rfl,?_⟩
  ·have aJ:(fg==0)=true:=aJ;rw[aJ,eX];refine lF ⟨gH==0,fun V _ _ _=>agb gH ck ch V,?_⟩;simp only[aU];exact cj fun _ _=>aP fun _ _ _=>⟨_,rfl,rfl⟩
  ·have aJ:(fg==0)=false:=aJ;rw[aJ];rfl
 ·have c:((aT==[])&&((ay==0)&&((bp==0)&&((on==0)&&((ev==0)&&((key==[])&&((ca==[])&&((set==[])&&(cb==false)))))))))=false:=c;rw[c];rfl
theorem agc (n:ab.dM) (bx ch:Option Addr) (bA ck:Nat) (W:al) (Pe:0<=n.ay) (aA:n.ay<256) (tJ:n.vars.length<=1000000) (EF:n.bL.length<=1000000) (bs:∀v∈n.vars,n6 v)
  (ct:hN W.w bx n.vars.length bA 4 (n.vars.flatMap e7)) (ji:hN W.w ch n.bL.length ck 1 (lk n.bL)) (b7:iL W):
  da prog 48 #[.agg #[.string ⟨(n.aT:ab.aM).toArray⟩,.int .u8 n.ay,.int .i64 n.bp,.int .i64 n.on,.int .u8 n.ev,.string ⟨(n.key:ab.aM).toArray⟩,.string ⟨(n.ca:ab.aM).toArray⟩,.string ⟨(n.set:ab.aM).toArray⟩,.bool n.cb,.slice bx n.vars.length bA,.slice ch n.bL.length ck]] W (.int .i64 (ab.gi n)):=by
 have b7:=b7.ext W.dw;have ct:=ct.all;have ji:=ji.all;refine afO n.ay n.bp n.on n.ev n.vars.length bA n.bL.length ck n.cb ⟨n.aT.toArray⟩ ⟨n.key.toArray⟩ ⟨n.ca.toArray⟩ ⟨n.set.toArray⟩ bx ch W.all _ ?_
 have P8:ab.p8 n=(((([]:ab.aM)==[])&&(((0:Int)==0)&&(((0:Int)==0)&&(((0:Int)==0)&&(((0:Int)==0)&&((ab.bZ n==[])&&((ab.t3 n==[])&&((ab.f_ n==[])&&(ab.ja n==false)))))))))&&((if ab.scope n.ay then 0 else n.vars.length)==0&&(if n.ay==14 then 0 else n.bL.length)==0)):=by
  rw[ab.p8,ab.P5,ab.P6];have J:(if ab.scope n.ay=true then [] else n.vars).length=(if ab.scope n.ay then 0 else n.vars.length):=by split<;>rfl
  have an:(if(n.ay==14)=true then [] else n.bL).length=(if n.ay==14 then 0 else n.bL.length):=by split<;>rfl
  rw[J,an];simp only[beq_self_eq_true,eX,Bool.and_assoc]
 refine bY fun m0 W1 _ bM=>aK (fun aJ=>aP fun _ _ _=>⟨_,rfl,?_⟩) fun aJ=>?_
 ·have aJ:100<n.ca.length∨8<n.vars.length∨8<n.bL.length:=by
   simp only[U,lH,h8,cX] at aJ;omega
  rw[ab.gi,if_pos aJ];rfl
 ·have eA:ab.gi n=if ab.jy n&&ab.p8 n then 0 else 4:=by
   rw[ab.gi,if_neg];simp only[U,lH,k1,c7] at aJ;omega
  refine b5 (fun _ _=>w5 n.aT W1 (b7.ext bM)) ⟨ab.name n.aT,rfl,fun cn bH=>?_⟩;simp only[aU];have dG:=aD bM bH;refine aK (fun c2=>?_) fun c2=>?_
  ·have c2:(ab.name n.aT&&decide (-1<=n.bp))=true:=c2;refine b5 (fun _ _=>adp n.ay n.ev Pe aA cn (b7.ext dG)) ⟨ab.event n.ay n.ev,rfl,fun cq bo=>?_⟩;simp only[aU];have bk:ab.iI n=ab.event n.ay n.ev:=by rw[ab.iI,<-Bool.and_assoc,c2,eX]
   refine b5 (fun _ _=>PW n.ay n.bp n.on n.ev n.aT n.key n.ca n.set n.cb bx ch n.vars.length bA n.bL.length ck cq) ⟨0,0,n.on,0,n.vars.length,bA,n.bL.length,ck,n.cb,⟨([]:ab.aM).toArray⟩,⟨n.key.toArray⟩,⟨n.ca.toArray⟩,⟨n.set.toArray⟩,bx,ch,rfl,fun dH cd=>?_⟩;simp only[aU];refine bY fun m1 P9 _ EG=>bS fun BK zg=>bY fun m2 BL _ xl=>bS fun dI cA=>?_
   have ej:=aD (aD dG bo) (aD (aD cd EG) (aD (aD zg xl) cA));simp only[aU];refine kV (fun vs ls _=>vs=[.bool (ab.ec n),.string ⟨([]:ab.aM).toArray⟩,.int .u8 0,.int .i64 0,.int .i64 n.on,.int .u8 0,.string ⟨(ab.b0 n:ab.aM).toArray⟩,.string ⟨(n.ca:ab.aM).toArray⟩,.string ⟨(n.set:ab.aM).toArray⟩,.bool n.cb,.slice bx n.vars.length bA,.slice ch n.bL.length ck]∧ls=[]) ?_ ?_
   ·refine aK (fun c=>?_) fun c=>?_
    ·have c:(ab.xj n)=true:=c;refine nL fun I a_ _=>?_
     have j:=aD ej a_.ext;have aH:=PX 0 0 (n.on) 0 [] (n.key) (n.ca) (n.set) (n.cb) (bx) (ch) (n.vars.length) (bA) (n.bL.length) (ck) m1 _ (b7.ext j) (I _ (bd.2 rfl)) (fun h=>h.2 (bd.2 rfl));refine bK.mono aH fun e w' _ ⟨he,hm⟩=>?_
     subst he;refine⟨0,0,n.on,0,n.vars.length,bA,n.bL.length,ck,ab.name n.key,n.cb,⟨([]:ab.aM).toArray⟩,⟨([]:ab.aM).toArray⟩,⟨(n.ca:ab.aM).toArray⟩,⟨(n.set:ab.aM).toArray⟩,bx,ch,rfl,fun b eI=>by obtain rfl:=bd.1 eI;exact hm,fun W' _ x _=>b1 ⟨?_,rfl⟩⟩;have a7:ab.ec n=(ab.name n.key&&ab.iI n):=if_pos c;have bh:ab.b0 n=[]:=if_pos c;rw[a7,bh,bk]
     first|rfl|(rw[oY];rfl)
    ·have c:(ab.xj n)=false:=c;refine b1 ⟨?_,rfl⟩;have a7:ab.ec n=(ab.iI n):=if_neg (fun h=>by rw[c] at h;cases h);have bh:ab.b0 n=n.key:=if_neg (fun h=>by rw[c] at h;cases h);rw[a7,bh,bk]
     first|rfl|(rw[oY];rfl)
   rintro _ _ jR oz ⟨rfl,rfl⟩;refine⟨0,0,n.on,0,n.vars.length,bA,n.bL.length,ck,ab.ec n,n.cb,⟨([]:ab.aM).toArray⟩,⟨(ab.b0 n:ab.aM).toArray⟩,⟨(n.ca:ab.aM).toArray⟩,⟨(n.set:ab.aM).toArray⟩,bx,ch,rfl,rfl,fun _=>?_⟩;simp only[aU];have th:=aD ej oz;refine kV (fun vs ls _=>vs=[.bool (ab.fc n),.string ⟨([]:ab.aM).toArray⟩,.int .u8 0,.int .i64 0,.int .i64 n.on,.int .u8 0,.string ⟨(ab.bZ n:ab.aM).toArray⟩,.string ⟨(n.ca:ab.aM).toArray⟩,.string ⟨(n.set:ab.aM).toArray⟩,.bool n.cb,.slice bx n.vars.length bA,.slice ch n.bL.length ck]∧ls=[]) ?_ ?_
   ·refine aK (fun c=>?_) fun c=>?_
    ·have c:(ab.xk n)=true:=c;refine nL fun I a_ _=>?_
     have j:=aD th a_.ext;have aH:=P0 (ab.fW n) m2 0 0 (n.on) 0 [] (ab.b0 n) (n.ca) (n.set) (n.cb) (bx) (ch) (n.vars.length) (bA) (n.bL.length) (ck) m1 _ (b7.ext j) (I _ (dq _ (bd.2 rfl))) (fun h=>h.2 (bd.2 rfl)) (I _ (c6 ..)) ⟨(fq.1 (I _ (c6 ..))).1,fun h=>a_.1 _ (c6 ..) _ (bd.2 rfl) (by decide) (bd.1 h)⟩;refine bK.mono aH fun e w' _ ⟨he,hm⟩=>?_
     subst he;refine⟨0,0,n.on,0,n.vars.length,bA,n.bL.length,ck,(ab.name (ab.b0 n)||(ab.fW n&&ab.b0 n==[])),n.cb,⟨([]:ab.aM).toArray⟩,⟨([]:ab.aM).toArray⟩,⟨(n.ca:ab.aM).toArray⟩,⟨(n.set:ab.aM).toArray⟩,bx,ch,rfl,fun b eI=>by obtain rfl:=bd.1 eI;exact hm,fun W' _ x _=>b1 ⟨?_,rfl⟩⟩;have a7:ab.fc n=((ab.name (ab.b0 n)||(ab.fW n&&ab.b0 n==[]))&&ab.ec n):=if_pos c;have bh:ab.bZ n=[]:=if_pos c;rw[a7,bh];rfl
    ·have c:(ab.xk n)=false:=c;refine b1 ⟨?_,rfl⟩;have a7:ab.fc n=(ab.ec n):=if_neg (fun h=>by rw[c] at h;cases h);have bh:ab.bZ n=ab.b0 n:=if_neg (fun h=>by rw[c] at h;cases h);rw[a7,bh];rfl
   rintro _ _ oK AM ⟨rfl,rfl⟩;refine⟨0,0,n.on,0,n.vars.length,bA,n.bL.length,ck,ab.fc n,n.cb,⟨([]:ab.aM).toArray⟩,⟨(ab.bZ n:ab.aM).toArray⟩,⟨(n.ca:ab.aM).toArray⟩,⟨(n.set:ab.aM).toArray⟩,bx,ch,rfl,rfl,fun _=>?_⟩;simp only[aU];have z2:=aD th AM;refine kV (fun vs ls _=>vs=[.bool (ab.fS n),.string ⟨([]:ab.aM).toArray⟩,.int .u8 0,.int .i64 0,.int .i64 n.on,.int .u8 0,.string ⟨(ab.bZ n:ab.aM).toArray⟩,.string ⟨(ab.t3 n:ab.aM).toArray⟩,.string ⟨(n.set:ab.aM).toArray⟩,.bool n.cb,.slice bx n.vars.length bA,.slice ch n.bL.length ck]∧ls=[]) ?_ ?_
   ·refine aK (fun c=>?_) fun c=>?_
    ·have c:(ab.zf n)=true:=c;refine nL fun I a_ _=>?_
     have j:=aD z2 a_.ext;have aH:=PZ 0 0 (n.on) 0 [] (ab.bZ n) (n.ca) (n.set) (n.cb) (bx) (ch) (n.vars.length) (bA) (n.bL.length) (ck) m1 _ (b7.ext j) (I _ (bd.2 rfl)) (fun h=>h.2 (bd.2 rfl));refine bK.mono aH fun e w' _ ⟨he,hm⟩=>?_
     subst he;refine⟨0,0,n.on,0,n.vars.length,bA,n.bL.length,ck,(!(n.ca==[])),n.cb,⟨([]:ab.aM).toArray⟩,⟨(ab.bZ n:ab.aM).toArray⟩,⟨([]:ab.aM).toArray⟩,⟨(n.set:ab.aM).toArray⟩,bx,ch,rfl,fun b eI=>by obtain rfl:=bd.1 eI;exact hm,fun W' _ x _=>b1 ⟨?_,rfl⟩⟩;have a7:ab.fS n=((!(n.ca==[]))&&ab.fc n):=if_pos c;have bh:ab.t3 n=[]:=if_pos c;rw[a7,bh];rfl
    ·have c:(ab.zf n)=false:=c;refine b1 ⟨?_,rfl⟩;have a7:ab.fS n=(ab.fc n):=if_neg (fun h=>by rw[c] at h;cases h);have bh:ab.t3 n=n.ca:=if_neg (fun h=>by rw[c] at h;cases h);rw[a7,bh];rfl
   rintro _ _ sy IG ⟨rfl,rfl⟩;refine⟨0,0,n.on,0,n.vars.length,bA,n.bL.length,ck,ab.fS n,n.cb,⟨([]:ab.aM).toArray⟩,⟨(ab.bZ n:ab.aM).toArray⟩,⟨(ab.t3 n:ab.aM).toArray⟩,⟨(n.set:ab.aM).toArray⟩,bx,ch,rfl,rfl,fun _=>?_⟩;simp only[aU];have z3:=aD z2 IG;refine kV (fun vs ls _=>vs=[.bool (ab.iQ n),.string ⟨([]:ab.aM).toArray⟩,.int .u8 0,.int .i64 0,.int .i64 n.on,.int .u8 0,.string ⟨(ab.bZ n:ab.aM).toArray⟩,.string ⟨(ab.t3 n:ab.aM).toArray⟩,.string ⟨(ab.f_ n:ab.aM).toArray⟩,.bool n.cb,.slice bx n.vars.length bA,.slice ch n.bL.length ck]∧ls=[]) ?_ ?_
   ·refine aK (fun c=>?_) fun c=>?_
    ·have c:(n.ay==4)=true:=c;refine nL fun I a_ _=>?_
     have j:=aD z3 a_.ext;have aH:=PY 0 0 (n.on) 0 [] (ab.bZ n) (ab.t3 n) (n.set) (n.cb) (bx) (ch) (n.vars.length) (bA) (n.bL.length) (ck) m1 _ (b7.ext j) (I _ (bd.2 rfl)) (fun h=>h.2 (bd.2 rfl));refine bK.mono aH fun e w' _ ⟨he,hm⟩=>?_
     subst he;refine⟨0,0,n.on,0,n.vars.length,bA,n.bL.length,ck,ab.name n.set,n.cb,⟨([]:ab.aM).toArray⟩,⟨(ab.bZ n:ab.aM).toArray⟩,⟨(ab.t3 n:ab.aM).toArray⟩,⟨([]:ab.aM).toArray⟩,bx,ch,rfl,fun b eI=>by obtain rfl:=bd.1 eI;exact hm,fun W' _ x _=>b1 ⟨?_,rfl⟩⟩;have a7:ab.iQ n=(ab.name n.set&&ab.fS n):=if_pos c;have bh:ab.f_ n=[]:=if_pos c;rw[a7,bh];rfl
    ·have c:(n.ay==4)=false:=c;refine b1 ⟨?_,rfl⟩;have a7:ab.iQ n=(ab.fS n):=if_neg (fun h=>by rw[c] at h;cases h);have bh:ab.f_ n=n.set:=if_neg (fun h=>by rw[c] at h;cases h);rw[a7,bh];rfl
   rintro _ _ rH IH ⟨rfl,rfl⟩;refine⟨0,0,n.on,0,n.vars.length,bA,n.bL.length,ck,ab.iQ n,n.cb,⟨([]:ab.aM).toArray⟩,⟨(ab.bZ n:ab.aM).toArray⟩,⟨(ab.t3 n:ab.aM).toArray⟩,⟨(ab.f_ n:ab.aM).toArray⟩,bx,ch,rfl,rfl,fun _=>?_⟩;simp only[aU];have z4:=aD z3 IH;refine kV (fun vs ls _=>vs=[.bool (ab.hv n),.string ⟨([]:ab.aM).toArray⟩,.int .u8 0,.int .i64 0,.int .i64 0,.int .u8 0,.string ⟨(ab.bZ n:ab.aM).toArray⟩,.string ⟨(ab.t3 n:ab.aM).toArray⟩,.string ⟨(ab.f_ n:ab.aM).toArray⟩,.bool n.cb,.slice bx n.vars.length bA,.slice ch n.bL.length ck]∧ls=[]) ?_ ?_
   ·refine nL fun I a_ _=>?_
    have j:=aD z4 a_.ext;have aH:=P1 n.ay n.bp n.on n.ev n.aT n.key n.ca n.set n.cb bx ch n.vars.length bA n.bL.length ck m0 0 0 (n.on) 0 [] (ab.bZ n) (ab.t3 n) (ab.f_ n) (n.cb) (bx) (ch) (n.vars.length) (bA) (n.bL.length) (ck) m1 _ (b7.ext j) (I _ (c6 ..)) (fun h=>h.2 (bd.2 rfl)) (I _ (dq _ (bd.2 rfl))) ⟨(fq.1 (I _ (dq _ (bd.2 rfl)))).1,fun h=>a_.1 _ (dq _ (bd.2 rfl)) _ (bd.2 rfl) (by decide) (bd.1 h)⟩;refine bK.mono aH fun e w' _ ⟨he,hm⟩=>?_
    subst he;refine⟨0,0,0,0,n.vars.length,bA,n.bL.length,ck,((decide (0<=n.on)&&n.ay==15)||(n.on== -1&&!(n.ay==15))),n.cb,⟨([]:ab.aM).toArray⟩,⟨(ab.bZ n:ab.aM).toArray⟩,⟨(ab.t3 n:ab.aM).toArray⟩,⟨(ab.f_ n:ab.aM).toArray⟩,bx,ch,rfl,fun b eI=>by obtain rfl:=bd.1 eI;exact hm,fun W' _ x _=>b1 ⟨?_,rfl⟩⟩;rfl
   rintro _ _ po II ⟨rfl,rfl⟩;refine⟨0,0,0,0,n.vars.length,bA,n.bL.length,ck,ab.hv n,n.cb,⟨([]:ab.aM).toArray⟩,⟨(ab.bZ n:ab.aM).toArray⟩,⟨(ab.t3 n:ab.aM).toArray⟩,⟨(ab.f_ n:ab.aM).toArray⟩,bx,ch,rfl,rfl,fun _=>?_⟩;simp only[aU];have z5:=aD z4 II;refine kV (fun vs ls _=>vs=[.bool (ab.kS n),.string ⟨([]:ab.aM).toArray⟩,.int .u8 0,.int .i64 0,.int .i64 0,.int .u8 0,.string ⟨(ab.bZ n:ab.aM).toArray⟩,.string ⟨(ab.t3 n:ab.aM).toArray⟩,.string ⟨(ab.f_ n:ab.aM).toArray⟩,.bool (ab.ja n),.slice bx n.vars.length bA,.slice ch n.bL.length ck]∧ls=[]) ?_ ?_
   ·refine aK (fun c=>?_) fun c=>?_
    ·have c:(ab.u6 n)=true:=c;refine nL fun I a_ _=>?_
     have j:=aD z5 a_.ext;have aH:=P2 n.ay n.bp n.on n.ev n.aT n.key n.ca n.set n.cb bx ch n.vars.length bA n.bL.length ck m0 0 0 (0) 0 [] (ab.bZ n) (ab.t3 n) (ab.f_ n) (n.cb) (bx) (ch) (n.vars.length) (bA) (n.bL.length) (ck) m1 _ (b7.ext j) (I _ (c6 ..)) (fun h=>h.2 (bd.2 rfl)) (I _ (dq _ (bd.2 rfl))) ⟨(fq.1 (I _ (dq _ (bd.2 rfl)))).1,fun h=>a_.1 _ (dq _ (bd.2 rfl)) _ (bd.2 rfl) (by decide) (bd.1 h)⟩;refine bK.mono aH fun e w' _ ⟨he,hm⟩=>?_
     subst he;refine⟨0,0,0,0,n.vars.length,bA,n.bL.length,ck,((n.cb|| !(n.ay==15))|| !(n.ev==4)),false,⟨([]:ab.aM).toArray⟩,⟨(ab.bZ n:ab.aM).toArray⟩,⟨(ab.t3 n:ab.aM).toArray⟩,⟨(ab.f_ n:ab.aM).toArray⟩,bx,ch,rfl,fun b eI=>by obtain rfl:=bd.1 eI;exact hm,fun W' _ x _=>b1 ⟨?_,rfl⟩⟩;have a7:ab.kS n=(((n.cb|| !(n.ay==15))|| !(n.ev==4))&&ab.hv n):=if_pos c;have bh:ab.ja n=false:=if_pos c;rw[a7,bh];rfl
    ·have c:(ab.u6 n)=false:=c;refine b1 ⟨?_,rfl⟩;have a7:ab.kS n=(ab.hv n):=if_neg (fun h=>by rw[c] at h;cases h);have bh:ab.ja n=n.cb:=if_neg (fun h=>by rw[c] at h;cases h);rw[a7,bh];rfl
   rintro _ _ Bu IJ ⟨rfl,rfl⟩;refine⟨0,0,0,0,n.vars.length,bA,n.bL.length,ck,ab.kS n,(ab.ja n),⟨([]:ab.aM).toArray⟩,⟨(ab.bZ n:ab.aM).toArray⟩,⟨(ab.t3 n:ab.aM).toArray⟩,⟨(ab.f_ n:ab.aM).toArray⟩,bx,ch,rfl,rfl,fun _=>?_⟩;simp only[aU];have BM:=aD z5 IJ;refine kV (fun vs ls _=>vs=[.bool (ab.mf n),.string ⟨([]:ab.aM).toArray⟩,.int .u8 0,.int .i64 0,.int .i64 0,.int .u8 0,.string ⟨(ab.bZ n:ab.aM).toArray⟩,.string ⟨(ab.t3 n:ab.aM).toArray⟩,.string ⟨(ab.f_ n:ab.aM).toArray⟩,.bool (ab.ja n),.slice (if ab.scope n.ay then none else bx) (if ab.scope n.ay then 0 else n.vars.length) (if ab.scope n.ay then 0 else bA),.slice ch n.bL.length ck]∧ls=[]) ?_ ?_
   ·refine b5 (fun _ _=>ED n.ay _) ⟨ab.scope n.ay,rfl,fun cV bU=>?_⟩;simp only[aU];have jk:=aD BM bU;refine aK (fun c=>?_) fun c=>?_
    ·have c:(ab.scope n.ay)=true:=c;refine nL fun I a_ _=>?_
     have j:=aD jk a_.ext;have aH:=P3 n.vars 0 0 (0) 0 [] (ab.bZ n) (ab.t3 n) (ab.f_ n) ((ab.ja n)) bx ch bA n.bL.length ck m1 _ (b7.ext j) (I _ (bd.2 rfl)) (fun h=>h.2 (bd.2 rfl)) tJ bs (eD.w (ct.ext j));refine bK.mono aH fun e w' _ ⟨he,hm⟩=>?_
     subst he;refine⟨0,0,0,0,0,0,n.bL.length,ck,(ab.vars n.vars==0),(ab.ja n),⟨([]:ab.aM).toArray⟩,⟨(ab.bZ n:ab.aM).toArray⟩,⟨(ab.t3 n:ab.aM).toArray⟩,⟨(ab.f_ n:ab.aM).toArray⟩,none,ch,rfl,fun b eI=>by obtain rfl:=bd.1 eI;exact hm,fun W' _ x _=>b1 ⟨?_,rfl⟩⟩;have a7:ab.mf n=((ab.vars n.vars==0)&&ab.kS n):=if_pos c;have xm:(if ab.scope n.ay then none else bx)=none:=if_pos c;have xn:(if ab.scope n.ay then 0 else n.vars.length)=0:=if_pos c;have xo:(if ab.scope n.ay then 0 else bA)=0:=if_pos c;rw[a7,xm,xn,xo];rfl
    ·have c:(ab.scope n.ay)=false:=c;refine b1 ⟨?_,rfl⟩;have a7:ab.mf n=(ab.kS n):=if_neg (fun h=>by rw[c] at h;cases h);have xm:(if ab.scope n.ay then none else bx)=bx:=if_neg (fun h=>by rw[c] at h;cases h);have xn:(if ab.scope n.ay then 0 else n.vars.length)=n.vars.length:=if_neg (fun h=>by rw[c] at h;cases h);have xo:(if ab.scope n.ay then 0 else bA)=bA:=if_neg (fun h=>by rw[c] at h;cases h);rw[a7,xm,xn,xo];rfl
   rintro _ _ y_ IK ⟨rfl,rfl⟩;refine⟨0,0,0,0,(if ab.scope n.ay then 0 else n.vars.length),(if ab.scope n.ay then 0 else bA),n.bL.length,ck,ab.mf n,(ab.ja n),⟨([]:ab.aM).toArray⟩,⟨(ab.bZ n:ab.aM).toArray⟩,⟨(ab.t3 n:ab.aM).toArray⟩,⟨(ab.f_ n:ab.aM).toArray⟩,(if ab.scope n.ay then none else bx),ch,rfl,rfl,fun _=>?_⟩;simp only[aU];have BN:=aD BM IK;refine kV (fun vs ls _=>vs=[.bool (ab.jy n),.string ⟨([]:ab.aM).toArray⟩,.int .u8 0,.int .i64 0,.int .i64 0,.int .u8 0,.string ⟨(ab.bZ n:ab.aM).toArray⟩,.string ⟨(ab.t3 n:ab.aM).toArray⟩,.string ⟨(ab.f_ n:ab.aM).toArray⟩,.bool (ab.ja n),.slice (if ab.scope n.ay then none else bx) (if ab.scope n.ay then 0 else n.vars.length) (if ab.scope n.ay then 0 else bA),.slice (if n.ay==14 then none else ch) (if n.ay==14 then 0 else n.bL.length) (if n.ay==14 then 0 else ck)]∧ls=[]) ?_ ?_
   ·refine aK (fun c=>?_) fun c=>?_
    ·have c:(n.ay==14)=true:=c;refine nL fun I a_ _=>?_
     have j:=aD BN a_.ext;have aH:=P4 n.bL 0 0 (0) 0 [] (ab.bZ n) (ab.t3 n) (ab.f_ n) ((ab.ja n)) ((if ab.scope n.ay then none else bx)) ch ((if ab.scope n.ay then 0 else n.vars.length)) ((if ab.scope n.ay then 0 else bA)) ck m1 _ (b7.ext j) (I _ (bd.2 rfl)) (fun h=>h.2 (bd.2 rfl)) EF (eD.w (ji.ext j));refine bK.mono aH fun e w' _ ⟨he,hm⟩=>?_
     subst he;refine⟨0,0,0,0,(if ab.scope n.ay then 0 else n.vars.length),(if ab.scope n.ay then 0 else bA),0,0,ab.hE id ab.name [] n.bL,(ab.ja n),⟨([]:ab.aM).toArray⟩,⟨(ab.bZ n:ab.aM).toArray⟩,⟨(ab.t3 n:ab.aM).toArray⟩,⟨(ab.f_ n:ab.aM).toArray⟩,(if ab.scope n.ay then none else bx),none,rfl,fun b eI=>by obtain rfl:=bd.1 eI;exact hm,fun W' _ x _=>b1 ⟨?_,rfl⟩⟩;have a7:ab.jy n=(ab.hE id ab.name [] n.bL&&ab.mf n):=if_pos c;have xp:(if n.ay==14 then none else ch)=none:=if_pos c;have xq:(if n.ay==14 then 0 else n.bL.length)=0:=if_pos c;have xr:(if n.ay==14 then 0 else ck)=0:=if_pos c;rw[a7,xp,xq,xr];rfl
    ·have c:(n.ay==14)=false:=c;refine b1 ⟨?_,rfl⟩;have a7:ab.jy n=(ab.mf n):=if_neg (fun h=>by rw[c] at h;cases h);have xp:(if n.ay==14 then none else ch)=ch:=if_neg (fun h=>by rw[c] at h;cases h);have xq:(if n.ay==14 then 0 else n.bL.length)=n.bL.length:=if_neg (fun h=>by rw[c] at h;cases h);have xr:(if n.ay==14 then 0 else ck)=ck:=if_neg (fun h=>by rw[c] at h;cases h);rw[a7,xp,xq,xr];rfl
   rintro _ _ uZ u8 ⟨rfl,rfl⟩;refine⟨0,0,0,0,(if ab.scope n.ay then 0 else n.vars.length),(if ab.scope n.ay then 0 else bA),(if n.ay==14 then 0 else n.bL.length),(if n.ay==14 then 0 else ck),ab.jy n,(ab.ja n),⟨([]:ab.aM).toArray⟩,⟨(ab.bZ n:ab.aM).toArray⟩,⟨(ab.t3 n:ab.aM).toArray⟩,⟨(ab.f_ n:ab.aM).toArray⟩,(if ab.scope n.ay then none else bx),(if n.ay==14 then none else ch),rfl,rfl,fun _=>?_⟩;simp only[aU];have agd:=aD BN u8;refine aK (fun c=>?_) fun c=>aP fun _ _ _=>⟨_,rfl,?_⟩
   ·have c:ab.jy n=true:=c;refine b5 (v:=.bool (ab.p8 n)) (fun _ _=>by rw[P8];exact P7 0 0 0 0 [] (ab.bZ n) (ab.t3 n) (ab.f_ n) (ab.ja n) (if ab.scope n.ay then none else bx) (if n.ay==14 then none else ch) (if ab.scope n.ay then 0 else n.vars.length) (if ab.scope n.ay then 0 else bA) (if n.ay==14 then 0 else n.bL.length) (if n.ay==14 then 0 else ck) uZ) ⟨ab.p8 n,rfl,fun fm eY=>?_⟩;simp only[aU];rw[eA,c,eX];refine aK (fun c2=>aP fun _ _ _=>⟨_,rfl,?_⟩) fun c2=>aP fun _ _ _=>⟨_,rfl,?_⟩
    ·have c2:(!ab.p8 n)=true:=c2;rw[if_neg (fun h=>by rw[h] at c2;cases c2)];rfl
    ·have c2:(!ab.p8 n)=false:=c2;rw[if_pos (by simpa using c2)];rfl
   ·have c:ab.jy n=false:=c;rw[eA,c];rfl
  ·have c2:(ab.name n.aT&&decide (-1<=n.bp))=false:=c2;have bk:ab.iI n=false:=by rw[ab.iI,<-Bool.and_assoc,c2,jX]
   refine b5 (fun _ _=>PW n.ay n.bp n.on n.ev n.aT n.key n.ca n.set n.cb bx ch n.vars.length bA n.bL.length ck cn) ⟨0,0,n.on,0,n.vars.length,bA,n.bL.length,ck,n.cb,⟨([]:ab.aM).toArray⟩,⟨n.key.toArray⟩,⟨n.ca.toArray⟩,⟨n.set.toArray⟩,bx,ch,rfl,fun dH cd=>?_⟩;simp only[aU];refine bY fun m1 P9 _ EG=>bS fun BK zg=>bY fun m2 BL _ xl=>bS fun dI cA=>?_
   have ej:=aD dG (aD (aD cd EG) (aD (aD zg xl) cA));simp only[aU];refine kV (fun vs ls _=>vs=[.bool (ab.ec n),.string ⟨([]:ab.aM).toArray⟩,.int .u8 0,.int .i64 0,.int .i64 n.on,.int .u8 0,.string ⟨(ab.b0 n:ab.aM).toArray⟩,.string ⟨(n.ca:ab.aM).toArray⟩,.string ⟨(n.set:ab.aM).toArray⟩,.bool n.cb,.slice bx n.vars.length bA,.slice ch n.bL.length ck]∧ls=[]) ?_ ?_
   ·refine aK (fun c=>?_) fun c=>?_
    ·have c:(ab.xj n)=true:=c;refine nL fun I a_ _=>?_
     have j:=aD ej a_.ext;have aH:=PX 0 0 (n.on) 0 [] (n.key) (n.ca) (n.set) (n.cb) (bx) (ch) (n.vars.length) (bA) (n.bL.length) (ck) m1 _ (b7.ext j) (I _ (bd.2 rfl)) (fun h=>h.2 (bd.2 rfl));refine bK.mono aH fun e w' _ ⟨he,hm⟩=>?_
     subst he;refine⟨0,0,n.on,0,n.vars.length,bA,n.bL.length,ck,ab.name n.key,n.cb,⟨([]:ab.aM).toArray⟩,⟨([]:ab.aM).toArray⟩,⟨(n.ca:ab.aM).toArray⟩,⟨(n.set:ab.aM).toArray⟩,bx,ch,rfl,fun b eI=>by obtain rfl:=bd.1 eI;exact hm,fun W' _ x _=>b1 ⟨?_,rfl⟩⟩;have a7:ab.ec n=(ab.name n.key&&ab.iI n):=if_pos c;have bh:ab.b0 n=[]:=if_pos c;rw[a7,bh,bk]
     first|rfl|(rw[oY];rfl)
    ·have c:(ab.xj n)=false:=c;refine b1 ⟨?_,rfl⟩;have a7:ab.ec n=(ab.iI n):=if_neg (fun h=>by rw[c] at h;cases h);have bh:ab.b0 n=n.key:=if_neg (fun h=>by rw[c] at h;cases h);rw[a7,bh,bk]
     first|rfl|(rw[oY];rfl)
   rintro _ _ jR oz ⟨rfl,rfl⟩;refine⟨0,0,n.on,0,n.vars.length,bA,n.bL.length,ck,ab.ec n,n.cb,⟨([]:ab.aM).toArray⟩,⟨(ab.b0 n:ab.aM).toArray⟩,⟨(n.ca:ab.aM).toArray⟩,⟨(n.set:ab.aM).toArray⟩,bx,ch,rfl,rfl,fun _=>?_⟩;simp only[aU];have th:=aD ej oz;refine kV (fun vs ls _=>vs=[.bool (ab.fc n),.string ⟨([]:ab.aM).toArray⟩,.int .u8 0,.int .i64 0,.int .i64 n.on,.int .u8 0,.string ⟨(ab.bZ n:ab.aM).toArray⟩,.string ⟨(n.ca:ab.aM).toArray⟩,.string ⟨(n.set:ab.aM).toArray⟩,.bool n.cb,.slice bx n.vars.length bA,.slice ch n.bL.length ck]∧ls=[]) ?_ ?_
   ·refine aK (fun c=>?_) fun c=>?_
    ·have c:(ab.xk n)=true:=c;refine nL fun I a_ _=>?_
     have j:=aD th a_.ext;have aH:=P0 (ab.fW n) m2 0 0 (n.on) 0 [] (ab.b0 n) (n.ca) (n.set) (n.cb) (bx) (ch) (n.vars.length) (bA) (n.bL.length) (ck) m1 _ (b7.ext j) (I _ (dq _ (bd.2 rfl))) (fun h=>h.2 (bd.2 rfl)) (I _ (c6 ..)) ⟨(fq.1 (I _ (c6 ..))).1,fun h=>a_.1 _ (c6 ..) _ (bd.2 rfl) (by decide) (bd.1 h)⟩;refine bK.mono aH fun e w' _ ⟨he,hm⟩=>?_
     subst he;refine⟨0,0,n.on,0,n.vars.length,bA,n.bL.length,ck,(ab.name (ab.b0 n)||(ab.fW n&&ab.b0 n==[])),n.cb,⟨([]:ab.aM).toArray⟩,⟨([]:ab.aM).toArray⟩,⟨(n.ca:ab.aM).toArray⟩,⟨(n.set:ab.aM).toArray⟩,bx,ch,rfl,fun b eI=>by obtain rfl:=bd.1 eI;exact hm,fun W' _ x _=>b1 ⟨?_,rfl⟩⟩;have a7:ab.fc n=((ab.name (ab.b0 n)||(ab.fW n&&ab.b0 n==[]))&&ab.ec n):=if_pos c;have bh:ab.bZ n=[]:=if_pos c;rw[a7,bh];rfl
    ·have c:(ab.xk n)=false:=c;refine b1 ⟨?_,rfl⟩;have a7:ab.fc n=(ab.ec n):=if_neg (fun h=>by rw[c] at h;cases h);have bh:ab.bZ n=ab.b0 n:=if_neg (fun h=>by rw[c] at h;cases h);rw[a7,bh];rfl
   rintro _ _ oK AM ⟨rfl,rfl⟩;refine⟨0,0,n.on,0,n.vars.length,bA,n.bL.length,ck,ab.fc n,n.cb,⟨([]:ab.aM).toArray⟩,⟨(ab.bZ n:ab.aM).toArray⟩,⟨(n.ca:ab.aM).toArray⟩,⟨(n.set:ab.aM).toArray⟩,bx,ch,rfl,rfl,fun _=>?_⟩;simp only[aU];have z2:=aD th AM;refine kV (fun vs ls _=>vs=[.bool (ab.fS n),.string ⟨([]:ab.aM).toArray⟩,.int .u8 0,.int .i64 0,.int .i64 n.on,.int .u8 0,.string ⟨(ab.bZ n:ab.aM).toArray⟩,.string ⟨(ab.t3 n:ab.aM).toArray⟩,.string ⟨(n.set:ab.aM).toArray⟩,.bool n.cb,.slice bx n.vars.length bA,.slice ch n.bL.length ck]∧ls=[]) ?_ ?_
   ·refine aK (fun c=>?_) fun c=>?_
    ·have c:(ab.zf n)=true:=c;refine nL fun I a_ _=>?_
     have j:=aD z2 a_.ext;have aH:=PZ 0 0 (n.on) 0 [] (ab.bZ n) (n.ca) (n.set) (n.cb) (bx) (ch) (n.vars.length) (bA) (n.bL.length) (ck) m1 _ (b7.ext j) (I _ (bd.2 rfl)) (fun h=>h.2 (bd.2 rfl));refine bK.mono aH fun e w' _ ⟨he,hm⟩=>?_
     subst he;refine⟨0,0,n.on,0,n.vars.length,bA,n.bL.length,ck,(!(n.ca==[])),n.cb,⟨([]:ab.aM).toArray⟩,⟨(ab.bZ n:ab.aM).toArray⟩,⟨([]:ab.aM).toArray⟩,⟨(n.set:ab.aM).toArray⟩,bx,ch,rfl,fun b eI=>by obtain rfl:=bd.1 eI;exact hm,fun W' _ x _=>b1 ⟨?_,rfl⟩⟩;have a7:ab.fS n=((!(n.ca==[]))&&ab.fc n):=if_pos c;have bh:ab.t3 n=[]:=if_pos c;rw[a7,bh];rfl
    ·have c:(ab.zf n)=false:=c;refine b1 ⟨?_,rfl⟩;have a7:ab.fS n=(ab.fc n):=if_neg (fun h=>by rw[c] at h;cases h);have bh:ab.t3 n=n.ca:=if_neg (fun h=>by rw[c] at h;cases h);rw[a7,bh];rfl
   rintro _ _ sy IG ⟨rfl,rfl⟩;refine⟨0,0,n.on,0,n.vars.length,bA,n.bL.length,ck,ab.fS n,n.cb,⟨([]:ab.aM).toArray⟩,⟨(ab.bZ n:ab.aM).toArray⟩,⟨(ab.t3 n:ab.aM).toArray⟩,⟨(n.set:ab.aM).toArray⟩,bx,ch,rfl,rfl,fun _=>?_⟩;simp only[aU];have z3:=aD z2 IG;refine kV (fun vs ls _=>vs=[.bool (ab.iQ n),.string ⟨([]:ab.aM).toArray⟩,.int .u8 0,.int .i64 0,.int .i64 n.on,.int .u8 0,.string ⟨(ab.bZ n:ab.aM).toArray⟩,.string ⟨(ab.t3 n:ab.aM).toArray⟩,.string ⟨(ab.f_ n:ab.aM).toArray⟩,.bool n.cb,.slice bx n.vars.length bA,.slice ch n.bL.length ck]∧ls=[]) ?_ ?_
   ·refine aK (fun c=>?_) fun c=>?_
    ·have c:(n.ay==4)=true:=c;refine nL fun I a_ _=>?_
     have j:=aD z3 a_.ext;have aH:=PY 0 0 (n.on) 0 [] (ab.bZ n) (ab.t3 n) (n.set) (n.cb) (bx) (ch) (n.vars.length) (bA) (n.bL.length) (ck) m1 _ (b7.ext j) (I _ (bd.2 rfl)) (fun h=>h.2 (bd.2 rfl));refine bK.mono aH fun e w' _ ⟨he,hm⟩=>?_
     subst he;refine⟨0,0,n.on,0,n.vars.length,bA,n.bL.length,ck,ab.name n.set,n.cb,⟨([]:ab.aM).toArray⟩,⟨(ab.bZ n:ab.aM).toArray⟩,⟨(ab.t3 n:ab.aM).toArray⟩,⟨([]:ab.aM).toArray⟩,bx,ch,rfl,fun b eI=>by obtain rfl:=bd.1 eI;exact hm,fun W' _ x _=>b1 ⟨?_,rfl⟩⟩;have a7:ab.iQ n=(ab.name n.set&&ab.fS n):=if_pos c;have bh:ab.f_ n=[]:=if_pos c;rw[a7,bh];rfl
    ·have c:(n.ay==4)=false:=c;refine b1 ⟨?_,rfl⟩;have a7:ab.iQ n=(ab.fS n):=if_neg (fun h=>by rw[c] at h;cases h);have bh:ab.f_ n=n.set:=if_neg (fun h=>by rw[c] at h;cases h);rw[a7,bh];rfl
   rintro _ _ rH IH ⟨rfl,rfl⟩;refine⟨0,0,n.on,0,n.vars.length,bA,n.bL.length,ck,ab.iQ n,n.cb,⟨([]:ab.aM).toArray⟩,⟨(ab.bZ n:ab.aM).toArray⟩,⟨(ab.t3 n:ab.aM).toArray⟩,⟨(ab.f_ n:ab.aM).toArray⟩,bx,ch,rfl,rfl,fun _=>?_⟩;simp only[aU];have z4:=aD z3 IH;refine kV (fun vs ls _=>vs=[.bool (ab.hv n),.string ⟨([]:ab.aM).toArray⟩,.int .u8 0,.int .i64 0,.int .i64 0,.int .u8 0,.string ⟨(ab.bZ n:ab.aM).toArray⟩,.string ⟨(ab.t3 n:ab.aM).toArray⟩,.string ⟨(ab.f_ n:ab.aM).toArray⟩,.bool n.cb,.slice bx n.vars.length bA,.slice ch n.bL.length ck]∧ls=[]) ?_ ?_
   ·refine nL fun I a_ _=>?_
    have j:=aD z4 a_.ext;have aH:=P1 n.ay n.bp n.on n.ev n.aT n.key n.ca n.set n.cb bx ch n.vars.length bA n.bL.length ck m0 0 0 (n.on) 0 [] (ab.bZ n) (ab.t3 n) (ab.f_ n) (n.cb) (bx) (ch) (n.vars.length) (bA) (n.bL.length) (ck) m1 _ (b7.ext j) (I _ (c6 ..)) (fun h=>h.2 (bd.2 rfl)) (I _ (dq _ (bd.2 rfl))) ⟨(fq.1 (I _ (dq _ (bd.2 rfl)))).1,fun h=>a_.1 _ (dq _ (bd.2 rfl)) _ (bd.2 rfl) (by decide) (bd.1 h)⟩;refine bK.mono aH fun e w' _ ⟨he,hm⟩=>?_
    subst he;refine⟨0,0,0,0,n.vars.length,bA,n.bL.length,ck,((decide (0<=n.on)&&n.ay==15)||(n.on== -1&&!(n.ay==15))),n.cb,⟨([]:ab.aM).toArray⟩,⟨(ab.bZ n:ab.aM).toArray⟩,⟨(ab.t3 n:ab.aM).toArray⟩,⟨(ab.f_ n:ab.aM).toArray⟩,bx,ch,rfl,fun b eI=>by obtain rfl:=bd.1 eI;exact hm,fun W' _ x _=>b1 ⟨?_,rfl⟩⟩;rfl
   rintro _ _ po II ⟨rfl,rfl⟩;refine⟨0,0,0,0,n.vars.length,bA,n.bL.length,ck,ab.hv n,n.cb,⟨([]:ab.aM).toArray⟩,⟨(ab.bZ n:ab.aM).toArray⟩,⟨(ab.t3 n:ab.aM).toArray⟩,⟨(ab.f_ n:ab.aM).toArray⟩,bx,ch,rfl,rfl,fun _=>?_⟩;simp only[aU];have z5:=aD z4 II;refine kV (fun vs ls _=>vs=[.bool (ab.kS n),.string ⟨([]:ab.aM).toArray⟩,.int .u8 0,.int .i64 0,.int .i64 0,.int .u8 0,.string ⟨(ab.bZ n:ab.aM).toArray⟩,.string ⟨(ab.t3 n:ab.aM).toArray⟩,.string ⟨(ab.f_ n:ab.aM).toArray⟩,.bool (ab.ja n),.slice bx n.vars.length bA,.slice ch n.bL.length ck]∧ls=[]) ?_ ?_
   ·refine aK (fun c=>?_) fun c=>?_
    ·have c:(ab.u6 n)=true:=c;refine nL fun I a_ _=>?_
     have j:=aD z5 a_.ext;have aH:=P2 n.ay n.bp n.on n.ev n.aT n.key n.ca n.set n.cb bx ch n.vars.length bA n.bL.length ck m0 0 0 (0) 0 [] (ab.bZ n) (ab.t3 n) (ab.f_ n) (n.cb) (bx) (ch) (n.vars.length) (bA) (n.bL.length) (ck) m1 _ (b7.ext j) (I _ (c6 ..)) (fun h=>h.2 (bd.2 rfl)) (I _ (dq _ (bd.2 rfl))) ⟨(fq.1 (I _ (dq _ (bd.2 rfl)))).1,fun h=>a_.1 _ (dq _ (bd.2 rfl)) _ (bd.2 rfl) (by decide) (bd.1 h)⟩;refine bK.mono aH fun e w' _ ⟨he,hm⟩=>?_
     subst he;refine⟨0,0,0,0,n.vars.length,bA,n.bL.length,ck,((n.cb|| !(n.ay==15))|| !(n.ev==4)),false,⟨([]:ab.aM).toArray⟩,⟨(ab.bZ n:ab.aM).toArray⟩,⟨(ab.t3 n:ab.aM).toArray⟩,⟨(ab.f_ n:ab.aM).toArray⟩,bx,ch,rfl,fun b eI=>by obtain rfl:=bd.1 eI;exact hm,fun W' _ x _=>b1 ⟨?_,rfl⟩⟩;have a7:ab.kS n=(((n.cb|| !(n.ay==15))|| !(n.ev==4))&&ab.hv n):=if_pos c;have bh:ab.ja n=false:=if_pos c;rw[a7,bh];rfl
    ·have c:(ab.u6 n)=false:=c;refine b1 ⟨?_,rfl⟩;have a7:ab.kS n=(ab.hv n):=if_neg (fun h=>by rw[c] at h;cases h);have bh:ab.ja n=n.cb:=if_neg (fun h=>by rw[c] at h;cases h);rw[a7,bh];rfl
   rintro _ _ Bu IJ ⟨rfl,rfl⟩;refine⟨0,0,0,0,n.vars.length,bA,n.bL.length,ck,ab.kS n,(ab.ja n),⟨([]:ab.aM).toArray⟩,⟨(ab.bZ n:ab.aM).toArray⟩,⟨(ab.t3 n:ab.aM).toArray⟩,⟨(ab.f_ n:ab.aM).toArray⟩,bx,ch,rfl,rfl,fun _=>?_⟩;simp only[aU];have BM:=aD z5 IJ;refine kV (fun vs ls _=>vs=[.bool (ab.mf n),.string ⟨([]:ab.aM).toArray⟩,.int .u8 0,.int .i64 0,.int .i64 0,.int .u8 0,.string ⟨(ab.bZ n:ab.aM).toArray⟩,.string ⟨(ab.t3 n:ab.aM).toArray⟩,.string ⟨(ab.f_ n:ab.aM).toArray⟩,.bool (ab.ja n),.slice (if ab.scope n.ay then none else bx) (if ab.scope n.ay then 0 else n.vars.length) (if ab.scope n.ay then 0 else bA),.slice ch n.bL.length ck]∧ls=[]) ?_ ?_
   ·refine b5 (fun _ _=>ED n.ay _) ⟨ab.scope n.ay,rfl,fun cV bU=>?_⟩;simp only[aU];have jk:=aD BM bU;refine aK (fun c=>?_) fun c=>?_
    ·have c:(ab.scope n.ay)=true:=c;refine nL fun I a_ _=>?_
     have j:=aD jk a_.ext;have aH:=P3 n.vars 0 0 (0) 0 [] (ab.bZ n) (ab.t3 n) (ab.f_ n) ((ab.ja n)) bx ch bA n.bL.length ck m1 _ (b7.ext j) (I _ (bd.2 rfl)) (fun h=>h.2 (bd.2 rfl)) tJ bs (eD.w (ct.ext j));refine bK.mono aH fun e w' _ ⟨he,hm⟩=>?_
     subst he;refine⟨0,0,0,0,0,0,n.bL.length,ck,(ab.vars n.vars==0),(ab.ja n),⟨([]:ab.aM).toArray⟩,⟨(ab.bZ n:ab.aM).toArray⟩,⟨(ab.t3 n:ab.aM).toArray⟩,⟨(ab.f_ n:ab.aM).toArray⟩,none,ch,rfl,fun b eI=>by obtain rfl:=bd.1 eI;exact hm,fun W' _ x _=>b1 ⟨?_,rfl⟩⟩;have a7:ab.mf n=((ab.vars n.vars==0)&&ab.kS n):=if_pos c;have xm:(if ab.scope n.ay then none else bx)=none:=if_pos c;have xn:(if ab.scope n.ay then 0 else n.vars.length)=0:=if_pos c;have xo:(if ab.scope n.ay then 0 else bA)=0:=if_pos c;rw[a7,xm,xn,xo];rfl
    ·have c:(ab.scope n.ay)=false:=c;refine b1 ⟨?_,rfl⟩;have a7:ab.mf n=(ab.kS n):=if_neg (fun h=>by rw[c] at h;cases h);have xm:(if ab.scope n.ay then none else bx)=bx:=if_neg (fun h=>by rw[c] at h;cases h);have xn:(if ab.scope n.ay then 0 else n.vars.length)=n.vars.length:=if_neg (fun h=>by rw[c] at h;cases h);have xo:(if ab.scope n.ay then 0 else bA)=bA:=if_neg (fun h=>by rw[c] at h;cases h);rw[a7,xm,xn,xo];rfl
   rintro _ _ y_ IK ⟨rfl,rfl⟩;refine⟨0,0,0,0,(if ab.scope n.ay then 0 else n.vars.length),(if ab.scope n.ay then 0 else bA),n.bL.length,ck,ab.mf n,(ab.ja n),⟨([]:ab.aM).toArray⟩,⟨(ab.bZ n:ab.aM).toArray⟩,⟨(ab.t3 n:ab.aM).toArray⟩,⟨(ab.f_ n:ab.aM).toArray⟩,(if ab.scope n.ay then none else bx),ch,rfl,rfl,fun _=>?_⟩;simp only[aU];have BN:=aD BM IK;refine kV (fun vs ls _=>vs=[.bool (ab.jy n),.string ⟨([]:ab.aM).toArray⟩,.int .u8 0,.int .i64 0,.int .i64 0,.int .u8 0,.string ⟨(ab.bZ n:ab.aM).toArray⟩,.string ⟨(ab.t3 n:ab.aM).toArray⟩,.string ⟨(ab.f_ n:ab.aM).toArray⟩,.bool (ab.ja n),.slice (if ab.scope n.ay then none else bx) (if ab.scope n.ay then 0 else n.vars.length) (if ab.scope n.ay then 0 else bA),.slice (if n.ay==14 then none else ch) (if n.ay==14 then 0 else n.bL.length) (if n.ay==14 then 0 else ck)]∧ls=[]) ?_ ?_
   ·refine aK (fun c=>?_) fun c=>?_
    ·have c:(n.ay==14)=true:=c;refine nL fun I a_ _=>?_
     have j:=aD BN a_.ext;have aH:=P4 n.bL 0 0 (0) 0 [] (ab.bZ n) (ab.t3 n) (ab.f_ n) ((ab.ja n)) ((if ab.scope n.ay then none else bx)) ch ((if ab.scope n.ay then 0 else n.vars.length)) ((if ab.scope n.ay then 0 else bA)) ck m1 _ (b7.ext j) (I _ (bd.2 rfl)) (fun h=>h.2 (bd.2 rfl)) EF (eD.w (ji.ext j));refine bK.mono aH fun e w' _ ⟨he,hm⟩=>?_
     subst he;refine⟨0,0,0,0,(if ab.scope n.ay then 0 else n.vars.length),(if ab.scope n.ay then 0 else bA),0,0,ab.hE id ab.name [] n.bL,(ab.ja n),⟨([]:ab.aM).toArray⟩,⟨(ab.bZ n:ab.aM).toArray⟩,⟨(ab.t3 n:ab.aM).toArray⟩,⟨(ab.f_ n:ab.aM).toArray⟩,(if ab.scope n.ay then none else bx),none,rfl,fun b eI=>by obtain rfl:=bd.1 eI;exact hm,fun W' _ x _=>b1 ⟨?_,rfl⟩⟩;have a7:ab.jy n=(ab.hE id ab.name [] n.bL&&ab.mf n):=if_pos c;have xp:(if n.ay==14 then none else ch)=none:=if_pos c;have xq:(if n.ay==14 then 0 else n.bL.length)=0:=if_pos c;have xr:(if n.ay==14 then 0 else ck)=0:=if_pos c;rw[a7,xp,xq,xr];rfl
    ·have c:(n.ay==14)=false:=c;refine b1 ⟨?_,rfl⟩;have a7:ab.jy n=(ab.mf n):=if_neg (fun h=>by rw[c] at h;cases h);have xp:(if n.ay==14 then none else ch)=ch:=if_neg (fun h=>by rw[c] at h;cases h);have xq:(if n.ay==14 then 0 else n.bL.length)=n.bL.length:=if_neg (fun h=>by rw[c] at h;cases h);have xr:(if n.ay==14 then 0 else ck)=ck:=if_neg (fun h=>by rw[c] at h;cases h);rw[a7,xp,xq,xr];rfl
   rintro _ _ uZ u8 ⟨rfl,rfl⟩;refine⟨0,0,0,0,(if ab.scope n.ay then 0 else n.vars.length),(if ab.scope n.ay then 0 else bA),(if n.ay==14 then 0 else n.bL.length),(if n.ay==14 then 0 else ck),ab.jy n,(ab.ja n),⟨([]:ab.aM).toArray⟩,⟨(ab.bZ n:ab.aM).toArray⟩,⟨(ab.t3 n:ab.aM).toArray⟩,⟨(ab.f_ n:ab.aM).toArray⟩,(if ab.scope n.ay then none else bx),(if n.ay==14 then none else ch),rfl,rfl,fun _=>?_⟩;simp only[aU];have agd:=aD BN u8;refine aK (fun c=>?_) fun c=>aP fun _ _ _=>⟨_,rfl,?_⟩
   ·have c:ab.jy n=true:=c;refine b5 (v:=.bool (ab.p8 n)) (fun _ _=>by rw[P8];exact P7 0 0 0 0 [] (ab.bZ n) (ab.t3 n) (ab.f_ n) (ab.ja n) (if ab.scope n.ay then none else bx) (if n.ay==14 then none else ch) (if ab.scope n.ay then 0 else n.vars.length) (if ab.scope n.ay then 0 else bA) (if n.ay==14 then 0 else n.bL.length) (if n.ay==14 then 0 else ck) uZ) ⟨ab.p8 n,rfl,fun fm eY=>?_⟩;simp only[aU];rw[eA,c,eX];refine aK (fun c2=>aP fun _ _ _=>⟨_,rfl,?_⟩) fun c2=>aP fun _ _ _=>⟨_,rfl,?_⟩
    ·have c2:(!ab.p8 n)=true:=c2;rw[if_neg (fun h=>by rw[h] at c2;cases c2)];rfl
    ·have c2:(!ab.p8 n)=false:=c2;rw[if_pos (by simpa using c2)];rfl
   ·have c:ab.jy n=false:=c;rw[eA,c];rfl
end Go.Proofs.YtkpjmlnhhggenaaGreatDoor
end
section
namespace ab
open Go
def km (f:hQ):Int:=if 100<f.cond.length then 40 else if(decide (f.dY<0)||decide (f.to<0))||(f.gN&&!(f.cond==[])) then 4 else 0
def fo {α:Type} (e:α->Int):List α->Int
 |[]=>0
 |x::l=>if e x=0 then fo e l else e x
theorem IL {α β:Type} (e:β->Int) (g:α->β):∀l:List α,fo e (l.map g)=fo (fun x=>e (g x)) l
 |[]=>rfl
 |x::l=>by simp only[ku,fo,IL e g l]
def jm (p:dR):Int:=
 if 40<p.ao.length∨80<p.bj.length then 40
 else if p.ao.length=0∨name p.aT=false then 4
 else if vars p.vars≠0 then vars p.vars
 else if fo gi p.ao≠0 then fo gi p.ao
 else fo km p.bj
end ab
namespace Go.Proofs.YtkpjmlnhhggenaaGreatDoor
open Go.Proofs.Tryz Go Go.RowKit Go.cK
structure d_ where
 n:ab.dM
 bx:Option Addr
 bA:Nat
 ch:Option Addr
 ck:Nat
abbrev dN (v:d_):List Value:=[gO v.n.aT,.int .u8 v.n.ay,.int .i64 v.n.bp,.int .i64 v.n.on,.int .u8 v.n.ev,gO v.n.key,gO v.n.ca,gO v.n.set,.bool v.n.cb,.slice v.bx v.n.vars.length v.bA,.slice v.ch v.n.bL.length v.ck]
theorem eO (v:d_):(dN v).length=11:=rfl
structure np (v:d_) (W:al):Prop where
 gQ:0<=v.n.ay
 b0:v.n.ay<256
 gX:v.n.vars.length<=1000000
 zh:v.n.bL.length<=1000000
 pv:∀x∈v.n.vars,n6 x
 vs:b_ W v.bx v.n.vars.length v.bA 4 (v.n.vars.flatMap e7)
 fY:b_ W v.ch v.n.bL.length v.ck 1 (lk v.n.bL)
theorem np.ext {v:d_} {W W':al} (h:np v W) (x:Ext W W'):np v W':=⟨h.gQ,h.b0,h.gX,h.zh,h.pv,h.vs.ext x,h.fY.ext x⟩
theorem iw:hr prog i_=some true:=by kernel_rfl
theorem ix:hK prog i_=some 11:=by kernel_rfl
abbrev ko (f:ab.hQ):List Value:=[.int .i64 f.dY,.int .i64 f.to,gO f.cond,.bool f.gN]
theorem rK (f:ab.hQ):(ko f).length=4:=rfl
theorem xt:hr prog 33=some true:=by kernel_rfl
theorem xu:hK prog 33=some 4:=by kernel_rfl
structure cP where
 aT:ab.aM
 vars:List ab.Var
 bx:Option Addr
 bA:Nat
 ao:List d_
 eL:Option Addr
 eF:Nat
 bj:List ab.hQ
 ea:Option Addr
 ef:Nat
def cP.av (p:cP):ab.dR:=⟨p.aT,p.vars,p.ao.map (·.n),p.bj⟩
abbrev gA (p:cP):List Value:=[gO p.aT,.slice p.bx p.vars.length p.bA,.slice p.eL p.ao.length p.eF,.slice p.ea p.bj.length p.ef]
theorem u7 (p:cP):(gA p).length=4:=rfl
structure fw (p:cP) (W:al):Prop where
 gX:p.vars.length<=1000000
 h6:p.ao.length<=1000000
 mU:p.bj.length<=1000000
 pv:∀x∈p.vars,n6 x
 fn:∀v∈p.ao,np v W
 vs:b_ W p.bx p.vars.length p.bA 4 (p.vars.flatMap e7)
 ns:b_ W p.eL p.ao.length p.eF 11 (p.ao.flatMap dN)
 fs:b_ W p.ea p.bj.length p.ef 4 (p.bj.flatMap ko)
theorem fw.ext {p:cP} {W W':al} (h:fw p W) (x:Ext W W'):fw p W':=
 ⟨h.gX,h.h6,h.mU,h.pv,fun v aB=>(h.fn v aB).ext x,h.vs.ext x,h.ns.ext x,h.fs.ext x⟩
theorem age (v:d_) (W:al) (h:np v W) (b7:iL W):da prog 48 #[.agg (dN v).toArray] W (.int .i64 (ab.gi v.n)):=
 agc v.n v.bx v.ch v.bA v.ck W h.gQ h.b0 h.gX h.zh h.pv (eD.w h.vs) (eD.w h.fY) b7
theorem agf (f:ab.hQ) (W:al):da prog 49 #[.agg (ko f).toArray] W (.int .i64 (ab.km f)):=by
 refine afR f.dY f.to f.gN ⟨f.cond.toArray⟩ W.all _ ?_;refine bY fun m W1 _ bM=>aK (fun aJ=>aP fun _ _ _=>⟨_,rfl,?_⟩) fun aJ=>aK (fun c2=>aP fun _ _ _=>⟨_,rfl,?_⟩) fun c2=>aP fun _ _ _=>⟨_,rfl,?_⟩
 ·simp only[U,lH,cX] at aJ;rw[ab.km,if_pos (by omega)];rfl
 ·simp only[U,lH,c7] at aJ;have c2:((decide (f.dY<0)||decide (f.to<0))||(f.gN&&!(f.cond==[])))=true:=c2;rw[ab.km,if_neg (by omega),if_pos c2];rfl
 ·simp only[U,lH,c7] at aJ;have c2:((decide (f.dY<0)||decide (f.to<0))||(f.gN&&!(f.cond==[])))=false:=c2;rw[ab.km,if_neg (by omega),if_neg (fun h=>by rw[c2] at h;cases h)];rfl
theorem agh (p:cP) (W:al) (hp:fw p W) (b7:iL W):da prog 21 #[.agg (gA p).toArray] W (.int .i64 (ab.jm p.av)):=by
 have b7:=b7.ext W.dw;have hp:=hp.ext W.dw;have h5:=hp.h6;have sA:=hp.mU;refine af4 p.vars.length p.bA p.ao.length p.eF p.bj.length p.ef ⟨p.aT.toArray⟩ p.bx p.eL p.ea W.all _ ?_;have a7:p.av.ao.length=p.ao.length:=mW ..;refine bY fun m0 W1 _ bM=>aK (fun aJ=>aP fun _ _ _=>⟨_,rfl,?_⟩) fun aJ=>aK (fun c2=>?_) fun c2=>aP fun _ _ _=>⟨_,rfl,?_⟩
 ·have aJ:40<p.av.ao.length∨80<p.av.bj.length:=by
   rw[a7];show _∨80<p.bj.length;simp only[U,h8,cX] at aJ;omega
  rw[ab.jm,if_pos aJ];rfl
 ·have aJ:¬(40<p.av.ao.length∨80<p.av.bj.length):=by
   rw[a7];show¬(_∨80<p.bj.length);simp only[U,k1,c7] at aJ;omega
  have c2:¬p.av.ao.length=0:=by
   rw[a7];simp only[U,hq,beq_eq_false_iff_ne,ne_eq] at c2;omega
  have eA:ab.jm p.av=if ab.name p.aT=false then 4 else if ab.vars p.vars≠0 then ab.vars p.vars else if ab.fo ab.gi p.av.ao≠0 then ab.fo ab.gi p.av.ao else ab.fo ab.km p.bj:=by
   rw[ab.jm,if_neg aJ]
   by_cases h:ab.name p.aT=false
   ·rw[if_pos (.inr h),if_pos h]
   ·rw[if_neg (fun an=>an.elim c2 h),if_neg h];rfl
  refine b5 (fun _ _=>w5 p.aT W1 (b7.ext bM)) ⟨ab.name p.aT,rfl,fun cn bH=>?_⟩;simp only[aU];have dG:=aD bM bH;refine aK (fun c3=>aP fun _ _ _=>⟨_,rfl,?_⟩) fun c3=>?_
  ·have c3:(!ab.name p.aT)=true:=c3;rw[eA,if_pos (by simpa using c3)];rfl
  ·have c3:(!ab.name p.aT)=false:=c3;rw[eA,if_neg (by simpa using c3)];refine b5 (fun _ _=>Pf p.vars p.bx p.bA cn hp.gX hp.pv (eD.w (hp.vs.ext dG)) (b7.ext dG)) ⟨ab.vars p.vars,rfl,fun cq bo=>?_⟩;simp only[aU];have eK:=aD dG bo;refine aK (fun c4=>aP fun _ _ _=>⟨_,rfl,?_⟩) fun c4=>?_
   ·have c4:(!(ab.vars p.vars==0))=true:=c4;rw[if_pos (by simpa using c4)];rfl
   ·have c4:(!(ab.vars p.vars==0))=false:=c4;rw[if_neg (by simpa using c4)];have bh:ab.fo ab.gi p.av.ao=ab.fo (fun v:d_=>ab.gi v.n) p.ao:=ab.IL ..;rw[bh];refine dJ (fun aj vs ls V=>∃i:Nat,vs=[.int .i64 (i:Nat)]∧ls=[]∧i<=p.ao.length∧aj=p.ao.length-i∧ab.fo (fun v:d_=>ab.gi v.n) p.ao=ab.fo (fun v:d_=>ab.gi v.n) (p.ao.drop i)) p.ao.length ⟨0,by simp[U],rfl,dr _,rfl,rfl⟩ ?_;rintro aj vs fG dH cd ⟨i,rfl,rfl,a8,rfl,bl⟩;have dO:=aD eK cd;refine⟨(i:Int),rfl,rfl,fun _=>aK (fun d1=>?_) fun d1=>?_⟩
    ·simp only[U,cX] at d1;have cp:i<p.ao.length:=by omega
     have j:p.ao[i]? =some p.ao[i]:=dn cp;have aB:=(hp.fn _ (h9 cp));rw[h4 cp] at bl;generalize p.ao[i]=v at j aB bl;refine a6 ?_ (a6 ?_ (cI ⟨v.n.ay,v.n.bp,v.n.on,v.n.ev,v.n.vars.length,v.bA,v.n.bL.length,v.ck,v.n.cb,⟨v.n.aT.toArray⟩,⟨v.n.key.toArray⟩,⟨v.n.ca.toArray⟩,⟨v.n.set.toArray⟩,v.bx,v.ch,fun dI cA=>?_,?_⟩))
     ·simp only[E.b,aR,aX.push];exact b_.dL hp.ns (by omega)
     ·simp only[U];exact c_ (by omega)
     ·have:=gh (P:=prog) eO (by decide) hp.ns iw ix j (aD dO cA);simp only[U,ff] at this ⊢;exact this
     ·simp only[aU];refine bY fun m1 dI _ cA=>bS fun cV bU=>?_
      have jk:=aD dO (aD cA bU);simp only[aU];have bg:=age v cV (aB.ext jk) (b7.ext jk);refine b5 (v:=.int .i64 (ab.gi v.n)) (fun _ _=>bg) ⟨ab.gi v.n,rfl,fun dQ df=>?_⟩;simp only[aU];refine aK (fun d2=>aP fun _ _ _=>⟨_,rfl,?_⟩) fun d2=>eC fun dX _ dK _ _=>b1 ⟨p.ao.length-(i+1),by omega,i+1,?_,rfl,by omega,rfl,?_⟩
      ·have d2:(!(ab.gi v.n==0))=true:=d2;have d2:¬ab.gi v.n=0:=by simpa using d2
       rw[bl,ab.fo,if_neg d2,if_pos d2];rfl
      ·simp only[U];rw[cE (by omega) (by omega)];rfl
      ·have d2:(!(ab.gi v.n==0))=false:=d2;have d2:ab.gi v.n=0:=by simpa using d2
       rw[bl,ab.fo,if_pos d2]
    ·simp only[U,c7] at d1;rw[fV (by omega)] at bl;rw[if_neg (by rw[bl];exact fun h=>h rfl)];refine dJ (fun aj vs ls V=>∃i:Nat,vs=[.int .i64 (i:Nat)]∧ls=[]∧i<=p.bj.length∧aj=p.bj.length-i∧ab.fo ab.km p.bj=ab.fo ab.km (p.bj.drop i)) p.bj.length ⟨0,by simp[U],rfl,dr _,rfl,rfl⟩ ?_;rintro aj vs fG dI cA ⟨k,rfl,rfl,aA,rfl,I⟩;have ej:=aD dO cA;refine⟨(k:Int),rfl,rfl,fun _=>aK (fun d3=>?_) fun d3=>aP fun _ _ _=>⟨_,rfl,?_⟩⟩
     ·simp only[U,cX] at d3;have e8:k<p.bj.length:=by omega
      have j:p.bj[k]? =some p.bj[k]:=dn e8;rw[h4 e8] at I;generalize p.bj[k]=f at j I;refine a6 ?_ (a6 ?_ (cI ⟨f.dY,f.to,f.gN,⟨f.cond.toArray⟩,fun cV bU=>?_,?_⟩))
      ·simp only[E.b,aR,aX.push];exact b_.dL hp.fs (by omega)
      ·simp only[U];exact c_ (by omega)
      ·have:=gh (P:=prog) rK (by decide) hp.fs xt xu j (aD ej bU);simp only[U,ff] at this ⊢;exact this
      ·simp only[aU];refine bY fun m1 cV _ bU=>bS fun dQ df=>?_
       simp only[aU];have bg:=agf f dQ;refine b5 (v:=.int .i64 (ab.km f)) (fun _ _=>bg) ⟨ab.km f,rfl,fun dX dK=>?_⟩;simp only[aU];refine aK (fun d4=>aP fun _ _ _=>⟨_,rfl,?_⟩) fun d4=>eC fun fm _ eY _ _=>b1 ⟨p.bj.length-(k+1),by omega,k+1,?_,rfl,by omega,rfl,?_⟩
       ·have d4:(!(ab.km f==0))=true:=d4;have d4:¬ab.km f=0:=by simpa using d4
        rw[I,ab.fo,if_neg d4];rfl
       ·simp only[U];rw[cE (by omega) (by omega)];rfl
       ·have d4:(!(ab.km f==0))=false:=d4;have d4:ab.km f=0:=by simpa using d4
        rw[I,ab.fo,if_pos d4]
     ·simp only[U,c7] at d3;rw[I,fV (by omega)];rfl
 ·have aJ:¬(40<p.av.ao.length∨80<p.av.bj.length):=by
   rw[a7];show¬(_∨80<p.bj.length);simp only[U,k1,c7] at aJ;omega
  have c2:p.av.ao.length=0:=by
   rw[a7];simp only[U,kt,beq_iff_eq] at c2;omega
  rw[ab.jm,if_neg aJ,if_pos (.inl c2)];rfl
end Go.Proofs.YtkpjmlnhhggenaaGreatDoor
end
section
namespace au
open Go ab
def agi:dM:=⟨[],0,0,0,0,[],[],[],false,[],[]⟩
def dc (p:dR) (i:Nat):dM:=p.ao.getD i agi
def dS (p:dR) (n:Nat):Int:=if decide (0<=(dc p n).bp)&&decide ((dc p n).bp<(n:Int)) then(dc p n).bp else-1
theorem nQ (p:dR) (n:Nat):dS p n<n:=by
 unfold dS;split
 ·rename_i h;simp at h;omega
 ·omega
theorem sB (p:dR) (n:Nat): -1<=dS p n:=by
 unfold dS;split
 ·rename_i h;simp at h;omega
 ·omega
def kind (p:dR) (s:Int):Int:=if s<0 then 0 else(dc p s.toNat).ay
def gd (n:dM) (k:Int):Bool:=n.ay==k&&n.ev==6
def oP (p:dR):Nat->Int->List Var
 |0,_=>[]
 |k+1,at'=>if 0<=at' then(dc p at'.toNat).vars++oP p k (dS p at'.toNat) else []
theorem P_ (p:dR):∀(k dA:Nat) (at':Int),at'<k->at'<dA->oP p k at'=oP p dA at'
 |0,0,_,_,_=>rfl
 |0,dA+1,a,h,_=>by rw[oP,oP,if_neg (by omega)]
 |k+1,0,a,_,h=>by rw[oP,oP,if_neg (by omega)]
 |k+1,dA+1,a,h,hl=>by
  rw[oP,oP]
  by_cases bl:0<=a
  ·rw[if_pos bl,if_pos bl,P_ p k dA _ (by have:=nQ p a.toNat;omega) (by have:=nQ p a.toNat;omega)]
  ·rw[if_neg bl,if_neg bl]
def hT (p:dR) (at':Int):List Var:=oP p (at'.toNat+1) at'
theorem BO (p:dR) {at':Int} (h:0<=at'):hT p at'=(dc p at'.toNat).vars++hT p (dS p at'.toNat):=by
 rw[hT,oP,if_pos h,hT];congr 1;exact P_ p _ _ _ (by have:=nQ p at'.toNat;omega) (by omega)
theorem xv (p:dR) {at':Int} (h:at'<0):hT p at'=[]:=by rw[hT,oP,if_neg (by omega)]
def fQ (p:dR) (n:Int):List Var:=
 (if decide (0<=n)&&decide (n<(p.ao.length:Int)) then
  if(dc p n.toNat).ay==12 then(dc p n.toNat).vars++hT p (dS p n.toNat)
  else if(dc p n.toNat).ay==1 then
   if kind p (dS p n.toNat)==13 then hT p (dS p (dS p n.toNat).toNat) else hT p (dS p n.toNat)
  else hT p (dS p n.toNat)
 else [])++p.vars
def gY {α:Type} (f:Nat->α->Bool):Nat->List α->Bool
 |_,[]=>true
 |i,x::l=>f i x&&gY f (i+1) l
def rL (p:dR) (i:Nat) (n:dM):Bool:=
 !((p.ao.take i).any fun m=>m.aT==n.aT)&&((n.bp==dS p i)&&(!(decide (0<=n.bp))||scope (dc p n.bp.toNat).ay))
def bound (p:dR) (n:dM):Bool:=
 !(n.ay==15)||(decide (n.on<(p.ao.length:Int))&&(act (dc p n.on.toNat).ay&&(dc p n.on.toNat).bp==n.bp))
def ho (p:dR):Bool:=gY (rL p) 0 p.ao&&p.ao.all (bound p)
def apart (n:dM):Bool:=n.ay==15||n.ay==13
def u9 (p:dR) (cr to:List Int) (i:Nat) (n:dM):Bool:=
 kind p n.bp==12||
  (!(((to.getD i 0==0&&!apart n)&&!(n.ay==1))&&!gd n 6)&&!(((cr.getD i 0==0&&!apart n)&&!(n.ay==2))&&!gd n 5))
def sC (p:dR) (cr to:List Int):Bool:=gY (u9 p cr to) 0 p.ao
def fits (n m:dM):Bool:=(gd m 6&&m.bp==n.bp)&&m.key==n.key
def tK (p:dR):Bool:=p.ao.all fun n=>!gd n 5||(p.ao.countP (fits n)==1)
end au
end
section
namespace Go.Proofs.YtkpjmlnhhggenaaGreatDoor
open Go.Proofs.Tryz Go Go.RowKit Go.cK
abbrev IM:af:=(.agg [ag 6,aL 7,aq 8,aq 9,aL 10,ag 7,ag 8,ag 9,ba 2,ai 12 22 23,ai 13 24 25])
abbrev Qa:b4:=⟨2,25,[ag 5,aL 7,aq 8,aq 9,aL 10,ag 6,ag 7,ag 8,ba 2,ai 8 16 17,ai 9 18 19]⟩
abbrev EH:b4:=⟨1,25,[ag 1,aL 1,aq 2,aq 3,aL 4,ag 2,ag 3,ag 4,ba 0,ai 6 12 13,ai 7 14 15]⟩
abbrev IN:af:=(.agg [ag 2,aL 3,aq 4,aq 5,aL 6,ag 3,ag 4,ag 5,ba 1,ai 10 18 19,ai 11 20 21])
abbrev Qb:b4:=⟨1,25,[ag 1,aL 2,aq 3,aq 4,aL 5,ag 2,ag 3,ag 4,ba 0,ai 7 14 15,ai 8 16 17]⟩
abbrev EI:b4:=⟨2,25,[ag 2,aL 3,aq 4,aq 5,aL 6,ag 3,ag 4,ag 5,ba 1,ai 8 15 16,ai 9 17 18]⟩
abbrev Qc:af:=(.agg [ag 5,aL 7,aq 8,aq 9,aL 10,ag 6,ag 7,ag 8,ba 2,ai 8 16 17,ai 9 18 19])
abbrev u_:af:=(.agg [ag 1,aL 1,aq 2,aq 3,aL 4,ag 2,ag 3,ag 4,ba 0,ai 6 12 13,ai 7 14 15])
abbrev Qd:b4:=⟨0,25,[ag 4,aL 4,aq 5,aq 6,aL 7,ag 5,ag 6,ag 7,ba 1,ai 2 4 5,ai 3 6 7]⟩
abbrev zi:b4:=⟨0,25,[ag 0,aL 0,aq 1,aq 2,aL 3,ag 1,ag 2,ag 3,ba 0,ai 1 2 3,ai 2 4 5]⟩
abbrev IP:af:=(.agg [ag 0,aL 0,aq 1,aq 2,aL 3,ag 1,ag 2,ag 3,ba 0,ai 0 0 1,ai 1 2 3])
abbrev Qe:af:=(.agg [ag 4,aL 5,aq 6,aq 7,aL 8,ag 5,ag 6,ag 7,ba 1,ai 3 6 7,ai 4 8 9])
abbrev Qf:af:=(.agg [ag 0,aL 1,aq 2,aq 3,aL 4,ag 1,ag 2,ag 3,ba 0,ai 1 2 3,ai 2 4 5])
abbrev Qg:b4:=⟨0,71,[ai 0 0 1,ag 0,ai 1 2 3,ai 2 4 5,ai 3 6 7,ai 8 14 15,ai 9 16 17]⟩
abbrev hF:b4:=⟨0,71,[ai 0 0 1,ag 0,ai 1 2 3,ai 2 4 5,ai 3 6 7,ai 4 8 9,ai 5 10 11]⟩
abbrev Qh:af:=(.agg [ag 2,ai 6 12 13,ai 7 14 15,ai 8 16 17])
abbrev Qi:b3:=⟨(.bt 7 (bX (aG 9) (aG 11)) (aG 13)),(bX (aG 9) (aG 11)),41,4,[.l 1,.l 2]⟩
abbrev rM:af:=(.agg [ag 0,ai 0 0 1,ai 1 2 3,ai 2 4 5])
abbrev zj:b3:=⟨(.bt 5 (bX (aG 6) (aG 8)) (aG 10)),(bX (aG 6) (aG 8)),41,4,[.l 0,.l 1]⟩
abbrev EJ:af:=(.agg [ag 0,ai 1 2 3,ai 2 4 5,ai 3 6 7])
abbrev Qj:af:=(.agg [ag 1,ai 1 2 3,ai 2 4 5,ai 3 6 7])
abbrev zk:b4:=⟨1,33,[aq 1,aq 2,ag 1,ba 0]⟩
abbrev agj:Tree:=(.aC (cL (bQ (ah 0) (ae 1)) (bO (ae 1) (ae 0))) (.ret (aq 1) [] [] []) (.ret (bI (-1)) [] [] []))
abbrev Qk:Tree:=
(.new (.a1 (.sm 1) (.a1 (bQ (ah 0) (ae 0)) (.a1 (bO (ae 0) (aG 2)) (.cl 3 (.b6 1 (ae 0) 11 2) (aq 1) cg agj)))))
theorem agk:cN prog cW f45 [rM,aq 0] [] [] tu=some Qk:=by kernel_rfl
theorem agl (i0:Int) (ar aQ bz bJ cH cM:Nat) (t0:ByteArray) (a0 bn a2:Option Addr) (W:al) (R:Ending->World->Prop) (h:Qk.ak prog W.w.heap.size R [] {aV:=[i0],N:=[ar,aQ,bz,bJ,cH,cM],T:=[t0],A:=[a0,bn,a2]} W):bK prog 45 #[.agg #[.string t0,.slice a0 ar aQ,.slice bn bz bJ,.slice a2 cH cM],.int .i64 i0] W R:=
 dP func45 _ _ {aV:=[i0],N:=[ar,aQ,bz,bJ,cH,cM],T:=[t0],A:=[a0,bn,a2]} _ agk (fun v aB=>by cases aB) h
abbrev agm:Tree:=(.a1 (.sm 1) (.a1 (bQ (ah 0) (ae 0)) (.a1 (bO (ae 0) (aG 2)) (.cl 5 (.b6 1 (ae 0) 11 1) (aL 1) cg (.ret (aL 1) [] [] [])))))
abbrev Ql:Tree:=
(.new (.aC (bO (ae 0) (ah 0)) (.ret (di 0) [] [] []) agm))
theorem agn:cN prog cW f46 [rM,aq 0] [] [] tu=some Ql:=by kernel_rfl
theorem ago (i0:Int) (ar aQ bz bJ cH cM:Nat) (t0:ByteArray) (a0 bn a2:Option Addr) (W:al) (R:Ending->World->Prop) (h:Ql.ak prog W.w.heap.size R [] {aV:=[i0],N:=[ar,aQ,bz,bJ,cH,cM],T:=[t0],A:=[a0,bn,a2]} W):bK prog 46 #[.agg #[.string t0,.slice a0 ar aQ,.slice bn bz bJ,.slice a2 cH cM],.int .i64 i0] W R:=
 dP func46 _ _ {aV:=[i0],N:=[ar,aQ,bz,bJ,cH,cM],T:=[t0],A:=[a0,bn,a2]} _ agn (fun v aB=>by cases aB) h
abbrev agp:Tree:=(.again 0 [(.bt 7 (bX (aG 9) (aG 11)) (aG 13)),aq 4] [Qi])
abbrev agq:Tree:=(.a1 (bQ (bX (aG 9) (aG 11)) (ah 2932031007402)) (.cells 6 (aG 11) (aG 12) 4 [⟨ai 5 9 10,aG 9,41,4,[.l 1]⟩] (.eu (bX (aG 9) (aG 11)) (.call 45 [rM,aq 3] [] [Qi] [] (aq 4) cg agp))))
abbrev agr:Tree:=(.a1 (bO (ae 3) (aG 2)) (.cl 22 (.b6 1 (ae 3) 11 9) (ai 6 11 12) ga agq))
abbrev ags:Tree:=(.a1 (bQ (bX (aG 9) (aG 0)) (ah 2932031007402)) (.cells 0 (aG 0) (aG 1) 4 [⟨ai 5 9 10,aG 9,41,4,[.l 1]⟩] (.eu (bX (aG 9) (aG 0)) (.ret (.bt 6 (bX (aG 9) (aG 0)) (aG 11)) [] [] [⟨(.bt 6 (bX (aG 9) (aG 0)) (aG 11)),(bX (aG 9) (aG 0)),41,4,[.l 1,.l 2]⟩]))))
abbrev agt:Tree:=(.a1 (bQ (aG 6) (ah 2932031007402)) (.cells 3 (aG 6) (aG 7) 4 [] (.eu (aG 6) (.loop [ai 4 6 8,aq 1] [⟨ai 4 6 8,aG 6,41,4,[.l 0]⟩] [ai 5 9 10,aq 3] [⟨ai 5 9 10,aG 9,41,4,[.l 1]⟩] pX (.aC (bQ (ah 0) (ae 3)) agr ags)))))
abbrev agu:Tree:=(.cl 22 (.b6 1 (ae 0) 11 9) (ai 3 6 7) ga agt)
abbrev agv:Tree:=(.again 0 [(.bt 5 (bX (aG 6) (aG 8)) (aG 10)),aq 6] [zj])
abbrev agw:Tree:=(.a1 (bQ (bX (aG 6) (aG 8)) (ah 2932031007402)) (.cells 4 (aG 8) (aG 9) 4 [⟨ai 3 6 7,aG 6,41,4,[.l 0]⟩] (.eu (bX (aG 6) (aG 8)) (.call 45 [rM,aq 5] [] [zj] [] (aq 6) cg agv))))
abbrev agx:Tree:=(.a1 (bO (ae 5) (aG 2)) (.cl 22 (.b6 1 (ae 5) 11 9) (ai 4 8 9) ga agw))
abbrev IQ:Tree:=(.a1 (bQ (bX (aG 6) (aG 0)) (ah 2932031007402)) (.cells 0 (aG 0) (aG 1) 4 [⟨ai 3 6 7,aG 6,41,4,[.l 0]⟩] (.eu (bX (aG 6) (aG 0)) (.ret (.bt 4 (bX (aG 6) (aG 0)) (aG 8)) [] [] [⟨(.bt 4 (bX (aG 6) (aG 0)) (aG 8)),(bX (aG 6) (aG 0)),41,4,[.l 0,.l 1]⟩]))))
abbrev agy:Tree:=(.loop [.db,aq 4] [⟨.db,ah 0,41,4,[]⟩] [ai 3 6 7,aq 5] [⟨ai 3 6 7,aG 6,41,4,[.l 0]⟩] pX (.aC (bQ (ah 0) (ae 5)) agx IQ))
abbrev agz:Tree:=(.call 45 [rM,aq 1] [] [] [] (aq 4) cg agy)
abbrev agA:Tree:=(.again 0 [(.bt 5 (bX (aG 6) (aG 8)) (aG 10)),aq 5] [zj])
abbrev agB:Tree:=(.a1 (bQ (bX (aG 6) (aG 8)) (ah 2932031007402)) (.cells 4 (aG 8) (aG 9) 4 [⟨ai 3 6 7,aG 6,41,4,[.l 0]⟩] (.eu (bX (aG 6) (aG 8)) (.call 45 [rM,aq 4] [] [zj] [] (aq 5) cg agA))))
abbrev agC:Tree:=(.a1 (bO (ae 4) (aG 2)) (.cl 22 (.b6 1 (ae 4) 11 9) (ai 4 8 9) ga agB))
abbrev agD:Tree:=(.loop [.db,aq 1] [⟨.db,ah 0,41,4,[]⟩] [ai 3 6 7,aq 4] [⟨ai 3 6 7,aG 6,41,4,[.l 0]⟩] pX (.aC (bQ (ah 0) (ae 4)) agC IQ))
abbrev agE:Tree:=(.call 46 [rM,aq 1] [] [] [] (aL 3) cg (.aC (aZ (ae 3) (ah 13)) agz agD))
abbrev agF:Tree:=(.again 0 [(.bt 5 (bX (aG 6) (aG 8)) (aG 10)),aq 4] [zj])
abbrev agG:Tree:=(.a1 (bQ (bX (aG 6) (aG 8)) (ah 2932031007402)) (.cells 4 (aG 8) (aG 9) 4 [⟨ai 3 6 7,aG 6,41,4,[.l 0]⟩] (.eu (bX (aG 6) (aG 8)) (.call 45 [rM,aq 3] [] [zj] [] (aq 4) cg agF))))
abbrev agH:Tree:=(.a1 (bO (ae 3) (aG 2)) (.cl 22 (.b6 1 (ae 3) 11 9) (ai 4 8 9) ga agG))
abbrev agI:Tree:=(.loop [.db,aq 1] [⟨.db,ah 0,41,4,[]⟩] [ai 3 6 7,aq 3] [⟨ai 3 6 7,aG 6,41,4,[.l 0]⟩] pX (.aC (bQ (ah 0) (ae 3)) agH IQ))
abbrev agJ:Tree:=(.aC (aZ (ae 2) (ah 12)) agu (.aC (aZ (ae 2) (ah 1)) agE agI))
abbrev agK:Tree:=(.a1 (.sm 1) (.cl 5 (.b6 1 (ae 0) 11 1) (aL 2) cg agJ))
abbrev agL:Tree:=(.call 45 [rM,aq 0] [] [] [] (aq 1) cg agK)
abbrev agM:Tree:=(.a1 (bQ (aG 0) (ah 2932031007402)) (.cells 0 (aG 0) (aG 1) 4 [] (.eu (aG 0) (.ret (ai 3 0 6) [] [] [⟨ai 3 0 6,aG 0,41,4,[.l 0]⟩]))))
abbrev Qm:Tree:=
(.new (.aC (cL (bQ (ah 0) (ae 0)) (bO (ae 0) (aG 2))) agL agM))
theorem agN:cN prog {cW with ei:=[⟨9,[.row 5 22,.az 6]⟩]} f18 [rM,aq 0] [] [] tu=some Qm:=by kernel_rfl
theorem agO (i0:Int) (ar aQ bz bJ cH cM:Nat) (t0:ByteArray) (a0 bn a2:Option Addr) (W:al) (R:Ending->World->Prop) (h:Qm.ak prog W.w.heap.size R [] {aV:=[i0],N:=[ar,aQ,bz,bJ,cH,cM],T:=[t0],A:=[a0,bn,a2]} W):bK prog 18 #[.agg #[.string t0,.slice a0 ar aQ,.slice bn bz bJ,.slice a2 cH cM],.int .i64 i0] W R:=
 dP func18 _ _ {aV:=[i0],N:=[ar,aQ,bz,bJ,cH,cM],T:=[t0],A:=[a0,bn,a2]} _ agN (fun v aB=>by cases aB) h
abbrev Qn:Tree:=
(.new (.ret (.bool (cL (aZ (ae 0) (ae 4)) (aZ (ae 3) (ah 6)))) [] [] []))
theorem agP:cN prog cW f63 [IP,aL 4] [] [] ⟨5,4,1,4,0,2,0,0⟩=some Qn:=by kernel_rfl
theorem agQ (i0 i1 i2 i3 i4:Int) (ar aQ bz bJ:Nat) (cm:Bool) (t0 t1 t2 t3:ByteArray) (a0 bn:Option Addr) (W:al) (R:Ending->World->Prop) (h:Qn.ak prog W.w.heap.size R [] {aV:=[i0,i1,i2,i3,i4],N:=[ar,aQ,bz,bJ],B:=[cm],T:=[t0,t1,t2,t3],A:=[a0,bn]} W):bK prog 63 #[.agg #[.string t0,.int .u8 i0,.int .i64 i1,.int .i64 i2,.int .u8 i3,.string t1,.string t2,.string t3,.bool cm,.slice a0 ar aQ,.slice bn bz bJ],.int .u8 i4] W R:=
 dP func63 _ _ {aV:=[i0,i1,i2,i3,i4],N:=[ar,aQ,bz,bJ],B:=[cm],T:=[t0,t1,t2,t3],A:=[a0,bn]} _ agP (fun v aB=>by cases aB) h
abbrev Qo:Tree:=
(.new (.ret (.bool (eW (b9 0) (b9 4))) [] [] []))
theorem agR:cN prog cW f61 [IP,.ptr 0 0] [] [Qd] ⟨8,8,2,8,0,4,1,0⟩=some Qo:=by kernel_rfl
theorem agS (i0 i1 i2 i3 i4 i5 i6 i7:Int) (ar aQ bz bJ cH cM e0 e1:Nat) (cm fk:Bool) (t0 t1 t2 t3 t4 t5 t6 t7:ByteArray) (a0 bn a2 a3:Option Addr) (m0:Nat) (W:al) (R:Ending->World->Prop) (fi:W.w.heap[m0]? =some (.cells #[.string t4,.int .u8 i4,.int .i64 i5,.int .i64 i6,.int .u8 i7,.string t5,.string t6,.string t7,.bool fk,.slice a2 cH cM,.slice a3 e0 e1] 25)) (fP:W.aV m0) (h:Qo.ak prog W.w.heap.size R [] {aV:=[i0,i1,i2,i3,i4,i5,i6,i7],N:=[ar,aQ,bz,bJ,cH,cM,e0,e1],B:=[cm,fk],T:=[t0,t1,t2,t3,t4,t5,t6,t7],A:=[a0,bn,a2,a3],M:=[m0]} W):bK prog 61 #[.agg #[.string t0,.int .u8 i0,.int .i64 i1,.int .i64 i2,.int .u8 i3,.string t1,.string t2,.string t3,.bool cm,.slice a0 ar aQ,.slice bn bz bJ],.pointer (some ⟨m0,0,none⟩)] W R:=
 kf func61 _ _ [Qd] {aV:=[i0,i1,i2,i3,i4,i5,i6,i7],N:=[ar,aQ,bz,bJ,cH,cM,e0,e1],B:=[cm,fk],T:=[t0,t1,t2,t3,t4,t5,t6,t7],A:=[a0,bn,a2,a3],M:=[m0]} _ agR (fun v aB=>by cases aB) (fun b I=>by simp only[dh,eT,or_false] at I;rcases I with rfl<;>(first|exact fi)) (fun b I=>by simp only[dh,eT,or_false] at I;rcases I with rfl<;>(first|exact fP)) h
abbrev agT:Tree:=(.aC (cG 2) (.ret (aq 4) [] [] []) (.again 0 [(.int .i64 (.un (.wrap .i64) (bX (ae 4) (ah 1))))] []))
abbrev agU:Tree:=(.call 61 [Qe,.ptr 0 0] [zi] [] [] (ba 2) dv agT)
abbrev agV:Tree:=(.a1 (.sm 0) (.a1 (bQ (ah 0) (ae 4)) (.cl 25 (.b6 0 (ae 4) 11 0) Qe gL agU)))
abbrev Qp:Tree:=
(.loop [bI 0] [] [aq 4] [] cg (.aC (bO (ae 4) (aG 0)) agV (.ret (bI (-1)) [] [] [])))
theorem agW:cN prog {cW with ei:=[⟨2,[.az 8]⟩]} f117 [ai 0 0 1,(.fn 61 [.ptr 0 0])] [] [zi] ⟨4,6,1,4,0,3,1,0⟩=some Qp:=by kernel_rfl
theorem agX (i0 i1 i2 i3:Int) (ar aQ bz bJ cH cM:Nat) (cm:Bool) (t0 t1 t2 t3:ByteArray) (a0 bn a2:Option Addr) (m0:Nat) (W:al) (R:Ending->World->Prop) (fi:W.w.heap[m0]? =some (.cells #[.string t0,.int .u8 i0,.int .i64 i1,.int .i64 i2,.int .u8 i3,.string t1,.string t2,.string t3,.bool cm,.slice bn bz bJ,.slice a2 cH cM] 25)) (fP:W.aV m0) (h:Qp.ak prog W.w.heap.size R [] {aV:=[i0,i1,i2,i3],N:=[ar,aQ,bz,bJ,cH,cM],B:=[cm],T:=[t0,t1,t2,t3],A:=[a0,bn,a2],M:=[m0]} W):bK prog 117 #[.slice a0 ar aQ,.func (.func 61) #[] #[.pointer (some ⟨m0,0,none⟩)]] W R:=
 kf func117 _ _ [zi] {aV:=[i0,i1,i2,i3],N:=[ar,aQ,bz,bJ,cH,cM],B:=[cm],T:=[t0,t1,t2,t3],A:=[a0,bn,a2],M:=[m0]} _ agW (fun v aB=>by cases aB) (fun b I=>by simp only[dh,eT,or_false] at I;rcases I with rfl<;>(first|exact fi)) (fun b I=>by simp only[dh,eT,or_false] at I;rcases I with rfl<;>(first|exact fP)) h
abbrev Qq:Tree:=
(.call 117 [ai 0 0 1,(.fn 61 [.ptr 0 0])] [zi] [] [] (aq 4) cg (.ret (.bool (bQ (ah 0) (ae 4))) [] [] []))
theorem agY:cN prog cW f60 [ai 0 0 1,(.fn 61 [.ptr 0 0])] [] [zi] ⟨4,6,1,4,0,3,1,0⟩=some Qq:=by kernel_rfl
theorem agZ (i0 i1 i2 i3:Int) (ar aQ bz bJ cH cM:Nat) (cm:Bool) (t0 t1 t2 t3:ByteArray) (a0 bn a2:Option Addr) (m0:Nat) (W:al) (R:Ending->World->Prop) (fi:W.w.heap[m0]? =some (.cells #[.string t0,.int .u8 i0,.int .i64 i1,.int .i64 i2,.int .u8 i3,.string t1,.string t2,.string t3,.bool cm,.slice bn bz bJ,.slice a2 cH cM] 25)) (fP:W.aV m0) (h:Qq.ak prog W.w.heap.size R [] {aV:=[i0,i1,i2,i3],N:=[ar,aQ,bz,bJ,cH,cM],B:=[cm],T:=[t0,t1,t2,t3],A:=[a0,bn,a2],M:=[m0]} W):bK prog 60 #[.slice a0 ar aQ,.func (.func 61) #[] #[.pointer (some ⟨m0,0,none⟩)]] W R:=
 kf func60 _ _ [zi] {aV:=[i0,i1,i2,i3],N:=[ar,aQ,bz,bJ,cH,cM],B:=[cm],T:=[t0,t1,t2,t3],A:=[a0,bn,a2],M:=[m0]} _ agY (fun v aB=>by cases aB) (fun b I=>by simp only[dh,eT,or_false] at I;rcases I with rfl<;>(first|exact fi)) (fun b I=>by simp only[dh,eT,or_false] at I;rcases I with rfl<;>(first|exact fP)) h
abbrev EK:Tree:=(.ret (cY false) [hF] [] [])
abbrev Qr:Tree:=(.eM [EH] (.again 0 [(.int .i64 (.un (.wrap .i64) (bX (ae 0) (ah 1))))] []))
abbrev ag0:Tree:=(.jZ 17 [aL 6] [] [] (ba 2) dv (.grow (.aC (bR (cG 2)) EK Qr)))
abbrev ag1:Tree:=(.a1 (bW (bR (cL (aZ (ae 2) (ae 5)) (bQ (ah 0) (ae 2)))) (bQ (ah 0) (ae 2))) (.a1 (bW (bR (cL (aZ (ae 2) (ae 5)) (bQ (ah 0) (ae 2)))) (bO (ae 2) (aG 4))) (.aC (cL (aZ (ae 2) (ae 5)) (bQ (ah 0) (ae 2))) (.cl 5 (.b6 2 (ae 2) 11 1) (aL 6) cg ag0) (.grow (.aC (bR (aZ (ae 2) (ae 5))) EK Qr)))))
abbrev ag2:Tree:=(.jZ 45 [EJ,aq 0] [] [] (aq 5) cg ag1)
abbrev ag3:Tree:=(.new (.wr (.a1 (bQ (ae 0) (aG 5)) (.sub 2 (ah 0) (ae 0) (aG 5) 11 (.call 60 [ai 8 16 5,(.fn 61 [.ptr 1 0])] [EH] [] [] (ba 1) dv (.aC (cG 1) EK ag2))))))
abbrev ag4:Tree:=(.a1 (.sm 2) (.a1 (bQ (ah 0) (ae 0)) (.cl 25 (.b6 2 (ae 0) 11 0) u_ gL ag3)))
abbrev Qs:Tree:=(.eM [⟨1,25,[ag 1,aL 2,aq 3,aq 4,aL 5,ag 2,ag 3,ag 4,ba 0,ai 6 12 13,ai 7 14 15]⟩] (.again 1 [(.int .i64 (.un (.wrap .i64) (bX (ae 1) (ah 1))))] []))
abbrev ag5:Tree:=(.cl 3 (.b6 2 (ae 4) 11 2) (aq 7) cg (.grow (.aC (bR (aZ (ae 7) (ae 3))) EK Qs)))
abbrev Qt:Tree:=(.grow (.ret (cY false) [hF] [] []))
abbrev ag6:Tree:=(.jZ 62 [aL 6] [] [] (ba 1) dv (.aC (cG 1) ag5 Qt))
abbrev ag7:Tree:=(.a1 (bW (bQ (aG 4) (ae 4)) (bQ (ah 0) (ae 4))) (.a1 (bW (bQ (aG 4) (ae 4)) (bO (ae 4) (aG 4))) (.aC (bR (bQ (aG 4) (ae 4))) (.cl 5 (.b6 2 (ae 4) 11 1) (aL 6) cg ag6) Qt)))
abbrev ag8:Tree:=(.a1 (.sm 2) (.a1 (bQ (ah 0) (ae 1)) (.cl 25 (.b6 2 (ae 1) 11 0) (.agg [ag 1,aL 2,aq 3,aq 4,aL 5,ag 2,ag 3,ag 4,ba 0,ai 6 12 13,ai 7 14 15]) gL (.new (.wr (.aC (bR (aZ (ae 2) (ah 15))) Qs ag7))))))
abbrev ag9:Tree:=(.ret (cY true) [hF] [] [])
abbrev ag_:Tree:=(.loop [bI 0] [] [aq 1] [] cg (.aC (bO (ae 1) (aG 4)) ag8 ag9))
abbrev Qu:Tree:=
(.loop [bI 0] [] [aq 0] [] cg (.aC (bO (ae 0) (aG 4)) ag4 ag_))
theorem aha:cN prog {cW with ei:=[⟨2,[.az 13]⟩,⟨10,[.az 62]⟩]} f28 [.ptr 0 0] [hF] [] y1=some Qu:=by kernel_rfl
theorem ahb (ar aQ bz bJ cH cM e0 e1 gG hD hU hG:Nat) (t0:ByteArray) (a0 bn a2 a3 a4 a5:Option Addr) (m0:Nat) (W:al) (R:Ending->World->Prop) (hm:W.w.heap[m0]? =some (.cells #[.slice a0 ar aQ,.string t0,.slice bn bz bJ,.slice a2 cH cM,.slice a3 e0 e1,.slice a4 gG hD,.slice a5 hU hG] 71)) (bf:¬W.aV m0) (h:Qu.ak prog W.w.heap.size R [] {N:=[ar,aQ,bz,bJ,cH,cM,e0,e1,gG,hD,hU,hG],T:=[t0],A:=[a0,bn,a2,a3,a4,a5],M:=[m0]} W):bK prog 28 #[.pointer (some ⟨m0,0,none⟩)] W R:=
 mm func28 _ _ [hF] {N:=[ar,aQ,bz,bJ,cH,cM,e0,e1,gG,hD,hU,hG],T:=[t0],A:=[a0,bn,a2,a3,a4,a5],M:=[m0]} _ aha (fun v aB=>by cases aB) (fun b I=>by simp only[bd] at I;subst I;exact hm) (fun b I=>by simp only[bd] at I;subst I;exact bf) (jE _ _) h
abbrev xw:Tree:=(.ret (cY false) [Qg] [] [⟨ai 9 16 17,aG 16,3,1,[.l 1]⟩,⟨ai 8 14 15,aG 14,3,1,[.l 0]⟩])
abbrev ahc:Tree:=(.eM [⟨3,25,[ag 6,aL 7,aq 8,aq 9,aL 10,ag 7,ag 8,ag 9,ba 2,ai 12 22 23,ai 13 24 25]⟩,⟨2,25,[ag 2,aL 3,aq 4,aq 5,aL 6,ag 3,ag 4,ag 5,ba 1,ai 10 18 19,ai 11 20 21]⟩,zk] (.again 0 [(.int .i64 (.un (.wrap .i64) (bX (ae 0) (ah 1)))),ai 8 14 15,ai 9 16 17] [⟨ai 8 14 15,aG 14,3,1,[.l 2]⟩,⟨ai 9 16 17,aG 16,3,1,[.l 3]⟩]))
abbrev ahd:Tree:=(.a1 (.sm 9) (.a1 (bO (ae 2) (aG 16)) (.j1 3 (.b6 9 (ae 2) 1 0) (aq 12) ⟨ai 9 16 17,aG 16,3,1,[.l 1]⟩ cg (.grow (.j0 [.l 1] (ae 2) 0 1 [(.int .i64 (.un (.wrap .i64) (bX (ae 12) (ah 1))))] ahc)))))
abbrev ahe:Tree:=(.a1 (.sm 8) (.a1 (bO (ae 1) (aG 14)) (.j1 3 (.b6 8 (ae 1) 1 0) (aq 11) ⟨ai 8 14 15,aG 14,3,1,[.l 0]⟩ cg (.grow (.j0 [.l 0] (ae 1) 0 1 [(.int .i64 (.un (.wrap .i64) (bX (ae 11) (ah 1))))] ahd)))))
abbrev ahf:Tree:=(.call 63 [IN,di 5] [] [⟨ai 9 16 17,aG 16,3,1,[.l 1]⟩,⟨ai 8 14 15,aG 14,3,1,[.l 0]⟩] [] (ba 4) dv (.aC (cG 4) xw ahe))
abbrev ahg:Tree:=(.aC (bR (bW (bW (bW (bR (aZ (ae 4) (ae 8))) (cG 3)) (aZ (ae 3) (ah 2))) (aZ (ae 3) (ah 13)))) ahf xw)
abbrev ahh:Tree:=(.call 63 [IM,di 6] [] [⟨ai 9 16 17,aG 16,3,1,[.l 1]⟩,⟨ai 8 14 15,aG 14,3,1,[.l 0]⟩] [] (ba 3) dv ahg)
abbrev ahi:Tree:=(.grow (.new (.grow (.new (.grow (.wr (.grow (.wr (.aC (bR (bW (bW (aZ (ae 7) (ah 1)) (aZ (ae 7) (ah 15))) (aZ (ae 7) (ah 13)))) ahh xw)))))))))
abbrev ahj:Tree:=(.eM [⟨3,25,[ag 2,aL 3,aq 4,aq 5,aL 6,ag 3,ag 4,ag 5,ba 1,ai 10 18 19,ai 11 20 21]⟩,⟨2,25,[ag 6,aL 7,aq 8,aq 9,aL 10,ag 7,ag 8,ag 9,ba 2,ai 12 22 23,ai 13 24 25]⟩,zk] (.again 0 [(.int .i64 (.un (.wrap .i64) (bX (ae 0) (ah 1)))),ai 8 14 15,ai 9 16 17] [⟨ai 8 14 15,aG 14,3,1,[.l 2]⟩,⟨ai 9 16 17,aG 16,3,1,[.l 3]⟩]))
abbrev ahk:Tree:=(.a1 (.sm 9) (.a1 (bO (ae 2) (aG 16)) (.j1 3 (.b6 9 (ae 2) 1 0) (aq 12) ⟨ai 9 16 17,aG 16,3,1,[.l 1]⟩ cg (.grow (.j0 [.l 1] (ae 2) 0 1 [(.int .i64 (.un (.wrap .i64) (bX (ae 12) (ah 1))))] ahj)))))
abbrev ahl:Tree:=(.a1 (.sm 8) (.a1 (bO (ae 1) (aG 14)) (.j1 3 (.b6 8 (ae 1) 1 0) (aq 11) ⟨ai 8 14 15,aG 14,3,1,[.l 0]⟩ cg (.grow (.j0 [.l 0] (ae 1) 0 1 [(.int .i64 (.un (.wrap .i64) (bX (ae 11) (ah 1))))] ahk)))))
abbrev ahm:Tree:=(.call 63 [IN,di 5] [] [⟨ai 9 16 17,aG 16,3,1,[.l 1]⟩,⟨ai 8 14 15,aG 14,3,1,[.l 0]⟩] [] (ba 4) dv (.aC (cG 4) xw ahl))
abbrev ahn:Tree:=(.aC (bR (bW (bW (bW (bR (aZ (ae 4) (ae 8))) (cG 3)) (aZ (ae 3) (ah 2))) (aZ (ae 3) (ah 13)))) ahm xw)
abbrev aho:Tree:=(.call 63 [IM,di 6] [] [⟨ai 9 16 17,aG 16,3,1,[.l 1]⟩,⟨ai 8 14 15,aG 14,3,1,[.l 0]⟩] [] (ba 3) dv ahn)
abbrev ahp:Tree:=(.grow (.new (.grow (.new (.grow (.wr (.grow (.wr (.aC (bR (bW (bW (aZ (ae 7) (ah 1)) (aZ (ae 7) (ah 15))) (aZ (ae 7) (ah 13)))) aho xw)))))))))
abbrev ahq:Tree:=(.a1 (bQ (ah 0) (ae 2)) (.a1 (bO (ae 2) (aG 4)) (.cl 25 (.b6 2 (ae 2) 11 0) IM gL (.lP ahi ahp))))
abbrev ahr:Tree:=(.a1 (.sm 2) (.a1 (bQ (ah 0) (ae 1)) (.a1 (bO (ae 1) (aG 4)) (.cl 25 (.b6 2 (ae 1) 11 0) IN gL ahq))))
abbrev ahs:Tree:=(.new (.wr (.grow (.aC (bQ (aG 4) (Ni (ae 1) (ae 2))) xw ahr))))
abbrev BP:Tree:=(.a1 (.sm 3) (.a1 (bQ (ah 0) (ae 0)) (.cl 33 (.b6 3 (ae 0) 4 0) (.agg [aq 1,aq 2,ag 1,ba 0]) rB ahs)))
abbrev BQ:Tree:=(.ret (cY true) [Qg] [] [⟨ai 9 16 17,aG 16,3,1,[.l 1]⟩,⟨ai 8 14 15,aG 14,3,1,[.l 0]⟩])
abbrev IS:Tree:=(.a1 (bQ (aG 4) (ah 17592186044416)) (.grow (.eu (aG 4) (.grow (.wr (.grow (.wr (.loop [bI 0,ai 6 4 12,ai 7 4 13] [⟨ai 6 4 12,aG 4,3,1,[(.z (aG 4))]⟩,⟨ai 7 4 13,aG 4,3,1,[(.z (aG 4))]⟩] [aq 0,ai 8 14 15,ai 9 16 17] [⟨ai 8 14 15,aG 14,3,1,[.l 0]⟩,⟨ai 9 16 17,aG 16,3,1,[.l 1]⟩] D0 (.aC (bO (ae 0) (aG 6)) BP BQ)))))))))
abbrev IT:Tree:=(.grow (.wr (.a1 (bQ (aG 4) (ah 17592186044416)) (.grow (.eu (aG 4) (.grow (.wr (.loop [bI 0,ai 6 4 12,ai 7 4 13] [⟨ai 6 4 12,aG 4,3,1,[(.z (aG 4))]⟩,⟨ai 7 4 13,aG 4,3,1,[(.z (aG 4))]⟩] [aq 0,ai 8 14 15,ai 9 16 17] [⟨ai 8 14 15,aG 14,3,1,[.l 0]⟩,⟨ai 9 16 17,aG 16,3,1,[.l 1]⟩] D0 (.aC (bO (ae 0) (aG 6)) BP BQ)))))))))
abbrev Qv:Tree:=(.a1 (bQ (aG 4) (ah 17592186044416)) (.grow (.eu (aG 4) (.grow (.lP IS IT)))))
abbrev IU:Tree:=(.a1 (bQ (aG 4) (ah 17592186044416)) (.grow (.eu (aG 4) (.lP IS IT))))
abbrev IV:Tree:=(.a1 (bQ (aG 4) (ah 17592186044416)) (.grow (.eu (aG 4) (.a1 (bQ (aG 4) (ah 17592186044416)) (.grow (.eu (aG 4) (.grow (.wr (.grow (.wr (.loop [bI 0,ai 7 4 13,ai 6 4 12] [⟨ai 7 4 13,aG 4,3,1,[(.z (aG 4))]⟩,⟨ai 6 4 12,aG 4,3,1,[(.z (aG 4))]⟩] [aq 0,ai 8 14 15,ai 9 16 17] [⟨ai 8 14 15,aG 14,3,1,[.l 0]⟩,⟨ai 9 16 17,aG 16,3,1,[.l 1]⟩] D0 (.aC (bO (ae 0) (aG 6)) BP BQ))))))))))))
abbrev Qw:Tree:=(.a1 (bQ (aG 4) (ah 17592186044416)) (.grow (.eu (aG 4) (.grow (.a1 (bQ (aG 4) (ah 17592186044416)) (.grow (.eu (aG 4) (.grow (.wr (.grow (.wr (.loop [bI 0,ai 7 4 13,ai 6 4 12] [⟨ai 7 4 13,aG 4,3,1,[(.z (aG 4))]⟩,⟨ai 6 4 12,aG 4,3,1,[(.z (aG 4))]⟩] [aq 0,ai 8 14 15,ai 9 16 17] [⟨ai 8 14 15,aG 14,3,1,[.l 0]⟩,⟨ai 9 16 17,aG 16,3,1,[.l 1]⟩] D0 (.aC (bO (ae 0) (aG 6)) BP BQ)))))))))))))
abbrev Qx:Tree:=
(.lP (.grow (.lP Qv (.grow (.lP IU IV)))) (.grow (.lP (.grow (.lP IU IV)) Qw)))
theorem aht:cN prog {cW with ei:=[⟨3,[.az 34,.rb 0 5 69,.rb 0 6 69]⟩],fN:=true,kB:=[(1,[0]),(7,[2,3])]} f29 [.ptr 0 0] [hF] [] y1=some Qx:=by kernel_rfl
theorem ahu (ar aQ bz bJ cH cM e0 e1 gG hD hU hG:Nat) (t0:ByteArray) (a0 bn a2 a3 a4 a5:Option Addr) (m0:Nat) (W:al) (R:Ending->World->Prop) (hm:W.w.heap[m0]? =some (.cells #[.slice a0 ar aQ,.string t0,.slice bn bz bJ,.slice a2 cH cM,.slice a3 e0 e1,.slice a4 gG hD,.slice a5 hU hG] 71)) (bf:¬W.aV m0) (h:Qx.ak prog W.w.heap.size R [] {N:=[ar,aQ,bz,bJ,cH,cM,e0,e1,gG,hD,hU,hG],T:=[t0],A:=[a0,bn,a2,a3,a4,a5],M:=[m0]} W):bK prog 29 #[.pointer (some ⟨m0,0,none⟩)] W R:=
 mm func29 _ _ [hF] {N:=[ar,aQ,bz,bJ,cH,cM,e0,e1,gG,hD,hU,hG],T:=[t0],A:=[a0,bn,a2,a3,a4,a5],M:=[m0]} _ aht (fun v aB=>by cases aB) (fun b I=>by simp only[bd] at I;subst I;exact hm) (fun b I=>by simp only[bd] at I;subst I;exact bf) (jE _ _) h
abbrev ahv:Tree:=(.new (.a1 (bQ (bX (aG 12) (ah 1)) (ah 925904528653)) (.eu (bX (aG 12) (ah 1)) (.eM [⟨2,25,[ag 1,aL 2,aq 3,aq 4,aL 5,ag 2,ag 3,ag 4,ba 0,ai 7 14 15,ai 8 16 17]⟩,Qb] (.again 0 [(.int .i64 (.un (.wrap .i64) (bX (ae 1) (ah 1)))),(.bt 9 (bX (aG 12) (ah 1)) (aG 18))] [⟨(.bt 9 (bX (aG 12) (ah 1)) (aG 18)),(bX (aG 12) (ah 1)),25,11,[.l 0,(.s (ag 1)),(.s (aL 2)),(.s (aq 3)),(.s (aq 4)),(.s (aL 5)),(.s (ag 2)),(.s (ag 3)),(.s (ag 4)),(.s (ba 0)),(.s (ai 7 14 15)),(.s (ai 8 16 17))]⟩])))))
abbrev ahw:Tree:=(.eM [Qb] (.again 0 [(.int .i64 (.un (.wrap .i64) (bX (ae 1) (ah 1)))),ai 6 12 13] [⟨ai 6 12 13,aG 12,25,11,[.l 0]⟩]))
abbrev ahx:Tree:=(.new (.wr (.aC (cL (aZ (ae 3) (ae 0)) (aZ (ae 2) (ah 1))) ahv ahw)))
abbrev ahy:Tree:=(.a1 (.sm 2) (.a1 (bQ (ah 0) (ae 1)) (.cl 25 (.b6 2 (ae 1) 11 0) (.agg [ag 1,aL 2,aq 3,aq 4,aL 5,ag 2,ag 3,ag 4,ba 0,ai 7 14 15,ai 8 16 17]) gL ahx)))
abbrev ahz:Tree:=(.ret (ai 6 12 13) [hF] [] [⟨ai 6 12 13,aG 12,25,11,[.l 0]⟩])
abbrev Qy:Tree:=
(.loop [bI 0,.db] [⟨.db,ah 0,25,11,[]⟩] [aq 1,ai 6 12 13] [⟨ai 6 12 13,aG 12,25,11,[.l 0]⟩] pX (.aC (bO (ae 1) (aG 4)) ahy ahz))
theorem ahA:cN prog {cW with ei:=[⟨3,[.az 14,.row 5 28]⟩]} f64 [.ptr 0 0,aq 0] [hF] [] ⟨1,12,0,1,0,6,1,0⟩=some Qy:=by kernel_rfl
theorem ahB (i0:Int) (ar aQ bz bJ cH cM e0 e1 gG hD hU hG:Nat) (t0:ByteArray) (a0 bn a2 a3 a4 a5:Option Addr) (m0:Nat) (W:al) (R:Ending->World->Prop) (hm:W.w.heap[m0]? =some (.cells #[.slice a0 ar aQ,.string t0,.slice bn bz bJ,.slice a2 cH cM,.slice a3 e0 e1,.slice a4 gG hD,.slice a5 hU hG] 71)) (bf:¬W.aV m0) (h:Qy.ak prog W.w.heap.size R [] {aV:=[i0],N:=[ar,aQ,bz,bJ,cH,cM,e0,e1,gG,hD,hU,hG],T:=[t0],A:=[a0,bn,a2,a3,a4,a5],M:=[m0]} W):bK prog 64 #[.pointer (some ⟨m0,0,none⟩),.int .i64 i0] W R:=
 mm func64 _ _ [hF] {aV:=[i0],N:=[ar,aQ,bz,bJ,cH,cM,e0,e1,gG,hD,hU,hG],T:=[t0],A:=[a0,bn,a2,a3,a4,a5],M:=[m0]} _ ahA (fun v aB=>by cases aB) (fun b I=>by simp only[bd] at I;subst I;exact hm) (fun b I=>by simp only[bd] at I;subst I;exact bf) (jE _ _) h
abbrev BR:Tree:=(.eM [EH] (.again 0 [(.int .i64 (.un (.wrap .i64) (bX (ae 0) (ah 1))))] []))
abbrev IW:Tree:=(.ret (cY false) [hF] [] [])
abbrev ahC:Tree:=(.call 63 [u_,di 5] [] [] [] (ba 2) dv (.aC (bR (cG 2)) IW BR))
abbrev ahD:Tree:=(.aC (cL (cL (aZ (ae 7) (ah 0)) (bR (bW (aZ (ae 1) (ah 15)) (aZ (ae 1) (ah 13))))) (bR (aZ (ae 1) (ah 2)))) ahC BR)
abbrev ahE:Tree:=(.a1 (.sm 4) (.a1 (bO (ae 0) (aG 8)) (.cl 3 (.b6 4 (ae 0) 1 0) (aq 7) cg ahD)))
abbrev ahF:Tree:=(.call 63 [u_,di 6] [] [] [] (ba 1) dv (.aC (bR (cG 1)) IW ahE))
abbrev ahG:Tree:=(.call 63 [u_,di 5] [] [] [] (ba 1) dv (.aC (bR (cG 1)) IW BR))
abbrev ahH:Tree:=(.aC (cL (cL (aZ (ae 7) (ah 0)) (bR (bW (aZ (ae 1) (ah 15)) (aZ (ae 1) (ah 13))))) (bR (aZ (ae 1) (ah 2)))) ahG BR)
abbrev ahI:Tree:=(.a1 (.sm 4) (.a1 (bO (ae 0) (aG 8)) (.cl 3 (.b6 4 (ae 0) 1 0) (aq 7) cg ahH)))
abbrev ahJ:Tree:=(.aC (cL (cL (aZ (ae 6) (ah 0)) (bR (bW (aZ (ae 1) (ah 15)) (aZ (ae 1) (ah 13))))) (bR (aZ (ae 1) (ah 1)))) ahF ahI)
abbrev ahK:Tree:=(.a1 (.sm 5) (.a1 (bO (ae 0) (aG 10)) (.cl 3 (.b6 5 (ae 0) 1 0) (aq 6) cg ahJ)))
abbrev ahL:Tree:=(.new (.wr (.jZ 46 [EJ,aq 2] [] [] (aL 5) cg (.grow (.aC (aZ (ae 5) (ah 12)) BR ahK)))))
abbrev ahM:Tree:=(.a1 (.sm 2) (.a1 (bQ (ah 0) (ae 0)) (.cl 25 (.b6 2 (ae 0) 11 0) u_ gL ahL)))
abbrev ahN:Tree:=(.ret (cY true) [hF] [] [])
abbrev Qz:Tree:=
(.loop [bI 0] [] [aq 0] [] cg (.aC (bO (ae 0) (aG 4)) ahM ahN))
theorem ahO:cN prog {cW with ei:=[⟨2,[.az 12]⟩]} f31 [.ptr 0 0] [hF] [] y1=some Qz:=by kernel_rfl
theorem ahP (ar aQ bz bJ cH cM e0 e1 gG hD hU hG:Nat) (t0:ByteArray) (a0 bn a2 a3 a4 a5:Option Addr) (m0:Nat) (W:al) (R:Ending->World->Prop) (hm:W.w.heap[m0]? =some (.cells #[.slice a0 ar aQ,.string t0,.slice bn bz bJ,.slice a2 cH cM,.slice a3 e0 e1,.slice a4 gG hD,.slice a5 hU hG] 71)) (bf:¬W.aV m0) (h:Qz.ak prog W.w.heap.size R [] {N:=[ar,aQ,bz,bJ,cH,cM,e0,e1,gG,hD,hU,hG],T:=[t0],A:=[a0,bn,a2,a3,a4,a5],M:=[m0]} W):bK prog 31 #[.pointer (some ⟨m0,0,none⟩)] W R:=
 mm func31 _ _ [hF] {N:=[ar,aQ,bz,bJ,cH,cM,e0,e1,gG,hD,hU,hG],T:=[t0],A:=[a0,bn,a2,a3,a4,a5],M:=[m0]} _ ahO (fun v aB=>by cases aB) (fun b I=>by simp only[bd] at I;subst I;exact hm) (fun b I=>by simp only[bd] at I;subst I;exact bf) (jE _ _) h
abbrev zl:Tree:=(.ret (cY false) [hF] [] [⟨ai 7 13 14,aG 13,3,1,[.l 0]⟩])
abbrev QA:Tree:=(.ret (cY false) [hF] [] [⟨ai 7 13 14,aG 13,3,1,[.l 1]⟩])
abbrev QB:Tree:=(.eM [EI,zk] (.again 0 [(.int .i64 (.un (.wrap .i64) (bX (ae 0) (ah 1)))),ai 7 13 14] [⟨ai 7 13 14,aG 13,3,1,[.l 1]⟩]))
abbrev ahQ:Tree:=(.cl 3 (.b6 5 (ae 2) 1 0) (aq 10) cg (.grow (.aC (bR (aZ (ae 10) (ah 1))) QA QB)))
abbrev QC:Tree:=(.grow (.ret (cY false) [hF] [] [⟨ai 7 13 14,aG 13,3,1,[.l 1]⟩]))
abbrev ahR:Tree:=(.a1 (bW (bR (aZ (ae 9) (ah 6))) (.sm 5)) (.a1 (bW (bR (aZ (ae 9) (ah 6))) (bO (ae 2) (aG 10))) (.aC (aZ (ae 9) (ah 6)) ahQ QC)))
abbrev QD:Tree:=(.grow (.eM [EI,zk] (.again 0 [(.int .i64 (.un (.wrap .i64) (bX (ae 0) (ah 1)))),ai 7 13 14] [⟨ai 7 13 14,aG 13,3,1,[.l 1]⟩])))
abbrev ahS:Tree:=(.a1 (bW (bR (aZ (ae 3) (ah 10))) (bQ (ah 0) (ae 2))) (.a1 (bW (bR (aZ (ae 3) (ah 10))) (bO (ae 2) (aG 4))) (.aC (aZ (ae 3) (ah 10)) (.cl 5 (.b6 2 (ae 2) 11 1) (aL 9) cg ahR) QD)))
abbrev ahT:Tree:=(.a1 (.sm 7) (.a1 (bO (ae 1) (aG 13)) (.j1 3 (.b6 7 (ae 1) 1 0) (aq 8) ⟨ai 7 13 14,aG 13,3,1,[.l 0]⟩ cg (.j0 [.l 0] (ae 1) 0 1 [(.int .i64 (.un (.wrap .i64) (bX (ae 8) (ah 1))))] ahS))))
abbrev QE:Tree:=(.eM [EI,zk] (.again 0 [(.int .i64 (.un (.wrap .i64) (bX (ae 0) (ah 1)))),ai 7 13 14] [⟨ai 7 13 14,aG 13,3,1,[.l 0]⟩]))
abbrev ahU:Tree:=(.cl 3 (.b6 5 (ae 2) 1 0) (aq 9) cg (.grow (.aC (bR (aZ (ae 9) (ah 1))) zl QE)))
abbrev QF:Tree:=(.grow (.ret (cY false) [hF] [] [⟨ai 7 13 14,aG 13,3,1,[.l 0]⟩]))
abbrev ahV:Tree:=(.a1 (bW (bR (aZ (ae 8) (ah 6))) (.sm 5)) (.a1 (bW (bR (aZ (ae 8) (ah 6))) (bO (ae 2) (aG 10))) (.aC (aZ (ae 8) (ah 6)) ahU QF)))
abbrev QG:Tree:=(.grow (.eM [EI,zk] (.again 0 [(.int .i64 (.un (.wrap .i64) (bX (ae 0) (ah 1)))),ai 7 13 14] [⟨ai 7 13 14,aG 13,3,1,[.l 0]⟩])))
abbrev ahW:Tree:=(.a1 (bW (bR (aZ (ae 3) (ah 10))) (bQ (ah 0) (ae 2))) (.a1 (bW (bR (aZ (ae 3) (ah 10))) (bO (ae 2) (aG 4))) (.aC (aZ (ae 3) (ah 10)) (.cl 5 (.b6 2 (ae 2) 11 1) (aL 8) cg ahV) QG)))
abbrev ahX:Tree:=(.grow (.aC (bR (DW (bO (ah 1) (ae 7)) (bW (cG 0) (bR (eW (b9 1) (.bN [])))))) zl (.aC (cG 0) ahT ahW)))
abbrev ahY:Tree:=(.cl 3 (.b6 5 (ae 2) 1 0) (aq 9) cg (.grow (.aC (bR (aZ (ae 9) (ah 1))) QA QB)))
abbrev ahZ:Tree:=(.a1 (bW (bR (aZ (ae 8) (ah 6))) (.sm 5)) (.a1 (bW (bR (aZ (ae 8) (ah 6))) (bO (ae 2) (aG 10))) (.aC (aZ (ae 8) (ah 6)) ahY QC)))
abbrev ah0:Tree:=(.a1 (bW (bR (aZ (ae 3) (ah 10))) (bQ (ah 0) (ae 2))) (.a1 (bW (bR (aZ (ae 3) (ah 10))) (bO (ae 2) (aG 4))) (.aC (aZ (ae 3) (ah 10)) (.cl 5 (.b6 2 (ae 2) 11 1) (aL 8) cg ahZ) QD)))
abbrev ah1:Tree:=(.a1 (.sm 7) (.a1 (bO (ae 1) (aG 13)) (.j1 3 (.b6 7 (ae 1) 1 0) (aq 7) ⟨ai 7 13 14,aG 13,3,1,[.l 0]⟩ cg (.j0 [.l 0] (ae 1) 0 1 [(.int .i64 (.un (.wrap .i64) (bX (ae 7) (ah 1))))] ah0))))
abbrev ah2:Tree:=(.cl 3 (.b6 5 (ae 2) 1 0) (aq 8) cg (.grow (.aC (bR (aZ (ae 8) (ah 1))) zl QE)))
abbrev ah3:Tree:=(.a1 (bW (bR (aZ (ae 7) (ah 6))) (.sm 5)) (.a1 (bW (bR (aZ (ae 7) (ah 6))) (bO (ae 2) (aG 10))) (.aC (aZ (ae 7) (ah 6)) ah2 QF)))
abbrev ah4:Tree:=(.a1 (bW (bR (aZ (ae 3) (ah 10))) (bQ (ah 0) (ae 2))) (.a1 (bW (bR (aZ (ae 3) (ah 10))) (bO (ae 2) (aG 4))) (.aC (aZ (ae 3) (ah 10)) (.cl 5 (.b6 2 (ae 2) 11 1) (aL 7) cg ah3) QG)))
abbrev ah5:Tree:=(.grow (.aC (bR (DW (.dB false) (bW (cG 0) (bR (eW (b9 1) (.bN [])))))) zl (.aC (cG 0) ah1 ah4)))
abbrev ah6:Tree:=(.grow (.new (.grow (.wr (.a1 (bW (bR (bW (aZ (ae 3) (ah 7)) (aZ (ae 3) (ah 9)))) (.sm 4)) (.a1 (bW (bR (bW (aZ (ae 3) (ah 7)) (aZ (ae 3) (ah 9)))) (bO (ae 1) (aG 8))) (.aC (bW (aZ (ae 3) (ah 7)) (aZ (ae 3) (ah 9))) (.cl 3 (.b6 4 (ae 1) 1 0) (aq 7) cg ahX) ah5)))))))
abbrev ah7:Tree:=(.new (.wr (.a1 (.sm 2) (.a1 (bQ (ah 0) (ae 1)) (.a1 (bO (ae 1) (aG 4)) (.cl 25 (.b6 2 (ae 1) 11 0) (.agg [ag 2,aL 3,aq 4,aq 5,aL 6,ag 3,ag 4,ag 5,ba 1,ai 8 15 16,ai 9 17 18]) gL ah6))))))
abbrev ah8:Tree:=(.a1 (.sm 3) (.a1 (bQ (ah 0) (ae 0)) (.cl 33 (.b6 3 (ae 0) 4 0) (.agg [aq 1,aq 2,ag 1,ba 0]) rB ah7)))
abbrev QH:Tree:=(.eM [⟨1,25,[ag 1,aL 2,aq 3,aq 4,aL 5,ag 2,ag 3,ag 4,ba 0,ai 8 15 16,ai 9 17 18]⟩] (.again 1 [(.int .i64 (.un (.wrap .i64) (bX (ae 1) (ah 1))))] []))
abbrev ah9:Tree:=(.cl 3 (.b6 4 (ae 1) 1 0) (aq 7) cg (.aC (bO (ae 7) (ah 2)) zl QH))
abbrev ah_:Tree:=(.new (.wr (.a1 (.sm 7) (.a1 (bO (ae 1) (aG 13)) (.j1 3 (.b6 7 (ae 1) 1 0) (aq 6) ⟨ai 7 13 14,aG 13,3,1,[.l 0]⟩ cg (.a1 (bW (bR (cL (bR (bO (ah 1) (ae 6))) (aZ (ae 2) (ah 10)))) (.sm 4)) (.a1 (bW (bR (cL (bR (bO (ah 1) (ae 6))) (aZ (ae 2) (ah 10)))) (bO (ae 1) (aG 8))) (.aC (cL (bR (bO (ah 1) (ae 6))) (aZ (ae 2) (ah 10))) ah9 (.aC (bO (ah 1) (ae 6)) zl QH)))))))))
abbrev aia:Tree:=(.a1 (.sm 2) (.a1 (bQ (ah 0) (ae 1)) (.cl 25 (.b6 2 (ae 1) 11 0) (.agg [ag 1,aL 2,aq 3,aq 4,aL 5,ag 2,ag 3,ag 4,ba 0,ai 8 15 16,ai 9 17 18]) gL ah_)))
abbrev aib:Tree:=(.ret (cY true) [hF] [] [⟨ai 7 13 14,aG 13,3,1,[.l 0]⟩])
abbrev aic:Tree:=(.loop [bI 0] [] [aq 1] [] cg (.aC (bO (ae 1) (aG 4)) aia aib))
abbrev QI:Tree:=
(.a1 (bQ (aG 4) (ah 17592186044416)) (.eu (aG 4) (.loop [bI 0,ai 6 4 12] [⟨ai 6 4 12,aG 4,3,1,[(.z (aG 4))]⟩] [aq 0,ai 7 13 14] [⟨ai 7 13 14,aG 13,3,1,[.l 0]⟩] pX (.aC (bO (ae 0) (aG 6)) ah8 aic))))
theorem aid:cN prog {cW with ei:=[⟨3,[.az 23,.row 3 69]⟩,⟨15,[.az 107]⟩]} f32 [.ptr 0 0] [hF] [] y1=some QI:=by kernel_rfl
theorem aie (ar aQ bz bJ cH cM e0 e1 gG hD hU hG:Nat) (t0:ByteArray) (a0 bn a2 a3 a4 a5:Option Addr) (m0:Nat) (W:al) (R:Ending->World->Prop) (hm:W.w.heap[m0]? =some (.cells #[.slice a0 ar aQ,.string t0,.slice bn bz bJ,.slice a2 cH cM,.slice a3 e0 e1,.slice a4 gG hD,.slice a5 hU hG] 71)) (bf:¬W.aV m0) (h:QI.ak prog W.w.heap.size R [] {N:=[ar,aQ,bz,bJ,cH,cM,e0,e1,gG,hD,hU,hG],T:=[t0],A:=[a0,bn,a2,a3,a4,a5],M:=[m0]} W):bK prog 32 #[.pointer (some ⟨m0,0,none⟩)] W R:=
 mm func32 _ _ [hF] {N:=[ar,aQ,bz,bJ,cH,cM,e0,e1,gG,hD,hU,hG],T:=[t0],A:=[a0,bn,a2,a3,a4,a5],M:=[m0]} _ aid (fun v aB=>by cases aB) (fun b I=>by simp only[bd] at I;subst I;exact hm) (fun b I=>by simp only[bd] at I;subst I;exact bf) (jE _ _) h
abbrev QJ:Tree:=(.eM [EH] (.again 0 [(.int .i64 (.un (.wrap .i64) (bX (ae 0) (ah 1))))] []))
abbrev aif:Tree:=(.eM [Qa] (.again 1 [(.int .i64 (.un (.wrap .i64) (bX (ae 5) (ah 1)))),(.int .i64 (.un (.wrap .i64) (bX (ae 6) (ah 1))))] []))
abbrev aih:Tree:=(.eM [Qa] (.again 1 [(.int .i64 (.un (.wrap .i64) (bX (ae 5) (ah 1)))),aq 6] []))
abbrev aii:Tree:=(.aC (cL (cL (cG 3) (aZ (ae 8) (ae 2))) (eW (b9 6) (b9 2))) aif aih)
abbrev aij:Tree:=(.new (.wr (.call 63 [Qc,di 6] [] [] [] (ba 3) dv aii)))
abbrev aik:Tree:=(.a1 (bQ (ah 0) (ae 5)) (.cl 25 (.b6 2 (ae 5) 11 0) Qc gL aij))
abbrev ail:Tree:=(.ret (cY false) [hF] [] [])
abbrev aim:Tree:=(.aC (bO (ae 5) (aG 4)) aik (.aC (bR (aZ (ae 6) (ah 1))) ail QJ))
abbrev ain:Tree:=(.loop [bI 0,bI 0] [] [aq 5,aq 6] [] mn aim)
abbrev aio:Tree:=(.new (.wr (.call 63 [u_,di 5] [] [] [] (ba 1) dv (.aC (bR (cG 1)) QJ ain))))
abbrev aip:Tree:=(.a1 (.sm 2) (.a1 (bQ (ah 0) (ae 0)) (.cl 25 (.b6 2 (ae 0) 11 0) u_ gL aio)))
abbrev aiq:Tree:=(.ret (cY true) [hF] [] [])
abbrev QK:Tree:=
(.loop [bI 0] [] [aq 0] [] cg (.aC (bO (ae 0) (aG 4)) aip aiq))
theorem air:cN prog {cW with ei:=[⟨2,[.az 14]⟩,⟨7,[.az 27,.az 5]⟩]} f33 [.ptr 0 0] [hF] [] y1=some QK:=by kernel_rfl
theorem ais (ar aQ bz bJ cH cM e0 e1 gG hD hU hG:Nat) (t0:ByteArray) (a0 bn a2 a3 a4 a5:Option Addr) (m0:Nat) (W:al) (R:Ending->World->Prop) (hm:W.w.heap[m0]? =some (.cells #[.slice a0 ar aQ,.string t0,.slice bn bz bJ,.slice a2 cH cM,.slice a3 e0 e1,.slice a4 gG hD,.slice a5 hU hG] 71)) (bf:¬W.aV m0) (h:QK.ak prog W.w.heap.size R [] {N:=[ar,aQ,bz,bJ,cH,cM,e0,e1,gG,hD,hU,hG],T:=[t0],A:=[a0,bn,a2,a3,a4,a5],M:=[m0]} W):bK prog 33 #[.pointer (some ⟨m0,0,none⟩)] W R:=
 mm func33 _ _ [hF] {N:=[ar,aQ,bz,bJ,cH,cM,e0,e1,gG,hD,hU,hG],T:=[t0],A:=[a0,bn,a2,a3,a4,a5],M:=[m0]} _ air (fun v aB=>by cases aB) (fun b I=>by simp only[bd] at I;subst I;exact hm) (fun b I=>by simp only[bd] at I;subst I;exact bf) (jE _ _) h
abbrev QL:Tree:=
(.new (.ret (.bool (eW (b9 0) (b9 2))) [] [] []))
theorem ait:cN prog cW f118 [(.agg [ag 0,aL 0,aq 1,ag 1]),.ptr 0 0] [] [⟨0,9,[ag 2]⟩] ⟨2,0,0,3,0,0,1,0⟩=some QL:=by kernel_rfl
theorem aiu (i0 i1:Int) (t0 t1 t2:ByteArray) (m0:Nat) (W:al) (R:Ending->World->Prop) (fi:W.w.heap[m0]? =some (.cells #[.string t2] 9)) (fP:W.aV m0) (h:QL.ak prog W.w.heap.size R [] {aV:=[i0,i1],T:=[t0,t1,t2],M:=[m0]} W):bK prog 118 #[.agg #[.string t0,.int .u8 i0,.int .i64 i1,.string t1],.pointer (some ⟨m0,0,none⟩)] W R:=
 kf func118 _ _ [⟨0,9,[ag 2]⟩] {aV:=[i0,i1],T:=[t0,t1,t2],M:=[m0]} _ ait (fun v aB=>by cases aB) (fun b I=>by simp only[dh,eT,or_false] at I;rcases I with rfl<;>(first|exact fi)) (fun b I=>by simp only[dh,eT,or_false] at I;rcases I with rfl<;>(first|exact fP)) h
abbrev aiv:Tree:=(.aC (cG 0) (.ret (aq 0) [] [] []) (.again 0 [(.int .i64 (.un (.wrap .i64) (bX (ae 0) (ah 1))))] []))
abbrev aiw:Tree:=(.call 118 [(.agg [ag 1,aL 1,aq 2,ag 2]),.ptr 0 0] [⟨0,9,[ag 0]⟩] [] [] (ba 0) dv aiv)
abbrev aix:Tree:=(.a1 (.sm 0) (.a1 (bQ (ah 0) (ae 0)) (.cl 41 (.b6 0 (ae 0) 4 0) (.agg [ag 1,aL 1,aq 2,ag 2]) wM aiw)))
abbrev QM:Tree:=
(.loop [bI 0] [] [aq 0] [] cg (.aC (bO (ae 0) (aG 0)) aix (.ret (bI (-1)) [] [] [])))
theorem aiy:cN prog {cW with ei:=[⟨2,[.az 8]⟩]} f112 [ai 0 0 1,(.fn 118 [.ptr 0 0])] [] [⟨0,9,[ag 0]⟩] DX=some QM:=by kernel_rfl
theorem aiz (ar aQ:Nat) (t0:ByteArray) (a0:Option Addr) (m0:Nat) (W:al) (R:Ending->World->Prop) (fi:W.w.heap[m0]? =some (.cells #[.string t0] 9)) (fP:W.aV m0) (h:QM.ak prog W.w.heap.size R [] {N:=[ar,aQ],T:=[t0],A:=[a0],M:=[m0]} W):bK prog 112 #[.slice a0 ar aQ,.func (.func 118) #[] #[.pointer (some ⟨m0,0,none⟩)]] W R:=
 kf func112 _ _ [⟨0,9,[ag 0]⟩] {N:=[ar,aQ],T:=[t0],A:=[a0],M:=[m0]} _ aiy (fun v aB=>by cases aB) (fun b I=>by simp only[dh,eT,or_false] at I;rcases I with rfl<;>(first|exact fi)) (fun b I=>by simp only[dh,eT,or_false] at I;rcases I with rfl<;>(first|exact fP)) h
abbrev aiA:Tree:=(.a1 (.sm 0) (.a1 (bQ (ah 0) (ae 0)) (.a1 (bO (ae 0) (aG 0)) (.cl 5 (.b6 0 (ae 0) 4 1) (aL 1) cg (.ret (aL 1) [] [] [])))))
abbrev QN:Tree:=
(.new (.call 112 [ai 0 0 1,(.fn 118 [.ptr 0 0])] [⟨0,9,[ag 0]⟩] [] [] (aq 0) cg (.aC (bO (ae 0) (ah 0)) (.ret (di 0) [] [] []) aiA)))
theorem aiB:cN prog cW f66 [ai 0 0 1,ag 0] [] [] DZ=some QN:=by kernel_rfl
theorem aiC (ar aQ:Nat) (t0:ByteArray) (a0:Option Addr) (W:al) (R:Ending->World->Prop) (h:QN.ak prog W.w.heap.size R [] {N:=[ar,aQ],T:=[t0],A:=[a0]} W):bK prog 66 #[.slice a0 ar aQ,.string t0] W R:=
 dP func66 _ _ {N:=[ar,aQ],T:=[t0],A:=[a0]} _ aiB (fun v aB=>by cases aB) h
abbrev QO:Tree:=
(.new (.ret (.bool (eW (b9 0) (b9 1))) [] [] []))
theorem aiD:cN prog cW f120 [rM,.ptr 0 0] [] [⟨0,9,[ag 1]⟩] ⟨0,6,0,2,0,3,1,0⟩=some QO:=by kernel_rfl
theorem aiE (ar aQ bz bJ cH cM:Nat) (t0 t1:ByteArray) (a0 bn a2:Option Addr) (m0:Nat) (W:al) (R:Ending->World->Prop) (fi:W.w.heap[m0]? =some (.cells #[.string t1] 9)) (fP:W.aV m0) (h:QO.ak prog W.w.heap.size R [] {N:=[ar,aQ,bz,bJ,cH,cM],T:=[t0,t1],A:=[a0,bn,a2],M:=[m0]} W):bK prog 120 #[.agg #[.string t0,.slice a0 ar aQ,.slice bn bz bJ,.slice a2 cH cM],.pointer (some ⟨m0,0,none⟩)] W R:=
 kf func120 _ _ [⟨0,9,[ag 1]⟩] {N:=[ar,aQ,bz,bJ,cH,cM],T:=[t0,t1],A:=[a0,bn,a2],M:=[m0]} _ aiD (fun v aB=>by cases aB) (fun b I=>by simp only[dh,eT,or_false] at I;rcases I with rfl<;>(first|exact fi)) (fun b I=>by simp only[dh,eT,or_false] at I;rcases I with rfl<;>(first|exact fP)) h
abbrev aiF:Tree:=(.aC (cG 0) (.ret (aq 0) [] [] []) (.again 0 [(.int .i64 (.un (.wrap .i64) (bX (ae 0) (ah 1))))] []))
abbrev aiG:Tree:=(.call 120 [Qj,.ptr 0 0] [⟨0,9,[ag 0]⟩] [] [] (ba 0) dv aiF)
abbrev aiH:Tree:=(.a1 (.sm 0) (.a1 (bQ (ah 0) (ae 0)) (.cl 31 (.b6 0 (ae 0) 4 0) Qj rC aiG)))
abbrev QP:Tree:=
(.loop [bI 0] [] [aq 0] [] cg (.aC (bO (ae 0) (aG 0)) aiH (.ret (bI (-1)) [] [] [])))
theorem aiI:cN prog {cW with ei:=[⟨2,[.az 8]⟩]} f119 [ai 0 0 1,(.fn 120 [.ptr 0 0])] [] [⟨0,9,[ag 0]⟩] DX=some QP:=by kernel_rfl
theorem aiJ (ar aQ:Nat) (t0:ByteArray) (a0:Option Addr) (m0:Nat) (W:al) (R:Ending->World->Prop) (fi:W.w.heap[m0]? =some (.cells #[.string t0] 9)) (fP:W.aV m0) (h:QP.ak prog W.w.heap.size R [] {N:=[ar,aQ],T:=[t0],A:=[a0],M:=[m0]} W):bK prog 119 #[.slice a0 ar aQ,.func (.func 120) #[] #[.pointer (some ⟨m0,0,none⟩)]] W R:=
 kf func119 _ _ [⟨0,9,[ag 0]⟩] {N:=[ar,aQ],T:=[t0],A:=[a0],M:=[m0]} _ aiI (fun v aB=>by cases aB) (fun b I=>by simp only[dh,eT,or_false] at I;rcases I with rfl<;>(first|exact fi)) (fun b I=>by simp only[dh,eT,or_false] at I;rcases I with rfl<;>(first|exact fP)) h
abbrev QQ:Tree:=
(.new (.ret (.bool (cL (cL (aZ (ae 1) (ah (-1))) (aZ (ae 0) (ah 1))) (aZ (ae 3) (ah 0)))) [] [] []))
theorem aiK:cN prog cW f121 [IP] [] [] gL=some QQ:=by kernel_rfl
theorem aiL (i0 i1 i2 i3:Int) (ar aQ bz bJ:Nat) (cm:Bool) (t0 t1 t2 t3:ByteArray) (a0 bn:Option Addr) (W:al) (R:Ending->World->Prop) (h:QQ.ak prog W.w.heap.size R [] {aV:=[i0,i1,i2,i3],N:=[ar,aQ,bz,bJ],B:=[cm],T:=[t0,t1,t2,t3],A:=[a0,bn]} W):bK prog 121 #[.agg #[.string t0,.int .u8 i0,.int .i64 i1,.int .i64 i2,.int .u8 i3,.string t1,.string t2,.string t3,.bool cm,.slice a0 ar aQ,.slice bn bz bJ]] W R:=
 dP func121 _ _ {aV:=[i0,i1,i2,i3],N:=[ar,aQ,bz,bJ],B:=[cm],T:=[t0,t1,t2,t3],A:=[a0,bn]} _ aiK (fun v aB=>by cases aB) h
abbrev aiM:Tree:=(.aC (cG 1) (.ret (aq 0) [] [] []) (.again 0 [(.int .i64 (.un (.wrap .i64) (bX (ae 0) (ah 1))))] []))
abbrev aiN:Tree:=(.call 121 [Qf] [] [] [] (ba 1) dv aiM)
abbrev aiO:Tree:=(.a1 (.sm 0) (.a1 (bQ (ah 0) (ae 0)) (.cl 25 (.b6 0 (ae 0) 11 0) Qf gL aiN)))
abbrev QR:Tree:=
(.loop [bI 0] [] [aq 0] [] cg (.aC (bO (ae 0) (aG 0)) aiO (.ret (bI (-1)) [] [] [])))
theorem aiP:cN prog {cW with ei:=[⟨2,[.az 8]⟩]} f117 [ai 0 0 1,(.fn 121 [])] [] [] ga=some QR:=by kernel_rfl
theorem aiQ (ar aQ:Nat) (a0:Option Addr) (W:al) (R:Ending->World->Prop) (h:QR.ak prog W.w.heap.size R [] {N:=[ar,aQ],A:=[a0]} W):bK prog 117 #[.slice a0 ar aQ,.func (.func 121) #[] #[]] W R:=
 dP func117 _ _ {N:=[ar,aQ],A:=[a0]} _ aiP (fun v aB=>by cases aB) h
abbrev QS:Tree:=
(.call 117 [ai 0 0 1,(.fn 121 [])] [] [] [] (aq 0) cg (.ret (.bool (bQ (ah 0) (ae 0))) [] [] []))
theorem aiR:cN prog cW f60 [ai 0 0 1,(.fn 121 [])] [] [] ga=some QS:=by kernel_rfl
theorem aiS (ar aQ:Nat) (a0:Option Addr) (W:al) (R:Ending->World->Prop) (h:QS.ak prog W.w.heap.size R [] {N:=[ar,aQ],A:=[a0]} W):bK prog 60 #[.slice a0 ar aQ,.func (.func 121) #[] #[]] W R:=
 dP func60 _ _ {N:=[ar,aQ],A:=[a0]} _ aiR (fun v aB=>by cases aB) h
abbrev aiT:Tree:=(.wr (.ret (.cU [(.agg [ek,.db,.db,.db]),cY false]) [hF] [] []))
abbrev aiU:Tree:=(.grow (.wr (.grow (.ret (.cU [Qh,ba 0]) [hF] [] []))))
abbrev aiV:Tree:=(.jZ 60 [ai 9 18 19,(.fn 121 [])] [] [] (ba 0) dv aiU)
abbrev aiW:Tree:=(.cl 28 (.b6 0 (ae 0) 4 2) (ai 9 18 19) ga aiV)
abbrev aiX:Tree:=(.a1 (.sm 0) (.a1 (bQ (ah 0) (ae 0)) (.a1 (bO (ae 0) (aG 0)) (.cl 31 (.b6 0 (ae 0) 4 0) Qh rC aiW))))
abbrev QT:Tree:=
(.new (.new (.call 119 [ai 0 0 1,(.fn 120 [.ptr 1 0])] [⟨1,9,[ag 1]⟩] [] [] (aq 0) cg (.aC (bO (ae 0) (ah 0)) aiT aiX))))
theorem aiY:cN prog {cW with kB:=[(5,[2])]} f67 [.ptr 0 0,ag 1] [hF] [] ⟨0,12,0,2,0,6,1,0⟩=some QT:=by kernel_rfl
theorem aiZ (ar aQ bz bJ cH cM e0 e1 gG hD hU hG:Nat) (t0 t1:ByteArray) (a0 bn a2 a3 a4 a5:Option Addr) (m0:Nat) (W:al) (R:Ending->World->Prop) (hm:W.w.heap[m0]? =some (.cells #[.slice a0 ar aQ,.string t0,.slice bn bz bJ,.slice a2 cH cM,.slice a3 e0 e1,.slice a4 gG hD,.slice a5 hU hG] 71)) (bf:¬W.aV m0) (h:QT.ak prog W.w.heap.size R [] {N:=[ar,aQ,bz,bJ,cH,cM,e0,e1,gG,hD,hU,hG],T:=[t0,t1],A:=[a0,bn,a2,a3,a4,a5],M:=[m0]} W):bK prog 67 #[.pointer (some ⟨m0,0,none⟩),.string t1] W R:=
 mm func67 _ _ [hF] {N:=[ar,aQ,bz,bJ,cH,cM,e0,e1,gG,hD,hU,hG],T:=[t0,t1],A:=[a0,bn,a2,a3,a4,a5],M:=[m0]} _ aiY (fun v aB=>by cases aB) (fun b I=>by simp only[bd] at I;subst I;exact hm) (fun b I=>by simp only[bd] at I;subst I;exact bf) (jE _ _) h
abbrev QU:Tree:=(.ret (aq 5) [hF] [] [])
abbrev QV:Tree:=(.call 35 [ag 3,ai 8 16 17,di 1] [] [] [] (aq 5) cg QU)
abbrev ai0:Tree:=(.call 35 [ag 3,ai 8 16 17,di 2] [] [] [] (aq 5) cg QU)
abbrev IX:Tree:=(.ret (bI 22) [hF] [] [])
abbrev ai1:Tree:=(.ret (aq 6) [hF] [] [])
abbrev ai2:Tree:=(.call 35 [ag 3,ai 8 16 17,aL 5] [] [] [] (aq 6) cg ai1)
abbrev ai3:Tree:=(.call 66 [ai 8 16 17,ag 4] [] [] [] (aL 5) cg (.aC (aZ (ae 5) (ah 0)) IX ai2))
abbrev QW:Tree:=(.ret (bI 0) [hF] [] [])
abbrev ai4:Tree:=(.ret (bI 23) [hF] [] [])
abbrev ai5:Tree:=(.aC (bR (aZ (ae 6) (ae 7))) ai4 (.again 0 [(.int .i64 (.un (.wrap .i64) (bX (ae 5) (ah 1))))] []))
abbrev ai6:Tree:=(.aC (bW (aZ (ae 6) (ah 0)) (aZ (ae 7) (ah 0))) IX ai5)
abbrev ai7:Tree:=(.call 66 [ai 8 16 17,ag 6] [] [] [] (aL 7) cg ai6)
abbrev ai8:Tree:=(.call 66 [ai 9 18 19,ag 6] [] [] [] (aL 6) cg ai7)
abbrev ai9:Tree:=(.a1 (.sm 7) (.a1 (bQ (ah 0) (ae 5)) (.cl 9 (.b6 7 (ae 5) 1 0) (ag 6) ie ai8)))
abbrev ai_:Tree:=(.loop [bI 0] [] [aq 5] [] cg (.aC (bO (ae 5) (aG 14)) ai9 QW))
abbrev aja:Tree:=(.call 67 [.ptr 0 0,ag 2] [hF] [] [] (.cU [(.agg [ag 5,ai 9 18 19,ai 10 20 21,ai 11 22 23]),ba 1]) ⟨0,6,1,1,0,3,0,0⟩ (.new (.wr (.aC (bR (cG 1)) IX ai_))))
abbrev ajb:Tree:=(.aC (aZ (ae 1) (ah 4)) ai3 (.aC (bR (aZ (ae 1) (ah 14))) QW aja))
abbrev QX:Tree:=(.aC (bW (aZ (ae 4) (ah 3)) (aZ (ae 1) (ah 12))) ai0 ajb)
abbrev ajc:Tree:=(.grow (.call 18 [EJ,aq 0] [] [] [] (ai 8 16 17) ga (.grow (.new (.grow (.wr (.grow (.aC (aZ (ae 4) (ah 2)) QV QX))))))))
abbrev ajd:Tree:=(.grow (.new (.grow (.call 18 [EJ,aq 0] [] [] [] (ai 8 16 17) ga (.grow (.wr (.grow (.aC (aZ (ae 4) (ah 2)) QV QX))))))))
abbrev QY:Tree:=
(.a1 (.sm 2) (.a1 (bQ (ah 0) (ae 0)) (.a1 (bO (ae 0) (aG 4)) (.cl 25 (.b6 2 (ae 0) 11 0) u_ gL (.lP ajc ajd)))))
theorem aje:cN prog {cW with ei:=[⟨17,[.az 80]⟩],fN:=true,kB:=[(1,[1])]} f34 [.ptr 0 0,aq 0] [hF] [] ⟨1,12,0,1,0,6,1,0⟩=some QY:=by kernel_rfl
theorem ajf (i0:Int) (ar aQ bz bJ cH cM e0 e1 gG hD hU hG:Nat) (t0:ByteArray) (a0 bn a2 a3 a4 a5:Option Addr) (m0:Nat) (W:al) (R:Ending->World->Prop) (hm:W.w.heap[m0]? =some (.cells #[.slice a0 ar aQ,.string t0,.slice bn bz bJ,.slice a2 cH cM,.slice a3 e0 e1,.slice a4 gG hD,.slice a5 hU hG] 71)) (bf:¬W.aV m0) (h:QY.ak prog W.w.heap.size R [] {aV:=[i0],N:=[ar,aQ,bz,bJ,cH,cM,e0,e1,gG,hD,hU,hG],T:=[t0],A:=[a0,bn,a2,a3,a4,a5],M:=[m0]} W):bK prog 34 #[.pointer (some ⟨m0,0,none⟩),.int .i64 i0] W R:=
 mm func34 _ _ [hF] {aV:=[i0],N:=[ar,aQ,bz,bJ,cH,cM,e0,e1,gG,hD,hU,hG],T:=[t0],A:=[a0,bn,a2,a3,a4,a5],M:=[m0]} _ aje (fun v aB=>by cases aB) (fun b I=>by simp only[bd] at I;subst I;exact hm) (fun b I=>by simp only[bd] at I;subst I;exact bf) (jE _ _) h
theorem rN:hr prog 5=some false:=by kernel_rfl
theorem kZ {p:cP} {i:Nat} {v:d_} (h:p.ao[i]? =some v):au.dc p.av i=v.n:=by
 unfold au.dc cP.av;simp only[oe,mD,h,l6,ny]
theorem kM (p:cP):p.av.ao.length=p.ao.length:=mW ..
theorem xx (p:cP) (W:al) (hp:fw p W) (n:Nat) (cB:n<p.ao.length):
  da prog 45 #[.agg (gA p).toArray,.int .i64 (n:Int)] W (.int .i64 (au.dS p.av n)):=by
 have hp:=hp.ext W.dw;have h5:=hp.h6;have j:p.ao[n]? =some p.ao[n]:=dn cB;generalize p.ao[n]=v at j;refine agl n p.vars.length p.bA p.ao.length p.eF p.bj.length p.ef ⟨p.aT.toArray⟩ p.bx p.eL p.ea W.all _ ?_;refine bY fun m W1 _ bM=>a6 ?_ (a6 ?_ (a6 ?_ (cI ⟨v.n.bp,fun cq bo=>?_,?_⟩)))
 ·simp only[E.b,aR,aX.push];exact b_.dL hp.ns (by omega)
 ·simp only[U];exact c_ (by omega)
 ·simp only[U];exact dW (by omega)
 ·have:=ed (P:=prog) eO hp.ns nn (k:=2) j (by decide) (u:=.int .i64 v.n.bp) rfl (aD bM bo);simp only[U] at this ⊢;exact this
 ·simp only[aU];have e:au.dS p.av n=if decide (0<=v.n.bp)&&decide (v.n.bp<(n:Int)) then v.n.bp else-1:=by rw[au.dS,kZ j]
  rw[e];refine aK (fun c=>aP fun _ _ _=>⟨_,rfl,?_⟩) fun c=>aP fun _ _ _=>⟨_,rfl,?_⟩
  ·have c:(decide (0<=v.n.bp)&&decide (v.n.bp<(n:Int)))=true:=c;rw[if_pos c];rfl
  ·rw[if_neg (fun h=>by have c:(decide (0<=v.n.bp)&&decide (v.n.bp<(n:Int)))=false:=c;rw[c] at h;cases h)];rfl
theorem QZ (p:cP) (W:al) (hp:fw p W) (s:Int) (cB:s<p.ao.length):
  da prog 46 #[.agg (gA p).toArray,.int .i64 s] W (.int .u8 (au.kind p.av s)):=by
 have hp:=hp.ext W.dw;have h5:=hp.h6;refine ago s p.vars.length p.bA p.ao.length p.eF p.bj.length p.ef ⟨p.aT.toArray⟩ p.bx p.eL p.ea W.all _ ?_;refine bY fun m W1 _ bM=>aK (fun c=>aP fun _ _ _=>⟨_,rfl,?_⟩) fun c=>?_
 ·simp only[U,cX] at c;rw[au.kind,if_pos c];rfl
 ·simp only[U,c7] at c;obtain⟨n,rfl⟩:∃n:Nat,s=(n:Int):=⟨s.toNat,by omega⟩;have cB:n<p.ao.length:=by omega
  have j:p.ao[n]? =some p.ao[n]:=dn cB;generalize p.ao[n]=v at j;refine a6 ?_ (a6 ?_ (a6 ?_ (cI ⟨v.n.ay,fun cq bo=>?_,?_⟩)))
  ·simp only[E.b,aR,aX.push];exact b_.dL hp.ns (by omega)
  ·simp only[U];exact c_ (by omega)
  ·simp only[U];exact dW (by omega)
  ·have:=ed (P:=prog) eO hp.ns rN (k:=1) j (by decide) (u:=.int .u8 v.n.ay) rfl (aD bM bo);simp only[U] at this ⊢;exact this
  ·simp only[aU];refine aP fun _ _ _=>⟨_,rfl,?_⟩
   rw[au.kind,if_neg (by omega),ih,kZ j];rfl
theorem tL (v:d_) (k:Int) (W:al):da prog 63 #[.agg (dN v).toArray,.int .u8 k] W (.bool (au.gd v.n k)):=by
 refine agQ v.n.ay v.n.bp v.n.on v.n.ev k v.n.vars.length v.bA v.n.bL.length v.ck v.n.cb ⟨v.n.aT.toArray⟩ ⟨v.n.key.toArray⟩ ⟨v.n.ca.toArray⟩ ⟨v.n.set.toArray⟩ v.bx v.ch W.all _ ?_;exact bY fun m W1 _ bM=>aP fun _ _ _=>⟨_,rfl,rfl⟩
theorem ajg (v u:d_) (m:Nat) (W:al) (hm:W.w.heap[m]? =some (.cells (dN u).toArray i_)):da prog 61 #[.agg (dN v).toArray,.pointer (some ⟨m,0,none⟩)] W (.bool (v.n.aT==u.n.aT)):=by
 refine agS v.n.ay v.n.bp v.n.on v.n.ev u.n.ay u.n.bp u.n.on u.n.ev v.n.vars.length v.bA v.n.bL.length v.ck u.n.vars.length u.bA u.n.bL.length u.ck v.n.cb u.n.cb ⟨v.n.aT.toArray⟩ ⟨v.n.key.toArray⟩ ⟨v.n.ca.toArray⟩ ⟨v.n.set.toArray⟩ ⟨u.n.aT.toArray⟩ ⟨u.n.key.toArray⟩ ⟨u.n.ca.toArray⟩ ⟨u.n.set.toArray⟩ v.bx v.ch u.bx u.ch m W.all _ hm (fq.1 hm).1 ?_;exact bY fun m W1 _ bM=>aP fun _ _ _=>⟨_,rfl,rfl⟩
theorem ajh (u:d_) (l:List d_) (a:Option Addr) (c:Nat) (m:Nat) (W:al) (aO:l.length<=1000000) (ct:b_ W a l.length c 11 (l.flatMap dN)) (hm:W.w.heap[m]? =some (.cells (dN u).toArray i_)) (bf:W.aV m):
  gR prog 117 #[.slice a l.length c,.func (.func 61) #[] #[.pointer (some ⟨m,0,none⟩)]] W.all fun v w'=>∃r:Int,v= .int .i64 r∧er 0 r=l.any fun y=>y.n.aT==u.n.aT:=by
 refine agX u.n.ay u.n.bp u.n.on u.n.ev l.length c u.n.vars.length u.bA u.n.bL.length u.ck u.n.cb ⟨u.n.aT.toArray⟩ ⟨u.n.key.toArray⟩ ⟨u.n.ca.toArray⟩ ⟨u.n.set.toArray⟩ a u.bx u.ch m W.all _ hm (W.lt m bf) ?_;refine dJ (fun aj vs ls _=>∃i:Nat,vs=[.int .i64 (i:Nat)]∧ls=[]∧i<=l.length∧aj=l.length-i∧(l.any fun y=>y.n.aT==u.n.aT)=((l.drop i).any fun y=>y.n.aT==u.n.aT)) l.length ⟨0,by simp[U],rfl,dr _,rfl,rfl⟩ ?_;rintro aj vs fG cn bH ⟨i,rfl,rfl,a8,rfl,bl⟩;have gM:=aD W.dw bH;refine⟨(i:Int),rfl,rfl,fun _=>aK (fun aJ=>?_) fun aJ=>aP fun _ _ _=>⟨_,rfl,-1,rfl,?_⟩⟩
 ·simp only[U,cX] at aJ;have cp:i<l.length:=by omega
  have j:l[i]? =some l[i]:=dn cp;rw[h4 cp] at bl;generalize l[i]=v at j bl;refine a6 ?_ (a6 ?_ (cI ⟨v.n.ay,v.n.bp,v.n.on,v.n.ev,v.n.vars.length,v.bA,v.n.bL.length,v.ck,v.n.cb,⟨v.n.aT.toArray⟩,⟨v.n.key.toArray⟩,⟨v.n.ca.toArray⟩,⟨v.n.set.toArray⟩,v.bx,v.ch,fun cq bo=>?_,?_⟩))
  ·simp only[E.b,aR,aX.push];exact b_.dL ct (by omega)
  ·simp only[U];exact c_ (by omega)
  ·have:=gh (P:=prog) eO (by decide) ct iw ix j (aD gM bo);simp only[U,ff] at this ⊢;exact this
  ·simp only[aU];refine b5 (v:=.bool (v.n.aT==u.n.aT)) (fun I _=>ajg v u m cn (I _ (bd.2 rfl))) ⟨v.n.aT==u.n.aT,rfl,fun cq bo=>?_⟩;simp only[aU];refine aK (fun c2=>aP fun _ _ _=>⟨_,rfl,(i:Int),rfl,?_⟩) fun c2=>b1 ⟨l.length-(i+1),by omega,i+1,?_,rfl,by omega,rfl,?_⟩
   ·have c2:(v.n.aT==u.n.aT)=true:=c2;rw[bl,r0,c2];exact c_ (by omega)
   ·simp only[U];rw[cE (by omega) (by omega)];rfl
   ·have c2:(v.n.aT==u.n.aT)=false:=c2;rw[bl,r0,c2,kr]
 ·simp only[U,c7] at aJ;rw[bl,fV (by omega)];rfl
theorem aji (u:d_) (l:List d_) (a:Option Addr) (c:Nat) (m:Nat) (W:al) (aO:l.length<=1000000) (ct:hN W.w a l.length c 11 (l.flatMap dN)) (hm:W.w.heap[m]? =some (.cells (dN u).toArray i_)):
  da prog 60 #[.slice a l.length c,.func (.func 61) #[] #[.pointer (some ⟨m,0,none⟩)]] W (.bool (l.any fun y=>y.n.aT==u.n.aT)):=by
 have BS:m<W.w.heap.size:=(fq.1 hm).1;refine agZ u.n.ay u.n.bp u.n.on u.n.ev l.length c u.n.vars.length u.bA u.n.bL.length u.ck u.n.cb ⟨u.n.aT.toArray⟩ ⟨u.n.key.toArray⟩ ⟨u.n.ca.toArray⟩ ⟨u.n.set.toArray⟩ a u.bx u.ch m W.all _ hm BS ?_;refine iV (fun _ _=>ajh u l a c m W.all aO ct.all hm BS) fun v w' _ ⟨r,aB,aw⟩=>⟨r,aB,fun cn _ _ _=>aP fun _ _ _=>⟨_,rfl,?_⟩⟩
 show Value.bool (er 0 r)=_;rw[aw]
structure oQ where
 a:Option Addr
 n:Nat
 c:Nat
abbrev oQ.v (s:oQ):Value:=.slice s.a s.n s.c
abbrev pw (D:oQ) (p:cP) (cr to:oQ):List Value:=[D.v,gO p.aT,.slice p.bx p.vars.length p.bA,.slice p.eL p.ao.length p.eF,.slice p.ea p.bj.length p.ef,cr.v,to.v]
abbrev nq:TypeId:=71
theorem bK.raise {P:Program} {f:FuncId} {args:Array Value} {W:al} {m:Nat} {R:Ending->World->Prop} {c:_} (h:bK P f args (W.fz [m]) R) (hm:W.w.heap[m]? =some c) (aw:∀e w',R e w'->w'.heap[m]? =some c):bK P f args W.all R:=by
 unfold bK at*;refine Calls.mono h fun e w' ⟨aA,gg⟩=>⟨⟨aA.os,aA.tape,aA.output,aA.size,fun b I=>?_⟩,gg⟩
 by_cases a7:b=m
 ·subst a7;rw[aw e w' gg];exact hm.symm
 ·exact aA.du b ⟨I,fun h=>a7 (bd.1 h)⟩
theorem zm {f:FuncId} {args:Array Value} {W:al} {m:Nat} {cs:Array Value} {v:Value} (bf:¬W.aV m) (hm:W.w.heap[m]? =some (.cells cs nq))
  (h:∀V,V.w=W.w->Ext W V->¬V.aV m->bK prog f args V fun e w'=>e= .returned v∧w'.heap[m]? =some (.cells cs nq)):da prog f args W v:=by
 have:=bK.raise (h (W.fz [m]) rfl (W.Le fun b I hm=>bf (by rw[<-bd.1 hm];exact I)) fun h=>h.2 (bd.2 rfl)) hm fun e w' gg=>gg.2
 exact bK.mono this fun e w' _ gg=>⟨v,gg.1,rfl⟩
theorem EL {α:Type} {f:Nat->α->Bool} {l:List α} {i:Nat} (h:i<l.length):au.gY f i (l.drop i)=(f i l[i]&&au.gY f (i+1) (l.drop (i+1))):=by
 rw[h4 h];rfl
theorem EM {p:cP} {i:Nat} {v:d_} (h:p.ao[i]? =some v) (a8:i<p.av.ao.length):p.av.ao[i]=v.n:=by
 have:p.av.ao[i]? =some v.n:=by unfold cP.av;simp only[mD,h,l6]
 rw[dn a8] at this;exact bm this
theorem Q0:∀l:List Int,(l.map (Value.int .i64))=l.flatMap fun x=>[Value.int .i64 x]
 |[]=>rfl
 |x::l=>by rw[jo,Q0 l];rfl
theorem ajj (D:oQ) (p:cP) (cr to:List Int) (ea ry:Option Addr) (ef xy:Nat) (m:Nat) (W:al) (hp:fw p W) (nr:cr.length=p.ao.length) (h0:to.length=p.ao.length)
  (eS:b_ W ea cr.length ef 1 (cr.map (Value.int .i64))) (cC:b_ W ry to.length xy 1 (to.map (Value.int .i64))) (ik:∀v∈p.ao,v.n.bp<p.ao.length)
  (bf:¬W.aV m) (hm:W.w.heap[m]? =some (.cells (pw D p ⟨ea,cr.length,ef⟩ ⟨ry,to.length,xy⟩).toArray nq)):
  da prog 31 #[.pointer (some ⟨m,0,none⟩)] W (.bool (au.sC p.av cr to)):=by
 refine zm bf hm fun V nR j l2=>?_
 rw[<-nR] at hm;have hp:=hp.ext j;have h5:=hp.h6;have eS:=eS.ext j;have cC:=cC.ext j;rw[Q0] at eS cC;refine ahP D.n D.c p.vars.length p.bA p.ao.length p.eF p.bj.length p.ef cr.length ef to.length xy ⟨p.aT.toArray⟩ D.a p.bx p.eL p.ea ea ry m V _ hm l2 ?_;refine dJ (fun aj vs ls _=>∃i:Nat,vs=[.int .i64 (i:Nat)]∧ls=[]∧i<=p.ao.length∧aj=p.ao.length-i∧au.sC p.av cr to=au.gY (au.u9 p.av cr to) i (p.av.ao.drop i)) p.ao.length ⟨0,by simp[U],rfl,dr _,rfl,rfl⟩ ?_;rintro aj vs fG cn bH ⟨i,rfl,rfl,a8,rfl,bl⟩;refine⟨(i:Int),rfl,rfl,fun _=>aK (fun aJ=>?_) fun aJ=>aP fun J _ _=>⟨?_,J _ (bd.2 rfl)⟩⟩
 ·simp only[U,cX] at aJ;have cp:i<p.ao.length:=by omega
  have fb:p.ao[i]? =some p.ao[i]:=dn cp;have Q1:=ik _ (h9 cp);have l_:i<p.av.ao.length:=by rw[kM];exact cp
  rw[EL l_,EM fb l_] at bl;have ajk:to[i]? =some (to.getD i 0):=by rw[oe,dn (by omega)];rfl
  have Ah:cr[i]? =some (cr.getD i 0):=by rw[oe,dn (by omega)];rfl
  generalize p.ao[i]=v at fb Q1 bl;refine a6 ?_ (a6 ?_ (cI ⟨v.n.ay,v.n.bp,v.n.on,v.n.ev,v.n.vars.length,v.bA,v.n.bL.length,v.ck,v.n.cb,⟨v.n.aT.toArray⟩,⟨v.n.key.toArray⟩,⟨v.n.ca.toArray⟩,⟨v.n.set.toArray⟩,v.bx,v.ch,fun cq bo=>?_,?_⟩))
  ·simp only[E.b,aR,aX.push];exact b_.dL hp.ns (by omega)
  ·simp only[U];exact c_ (by omega)
  ·have:=gh (P:=prog) eO (by decide) hp.ns iw ix fb (aD bH bo);simp only[U,ff] at this ⊢;exact this
  simp only[aU];have BU:∀(b:Bool),au.u9 p.av cr to i v.n=true->au.sC p.av cr to=au.gY (au.u9 p.av cr to) (i+1) (p.av.ao.drop (i+1)):=fun _ h=>by rw[bl,h,eX]
  have gZ:au.u9 p.av cr to i v.n=false->au.sC p.av cr to=false:=fun h=>by rw[bl,h,jX]
  refine bY fun m1 cq _ bo=>bS fun dH cd=>lF ⟨au.kind p.av v.n.bp,fun dE hd _ _=>QZ p dE (hp.ext (aD bH (aD bo (aD cd hd)))) v.n.bp Q1,?_⟩
  simp only[aU];have dO:=aD bH (aD bo cd);refine cj fun dI cA=>?_
  have ej:=aD dO cA;refine aK (fun c2=>?_) fun c2=>?_
  ·have c2:(au.kind p.av v.n.bp==12)=true:=c2;refine eC fun dX _ dK _ _=>b1 ⟨p.ao.length-(i+1),by omega,i+1,?_,rfl,by omega,rfl,BU true (by rw[au.u9,c2,qh])⟩
   simp only[U];rw[cE (by omega) (by omega)];rfl
  ·have c2:(au.kind p.av v.n.bp==12)=false:=c2;have eA:au.u9 p.av cr to i v.n=(!(((to.getD i 0==0&&!au.apart v.n)&&!(v.n.ay==1))&&!au.gd v.n 6)&&!(((cr.getD i 0==0&&!au.apart v.n)&&!(v.n.ay==2))&&!au.gd v.n 5)):=by rw[au.u9,c2,kr]
   refine a6 ?_ (a6 ?_ (cI ⟨to.getD i 0,fun cV bU=>?_,?_⟩))
   ·simp only[E.b,aR,aX.push];exact b_.dL cC (by omega)
   ·simp only[U];exact dW (by omega)
   ·have:=ed (P:=prog) (f:=fun x=>[Value.int .i64 x]) (sz:=1) (fun _=>rfl) cC nn (k:=0) ajk (by decide) (u:=.int .i64 (to.getD i 0)) rfl (aD ej bU);simp only[U] at this ⊢;exact this
   simp only[aU];have ax0:∀(Z:Tree) (dE:al),True:=fun _ _=>trivial
   refine aK (fun c3=>?_) fun c3=>?_
   ·have c3:((to.getD i 0==0&&!au.apart v.n)&&!(v.n.ay==1))=true:=c3;refine b5 (v:=.bool (au.gd v.n 6)) (fun _ _=>tL v 6 dI) ⟨au.gd v.n 6,rfl,fun cV bU=>?_⟩;simp only[aU];have jk:=aD ej bU;refine aK (fun c4=>aP fun J _ _=>⟨?_,J _ (bd.2 rfl)⟩) fun c4=>?_
    ·have c4:(!au.gd v.n 6)=true:=c4;rw[gZ (by rw[eA,c3,c4];rfl)];rfl
    ·have c4:(!au.gd v.n 6)=false:=c4;rw[c3,c4,oY,qi,eX] at eA;refine a6 ?_ (a6 ?_ (cI ⟨cr.getD i 0,fun dQ df=>?_,?_⟩))
     ·simp only[E.b,aR,aX.push];exact b_.dL eS (by omega)
     ·simp only[U];exact dW (by omega)
     ·have:=ed (P:=prog) (f:=fun x=>[Value.int .i64 x]) (sz:=1) (fun _=>rfl) eS nn (k:=0) Ah (by decide) (u:=.int .i64 (cr.getD i 0)) rfl (aD jk df);simp only[U] at this ⊢;exact this
     simp only[aU];refine aK (fun c5=>?_) fun c5=>?_
     ·have c5:((cr.getD i 0==0&&!au.apart v.n)&&!(v.n.ay==2))=true:=c5;refine b5 (v:=.bool (au.gd v.n 5)) (fun _ _=>tL v 5 cV) ⟨au.gd v.n 5,rfl,fun dQ df=>?_⟩;simp only[aU];refine aK (fun bw=>aP fun J _ _=>⟨?_,J _ (bd.2 rfl)⟩) fun bw=>?_
      ·have bw:(!au.gd v.n 5)=true:=bw;rw[gZ (by rw[eA,c5,bw];rfl)];rfl
      ·have bw:(!au.gd v.n 5)=false:=bw;refine eC fun dX _ dK _ _=>b1 ⟨p.ao.length-(i+1),by omega,i+1,?_,rfl,by omega,rfl,BU true (by rw[eA,c5,bw];rfl)⟩
       simp only[U];rw[cE (by omega) (by omega)];rfl
     ·have c5:((cr.getD i 0==0&&!au.apart v.n)&&!(v.n.ay==2))=false:=c5;refine eC fun dX _ dK _ _=>b1 ⟨p.ao.length-(i+1),by omega,i+1,?_,rfl,by omega,rfl,BU true (by rw[eA,c5];rfl)⟩
      simp only[U];rw[cE (by omega) (by omega)];rfl
   ·have c3:((to.getD i 0==0&&!au.apart v.n)&&!(v.n.ay==1))=false:=c3;rw[c3,jX,qi,eX] at eA;refine a6 ?_ (a6 ?_ (cI ⟨cr.getD i 0,fun dQ df=>?_,?_⟩))
    ·simp only[E.b,aR,aX.push];exact b_.dL eS (by omega)
    ·simp only[U];exact dW (by omega)
    ·have:=ed (P:=prog) (f:=fun x=>[Value.int .i64 x]) (sz:=1) (fun _=>rfl) eS nn (k:=0) Ah (by decide) (u:=.int .i64 (cr.getD i 0)) rfl (aD ej df);simp only[U] at this ⊢;exact this
    simp only[aU];refine aK (fun c5=>?_) fun c5=>?_
    ·have c5:((cr.getD i 0==0&&!au.apart v.n)&&!(v.n.ay==2))=true:=c5;refine b5 (v:=.bool (au.gd v.n 5)) (fun _ _=>tL v 5 dI) ⟨au.gd v.n 5,rfl,fun dQ df=>?_⟩;simp only[aU];refine aK (fun bw=>aP fun J _ _=>⟨?_,J _ (bd.2 rfl)⟩) fun bw=>?_
     ·have bw:(!au.gd v.n 5)=true:=bw;rw[gZ (by rw[eA,c5,bw];rfl)];rfl
     ·have bw:(!au.gd v.n 5)=false:=bw;refine eC fun dX _ dK _ _=>b1 ⟨p.ao.length-(i+1),by omega,i+1,?_,rfl,by omega,rfl,BU true (by rw[eA,c5,bw];rfl)⟩
      simp only[U];rw[cE (by omega) (by omega)];rfl
    ·have c5:((cr.getD i 0==0&&!au.apart v.n)&&!(v.n.ay==2))=false:=c5;refine eC fun dX _ dK _ _=>b1 ⟨p.ao.length-(i+1),by omega,i+1,?_,rfl,by omega,rfl,BU true (by rw[eA,c5];rfl)⟩
     simp only[U];rw[cE (by omega) (by omega)];rfl
 ·simp only[U,c7] at aJ;rw[bl,fV (by rw[kM];omega)];rfl
theorem ajl (D cr to:oQ) (p:cP) (m:Nat) (W:al) (hp:fw p W) (bf:¬W.aV m) (hm:W.w.heap[m]? =some (.cells (pw D p cr to).toArray nq)):
  da prog 33 #[.pointer (some ⟨m,0,none⟩)] W (.bool (au.tK p.av)):=by
 refine zm bf hm fun V nR j l2=>?_
 rw[<-nR] at hm;have hp:=hp.ext j;have h5:=hp.h6;refine ais D.n D.c p.vars.length p.bA p.ao.length p.eF p.bj.length p.ef cr.n cr.c to.n to.c ⟨p.aT.toArray⟩ D.a p.bx p.eL p.ea cr.a to.a m V _ hm l2 ?_
 have hc:au.tK p.av=p.ao.all fun v=>!au.gd v.n 5||(p.ao.countP (fun u=>au.fits v.n u.n)==1):=by
  unfold au.tK cP.av;simp only[List.all_map,List.countP_map,Function.comp_def]
 rw[hc];generalize bP:(fun v:d_=>!au.gd v.n 5||(p.ao.countP (fun u=>au.fits v.n u.n)==1))=g;refine dJ (fun aj vs ls _=>∃i:Nat,vs=[.int .i64 (i:Nat)]∧ls=[]∧i<=p.ao.length∧aj=p.ao.length-i∧p.ao.all g=(p.ao.drop i).all g) p.ao.length ⟨0,by simp[U],rfl,dr _,rfl,rfl⟩ ?_;rintro aj vs fG cn bH ⟨i,rfl,rfl,a8,rfl,bl⟩;refine⟨(i:Int),rfl,rfl,fun _=>aK (fun aJ=>?_) fun aJ=>aP fun J _ _=>⟨?_,J _ (bd.2 rfl)⟩⟩
 ·simp only[U,cX] at aJ;have cp:i<p.ao.length:=by omega
  have fb:p.ao[i]? =some p.ao[i]:=dn cp;rw[h4 cp,qe] at bl;generalize p.ao[i]=v at fb bl;have nZ:g v=(!au.gd v.n 5||(p.ao.countP (fun u=>au.fits v.n u.n)==1)):=by rw[<-bP]
  refine a6 ?_ (a6 ?_ (cI ⟨v.n.ay,v.n.bp,v.n.on,v.n.ev,v.n.vars.length,v.bA,v.n.bL.length,v.ck,v.n.cb,⟨v.n.aT.toArray⟩,⟨v.n.key.toArray⟩,⟨v.n.ca.toArray⟩,⟨v.n.set.toArray⟩,v.bx,v.ch,fun cq bo=>?_,?_⟩))
  ·simp only[E.b,aR,aX.push];exact b_.dL hp.ns (by omega)
  ·simp only[U];exact c_ (by omega)
  ·have:=gh (P:=prog) eO (by decide) hp.ns iw ix fb (aD bH bo);simp only[U,ff] at this ⊢;exact this
  simp only[aU];refine bY fun m1 cq _ bo=>bS fun dH cd=>b5 (v:=.bool (au.gd v.n 5)) (fun _ _=>tL v 5 dH) ⟨au.gd v.n 5,rfl,fun dI cA=>?_⟩
  have ej:=aD bH (aD bo (aD cd cA));simp only[aU];refine aK (fun c2=>?_) fun c2=>?_
  ·have c2:(!au.gd v.n 5)=true:=c2;refine eC fun dX _ dK _ _=>b1 ⟨p.ao.length-(i+1),by omega,i+1,?_,rfl,by omega,rfl,by rw[bl,nZ,c2,qh,eX]⟩
   simp only[U];rw[cE (by omega) (by omega)];rfl
  ·have c2:(!au.gd v.n 5)=false:=c2;rw[c2,kr] at nZ;refine dJ (fun aj vs ls _=>∃i k:Nat,vs=[.int .i64 (i:Nat),.int .i64 (k:Nat)]∧ls=[]∧i<=p.ao.length∧k<=i∧aj=p.ao.length-i∧p.ao.countP (fun u=>au.fits v.n u.n)=k+(p.ao.drop i).countP (fun u=>au.fits v.n u.n)) p.ao.length ⟨0,0,by simp[U],rfl,dr _,dr _,rfl,by simp⟩ ?_;rintro EN vs fG cV bU ⟨i2,k,rfl,rfl,ajm,aA,rfl,I⟩;have jk:=aD ej bU;refine⟨(i2:Int),(k:Int),rfl,rfl,fun _=>aK (fun d1=>?_) fun d1=>?_⟩
   ·simp only[U,cX] at d1;have zn:i2<p.ao.length:=by omega
    have tM:p.ao[i2]? =some p.ao[i2]:=dn zn;rw[h4 zn,vJ] at I;generalize p.ao[i2]=u at tM I;refine a6 ?_ (cI ⟨u.n.ay,u.n.bp,u.n.on,u.n.ev,u.n.vars.length,u.bA,u.n.bL.length,u.ck,u.n.cb,⟨u.n.aT.toArray⟩,⟨u.n.key.toArray⟩,⟨u.n.ca.toArray⟩,⟨u.n.set.toArray⟩,u.bx,u.ch,fun cq bo=>?_,?_⟩)
    ·simp only[U];exact c_ (by omega)
    ·have:=gh (P:=prog) eO (by decide) hp.ns iw ix tM (aD jk bo);simp only[U,ff] at this ⊢;exact this
    simp only[aU];refine bY fun m2 dQ _ df=>bS fun dX dK=>b5 (v:=.bool (au.gd u.n 6)) (fun _ _=>tL u 6 dX) ⟨au.gd u.n 6,rfl,fun fm eY=>?_⟩
    simp only[aU];refine aK (fun d2=>?_) fun d2=>?_
    ·have d2:au.fits v.n u.n=true:=d2;refine eC fun fU _ fu _ _=>b1 ⟨p.ao.length-(i2+1),by omega,i2+1,k+1,?_,rfl,by omega,by omega,rfl,?_⟩
     ·simp only[U];rw[cE (by omega) (by omega),cE (by omega) (by omega)];rfl
     ·rw[I,if_pos d2];omega
    ·have d2:au.fits v.n u.n=false:=d2;refine eC fun fU _ fu _ _=>b1 ⟨p.ao.length-(i2+1),by omega,i2+1,k,?_,rfl,by omega,by omega,rfl,?_⟩
     ·simp only[U];rw[cE (by omega) (by omega)];rfl
     ·rw[I,if_neg (by rw[d2];exact fun h=>nomatch h)];omega
   ·simp only[U,c7] at d1;rw[fV (by omega),vK,ff] at I;refine aK (fun d2=>aP fun J _ _=>⟨?_,J _ (bd.2 rfl)⟩) fun d2=>?_
    ·have d2:(!((k:Int)==1))=true:=d2;have d2:k≠1:=by rintro rfl;simp at d2
     rw[bl,nZ,I,show(k==1)=false by simpa using d2];rfl
    ·have d2:(!((k:Int)==1))=false:=d2
     have d2:k=1:=by
      simp only[kt,beq_iff_eq] at d2;omega
     refine eC fun fU _ fu _ _=>b1 ⟨p.ao.length-(i+1),by omega,i+1,?_,rfl,by omega,rfl,by rw[bl,nZ,I,d2];rfl⟩
     simp only[U];rw[cE (by omega) (by omega)];rfl
 ·simp only[U,c7] at aJ;rw[bl,fV (by omega)];rfl
theorem ajn (D cr to:oQ) (p:cP) (m:Nat) (W:al) (hp:fw p W) (wv:∀v∈p.ao,v.n.ay=15->0<=v.n.on) (bf:¬W.aV m) (hm:W.w.heap[m]? =some (.cells (pw D p cr to).toArray nq)):
  da prog 28 #[.pointer (some ⟨m,0,none⟩)] W (.bool (au.ho p.av)):=by
 refine zm bf hm fun V nR j l2=>?_
 rw[<-nR] at hm;have hp:=hp.ext j;have h5:=hp.h6;have MT:p.ao.length<=p.eF:=hp.ns.2.1;refine ahb D.n D.c p.vars.length p.bA p.ao.length p.eF p.bj.length p.ef cr.n cr.c to.n to.c ⟨p.aT.toArray⟩ D.a p.bx p.eL p.ea cr.a to.a m V _ hm l2 ?_;generalize ee:au.gY (au.rL p.av) 0 p.av.ao=A
 have hc:au.ho p.av=(A&&p.ao.all fun v=>au.bound p.av v.n):=by
  rw[au.ho,ee];congr 1;unfold cP.av;simp only[List.all_map,Function.comp_def]
 rw[hc];refine dJ (fun aj vs ls _=>∃i:Nat,vs=[.int .i64 (i:Nat)]∧ls=[]∧i<=p.ao.length∧aj=p.ao.length-i∧A=au.gY (au.rL p.av) i (p.av.ao.drop i)) p.ao.length ⟨0,by simp[U],rfl,dr _,rfl,ee.symm⟩ ?_;rintro aj vs fG cn bH ⟨i,rfl,rfl,a8,rfl,bl⟩;refine⟨(i:Int),rfl,rfl,fun _=>aK (fun aJ=>?_) fun aJ=>?_⟩
 ·simp only[U,cX] at aJ;have cp:i<p.ao.length:=by omega
  have fb:p.ao[i]? =some p.ao[i]:=dn cp;have l_:i<p.av.ao.length:=by rw[kM];exact cp
  rw[EL l_,EM fb l_] at bl;generalize p.ao[i]=v at fb bl;have gZ:au.rL p.av i v.n=false->(A&&p.ao.all fun v=>au.bound p.av v.n)=false:=fun h=>by rw[bl,h,jX,jX]
  have gb:au.rL p.av i v.n=true->A=au.gY (au.rL p.av) (i+1) (p.av.ao.drop (i+1)):=fun h=>by rw[bl,h,eX]
  have nt:(p.av.ao.take i).any (fun k=>k.aT==v.n.aT)=(p.ao.take i).any fun y=>y.n.aT==v.n.aT:=by
   unfold cP.av;simp only[<-List.map_take,List.any_map,Function.comp_def]
  refine a6 ?_ (a6 ?_ (cI ⟨v.n.ay,v.n.bp,v.n.on,v.n.ev,v.n.vars.length,v.bA,v.n.bL.length,v.ck,v.n.cb,⟨v.n.aT.toArray⟩,⟨v.n.key.toArray⟩,⟨v.n.ca.toArray⟩,⟨v.n.set.toArray⟩,v.bx,v.ch,fun cq bo=>?_,?_⟩))
  ·simp only[E.b,aR,aX.push];exact b_.dL hp.ns (by omega)
  ·simp only[U];exact c_ (by omega)
  ·have:=gh (P:=prog) eO (by decide) hp.ns iw ix fb (aD bH bo);simp only[U,ff] at this ⊢;exact this
  simp only[aU];refine bY fun m1 cq _ bo=>bS fun dH cd=>a6 (by simp only[U];exact c_ (by omega)) (tt ?_)
  have dO:=aD bH (aD bo cd);simp only[aU];have cC:b_ dH p.eL i p.eF 11 ((p.ao.take i).flatMap dN):=by rw[<-EE eO];exact Iy (hp.ns.ext dO) a8
  have eU:(p.ao.take i).length=i:=by rw[mX];omega
  refine b5 (v:=.bool ((p.ao.take i).any fun y=>y.n.aT==v.n.aT)) (fun I _=>?_) ⟨(p.ao.take i).any fun y=>y.n.aT==v.n.aT,rfl,fun dI cA=>?_⟩
  ·have:=aji v (p.ao.take i) p.eL p.eF m1 dH (by omega) (by rw[eU];exact eD.w cC) (I _ (bd.2 rfl));rw[eU] at this;simp only[af.b2,af.ak,E.i,aR,eH,uc,Nat.sub_zero,Iz];exact this
  simp only[aU];have ej:=aD dO cA;refine aK (fun c2=>aP fun J _ _=>⟨?_,J _ (bd.2 rfl)⟩) fun c2=>?_
  ·have c2:((p.ao.take i).any fun y=>y.n.aT==v.n.aT)=true:=c2;rw[gZ (by rw[au.rL,nt,c2];rfl)];rfl
  ·have c2:((p.ao.take i).any fun y=>y.n.aT==v.n.aT)=false:=c2;have eA:au.rL p.av i v.n=((v.n.bp==au.dS p.av i)&&(!(decide (0<=v.n.bp))||ab.scope (au.dc p.av v.n.bp.toNat).ay)):=by rw[au.rL,nt,c2];rfl
   refine lF ⟨au.dS p.av i,fun dE hd _ _=>xx p dE (hp.ext (aD ej hd)) i cp,?_⟩;simp only[aU];have fr:=au.nQ p.av i
   have Q2:∀{b:Bool},((v.n.bp==au.dS p.av i)&&decide (0<=v.n.bp))=b->(b=true->v.n.bp=au.dS p.av i∧0<=v.n.bp):=by
    intro b I h;rw[h] at I;simpa using I
   refine a6 ?_ (a6 ?_ ?_)
   ·show(!((v.n.bp==au.dS p.av i)&&decide (0<=v.n.bp))||decide (0<=v.n.bp))=true;cases h:decide (0<=v.n.bp)<;>simp
   ·show(!((v.n.bp==au.dS p.av i)&&decide (0<=v.n.bp))||eg v.n.bp (p.ao.length:Int))=true;cases h:((v.n.bp==au.dS p.av i)&&decide (0<=v.n.bp)) with
    |false=>rfl
    |true=>have:=Q2 h rfl;exact dW (by omega)
   refine aK (fun c3=>?_) fun c3=>?_
   ·have c3:((v.n.bp==au.dS p.av i)&&decide (0<=v.n.bp))=true:=c3;have c4:=Q2 c3 rfl;obtain⟨k,aA⟩:∃k:Nat,v.n.bp=(k:Int):=⟨v.n.bp.toNat,by omega⟩;have e8:k<p.ao.length:=by omega
    have va:p.ao[k]? =some p.ao[k]:=dn e8;generalize p.ao[k]=u at va
    have eA:au.rL p.av i v.n=ab.scope u.n.ay:=by
     rw[eA,<-c4.1,aA,ih,kZ va,decide_eq_true (by omega:(0:Int)<=(k:Int))];simp
    refine cI ⟨u.n.ay,fun cV bU=>?_,?_⟩
    ·have:=ed (P:=prog) eO hp.ns rN (k:=1) va (by decide) (u:=.int .u8 u.n.ay) rfl (aD ej bU);simp only[U,aA,eH] at this ⊢;exact this
    simp only[aU];refine lF ⟨ab.scope u.n.ay,fun dE hd _ _=>ED u.n.ay dE,?_⟩;simp only[aU];refine cj fun cV bU=>aK (fun c5=>aP fun J _ _=>⟨?_,J _ (bd.2 rfl)⟩) fun c5=>?_
    ·have c5:(!ab.scope u.n.ay)=true:=c5;rw[gZ (by rw[eA];simpa using c5)];rfl
    ·have c5:(!ab.scope u.n.ay)=false:=c5;refine eC fun dX _ dK _ _=>b1 ⟨p.ao.length-(i+1),by omega,i+1,?_,rfl,by omega,rfl,gb (by rw[eA];simpa using c5)⟩
     simp only[U];rw[cE (by omega) (by omega)];rfl
   ·have c3:((v.n.bp==au.dS p.av i)&&decide (0<=v.n.bp))=false:=c3;refine cj fun cV bU=>aK (fun c5=>aP fun J _ _=>⟨?_,J _ (bd.2 rfl)⟩) fun c5=>?_
    ·have c5:(!(v.n.bp==au.dS p.av i))=true:=c5;have c5:(v.n.bp==au.dS p.av i)=false:=by simpa using c5
     rw[gZ (by rw[eA,c5,jX])];rfl
    ·have c5:(!(v.n.bp==au.dS p.av i))=false:=c5;have c5:(v.n.bp==au.dS p.av i)=true:=by simpa using c5
     rw[c5,eX] at c3;refine eC fun dX _ dK _ _=>b1 ⟨p.ao.length-(i+1),by omega,i+1,?_,rfl,by omega,rfl,gb (by rw[eA,c5,c3];rfl)⟩
     simp only[U];rw[cE (by omega) (by omega)];rfl
 ·simp only[U,c7] at aJ;rw[fV (by rw[kM];omega)] at bl;have bl:A=true:=bl;rw[bl,eX];generalize bP:(fun v:d_=>au.bound p.av v.n)=g;refine dJ (fun aj vs ls _=>∃i:Nat,vs=[.int .i64 (i:Nat)]∧ls=[]∧i<=p.ao.length∧aj=p.ao.length-i∧p.ao.all g=(p.ao.drop i).all g) p.ao.length ⟨0,by simp[U],rfl,dr _,rfl,rfl⟩ ?_;rintro EN vs fG cq bo ⟨i2,rfl,rfl,ajm,rfl,I⟩;have eK:=aD bH bo;refine⟨(i2:Int),rfl,rfl,fun _=>aK (fun d1=>?_) fun d1=>aP fun J _ _=>⟨?_,J _ (bd.2 rfl)⟩⟩
  ·simp only[U,cX] at d1;have zn:i2<p.ao.length:=by omega
   have fb:p.ao[i2]? =some p.ao[i2]:=dn zn;have Q3:=wv _ (h9 zn);rw[h4 zn,qe] at I;generalize p.ao[i2]=v at fb I Q3;have nZ:g v=(!(v.n.ay==15)||(decide (v.n.on<(p.ao.length:Int))&&(ab.act (au.dc p.av v.n.on.toNat).ay&&(au.dc p.av v.n.on.toNat).bp==v.n.bp))):=by rw[<-bP,<-kM];rfl
   have gZ:g v=false->p.ao.all g=false:=fun h=>by rw[I,h,jX]
   have gb:g v=true->p.ao.all g=(p.ao.drop (i2+1)).all g:=fun h=>by rw[I,h,eX]
   refine a6 ?_ (a6 ?_ (cI ⟨v.n.ay,v.n.bp,v.n.on,v.n.ev,v.n.vars.length,v.bA,v.n.bL.length,v.ck,v.n.cb,⟨v.n.aT.toArray⟩,⟨v.n.key.toArray⟩,⟨v.n.ca.toArray⟩,⟨v.n.set.toArray⟩,v.bx,v.ch,fun dH cd=>?_,?_⟩))
   ·simp only[E.b,aR,aX.push];exact b_.dL hp.ns (by omega)
   ·simp only[U];exact c_ (by omega)
   ·have:=gh (P:=prog) eO (by decide) hp.ns iw ix fb (aD eK cd);simp only[U,ff] at this ⊢;exact this
   simp only[aU];refine bY fun m1 dH _ cd=>bS fun dI cA=>aK (fun d2=>?_) fun d2=>?_
   ·have d2:(!(v.n.ay==15))=true:=d2;refine eC fun dX _ dK _ _=>b1 ⟨p.ao.length-(i2+1),by omega,i2+1,?_,rfl,by omega,rfl,gb (by rw[nZ,d2,qh])⟩
    simp only[U];rw[cE (by omega) (by omega)];rfl
   ·have d2:(!(v.n.ay==15))=false:=d2;rw[d2,kr] at nZ;have bk:0<=v.n.on:=Q3 (by simpa using d2);have ej:=aD eK (aD cd cA);refine a6 (by simp only[U];rw[c_ (by omega:(0:Int)<=v.n.on),gf]) (a6 ?_ ?_)
    ·show(er (p.ao.length:Int) v.n.on||eg v.n.on (p.ao.length:Int))=true
     by_cases h:(p.ao.length:Int)<=v.n.on
     ·rw[c_ h,qh]
     ·rw[dW (by omega),gf]
    refine aK (fun d3=>?_) fun d3=>?_
    ·have d3:(!er (p.ao.length:Int) v.n.on)=true:=d3
     have d3:v.n.on<(p.ao.length:Int):=by
      simp only[hq,uk] at d3;exact d3
     rw[decide_eq_true d3,eX] at nZ;obtain⟨k,aA⟩:∃k:Nat,v.n.on=(k:Int):=⟨v.n.on.toNat,by omega⟩;have e8:k<p.ao.length:=by omega
     have va:p.ao[k]? =some p.ao[k]:=dn e8;generalize p.ao[k]=u at va;rw[aA,ih,kZ va] at nZ;refine cI ⟨u.n.ay,fun cV bU=>?_,?_⟩
     ·have:=ed (P:=prog) eO hp.ns rN (k:=1) va (by decide) (u:=.int .u8 u.n.ay) rfl (aD ej bU);simp only[U,aA,eH] at this ⊢;exact this
     simp only[aU];refine lF ⟨ab.act u.n.ay,fun dE hd _ _=>ado u.n.ay dE,?_⟩;simp only[aU];refine aK (fun d4=>?_) fun d4=>?_
     ·have d4:ab.act u.n.ay=true:=d4;rw[d4,eX] at nZ;refine cI ⟨u.n.bp,fun cV bU=>?_,?_⟩
      ·have:=ed (P:=prog) eO hp.ns nn (k:=2) va (by decide) (u:=.int .i64 u.n.bp) rfl (aD ej bU);simp only[U,aA,eH] at this ⊢;exact this
      simp only[aU];refine cj fun cV bU=>aK (fun d5=>aP fun J _ _=>⟨?_,J _ (bd.2 rfl)⟩) fun d5=>?_
      ·have d5:(!(u.n.bp==v.n.bp))=true:=d5;rw[gZ (by rw[nZ];simpa using d5)];rfl
      ·have d5:(!(u.n.bp==v.n.bp))=false:=d5;refine eC fun dX _ dK _ _=>b1 ⟨p.ao.length-(i2+1),by omega,i2+1,?_,rfl,by omega,rfl,gb (by rw[nZ];simpa using d5)⟩
       simp only[U];rw[cE (by omega) (by omega)];rfl
     ·have d4:ab.act u.n.ay=false:=d4;refine cj fun cV bU=>aP fun J _ _=>⟨?_,J _ (bd.2 rfl)⟩
      rw[gZ (by rw[nZ,d4,jX])];rfl
    ·have d3:(!er (p.ao.length:Int) v.n.on)=false:=d3
     have d3:(p.ao.length:Int)<=v.n.on:=by
      simp only[kt,uj] at d3;exact d3
     refine cj fun cV bU=>aP fun J _ _=>⟨?_,J _ (bd.2 rfl)⟩
     rw[gZ (by rw[nZ,decide_eq_false (by omega),jX])];rfl
  ·simp only[U,c7] at d1;rw[I,fV (by omega)];rfl
end Go.Proofs.YtkpjmlnhhggenaaGreatDoor
end
section
namespace au
open Go ab
def sD (s:Int) (n:dM):Bool:=n.bp==s&&n.ay==1
end au
namespace Go.Proofs.YtkpjmlnhhggenaaGreatDoor
open Go.Proofs.Tryz Go Go.RowKit Go.cK
theorem eZ {a b:E} {ρ:aX} (h:a.i ρ<=b.i ρ):(E.aF .le a b).b ρ=true:=c_ h
def Q4 (n:Nat) (w':World) (v:Value) (l:List d_):Prop:=∃a c,v= .slice a l.length c∧eD w' (fun b=>n<=b) a l.length c 11 (l.flatMap dN)
theorem Q5 {f:FuncId} {args:Array Value} {W:al} {m:Nat} {cs:Array Value} {R:Value->World->Prop} (bf:¬W.aV m) (hm:W.w.heap[m]? =some (.cells cs nq))
  (h:∀V,V.w=W.w->Ext W V->¬V.aV m->bK prog f args V fun e w'=>∃v,e= .returned v∧R v w'∧w'.heap[m]? =some (.cells cs nq)):gR prog f args W.all R:=by
 have:=bK.raise (h (W.fz [m]) rfl (W.Le fun b I hm=>bf (by rw[<-bd.1 hm];exact I)) fun h=>h.2 (bd.2 rfl)) hm fun e w' gg=>by obtain⟨v,_,_,h⟩:=gg;exact h
 exact bK.mono this fun e w' _ gg=>by obtain⟨v,J,an,_⟩:=gg;exact⟨v,J,an⟩
theorem Q6 (D cr to:oQ) (p:cP) (s:Int) (m:Nat) (W:al) (hp:fw p W) (bf:¬W.aV m) (hm:W.w.heap[m]? =some (.cells (pw D p cr to).toArray nq)):
  gR prog 64 #[.pointer (some ⟨m,0,none⟩),.int .i64 s] W.all fun v w'=>Q4 W.w.heap.size w' v (p.ao.filter fun v=>au.sD s v.n):=by
 refine Q5 bf hm fun V nR j l2=>?_
 rw[<-nR] at hm;have hp:=hp.ext j;have h5:=hp.h6;refine ahB s D.n D.c p.vars.length p.bA p.ao.length p.eF p.bj.length p.ef cr.n cr.c to.n to.c ⟨p.aT.toArray⟩ D.a p.bx p.eL p.ea cr.a to.a m V _ hm l2 ?_;refine dJ (fun aj vs ls _=>∃(i:Nat) (zs:List d_) (bB:Option Addr) (bG:Nat),vs=[.int .i64 (i:Nat),.slice bB zs.length bG]∧ls=[zs.flatMap dN]∧zs=(p.ao.take i).filter (fun v=>au.sD s v.n)∧i<=p.ao.length∧aj=p.ao.length-i) p.ao.length ⟨0,[],none,0,rfl,rfl,by simp,dr _,rfl⟩ ?_;rintro aj vs ls cn bH ⟨i,zs,bB,bG,rfl,rfl,tg,a8,rfl⟩;refine⟨(i:Int),zs.length,bG,bB,zs.flatMap dN,rfl,by simp only[dD],fun hi=>?_⟩;simp only[aU]
 have BV:zs.length<=1000000:=by
  have:=List.length_filter_le (fun v:d_=>au.sD s v.n) (p.ao.take i);rw[<-tg,mX] at this;omega
 refine aK (fun aJ=>?_) fun aJ=>aP fun J _ aw=>⟨_,rfl,⟨bB,bG,?_,?_⟩,J _ (bd.2 rfl)⟩
 ·simp only[U,cX] at aJ;have cp:i<p.ao.length:=by omega
  have fj:p.ao.take (i+1)=p.ao.take i++[p.ao[i]]:=o0 cp;have fb:p.ao[i]? =some p.ao[i]:=dn cp;generalize p.ao[i]=v at fb fj;refine a6 ?_ (a6 ?_ (cI ⟨v.n.ay,v.n.bp,v.n.on,v.n.ev,v.n.vars.length,v.bA,v.n.bL.length,v.ck,v.n.cb,⟨v.n.aT.toArray⟩,⟨v.n.key.toArray⟩,⟨v.n.ca.toArray⟩,⟨v.n.set.toArray⟩,v.bx,v.ch,fun cq bo=>?_,?_⟩))
  ·simp only[E.b,aR,aX.push];exact b_.dL hp.ns (by omega)
  ·simp only[U];exact c_ (by omega)
  ·have:=gh (P:=prog) eO (by decide) hp.ns iw ix fb (aD bH bo);simp only[U,ff] at this ⊢;exact this
  simp only[aU];refine bY fun m1 cq _ bo=>bS fun dH cd=>aK (fun c2=>?_) fun c2=>?_
  ·have c2:au.sD s v.n=true:=c2;refine bY fun m2 dI _ cA=>a6 (eZ (by simp only[U];omega)) (hj fun gz bw cV _ bU=>eC fun dQ _ df _ _=>b1 ⟨p.ao.length-(i+1),by omega,i+1,zs++[v],gz,bw,?_,?_,?_,by omega,rfl⟩)
   ·simp only[U];rw[cE (by omega) (by omega),fR];rfl
   ·simp only[hL,dF,dV.ak,aR,aX.push,ku,lM,jq,kv,lL,nV];rfl
   ·rw[fj,List.filter_append,<-tg,List.filter_cons_of_pos (by exact c2),List.filter_nil]
  ·have c2:au.sD s v.n=false:=c2;refine eC fun dQ _ df _ _=>b1 ⟨p.ao.length-(i+1),by omega,i+1,zs,bB,bG,?_,by simp only[dD],?_,by omega,rfl⟩
   ·simp only[U];rw[cE (by omega) (by omega)];rfl
   ·rw[fj,List.filter_append,<-tg,List.filter_cons_of_neg (by rw[c2];exact fun h=>nomatch h),List.filter_nil,mC]
 ·simp only[U,c7] at aJ;rw[sQ (by omega)] at tg;rw[<-tg];rfl
 ·simp only[U,c7] at aJ;rw[sQ (by omega)] at tg;have bu:=(aw _ (c6 ..)).1;simp only[dD,af.ak,E.i,eH] at bu;rw[<-tg,<-nR];exact gW bu
end Go.Proofs.YtkpjmlnhhggenaaGreatDoor
end
section
namespace au
open Go ab
def named (l:List Var) (aT:aM):Int:=match l.find? fun v=>v.name==aT with
 |some v=>v.k
 |none=>0
def kp (n:dM):Bool:=((n.bp== -1)&&(n.ay==1))&&(n.ev==0)
end au
namespace Go.Proofs.YtkpjmlnhhggenaaGreatDoor
open Go.Proofs.Tryz Go Go.RowKit Go.cK
def Q7 {α:Type} (f:α->Bool) (l:List α) (r:Int):Prop:=(r<0∧l.find? f=none)∨∃(i:Nat) (x:α),r=(i:Int)∧l[i]? =some x∧l.find? f=some x
theorem Q8 {α:Type} {f:α->Bool} {l:List α} {i:Nat} {x:α} (h:l[i]? =some x):(l.drop i).find? f=if f x then some x else(l.drop (i+1)).find? f:=by
 have a8:i<l.length:=by rw[nU] at h;exact h.1
 rw[h4 a8];rw[dn a8,nT] at h;rw[h,hY];cases f x<;>rfl
theorem ajo (v:ab.Var) (s:ab.aM) (m:Nat) (W:al) (hm:W.w.heap[m]? =some (.cells #[gO s] 9)):da prog 118 #[.agg (e7 v).toArray,.pointer (some ⟨m,0,none⟩)] W (.bool (v.name==s)):=by
 refine aiu v.k v.n ⟨v.name.toArray⟩ ⟨v.t.toArray⟩ ⟨s.toArray⟩ m W.all _ hm (fq.1 hm).1 ?_;exact bY fun m W1 _ bM=>aP fun _ _ _=>⟨_,rfl,rfl⟩
theorem ajp (s:ab.aM) (l:List ab.Var) (a:Option Addr) (c:Nat) (m:Nat) (W:al) (aO:l.length<=2000000000000) (ct:b_ W a l.length c 4 (l.flatMap e7)) (hm:W.w.heap[m]? =some (.cells #[gO s] 9)) (bf:W.aV m):
  gR prog 112 #[.slice a l.length c,.func (.func 118) #[] #[.pointer (some ⟨m,0,none⟩)]] W.all fun v w'=>∃r:Int,v= .int .i64 r∧Q7 (fun v=>v.name==s) l r:=by
 refine aiz l.length c ⟨s.toArray⟩ a m W.all _ hm (W.lt m bf) ?_;refine dJ (fun aj vs ls _=>∃i:Nat,vs=[.int .i64 (i:Nat)]∧ls=[]∧i<=l.length∧aj=l.length-i∧l.find? (fun v=>v.name==s)=(l.drop i).find? (fun v=>v.name==s)) l.length ⟨0,by simp[U],rfl,dr _,rfl,rfl⟩ ?_;rintro aj vs fG cn bH ⟨i,rfl,rfl,a8,rfl,bl⟩;have gM:=aD W.dw bH;refine⟨(i:Int),rfl,rfl,fun _=>aK (fun aJ=>?_) fun aJ=>aP fun _ _ _=>⟨_,rfl,-1,rfl,.inl ⟨by omega,?_⟩⟩⟩
 ·simp only[U,cX] at aJ;have cp:i<l.length:=by omega
  have j:l[i]? =some l[i]:=dn cp;generalize l[i]=x at j;rw[Q8 j] at bl;refine a6 ?_ (a6 ?_ (cI ⟨x.k,x.n,⟨x.name.toArray⟩,⟨x.t.toArray⟩,fun cq bo=>?_,?_⟩))
  ·simp only[E.b,aR,aX.push];exact b_.dL ct (by omega)
  ·simp only[U];exact c_ (by omega)
  ·have:=gh (P:=prog) mv (by decide) ct Ew Ex j (aD gM bo);simp only[U,ff] at this ⊢;exact this
  ·simp only[aU];refine b5 (v:=.bool (x.name==s)) (fun I _=>ajo x s m cn (I _ (bd.2 rfl))) ⟨x.name==s,rfl,fun cq bo=>?_⟩;simp only[aU];refine aK (fun c2=>aP fun _ _ _=>⟨_,rfl,(i:Int),rfl,.inr ⟨i,x,rfl,j,?_⟩⟩) fun c2=>b1 ⟨l.length-(i+1),by omega,i+1,?_,rfl,by omega,rfl,?_⟩
   ·have c2:(x.name==s)=true:=c2;rw[bl,if_pos c2]
   ·simp only[U];rw[cE (by omega) (by omega)];rfl
   ·have c2:(x.name==s)=false:=c2;rw[bl,if_neg (by rw[c2];exact fun h=>nomatch h)]
 ·simp only[U,c7] at aJ;rw[bl,fV (by omega)];rfl
theorem zo (s:ab.aM) (l:List ab.Var) (a:Option Addr) (c:Nat) (W:al) (aO:l.length<=2000000000000) (ct:b_ W a l.length c 4 (l.flatMap e7)):
  da prog 66 #[.slice a l.length c,.string ⟨s.toArray⟩] W (.int .u8 (au.named l s)):=by
 have ct:=ct.ext W.dw;refine aiC l.length c ⟨s.toArray⟩ a W.all _ ?_;refine bY fun m W1 _ bM=>iV (fun I _=>ajp s l a c m W1.all aO (ct.ext (aD bM W1.dw)) (I _ (bd.2 rfl)) (fq.1 (I _ (bd.2 rfl))).1) fun v w' _ ⟨r,aB,aw⟩=>⟨r,aB,fun cn _ bH _=>?_⟩
 have dG:=aD bM bH;simp only[aU];rcases aw with⟨J,an⟩|⟨i,x,rfl,j,an⟩
 ·have e:au.named l s=0:=by rw[au.named,an]
  rw[e];refine aK (fun c=>aP fun _ _ _=>⟨_,rfl,rfl⟩) fun c=>?_
  simp only[U,c7] at c;omega
 ·have e:au.named l s=x.k:=by rw[au.named,an]
  rw[e];have cp:i<l.length:=(nU.1 j).1;refine aK (fun c=>by simp only[U,cX] at c;omega) fun c=>a6 ?_ (a6 ?_ (a6 ?_ (cI ⟨x.k,fun cq bo=>?_,?_⟩)))
  ·simp only[E.b,aR,aX.push];exact b_.dL ct (by omega)
  ·simp only[U];exact c_ (by omega)
  ·simp only[U];exact dW (by omega)
  ·have:=ed (P:=prog) mv ct rN (k:=1) j (by decide) (u:=.int .u8 x.k) rfl (aD dG bo);simp only[U] at this ⊢;exact this
  ·simp only[aU];exact aP fun _ _ _=>⟨_,rfl,rfl⟩
theorem ajq (q:cP) (s:ab.aM) (m:Nat) (W:al) (hm:W.w.heap[m]? =some (.cells #[gO s] 9)):da prog 120 #[.agg (gA q).toArray,.pointer (some ⟨m,0,none⟩)] W (.bool (q.aT==s)):=by
 refine aiE q.vars.length q.bA q.ao.length q.eF q.bj.length q.ef ⟨q.aT.toArray⟩ ⟨s.toArray⟩ q.bx q.eL q.ea m W.all _ hm (fq.1 hm).1 ?_;exact bY fun m W1 _ bM=>aP fun _ _ _=>⟨_,rfl,rfl⟩
theorem Q9:hr prog 31=some true:=by kernel_rfl
theorem Q_:hK prog 31=some 4:=by kernel_rfl
theorem ajr (s:ab.aM) (l:List cP) (a:Option Addr) (c:Nat) (m:Nat) (W:al) (aO:l.length<=1000000) (ct:b_ W a l.length c 4 (l.flatMap gA)) (hm:W.w.heap[m]? =some (.cells #[gO s] 9)) (bf:W.aV m):
  gR prog 119 #[.slice a l.length c,.func (.func 120) #[] #[.pointer (some ⟨m,0,none⟩)]] W.all fun v w'=>∃r:Int,v= .int .i64 r∧Q7 (fun q=>q.aT==s) l r:=by
 refine aiJ l.length c ⟨s.toArray⟩ a m W.all _ hm (W.lt m bf) ?_;refine dJ (fun aj vs ls _=>∃i:Nat,vs=[.int .i64 (i:Nat)]∧ls=[]∧i<=l.length∧aj=l.length-i∧l.find? (fun q=>q.aT==s)=(l.drop i).find? (fun q=>q.aT==s)) l.length ⟨0,by simp[U],rfl,dr _,rfl,rfl⟩ ?_;rintro aj vs fG cn bH ⟨i,rfl,rfl,a8,rfl,bl⟩;have gM:=aD W.dw bH;refine⟨(i:Int),rfl,rfl,fun _=>aK (fun aJ=>?_) fun aJ=>aP fun _ _ _=>⟨_,rfl,-1,rfl,.inl ⟨by omega,?_⟩⟩⟩
 ·simp only[U,cX] at aJ;have cp:i<l.length:=by omega
  have j:l[i]? =some l[i]:=dn cp;generalize l[i]=q at j;rw[Q8 j] at bl;refine a6 ?_ (a6 ?_ (cI ⟨q.vars.length,q.bA,q.ao.length,q.eF,q.bj.length,q.ef,⟨q.aT.toArray⟩,q.bx,q.eL,q.ea,fun cq bo=>?_,?_⟩))
  ·simp only[E.b,aR,aX.push];exact b_.dL ct (by omega)
  ·simp only[U];exact c_ (by omega)
  ·have:=gh (P:=prog) u7 (by decide) ct Q9 Q_ j (aD gM bo);simp only[U,ff] at this ⊢;exact this
  ·simp only[aU];refine b5 (v:=.bool (q.aT==s)) (fun I _=>ajq q s m cn (I _ (bd.2 rfl))) ⟨q.aT==s,rfl,fun cq bo=>?_⟩;simp only[aU];refine aK (fun c2=>aP fun _ _ _=>⟨_,rfl,(i:Int),rfl,.inr ⟨i,q,rfl,j,?_⟩⟩) fun c2=>b1 ⟨l.length-(i+1),by omega,i+1,?_,rfl,by omega,rfl,?_⟩
   ·have c2:(q.aT==s)=true:=c2;rw[bl,if_pos c2]
   ·simp only[U];rw[cE (by omega) (by omega)];rfl
   ·have c2:(q.aT==s)=false:=c2;rw[bl,if_neg (by rw[c2];exact fun h=>nomatch h)]
 ·simp only[U,c7] at aJ;rw[bl,fV (by omega)];rfl
theorem ajs (v:d_) (W:al):da prog 121 #[.agg (dN v).toArray] W (.bool (au.kp v.n)):=by
 refine aiL v.n.ay v.n.bp v.n.on v.n.ev v.n.vars.length v.bA v.n.bL.length v.ck v.n.cb ⟨v.n.aT.toArray⟩ ⟨v.n.key.toArray⟩ ⟨v.n.ca.toArray⟩ ⟨v.n.set.toArray⟩ v.bx v.ch W.all _ ?_;exact bY fun m W1 _ bM=>aP fun _ _ _=>⟨_,rfl,rfl⟩
theorem ajt (l:List d_) (a:Option Addr) (c:Nat) (W:al) (aO:l.length<=1000000) (ct:b_ W a l.length c 11 (l.flatMap dN)):
  gR prog 117 #[.slice a l.length c,.func (.func 121) #[] #[]] W.all fun v w'=>∃r:Int,v= .int .i64 r∧er 0 r=l.any fun y=>au.kp y.n:=by
 refine aiQ l.length c a W.all _ ?_;refine dJ (fun aj vs ls _=>∃i:Nat,vs=[.int .i64 (i:Nat)]∧ls=[]∧i<=l.length∧aj=l.length-i∧(l.any fun y=>au.kp y.n)=((l.drop i).any fun y=>au.kp y.n)) l.length ⟨0,by simp[U],rfl,dr _,rfl,rfl⟩ ?_;rintro aj vs fG cn bH ⟨i,rfl,rfl,a8,rfl,bl⟩;have gM:=aD W.dw bH;refine⟨(i:Int),rfl,rfl,fun _=>aK (fun aJ=>?_) fun aJ=>aP fun _ _ _=>⟨_,rfl,-1,rfl,?_⟩⟩
 ·simp only[U,cX] at aJ;have cp:i<l.length:=by omega
  have j:l[i]? =some l[i]:=dn cp;rw[h4 cp] at bl;generalize l[i]=v at j bl;refine a6 ?_ (a6 ?_ (cI ⟨v.n.ay,v.n.bp,v.n.on,v.n.ev,v.n.vars.length,v.bA,v.n.bL.length,v.ck,v.n.cb,⟨v.n.aT.toArray⟩,⟨v.n.key.toArray⟩,⟨v.n.ca.toArray⟩,⟨v.n.set.toArray⟩,v.bx,v.ch,fun cq bo=>?_,?_⟩))
  ·simp only[E.b,aR,aX.push];exact b_.dL ct (by omega)
  ·simp only[U];exact c_ (by omega)
  ·have:=gh (P:=prog) eO (by decide) ct iw ix j (aD gM bo);simp only[U,ff] at this ⊢;exact this
  ·simp only[aU];refine b5 (v:=.bool (au.kp v.n)) (fun I _=>ajs v cn) ⟨au.kp v.n,rfl,fun cq bo=>?_⟩;simp only[aU];refine aK (fun c2=>aP fun _ _ _=>⟨_,rfl,(i:Int),rfl,?_⟩) fun c2=>b1 ⟨l.length-(i+1),by omega,i+1,?_,rfl,by omega,rfl,?_⟩
   ·have c2:au.kp v.n=true:=c2;rw[bl,r0,c2];exact c_ (by omega)
   ·simp only[U];rw[cE (by omega) (by omega)];rfl
   ·have c2:au.kp v.n=false:=c2;rw[bl,r0,c2,kr]
 ·simp only[U,c7] at aJ;rw[bl,fV (by omega)];rfl
theorem aju (l:List d_) (a:Option Addr) (c:Nat) (W:al) (aO:l.length<=1000000) (ct:b_ W a l.length c 11 (l.flatMap dN)):
  da prog 60 #[.slice a l.length c,.func (.func 121) #[] #[]] W (.bool (l.any fun y=>au.kp y.n)):=by
 refine aiS l.length c a W.all _ ?_;refine iV (fun _ _=>ajt l a c W.all aO (ct.ext W.dw)) fun v w' _ ⟨r,aB,aw⟩=>⟨r,aB,fun cn _ _ _=>aP fun _ _ _=>⟨_,rfl,?_⟩⟩
 show Value.bool (er 0 r)=_;rw[aw]
def ajv (cQ:List cP) (s:ab.aM) (v:Value):Prop:=
 (cQ.find? (fun q=>q.aT==s)=none∧v= .tuple #[.agg #[.string ⟨#[]⟩,.slice none 0 0,.slice none 0 0,.slice none 0 0],.bool false])∨
 ∃q,q∈cQ∧cQ.find? (fun q=>q.aT==s)=some q∧v= .tuple #[.agg (gA q).toArray,.bool (q.ao.any fun y=>au.kp y.n)]
theorem Ra (cQ:List cP) (hV:Option Addr) (hW:Nat) (cr to:oQ) (p:cP) (s:ab.aM) (m:Nat) (W:al) (a_:cQ.length<=1000000) (fX:b_ W hV cQ.length hW 4 (cQ.flatMap gA)) (eS:∀q∈cQ,fw q W)
  (bf:¬W.aV m) (hm:W.w.heap[m]? =some (.cells (pw ⟨hV,cQ.length,hW⟩ p cr to).toArray nq)):
  gR prog 67 #[.pointer (some ⟨m,0,none⟩),.string ⟨s.toArray⟩] W.all fun v w'=>ajv cQ s v:=by
 refine Q5 bf hm fun V nR j l2=>?_
 rw[<-nR] at hm;have fX:=fX.ext j;refine aiZ cQ.length hW p.vars.length p.bA p.ao.length p.eF p.bj.length p.ef cr.n cr.c to.n to.c ⟨p.aT.toArray⟩ ⟨s.toArray⟩ hV p.bx p.eL p.ea cr.a to.a m V _ hm l2 ?_;refine bY fun m1 W1 _ bM=>bY fun m2 cn _ bH=>?_
 have dG:=aD bM bH;refine iV (fun I _=>ajr s cQ hV hW m1 cn.all a_ (fX.ext (aD dG cn.dw)) (I _ (bd.2 rfl)) (fq.1 (I _ (bd.2 rfl))).1) fun v w' _ ⟨r,aB,aw⟩=>⟨r,aB,fun cq _ bo _=>?_⟩
 have eK:=aD dG bo;simp only[aU];rcases aw with⟨J,an⟩|⟨i,q,rfl,fb,an⟩
 ·refine aK (fun c=>bS fun dH _=>aP fun bu _ _=>⟨_,rfl,.inl ⟨an,rfl⟩,bu _ (bd.2 rfl)⟩) fun c=>?_
  simp only[U,c7] at c;omega
 ·have cp:i<cQ.length:=(nU.1 fb).1;have bg:q∈cQ:=k2 fb;have vb:=(eS q bg).ext j;refine aK (fun c=>by simp only[U,cX] at c;omega) fun c=>a6 ?_ (a6 ?_ (a6 ?_ (cI ⟨q.vars.length,q.bA,q.ao.length,q.eF,q.bj.length,q.ef,⟨q.aT.toArray⟩,q.bx,q.eL,q.ea,fun dH cd=>?_,?_⟩)))
  ·simp only[E.b,aR,aX.push];exact b_.dL fX (by omega)
  ·simp only[U];exact c_ (by omega)
  ·simp only[U];exact dW (by omega)
  ·have:=gh (P:=prog) u7 (by decide) fX Q9 Q_ fb (aD eK cd);simp only[U,ff] at this ⊢;exact this
  simp only[aU];refine cI ⟨q.ao.length,q.eF,q.eL,fun dH cd=>?_,?_⟩
  ·have:=ed (P:=prog) u7 fX (by kernel_rfl:hr prog 28=some false) (k:=2) fb (by decide) (u:=.slice q.eL q.ao.length q.eF) rfl (aD eK cd);simp only[U] at this ⊢;exact this
  simp only[aU];refine lF ⟨q.ao.any fun y=>au.kp y.n,fun dE hd _ _=>aju q.ao q.eL q.eF dE vb.h6 (vb.ns.ext (aD eK hd)),?_⟩;simp only[aU];exact cj fun dH _=>bS fun dI _=>cj fun cV _=>aP fun bu _ _=>⟨_,rfl,.inr ⟨q,bg,an,rfl⟩,bu _ (bd.2 rfl)⟩
end Go.Proofs.YtkpjmlnhhggenaaGreatDoor
end
section
namespace au
open Go ab
theorem IY (p:dR) (B:Nat) (h:∀i,(dc p i).vars.length<=B):∀(k:Nat) (a:Int),(oP p k a).length<=k*B
 |0,_=>by simp[oP]
 |k+1,a=>by
  rw[oP];split
  ·rw[fR,Nat.succ_mul];have:=IY p B h k (dS p a.toNat);have:=h a.toNat;omega
  ·simp
end au
namespace Go.Proofs.YtkpjmlnhhggenaaGreatDoor
open Go.Proofs.Tryz Go Go.RowKit Go.cK
theorem p9 (l:List ab.Var):∀u∈l.flatMap e7,u.oneCell'=true:=by
 intro u hu;obtain⟨v,_,aB⟩:=List.mem_flatMap.1 hu;simp only[e7,dh,eT,or_false] at aB;rcases aB with rfl|rfl|rfl|rfl<;>rfl
theorem mx {W:al} {a:Option Addr} {c:Nat} {l:List ab.Var} (h:b_ W a l.length c 4 (l.flatMap e7)):(a=none->((l.length:Nat):Int)<=0∧((c:Nat):Int)<=0)∧∀ad,a=some ad->∀W',Ext W W'->∀(aj:Nat) u,(l.flatMap e7)[aj]? =some u->W'.w.cell? (ad.add aj)=some u:=by
 refine⟨fun e=>?_,fun ad e W' x aj u hu=>?_⟩
 ·obtain⟨_,_,aI⟩:=h;rcases aI with⟨_,cc,bu⟩|⟨b,o,cc,_⟩
  ·omega
  ·rw[e] at cc;cases cc
 ·obtain⟨_,_,aI⟩:=b_.ext h x;rcases aI with⟨_,cc,_⟩|⟨b,o,cc,_,_,aH⟩
  ·rw[sW.1 cc] at hu;simp at hu
  ·rw[e] at cc;injection cc with cc
   subst cc;rw[ky];exact aH aj u hu
theorem tN:hr prog 22=some false:=by kernel_rfl
def Rb (n:Nat) (w':World) (v:Value) (l:List ab.Var):Prop:=∃a c,v= .slice a l.length c∧eD w' (fun b=>n<=b) a l.length c 4 (l.flatMap e7)
theorem Rc {p:cP} {W:al} (hp:fw p W) (i:Nat):(au.dc p.av i).vars.length<=1000000:=by
 by_cases h:i<p.ao.length
 ·rw[kZ (dn h)];exact(hp.fn _ (h9 h)).gX
 ·unfold au.dc cP.av;rw[oe,qd (by rw[mW];omega)];exact dr _
theorem BW {p:cP} {W:al} (hp:fw p W) {a:Int} (bl:a<p.ao.length):(au.hT p.av a).length<=1000000000000:=by
 have h:=au.IY p.av 1000000 (Rc hp) (a.toNat+1) a;have cB:=hp.h6
 by_cases bk:0<=a
 ·have:(a.toNat+1)*1000000<=1000000*1000000:=sR _ (by omega);exact iz h (by omega)
 ·rw[au.xv p.av (by omega)];exact dr _
theorem IZ (p:cP) (n:Int) (W:al) (hp:fw p W):
  gR prog 18 #[.agg (gA p).toArray,.int .i64 n] W.all fun v w'=>Rb W.w.heap.size w' v (au.fQ p.av n):=by
 have hp:=hp.ext W.dw;have h5:=hp.h6;have tJ:=hp.gX;refine agO n p.vars.length p.bA p.ao.length p.eF p.bj.length p.ef ⟨p.aT.toArray⟩ p.bx p.eL p.ea W.all _ ?_;have nr:∀l:List ab.Var,(l.flatMap e7).length=l.length*4:=fun l=>sv mv l
 refine bY fun m W1 _ bM=>aK (fun c0=>?_) fun c0=>?_
 ·have c0:(decide (0<=n)&&decide (n<(p.ao.length:Int)))=true:=c0
  have bD:au.fQ p.av n=(if(au.dc p.av n.toNat).ay==12 then(au.dc p.av n.toNat).vars++au.hT p.av (au.dS p.av n.toNat)
   else if(au.dc p.av n.toNat).ay==1 then
    if au.kind p.av (au.dS p.av n.toNat)==13 then au.hT p.av (au.dS p.av (au.dS p.av n.toNat).toNat) else au.hT p.av (au.dS p.av n.toNat)
   else au.hT p.av (au.dS p.av n.toNat))++p.vars:=by rw[au.fQ,kM,c0,if_pos rfl];rfl
  simp only[bT,decide_eq_true_eq] at c0;obtain⟨k,rfl⟩:∃k:Nat,n=(k:Int):=⟨n.toNat,by omega⟩;rw[ih] at bD;have aA:k<p.ao.length:=by omega
  have fb:p.ao[k]? =some p.ao[k]:=dn aA;have sE:=hp.fn _ (h9 aA);generalize p.ao[k]=v at fb sE;rw[kZ fb] at bD;have fr:=au.nQ p.av k;have yy:=au.sB p.av k;generalize kz:au.dS p.av k=jT at bD fr yy;refine b5 (v:=.int .i64 jT) (fun _ _=>by rw[<-kz];exact xx p W1 (hp.ext bM) k aA) ⟨jT,rfl,fun cn bH=>?_⟩;have dG:=aD bM bH;simp only[aU];refine a6 (by simp only[E.b,aR,aX.push];exact b_.dL hp.ns (by omega)) (cI ⟨v.n.ay,fun cq bo=>?_,?_⟩)
  ·have:=ed (P:=prog) eO hp.ns rN (k:=1) fb (by decide) (u:=.int .u8 v.n.ay) rfl (aD dG bo);simp only[U] at this ⊢;exact this
  simp only[aU];refine aK (fun aJ=>?_) fun aJ=>?_
  ·have aJ:(v.n.ay==12)=true:=aJ;rw[aJ,if_pos rfl] at bD;have n5:=sE.gX;refine cI ⟨v.n.vars.length,v.bA,v.bx,fun cV bU=>?_,?_⟩
   ·have:=ed (P:=prog) eO hp.ns tN (k:=9) fb (by decide) (u:=.slice v.bx v.n.vars.length v.bA) rfl (aD dG bU);simp only[U] at this ⊢;exact this
   simp only[aU];refine a6 (eZ (by simp only[U];omega)) (qJ (v.n.vars.flatMap e7) (by simp only[U];exact nr _) (p9 _) (mx (sE.vs.ext dG)).1 (mx (sE.vs.ext dG)).2 ?_);simp only[aU];refine hj fun a4 c4 dH _ cd=>?_
   have dO:=aD dG cd;simp only[aU];refine dJ (fun aj vs ls _=>∃(zs:List ab.Var) (bB:Option Addr) (bG:Nat) (at':Int),vs=[.slice bB zs.length bG,.int .i64 at']∧ls=[zs.flatMap e7]∧at'<p.ao.length∧ -1<=at'∧zs++au.hT p.av at'=v.n.vars++au.hT p.av jT∧aj=(at'+1).toNat) (jT+1).toNat ⟨v.n.vars,a4,c4,jT,rfl,by simp only[dD],by omega,by omega,rfl,rfl⟩ ?_;rintro aj vs ls dI cA ⟨zs,bB,bG,at',rfl,rfl,ke,zp,cS,rfl⟩;have ej:=aD dO cA;refine⟨at',zs.length,bG,bB,zs.flatMap e7,rfl,by simp only[dD],fun hi=>?_⟩;simp only[aU]
   have BV:zs.length<=1000001000000:=by
    have J:=congrArg List.length cS;rw[fR,fR] at J;have an:=BW hp (show jT<p.ao.length by omega);have aI:(v.n.vars:List ab.Var).length<=1000000:=sE.gX;omega
   refine aK (fun d1=>?_) fun d1=>?_
   ·have d1:0<=at':=by simp only[U,uj] at d1;exact d1
    obtain⟨q,rfl⟩:∃q:Nat,at'=(q:Int):=⟨at'.toNat,by omega⟩;have bg:q<p.ao.length:=by omega
    have l3:p.ao[q]? =some p.ao[q]:=dn bg;have mV:=hp.fn _ (h9 bg);generalize p.ao[q]=u at l3 mV;have oB:=mV.gX;have I0:=au.nQ p.av q;have xz:=au.sB p.av q;refine a6 (by simp only[U];exact dW (by omega)) (cI ⟨u.n.vars.length,u.bA,u.bx,fun cV bU=>?_,?_⟩)
    ·have:=ed (P:=prog) eO hp.ns tN (k:=9) l3 (by decide) (u:=.slice u.bx u.n.vars.length u.bA) rfl (aD ej bU);simp only[U] at this ⊢;exact this
    simp only[aU];refine a6 (eZ (by simp only[U];omega)) (qJ (u.n.vars.flatMap e7) (by simp only[U];exact nr _) (p9 _) (mx (mV.vs.ext ej)).1 (mx (mV.vs.ext ej)).2 ?_);simp only[aU];refine hj fun gz bw cV _ bU=>?_
    simp only[aU];refine b5 (v:=.int .i64 (au.dS p.av q)) (fun _ _=>xx p cV (hp.ext (aD ej bU)) q bg) ⟨au.dS p.av q,rfl,fun dQ df=>?_⟩;simp only[aU];refine b1 ⟨(au.dS p.av q+1).toNat,by omega,zs++u.n.vars,gz,bw,au.dS p.av q,?_,?_,by omega,xz,?_,rfl⟩
    ·simp only[U,fR];rfl
    ·simp only[hL,dF,dV.ak,aR,aX.push,ku,lM,jq,kv,lL,nV]
     try rfl
    ·refine Eq.trans ?_ cS;rw[au.BO p.av (show 0<=(q:Int) by omega),ih,kZ l3,jW]
   ·have d1:at'<0:=by simp only[U,uk] at d1;exact d1
    rw[au.xv p.av d1,mC] at cS;refine a6 (eZ (by simp only[U];omega)) (qJ (p.vars.flatMap e7) (by simp only[U];exact nr _) (p9 _) (mx (hp.vs.ext ej)).1 (mx (hp.vs.ext ej)).2 ?_);simp only[aU];refine hj fun gz bw cV _ bU=>?_
    simp only[aU];have eU:(au.fQ p.av (k:Int)).length=zs.length+p.vars.length:=by rw[bD,<-cS,fR]
    refine aP fun _ _ aw=>⟨_,rfl,gz,bw,?_,?_⟩
    ·rw[eU];rfl
    ·have bu:=(aw _ (c6 ..)).1;simp only[dD,af.ak,E.i] at bu;rw[eU,bD,<-cS,nV];exact gW bu
  ·have aJ:(v.n.ay==12)=false:=aJ;rw[aJ,if_neg (fun h=>nomatch h)] at bD;refine aK (fun c2=>?_) fun c2=>?_
   ·have c2:(v.n.ay==1)=true:=c2;rw[c2,if_pos rfl] at bD;refine b5 (v:=.int .u8 (au.kind p.av jT)) (fun _ _=>QZ p cn (hp.ext dG) jT (by omega)) ⟨au.kind p.av jT,rfl,fun cq bo=>?_⟩;have eK:=aD dG bo;simp only[aU];refine aK (fun c3=>?_) fun c3=>?_
    ·have c3:(au.kind p.av jT==13)=true:=c3;rw[c3,if_pos rfl] at bD
     have bk:0<=jT:=by
      rcases Int.lt_or_le jT 0 with h|h
      ·rw[au.kind,if_pos h] at c3;exact absurd c3 (by decide)
      ·exact h
     obtain⟨u3,rfl⟩:∃q:Nat,jT=(q:Int):=⟨jT.toNat,by omega⟩;rw[ih] at bD;have Rd:=au.nQ p.av u3;have ajw:=au.sB p.av u3;refine b5 (v:=.int .i64 (au.dS p.av u3)) (fun _ _=>xx p cq (hp.ext eK) u3 (by omega)) ⟨au.dS p.av u3,rfl,fun dH cd=>?_⟩;have dO:=aD eK cd;simp only[aU];generalize au.dS p.av u3=zq at bD Rd ajw ⊢;rw[show au.hT p.av zq=[]++au.hT p.av zq from rfl] at bD;refine dJ (fun aj vs ls _=>∃(zs:List ab.Var) (bB:Option Addr) (bG:Nat) (at':Int),vs=[.slice bB zs.length bG,.int .i64 at']∧ls=[zs.flatMap e7]∧at'<p.ao.length∧ -1<=at'∧zs++au.hT p.av at'=[]++au.hT p.av zq∧aj=(at'+1).toNat) (zq+1).toNat ⟨[],none,0,zq,rfl,rfl,by omega,by omega,rfl,rfl⟩ ?_;rintro aj vs ls dI cA ⟨zs,bB,bG,at',rfl,rfl,ke,zp,cS,rfl⟩;have ej:=aD dO cA;refine⟨at',zs.length,bG,bB,zs.flatMap e7,rfl,by simp only[dD],fun hi=>?_⟩;simp only[aU]
     have BV:zs.length<=1000001000000:=by
      have J:=congrArg List.length cS;rw[fR,fR] at J;have an:=BW hp (show zq<p.ao.length by omega);have aI:([]:List ab.Var).length<=1000000:=dr _;omega
     refine aK (fun d1=>?_) fun d1=>?_
     ·have d1:0<=at':=by simp only[U,uj] at d1;exact d1
      obtain⟨q,rfl⟩:∃q:Nat,at'=(q:Int):=⟨at'.toNat,by omega⟩;have bg:q<p.ao.length:=by omega
      have l3:p.ao[q]? =some p.ao[q]:=dn bg;have mV:=hp.fn _ (h9 bg);generalize p.ao[q]=u at l3 mV;have oB:=mV.gX;have I0:=au.nQ p.av q;have xz:=au.sB p.av q;refine a6 (by simp only[U];exact dW (by omega)) (cI ⟨u.n.vars.length,u.bA,u.bx,fun cV bU=>?_,?_⟩)
      ·have:=ed (P:=prog) eO hp.ns tN (k:=9) l3 (by decide) (u:=.slice u.bx u.n.vars.length u.bA) rfl (aD ej bU);simp only[U] at this ⊢;exact this
      simp only[aU];refine a6 (eZ (by simp only[U];omega)) (qJ (u.n.vars.flatMap e7) (by simp only[U];exact nr _) (p9 _) (mx (mV.vs.ext ej)).1 (mx (mV.vs.ext ej)).2 ?_);simp only[aU];refine hj fun gz bw cV _ bU=>?_
      simp only[aU];refine b5 (v:=.int .i64 (au.dS p.av q)) (fun _ _=>xx p cV (hp.ext (aD ej bU)) q bg) ⟨au.dS p.av q,rfl,fun dQ df=>?_⟩;simp only[aU];refine b1 ⟨(au.dS p.av q+1).toNat,by omega,zs++u.n.vars,gz,bw,au.dS p.av q,?_,?_,by omega,xz,?_,rfl⟩
      ·simp only[U,fR];rfl
      ·simp only[hL,dF,dV.ak,aR,aX.push,ku,lM,jq,kv,lL,nV]
       try rfl
      ·refine Eq.trans ?_ cS;rw[au.BO p.av (show 0<=(q:Int) by omega),ih,kZ l3,jW]
     ·have d1:at'<0:=by simp only[U,uk] at d1;exact d1
      rw[au.xv p.av d1,mC] at cS;refine a6 (eZ (by simp only[U];omega)) (qJ (p.vars.flatMap e7) (by simp only[U];exact nr _) (p9 _) (mx (hp.vs.ext ej)).1 (mx (hp.vs.ext ej)).2 ?_);simp only[aU];refine hj fun gz bw cV _ bU=>?_
      simp only[aU];have eU:(au.fQ p.av (k:Int)).length=zs.length+p.vars.length:=by rw[bD,<-cS,fR]
      refine aP fun _ _ aw=>⟨_,rfl,gz,bw,?_,?_⟩
      ·rw[eU];rfl
      ·have bu:=(aw _ (c6 ..)).1;simp only[dD,af.ak,E.i] at bu;rw[eU,bD,<-cS,nV];exact gW bu
    ·have c3:(au.kind p.av jT==13)=false:=c3;rw[c3,if_neg (fun h=>nomatch h)] at bD;rw[show au.hT p.av jT=[]++au.hT p.av jT from rfl] at bD;refine dJ (fun aj vs ls _=>∃(zs:List ab.Var) (bB:Option Addr) (bG:Nat) (at':Int),vs=[.slice bB zs.length bG,.int .i64 at']∧ls=[zs.flatMap e7]∧at'<p.ao.length∧ -1<=at'∧zs++au.hT p.av at'=[]++au.hT p.av jT∧aj=(at'+1).toNat) (jT+1).toNat ⟨[],none,0,jT,rfl,rfl,by omega,by omega,rfl,rfl⟩ ?_;rintro aj vs ls dI cA ⟨zs,bB,bG,at',rfl,rfl,ke,zp,cS,rfl⟩;have ej:=aD eK cA;refine⟨at',zs.length,bG,bB,zs.flatMap e7,rfl,by simp only[dD],fun hi=>?_⟩;simp only[aU]
     have BV:zs.length<=1000001000000:=by
      have J:=congrArg List.length cS;rw[fR,fR] at J;have an:=BW hp (show jT<p.ao.length by omega);have aI:([]:List ab.Var).length<=1000000:=dr _;omega
     refine aK (fun d1=>?_) fun d1=>?_
     ·have d1:0<=at':=by simp only[U,uj] at d1;exact d1
      obtain⟨q,rfl⟩:∃q:Nat,at'=(q:Int):=⟨at'.toNat,by omega⟩;have bg:q<p.ao.length:=by omega
      have l3:p.ao[q]? =some p.ao[q]:=dn bg;have mV:=hp.fn _ (h9 bg);generalize p.ao[q]=u at l3 mV;have oB:=mV.gX;have I0:=au.nQ p.av q;have xz:=au.sB p.av q;refine a6 (by simp only[U];exact dW (by omega)) (cI ⟨u.n.vars.length,u.bA,u.bx,fun cV bU=>?_,?_⟩)
      ·have:=ed (P:=prog) eO hp.ns tN (k:=9) l3 (by decide) (u:=.slice u.bx u.n.vars.length u.bA) rfl (aD ej bU);simp only[U] at this ⊢;exact this
      simp only[aU];refine a6 (eZ (by simp only[U];omega)) (qJ (u.n.vars.flatMap e7) (by simp only[U];exact nr _) (p9 _) (mx (mV.vs.ext ej)).1 (mx (mV.vs.ext ej)).2 ?_);simp only[aU];refine hj fun gz bw cV _ bU=>?_
      simp only[aU];refine b5 (v:=.int .i64 (au.dS p.av q)) (fun _ _=>xx p cV (hp.ext (aD ej bU)) q bg) ⟨au.dS p.av q,rfl,fun dQ df=>?_⟩;simp only[aU];refine b1 ⟨(au.dS p.av q+1).toNat,by omega,zs++u.n.vars,gz,bw,au.dS p.av q,?_,?_,by omega,xz,?_,rfl⟩
      ·simp only[U,fR];rfl
      ·simp only[hL,dF,dV.ak,aR,aX.push,ku,lM,jq,kv,lL,nV]
       try rfl
      ·refine Eq.trans ?_ cS;rw[au.BO p.av (show 0<=(q:Int) by omega),ih,kZ l3,jW]
     ·have d1:at'<0:=by simp only[U,uk] at d1;exact d1
      rw[au.xv p.av d1,mC] at cS;refine a6 (eZ (by simp only[U];omega)) (qJ (p.vars.flatMap e7) (by simp only[U];exact nr _) (p9 _) (mx (hp.vs.ext ej)).1 (mx (hp.vs.ext ej)).2 ?_);simp only[aU];refine hj fun gz bw cV _ bU=>?_
      simp only[aU];have eU:(au.fQ p.av (k:Int)).length=zs.length+p.vars.length:=by rw[bD,<-cS,fR]
      refine aP fun _ _ aw=>⟨_,rfl,gz,bw,?_,?_⟩
      ·rw[eU];rfl
      ·have bu:=(aw _ (c6 ..)).1;simp only[dD,af.ak,E.i] at bu;rw[eU,bD,<-cS,nV];exact gW bu
   ·have c2:(v.n.ay==1)=false:=c2;rw[c2,if_neg (fun h=>nomatch h)] at bD;rw[show au.hT p.av jT=[]++au.hT p.av jT from rfl] at bD;refine dJ (fun aj vs ls _=>∃(zs:List ab.Var) (bB:Option Addr) (bG:Nat) (at':Int),vs=[.slice bB zs.length bG,.int .i64 at']∧ls=[zs.flatMap e7]∧at'<p.ao.length∧ -1<=at'∧zs++au.hT p.av at'=[]++au.hT p.av jT∧aj=(at'+1).toNat) (jT+1).toNat ⟨[],none,0,jT,rfl,rfl,by omega,by omega,rfl,rfl⟩ ?_;rintro aj vs ls dI cA ⟨zs,bB,bG,at',rfl,rfl,ke,zp,cS,rfl⟩;have ej:=aD dG cA;refine⟨at',zs.length,bG,bB,zs.flatMap e7,rfl,by simp only[dD],fun hi=>?_⟩;simp only[aU]
    have BV:zs.length<=1000001000000:=by
     have J:=congrArg List.length cS;rw[fR,fR] at J;have an:=BW hp (show jT<p.ao.length by omega);have aI:([]:List ab.Var).length<=1000000:=dr _;omega
    refine aK (fun d1=>?_) fun d1=>?_
    ·have d1:0<=at':=by simp only[U,uj] at d1;exact d1
     obtain⟨q,rfl⟩:∃q:Nat,at'=(q:Int):=⟨at'.toNat,by omega⟩;have bg:q<p.ao.length:=by omega
     have l3:p.ao[q]? =some p.ao[q]:=dn bg;have mV:=hp.fn _ (h9 bg);generalize p.ao[q]=u at l3 mV;have oB:=mV.gX;have I0:=au.nQ p.av q;have xz:=au.sB p.av q;refine a6 (by simp only[U];exact dW (by omega)) (cI ⟨u.n.vars.length,u.bA,u.bx,fun cV bU=>?_,?_⟩)
     ·have:=ed (P:=prog) eO hp.ns tN (k:=9) l3 (by decide) (u:=.slice u.bx u.n.vars.length u.bA) rfl (aD ej bU);simp only[U] at this ⊢;exact this
     simp only[aU];refine a6 (eZ (by simp only[U];omega)) (qJ (u.n.vars.flatMap e7) (by simp only[U];exact nr _) (p9 _) (mx (mV.vs.ext ej)).1 (mx (mV.vs.ext ej)).2 ?_);simp only[aU];refine hj fun gz bw cV _ bU=>?_
     simp only[aU];refine b5 (v:=.int .i64 (au.dS p.av q)) (fun _ _=>xx p cV (hp.ext (aD ej bU)) q bg) ⟨au.dS p.av q,rfl,fun dQ df=>?_⟩;simp only[aU];refine b1 ⟨(au.dS p.av q+1).toNat,by omega,zs++u.n.vars,gz,bw,au.dS p.av q,?_,?_,by omega,xz,?_,rfl⟩
     ·simp only[U,fR];rfl
     ·simp only[hL,dF,dV.ak,aR,aX.push,ku,lM,jq,kv,lL,nV]
      try rfl
     ·refine Eq.trans ?_ cS;rw[au.BO p.av (show 0<=(q:Int) by omega),ih,kZ l3,jW]
    ·have d1:at'<0:=by simp only[U,uk] at d1;exact d1
     rw[au.xv p.av d1,mC] at cS;refine a6 (eZ (by simp only[U];omega)) (qJ (p.vars.flatMap e7) (by simp only[U];exact nr _) (p9 _) (mx (hp.vs.ext ej)).1 (mx (hp.vs.ext ej)).2 ?_);simp only[aU];refine hj fun gz bw cV _ bU=>?_
     simp only[aU];have eU:(au.fQ p.av (k:Int)).length=zs.length+p.vars.length:=by rw[bD,<-cS,fR]
     refine aP fun _ _ aw=>⟨_,rfl,gz,bw,?_,?_⟩
     ·rw[eU];rfl
     ·have bu:=(aw _ (c6 ..)).1;simp only[dD,af.ak,E.i] at bu;rw[eU,bD,<-cS,nV];exact gW bu
 ·have c0:(decide (0<=n)&&decide (n<(p.ao.length:Int)))=false:=c0;have bD:au.fQ p.av n=p.vars:=by rw[au.fQ,kM,c0,if_neg (fun h=>nomatch h)];rfl
  refine a6 (eZ (by simp only[U];omega)) (qJ (p.vars.flatMap e7) (by simp only[U];exact nr _) (p9 _) (mx (hp.vs.ext bM)).1 (mx (hp.vs.ext bM)).2 ?_);simp only[aU];refine hj fun gz bw cV _ bU=>?_
  simp only[aU];refine aP fun _ _ aw=>⟨_,rfl,gz,bw,?_,?_⟩
  ·rw[bD];rfl
  ·have bu:=(aw _ (c6 ..)).1;simp only[dD,af.ak,E.i] at bu;rw[bD];exact gW bu
end Go.Proofs.YtkpjmlnhhggenaaGreatDoor
end
section
namespace bF
open Go
open aS
def Re (f:de->Nat×Bool):Nat->List de->Nat×Bool
 |n,[]=>(n,false)
 |n,e::l=>if(f e).2=true∨300<n+(f e).1 then(0,true) else Re f (n+(f e).1) l
def lj:Nat->de->Nat×Bool
 |0,_=>(0,true)
 |d+1,.mk _ _ _ t aT l=>if 8<l.length∨500<t.length+aT.length then(0,true) else Re (lj d) 1 l
def fp (s:ax.aM) (vars:List Var) (kind:Int):Int:=if(fT s).2=0 then(if(type vars (fT s).1).2=0∧(type vars (fT s).1).1≠kind then 23 else(type vars (fT s).1).2) else(fT s).2
theorem ajx {vars:List Var} {aT:ax.aM} (m:Var) (h:(named vars aT).2=0):named (vars++[m]) aT=named vars aT:=by
 unfold named at*;rw[List.find?_append];cases bs:vars.find? fun v=>v.name==aT with
 |none=>rw[bs] at h;cases h
 |some v=>rfl
mutual
theorem ajy {vars:List Var} (m:Var):∀e:de,(gm vars e).2=0->gm (vars++[m]) e=gm vars e
 | .mk op k n t aT l,h=>by
  simp only[gm] at h ⊢;split at h
  ·rename_i c;rw[if_pos c,if_pos c]
  ·rename_i c;rw[if_neg c,if_neg c];split at h
   ·rename_i c2;rw[if_pos c2,if_pos c2];exact ajx m h
   ·rename_i c2;rw[if_neg c2,if_neg c2];cases aO:jS vars l with
    |error f=>
     rw[aO] at h;exact absurd h (I1 aO)
    |ok r=>rw[Rf m l aO]
theorem Rf {vars:List Var} (m:Var):∀(l:List de) {r:List Int},jS vars l= .ok r->jS (vars++[m]) l= .ok r
 |[],r,h=>h
 |e::l,r,h=>by
  simp only[jS] at h ⊢;split at h
  ·rename_i c;rw[ajy m e c,if_pos c];cases aO:jS vars l with
   |error f=>rw[aO] at h;cases h
   |ok fF=>rw[aO] at h;rw[Rf m l aO];exact h
  ·cases h
theorem I1 {vars:List Var}:∀{l:List de} {f:Int},jS vars l= .error f->¬f=0
 |[],f,h=>by cases h
 |e::l,f,h=>by
  simp only[jS] at h;split at h
  ·split at h
   ·rename_i g bP;injection h with h;subst h;exact I1 bP
   ·cases h
  ·rename_i c;injection h with h;subst h;exact c
end
end bF
end
section
namespace Go.Proofs.YtkpjmlnhhggenaaGreatDoor
open Go.Proofs.Tryz Go Go.RowKit Go.cK
theorem ajz (s:ax.aM):aS.iZ (aS.fT s).1=true∧aS.gF (aS.fT s).1<=100:=by
 unfold aS.fT;split
 ·split
  ·exact⟨by decide,by decide⟩
  ·rename_i e h;have:=Eu (zb _) h;have aO:=Et s;split
   ·exact⟨by decide,by decide⟩
   ·exact⟨this.1,by show aS.gF e<=100;omega⟩
 ·exact⟨show aS.iZ aS.none_=true by decide,show aS.gF aS.none_<=100 by decide⟩
theorem xA (s:ax.aM) (vars:List bF.Var) (kind:Int) (a:Option Addr) (c:Nat) (W:al) (n5:vars.length<=1000000) (ct:pt W a c vars) (b7:lh W) (cC:mr W):
  da prog 35 #[.string ⟨s.toArray⟩,.slice a vars.length c,.int .u8 kind] W (.int .i64 (bF.fp s vars kind)):=by
 refine ab0 kind vars.length c ⟨s.toArray⟩ a W.all _ ?_;have hp:=fun V h=>aaz ⟨s.toArray⟩ V h
 simp only[show(⟨s.toArray⟩:ByteArray).data.toList=s from by simp] at hp;have bb:=ajz s;refine iV (fun _ _=>hp W.all (b7.ext W.dw)) fun v w' _ ⟨oL,dA,fZ,cR,nk,oM,oN,oO,aB,hk⟩=>⟨oL,dA,fZ,(aS.fT s).2,oN,oO,cR,nk,oM,aB,fun cn bh dG bz=>?_⟩
 have ajA:=dT.i hk bh bz;simp only[aU];refine bY fun m1 cq _ bo=>bS fun dH cd=>aK (fun c=>aP fun _ _ _=>⟨_,rfl,?_⟩) fun c=>?_
 ·have c:¬(aS.fT s).2=0:=by simpa[U] using c
  rw[bF.fp,if_neg c];rfl
 ·have c:(aS.fT s).2=0:=by simpa[U] using c
  have dO:=aD bo cd;refine b5 (fun I _=>acm (aS.fT s).1 _ vars a _ dH bb.1 n5 (ajA.ext dO) (ct.ext (aD W.dw (aD dG dO))) (cC.ext (aD W.dw (aD dG dO)))) ⟨(bF.type vars (aS.fT s).1).1,(bF.type vars (aS.fT s).1).2,rfl,fun _ _=>?_⟩;simp only[aU];rw[bF.fp,if_pos c];refine aK (fun c2=>aP fun _ _ _=>⟨_,rfl,?_⟩) fun c2=>aP fun _ _ _=>⟨_,rfl,?_⟩
  ·have c2:(bF.type vars (aS.fT s).1).2=0∧(bF.type vars (aS.fT s).1).1≠kind:=by simpa[U] using c2
   rw[if_pos c2];rfl
  ·have c2:¬((bF.type vars (aS.fT s).1).2=0∧(bF.type vars (aS.fT s).1).1≠kind):=by simpa[U] using c2
   rw[if_neg c2];rfl
end Go.Proofs.YtkpjmlnhhggenaaGreatDoor
end
section
namespace au
open Go ab
def nu (I2 s:List Var):List aM->Int
 |[]=>0
 |x::l=>if named I2 x==0||named s x==0 then 22 else if !(named I2 x==named s x) then 23 else nu I2 s l
def vc (d:Option dR) (s:List Var) (n:dM):Int:=match d with
 |none=>22
 |some q=>if q.ao.any kp then nu q.vars s n.bL else 22
def tO (cQ:List dR) (s:List Var) (n:dM):Int:=
 if n.ev==2 then bF.fp n.ca s 1
 else if n.ev==3||n.ay==12 then bF.fp n.ca s 2
 else if n.ay==4 then(if named s n.set==0 then 22 else bF.fp n.ca s (named s n.set))
 else if !(n.ay==14) then 0
 else vc (cQ.find? fun q=>q.aT==n.key) s n
def iy (cQ:List dR) (p:dR) (i:Nat):Int:=tO cQ (fQ p i) (dc p i)
end au
namespace Go.Proofs.YtkpjmlnhhggenaaGreatDoor
open Go.Proofs.Tryz Go Go.RowKit Go.cK
def I3 (V dE:al) (x:Ext V dE):al:=⟨dE.w,V.aV,fun b I=>lv (V.lt b I) x.size⟩
theorem EO {V dE:al} (x:Ext V dE):Ext V (I3 V dE x):=⟨x.size,fun _ h=>h,x.du,x.os,x.tape,x.output⟩
theorem I4 (s:ab.aM):∀cQ:List cP,(cQ.map cP.av).find? (fun q=>q.aT==s)=(cQ.find? fun q=>q.aT==s).map cP.av
 |[]=>rfl
 |q::l=>by
  rw[jo,hY,hY];show(match q.aT==s with|true=>some q.av|false=>_)=_;cases q.aT==s
  ·exact I4 s l
  ·rfl
theorem I5 (q:cP):q.av.ao.any au.kp=q.ao.any fun y=>au.kp y.n:=by
 unfold cP.av;simp only[List.any_map,Function.comp_def]
theorem ajB (cQ:List cP) (hV:Option Addr) (hW:Nat) (cr to:oQ) (p:cP) (i:Nat) (m:Nat) (W:al) (a_:cQ.length<=1000000) (fX:b_ W hV cQ.length hW 4 (cQ.flatMap gA)) (eS:∀q∈cQ,fw q W)
  (hp:fw p W) (a8:i<p.ao.length) (kF:(au.fQ p.av (i:Int)).length<=1000000) (b7:lh W) (cC:mr W)
  (bf:¬W.aV m) (hm:W.w.heap[m]? =some (.cells (pw ⟨hV,cQ.length,hW⟩ p cr to).toArray nq)):
  da prog 34 #[.pointer (some ⟨m,0,none⟩),.int .i64 (i:Int)] W (.int .i64 (au.iy (cQ.map cP.av) p.av i)):=by
 refine zm bf hm fun V nR j l2=>?_
 rw[<-nR] at hm;have hp:=hp.ext j;have fX:=fX.ext j;have b7:=b7.ext j;have cC:=cC.ext j;have eS:∀q∈cQ,fw q V:=fun q bg=>(eS q bg).ext j
 have h5:=hp.h6;have fb:p.ao[i]? =some p.ao[i]:=dn a8;have sE:=hp.fn _ (h9 a8);generalize p.ao[i]=v at fb sE;have ax1:=sE.zh;refine ajf i cQ.length hW p.vars.length p.bA p.ao.length p.eF p.bj.length p.ef cr.n cr.c to.n to.c ⟨p.aT.toArray⟩ hV p.bx p.eL p.ea cr.a to.a m V _ hm l2 ?_;have bD:au.iy (cQ.map cP.av) p.av i=au.tO (cQ.map cP.av) (au.fQ p.av i) v.n:=by rw[au.iy,kZ fb]
 rw[bD,au.tO,I4];refine a6 ?_ (a6 ?_ (a6 ?_ (cI ⟨v.n.ay,v.n.bp,v.n.on,v.n.ev,v.n.vars.length,v.bA,v.n.bL.length,v.ck,v.n.cb,⟨v.n.aT.toArray⟩,⟨v.n.key.toArray⟩,⟨v.n.ca.toArray⟩,⟨v.n.set.toArray⟩,v.bx,v.ch,fun cq bo=>?_,?_⟩)))
 ·simp only[E.b,aR,aX.push];exact b_.dL hp.ns (by omega)
 ·simp only[U];exact c_ (by omega)
 ·simp only[U];exact dW (by omega)
 ·have:=gh (P:=prog) eO (by decide) hp.ns iw ix fb bo;simp only[U,ff] at this ⊢;exact this
 simp only[aU];refine oF ?_ ?_
 ·refine cj fun dH cd=>?_
  refine iV (fun _ _=>IZ p i dH (hp.ext cd)) fun u w' _ ⟨hO,cZ,hu,c1⟩=>⟨(au.fQ p.av (i:Int)).length,cZ,hO,hu,fun dI hx cA cM=>?_⟩
  have c1:=eD.h3 c1 hx cM;simp only[aU];refine cj fun cV bU=>bY fun m1 dQ _ df=>cj fun dX dK=>bS fun ax2 Rg=>cj fun fm eY=>?_
  have c1:=c1.ext (aD (aD bU df) (aD (aD dK Rg) eY));have z9:=aD (aD cd cA) (aD (aD bU df) (aD (aD dK Rg) eY))
  try simp only[aU]
  generalize au.fQ p.av i=s at c1 kF ⊢;have BX:s.length<=2000000000000:=by omega
  refine aK (fun aJ=>?_) fun aJ=>?_
  ·have aJ:(v.n.ev==2)=true:=aJ;rw[aJ,if_pos rfl];refine b5 (v:=.int .i64 (bF.fp v.n.ca s 1)) (fun _ _=>xA v.n.ca s 1 hO cZ fm kF c1 (b7.ext z9) (cC.ext z9)) ⟨bF.fp v.n.ca s 1,rfl,fun fU fu=>?_⟩;simp only[aU];exact aP fun bu _ _=>⟨rfl,bu _ (bd.2 rfl)⟩
  ·have aJ:(v.n.ev==2)=false:=aJ;rw[aJ,if_neg (fun h=>nomatch h)];refine aK (fun c2=>?_) fun c2=>?_
   ·have c2:(v.n.ev==3||v.n.ay==12)=true:=c2;rw[c2,if_pos rfl];refine b5 (v:=.int .i64 (bF.fp v.n.ca s 2)) (fun _ _=>xA v.n.ca s 2 hO cZ fm kF c1 (b7.ext z9) (cC.ext z9)) ⟨bF.fp v.n.ca s 2,rfl,fun fU fu=>?_⟩;simp only[aU];exact aP fun bu _ _=>⟨rfl,bu _ (bd.2 rfl)⟩
   ·have c2:(v.n.ev==3||v.n.ay==12)=false:=c2;rw[c2,if_neg (fun h=>nomatch h)];refine aK (fun c3=>?_) fun c3=>?_
    ·have c3:(v.n.ay==4)=true:=c3;rw[c3,if_pos rfl];refine b5 (v:=.int .u8 (au.named s v.n.set)) (fun _ _=>zo v.n.set s hO cZ fm BX c1) ⟨au.named s v.n.set,rfl,fun fU fu=>?_⟩;have BY:=aD z9 fu;simp only[aU];refine aK (fun c4=>aP fun bu _ _=>⟨?_,bu _ (bd.2 rfl)⟩) fun c4=>?_
     ·have c4:(au.named s v.n.set==0)=true:=c4;rw[c4,if_pos rfl];rfl
     ·have c4:(au.named s v.n.set==0)=false:=c4;rw[c4,if_neg (fun h=>nomatch h)];refine b5 (v:=.int .i64 (bF.fp v.n.ca s (au.named s v.n.set))) (fun _ _=>xA v.n.ca s (au.named s v.n.set) hO cZ fU kF (c1.ext fu) (b7.ext BY) (cC.ext BY)) ⟨bF.fp v.n.ca s (au.named s v.n.set),rfl,fun jQ ki=>?_⟩;simp only[aU];exact aP fun bu _ _=>⟨rfl,bu _ (bd.2 rfl)⟩
    ·have c3:(v.n.ay==4)=false:=c3;rw[c3,if_neg (fun h=>nomatch h)];refine aK (fun c4=>aP fun bu _ _=>⟨?_,bu _ (bd.2 rfl)⟩) fun c4=>?_
     ·have c4:(!(v.n.ay==14))=true:=c4;rw[c4,if_pos rfl];rfl
     ·have c4:(!(v.n.ay==14))=false:=c4;rw[c4,if_neg (fun h=>nomatch h)];refine iV (fun I _=>Ra cQ hV hW cr to p v.n.key m (I3 V fm z9) a_ (fX.ext (EO z9)) (fun q bg=>(eS q bg).ext (EO z9)) l2 (I _ (bd.2 rfl))) fun u w' _ hu=>?_
      rcases hu with⟨J,an⟩|⟨q,bg,J,an⟩
      ·rw[J];refine⟨0,0,0,0,0,0,false,⟨#[]⟩,none,none,none,an,fun fU _ fu _=>?_⟩;simp only[aU];exact bY fun m2 jQ _ _=>bS fun lX _=>aK (fun c5=>aP fun bu _ _=>⟨rfl,bu _ (bd.2 rfl)⟩) fun c5=>nomatch (show(true=false) from c5)
      ·rw[J];have vb:=eS q bg;refine⟨q.vars.length,q.bA,q.ao.length,q.eF,q.bj.length,q.ef,q.ao.any fun y=>au.kp y.n,⟨q.aT.toArray⟩,q.bx,q.eL,q.ea,an,fun fU _ fu _=>?_⟩;simp only[aU];have I6:au.vc (some q.av) s v.n=if(q.ao.any fun y=>au.kp y.n) then au.nu q.vars s v.n.bL else 22:=by rw[au.vc,I5];rfl
       show Tree.ak _ _ (fun e w'=>e= .returned (.int .i64 (au.vc (some q.av) s v.n))∧_) _ _ _ _;rw[I6];refine bY fun m2 jQ _ ki=>bS fun lX kX=>aK (fun c5=>aP fun bu _ _=>⟨?_,bu _ (bd.2 rfl)⟩) fun c5=>?_
       ·have c5:(!(q.ao.any fun y=>au.kp y.n))=true:=c5;rw[if_neg (fun h=>by rw[h] at c5;cases c5)];rfl
       ·have c5:(!(q.ao.any fun y=>au.kp y.n))=false:=c5;rw[if_pos (by simpa using c5)];have kX:=aD fu (aD ki kX);have z12:=aD z9 kX;refine dJ (fun aj vs ls _=>∃k:Nat,vs=[.int .i64 (k:Nat)]∧ls=[]∧k<=v.n.bL.length∧aj=v.n.bL.length-k∧au.nu q.vars s v.n.bL=au.nu q.vars s (v.n.bL.drop k)) v.n.bL.length ⟨0,by simp[U],rfl,dr _,rfl,rfl⟩ ?_;rintro aj vs fG lY kj ⟨k,rfl,rfl,aA,rfl,bl⟩;have kj:=aD kX kj;have BZ:=aD z9 kj;refine⟨(k:Int),rfl,rfl,fun _=>aK (fun d1=>?_) fun d1=>aP fun bu _ _=>⟨?_,bu _ (bd.2 rfl)⟩⟩
        ·simp only[U,cX] at d1;have e8:k<v.n.bL.length:=by omega
         have l3:v.n.bL[k]? =some v.n.bL[k]:=dn e8;rw[h4 e8] at bl;generalize v.n.bL[k]=t at l3 bl;have px:=sE.fY;refine a6 ?_ (a6 ?_ (cI ⟨⟨t.toArray⟩,fun kk kl=>?_,?_⟩))
         ·simp only[E.b,aR,aX.push];exact b_.dL px (by omega)
         ·simp only[U];exact c_ (by omega)
         ·have:=ed (P:=prog) (f:=fun s=>[gO s]) (sz:=1) (fun _=>rfl) px nP (k:=0) l3 (by decide) (u:=gO t) rfl (aD BZ kl);simp only[U] at this ⊢;exact this
         simp only[aU];refine b5 (v:=.int .u8 (au.named q.vars t)) (fun _ _=>zo t q.vars q.bx q.bA lY (by have:=vb.gX;omega) (vb.vs.ext BZ)) ⟨au.named q.vars t,rfl,fun kk kl=>?_⟩;simp only[aU];refine b5 (v:=.int .u8 (au.named s t)) (fun _ _=>zo t s hO cZ kk BX (c1.ext (aD kj kl))) ⟨au.named s t,rfl,fun sF p_=>?_⟩;simp only[aU];refine aK (fun d2=>aP fun bu _ _=>⟨?_,bu _ (bd.2 rfl)⟩) fun d2=>aK (fun d3=>aP fun bu _ _=>⟨?_,bu _ (bd.2 rfl)⟩) fun d3=>b1 ⟨v.n.bL.length-(k+1),by omega,k+1,?_,rfl,by omega,rfl,?_⟩
         ·have d2:(au.named q.vars t==0||au.named s t==0)=true:=d2;rw[bl,au.nu,d2];rfl
         ·have d2:(au.named q.vars t==0||au.named s t==0)=false:=d2;have d3:(!(au.named q.vars t==au.named s t))=true:=d3;rw[bl,au.nu,d2,d3];rfl
         ·simp only[U];rw[cE (by omega) (by omega)];rfl
         ·have d2:(au.named q.vars t==0||au.named s t==0)=false:=d2;have d3:(!(au.named q.vars t==au.named s t))=false:=d3;rw[bl,au.nu,d2,d3];rfl
        ·simp only[U,c7] at d1;rw[bl,fV (by omega)];rfl
 ·refine cj fun dH cd=>bY fun m1 BK _ zg=>cj fun BL xl=>?_
  simp only[aU];have dO:=aD cd (aD zg xl);refine iV (fun _ _=>IZ p i BL (hp.ext dO)) fun u w' _ ⟨hO,cZ,hu,c1⟩=>⟨(au.fQ p.av (i:Int)).length,cZ,hO,hu,fun dI hx cA cM=>?_⟩
  have c1:=eD.h3 c1 hx cM;simp only[aU];refine cj fun cV bU=>bS fun dQ df=>cj fun fm eY=>?_
  have c1:=c1.ext (aD (aD bU df) eY);have z9:=aD (aD dO cA) (aD (aD bU df) eY)
  try simp only[aU]
  generalize au.fQ p.av i=s at c1 kF ⊢;have BX:s.length<=2000000000000:=by omega
  refine aK (fun aJ=>?_) fun aJ=>?_
  ·have aJ:(v.n.ev==2)=true:=aJ;rw[aJ,if_pos rfl];refine b5 (v:=.int .i64 (bF.fp v.n.ca s 1)) (fun _ _=>xA v.n.ca s 1 hO cZ fm kF c1 (b7.ext z9) (cC.ext z9)) ⟨bF.fp v.n.ca s 1,rfl,fun fU fu=>?_⟩;simp only[aU];exact aP fun bu _ _=>⟨rfl,bu _ (bd.2 rfl)⟩
  ·have aJ:(v.n.ev==2)=false:=aJ;rw[aJ,if_neg (fun h=>nomatch h)];refine aK (fun c2=>?_) fun c2=>?_
   ·have c2:(v.n.ev==3||v.n.ay==12)=true:=c2;rw[c2,if_pos rfl];refine b5 (v:=.int .i64 (bF.fp v.n.ca s 2)) (fun _ _=>xA v.n.ca s 2 hO cZ fm kF c1 (b7.ext z9) (cC.ext z9)) ⟨bF.fp v.n.ca s 2,rfl,fun fU fu=>?_⟩;simp only[aU];exact aP fun bu _ _=>⟨rfl,bu _ (bd.2 rfl)⟩
   ·have c2:(v.n.ev==3||v.n.ay==12)=false:=c2;rw[c2,if_neg (fun h=>nomatch h)];refine aK (fun c3=>?_) fun c3=>?_
    ·have c3:(v.n.ay==4)=true:=c3;rw[c3,if_pos rfl];refine b5 (v:=.int .u8 (au.named s v.n.set)) (fun _ _=>zo v.n.set s hO cZ fm BX c1) ⟨au.named s v.n.set,rfl,fun fU fu=>?_⟩;have BY:=aD z9 fu;simp only[aU];refine aK (fun c4=>aP fun bu _ _=>⟨?_,bu _ (bd.2 rfl)⟩) fun c4=>?_
     ·have c4:(au.named s v.n.set==0)=true:=c4;rw[c4,if_pos rfl];rfl
     ·have c4:(au.named s v.n.set==0)=false:=c4;rw[c4,if_neg (fun h=>nomatch h)];refine b5 (v:=.int .i64 (bF.fp v.n.ca s (au.named s v.n.set))) (fun _ _=>xA v.n.ca s (au.named s v.n.set) hO cZ fU kF (c1.ext fu) (b7.ext BY) (cC.ext BY)) ⟨bF.fp v.n.ca s (au.named s v.n.set),rfl,fun jQ ki=>?_⟩;simp only[aU];exact aP fun bu _ _=>⟨rfl,bu _ (bd.2 rfl)⟩
    ·have c3:(v.n.ay==4)=false:=c3;rw[c3,if_neg (fun h=>nomatch h)];refine aK (fun c4=>aP fun bu _ _=>⟨?_,bu _ (bd.2 rfl)⟩) fun c4=>?_
     ·have c4:(!(v.n.ay==14))=true:=c4;rw[c4,if_pos rfl];rfl
     ·have c4:(!(v.n.ay==14))=false:=c4;rw[c4,if_neg (fun h=>nomatch h)];refine iV (fun I _=>Ra cQ hV hW cr to p v.n.key m (I3 V fm z9) a_ (fX.ext (EO z9)) (fun q bg=>(eS q bg).ext (EO z9)) l2 (I _ (bd.2 rfl))) fun u w' _ hu=>?_
      rcases hu with⟨J,an⟩|⟨q,bg,J,an⟩
      ·rw[J];refine⟨0,0,0,0,0,0,false,⟨#[]⟩,none,none,none,an,fun fU _ fu _=>?_⟩;simp only[aU];exact bY fun m2 jQ _ _=>bS fun lX _=>aK (fun c5=>aP fun bu _ _=>⟨rfl,bu _ (bd.2 rfl)⟩) fun c5=>nomatch (show(true=false) from c5)
      ·rw[J];have vb:=eS q bg;refine⟨q.vars.length,q.bA,q.ao.length,q.eF,q.bj.length,q.ef,q.ao.any fun y=>au.kp y.n,⟨q.aT.toArray⟩,q.bx,q.eL,q.ea,an,fun fU _ fu _=>?_⟩;simp only[aU];have I6:au.vc (some q.av) s v.n=if(q.ao.any fun y=>au.kp y.n) then au.nu q.vars s v.n.bL else 22:=by rw[au.vc,I5];rfl
       show Tree.ak _ _ (fun e w'=>e= .returned (.int .i64 (au.vc (some q.av) s v.n))∧_) _ _ _ _;rw[I6];refine bY fun m2 jQ _ ki=>bS fun lX kX=>aK (fun c5=>aP fun bu _ _=>⟨?_,bu _ (bd.2 rfl)⟩) fun c5=>?_
       ·have c5:(!(q.ao.any fun y=>au.kp y.n))=true:=c5;rw[if_neg (fun h=>by rw[h] at c5;cases c5)];rfl
       ·have c5:(!(q.ao.any fun y=>au.kp y.n))=false:=c5;rw[if_pos (by simpa using c5)];have kX:=aD fu (aD ki kX);have z12:=aD z9 kX;refine dJ (fun aj vs ls _=>∃k:Nat,vs=[.int .i64 (k:Nat)]∧ls=[]∧k<=v.n.bL.length∧aj=v.n.bL.length-k∧au.nu q.vars s v.n.bL=au.nu q.vars s (v.n.bL.drop k)) v.n.bL.length ⟨0,by simp[U],rfl,dr _,rfl,rfl⟩ ?_;rintro aj vs fG lY kj ⟨k,rfl,rfl,aA,rfl,bl⟩;have kj:=aD kX kj;have BZ:=aD z9 kj;refine⟨(k:Int),rfl,rfl,fun _=>aK (fun d1=>?_) fun d1=>aP fun bu _ _=>⟨?_,bu _ (bd.2 rfl)⟩⟩
        ·simp only[U,cX] at d1;have e8:k<v.n.bL.length:=by omega
         have l3:v.n.bL[k]? =some v.n.bL[k]:=dn e8;rw[h4 e8] at bl;generalize v.n.bL[k]=t at l3 bl;have px:=sE.fY;refine a6 ?_ (a6 ?_ (cI ⟨⟨t.toArray⟩,fun kk kl=>?_,?_⟩))
         ·simp only[E.b,aR,aX.push];exact b_.dL px (by omega)
         ·simp only[U];exact c_ (by omega)
         ·have:=ed (P:=prog) (f:=fun s=>[gO s]) (sz:=1) (fun _=>rfl) px nP (k:=0) l3 (by decide) (u:=gO t) rfl (aD BZ kl);simp only[U] at this ⊢;exact this
         simp only[aU];refine b5 (v:=.int .u8 (au.named q.vars t)) (fun _ _=>zo t q.vars q.bx q.bA lY (by have:=vb.gX;omega) (vb.vs.ext BZ)) ⟨au.named q.vars t,rfl,fun kk kl=>?_⟩;simp only[aU];refine b5 (v:=.int .u8 (au.named s t)) (fun _ _=>zo t s hO cZ kk BX (c1.ext (aD kj kl))) ⟨au.named s t,rfl,fun sF p_=>?_⟩;simp only[aU];refine aK (fun d2=>aP fun bu _ _=>⟨?_,bu _ (bd.2 rfl)⟩) fun d2=>aK (fun d3=>aP fun bu _ _=>⟨?_,bu _ (bd.2 rfl)⟩) fun d3=>b1 ⟨v.n.bL.length-(k+1),by omega,k+1,?_,rfl,by omega,rfl,?_⟩
         ·have d2:(au.named q.vars t==0||au.named s t==0)=true:=d2;rw[bl,au.nu,d2];rfl
         ·have d2:(au.named q.vars t==0||au.named s t==0)=false:=d2;have d3:(!(au.named q.vars t==au.named s t))=true:=d3;rw[bl,au.nu,d2,d3];rfl
         ·simp only[U];rw[cE (by omega) (by omega)];rfl
         ·have d2:(au.named q.vars t==0||au.named s t==0)=false:=d2;have d3:(!(au.named q.vars t==au.named s t))=false:=d3;rw[bl,au.nu,d2,d3];rfl
        ·simp only[U,c7] at d1;rw[bl,fV (by omega)];rfl
end Go.Proofs.YtkpjmlnhhggenaaGreatDoor
end
