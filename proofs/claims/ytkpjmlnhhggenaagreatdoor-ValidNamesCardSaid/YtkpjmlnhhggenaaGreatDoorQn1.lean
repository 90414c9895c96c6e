/- Texts of the claim, one behind the other: SfA SfB SfC. -/
import Derived.WalkKit
import Derived.WalkLawsBesides
import Derived.Lib.QuietBelow
import Derived.Laws.StructEq
import Derived.ChangeKeysEq
import Derived.Laws.Slices
import Derived.Laws.AppendOwn
import Derived.Laws.AppendOwnNone
import Derived.Laws.OwnMore
import Derived.Laws.MakeOwn
set_option linter.unusedSimpArgs false
set_option linter.unusedVariables false
set_option maxRecDepth 100000
theorem bd:type_of% @List.mem_singleton:=@List.mem_singleton
theorem bm:type_of% @Option.some.inj:=@Option.some.inj
theorem bT:type_of% @Bool.and_eq_true:=@Bool.and_eq_true
theorem c6:type_of% @List.mem_cons_self:=@List.mem_cons_self
theorem dh:type_of% @List.mem_cons:=@List.mem_cons
theorem dn:type_of% @List.getElem?_eq_getElem:=@List.getElem?_eq_getElem
theorem dq:type_of% @List.mem_cons_of_mem:=@List.mem_cons_of_mem
theorem dr:type_of% @Nat.zero_le:=@Nat.zero_le
theorem ep:type_of% @List.all_eq_true:=@List.all_eq_true
theorem eE:type_of% @Nat.eq_of_beq_eq_true:=@Nat.eq_of_beq_eq_true
theorem eT:type_of% @List.not_mem_nil:=@List.not_mem_nil
theorem eX:type_of% @Bool.true_and:=@Bool.true_and
theorem e5:type_of% @List.length_cons:=@List.length_cons
theorem e9:type_of% @Nat.le_refl:=@Nat.le_refl
theorem ff:type_of% @Nat.add_zero:=@Nat.add_zero
theorem fq:type_of% @Array.getElem?_eq_some_iff:=@Array.getElem?_eq_some_iff
theorem fD:type_of% @Prod.mk.inj:=@Prod.mk.inj
theorem fR:type_of% @List.length_append:=@List.length_append
theorem fV:type_of% @List.drop_eq_nil_of_le:=@List.drop_eq_nil_of_le
theorem gf:type_of% @Bool.or_true:=@Bool.or_true
theorem hq:type_of% @Bool.not_eq_true':=@Bool.not_eq_true'
theorem hI:type_of% @Option.map_eq_some_iff:=@Option.map_eq_some_iff
theorem hY:type_of% @List.find?_cons:=@List.find?_cons
theorem h7:type_of% @List.mem_map:=@List.mem_map
theorem h8:type_of% @Bool.or_eq_true:=@Bool.or_eq_true
theorem h9:type_of% @List.getElem_mem:=@List.getElem_mem
theorem ih:type_of% @Int.toNat_natCast:=@Int.toNat_natCast
theorem iz:type_of% @Nat.le_trans:=@Nat.le_trans
theorem jo:type_of% @List.map_cons:=@List.map_cons
theorem jE:type_of% @List.pairwise_singleton:=@List.pairwise_singleton
theorem jW:type_of% @List.append_assoc:=@List.append_assoc
theorem jX:type_of% @Bool.false_and:=@Bool.false_and
theorem kr:type_of% @Bool.false_or:=@Bool.false_or
theorem kt:type_of% @Bool.not_eq_false':=@Bool.not_eq_false'
theorem k1:type_of% @Bool.or_eq_false_iff:=@Bool.or_eq_false_iff
theorem k2:type_of% @List.mem_of_getElem?:=@List.mem_of_getElem?
theorem lv:type_of% @Nat.lt_of_lt_of_le:=@Nat.lt_of_lt_of_le
theorem lJ:type_of% @List.mem_filter:=@List.mem_filter
theorem lK:type_of% @Option.bind_some:=@Option.bind_some
theorem l6:type_of% @Option.map_some:=@Option.map_some
theorem l7:type_of% @Nat.le_of_ble_eq_true:=@Nat.le_of_ble_eq_true
theorem mC:type_of% @List.append_nil:=@List.append_nil
theorem mD:type_of% @List.getElem?_map:=@List.getElem?_map
theorem mE:type_of% @List.mem_append:=@List.mem_append
theorem mF:type_of% @Array.getD_eq_getD_getElem?:=@Array.getD_eq_getD_getElem?
theorem mG:type_of% @List.drop_eq_getElem_cons:=@List.drop_eq_getElem_cons
theorem mW:type_of% @List.length_map:=@List.length_map
theorem mX:type_of% @List.length_take:=@List.length_take
theorem mY:type_of% @Nat.zero_add:=@Nat.zero_add
theorem ny:type_of% @Option.getD_some:=@Option.getD_some
theorem nT:type_of% @Option.some.injEq:=@Option.some.injEq
theorem nU:type_of% @List.getElem?_eq_some_iff:=@List.getElem?_eq_some_iff
theorem nV:type_of% @List.flatMap_append:=@List.flatMap_append
theorem oc:type_of% @Bool.eq_iff_iff:=@Bool.eq_iff_iff
theorem od:type_of% @List.pairwise_cons:=@List.pairwise_cons
theorem oe:type_of% @List.getD_eq_getElem?_getD:=@List.getD_eq_getElem?_getD
theorem oW:type_of% @Nat.add_assoc:=@Nat.add_assoc
theorem oX:type_of% @List.getElem?_take:=@List.getElem?_take
theorem oY:type_of% @Bool.and_false:=@Bool.and_false
theorem oZ:type_of% @Option.map_none:=@Option.map_none
theorem o0:type_of% @List.take_succ_eq_append_getElem:=@List.take_succ_eq_append_getElem
theorem o1:type_of% @List.drop_of_length_le:=@List.drop_of_length_le
theorem pH:type_of% @Nat.lt_or_ge:=@Nat.lt_or_ge
theorem qd:type_of% @List.getElem?_eq_none:=@List.getElem?_eq_none
theorem qe:type_of% @List.all_cons:=@List.all_cons
theorem qf:type_of% @Int.le_refl:=@Int.le_refl
theorem qg:type_of% @List.cons_append:=@List.cons_append
theorem qh:type_of% @Bool.true_or:=@Bool.true_or
theorem qi:type_of% @Bool.not_false:=@Bool.not_false
theorem q2:type_of% @List.length_singleton:=@List.length_singleton
theorem rW:type_of% @List.flatMap_cons:=@List.flatMap_cons
theorem rX:type_of% @Bool.false_eq_true:=@Bool.false_eq_true
theorem rY:type_of% @List.mem_of_mem_take:=@List.mem_of_mem_take
theorem rZ:type_of% @List.getElem?_cons_succ:=@List.getElem?_cons_succ
theorem r0:type_of% @List.any_cons:=@List.any_cons
theorem r1:type_of% @Bool.and_eq_false_iff:=@Bool.and_eq_false_iff
theorem sO:type_of% @List.getElem?_drop:=@List.getElem?_drop
theorem sP:type_of% @Array.toList_map:=@Array.toList_map
theorem sQ:type_of% @List.take_of_length_le:=@List.take_of_length_le
theorem sR:type_of% @Nat.mul_le_mul_right:=@Nat.mul_le_mul_right
theorem sS:type_of% @Array.length_toList:=@Array.length_toList
theorem sT:type_of% @Nat.add_mul:=@Nat.add_mul
theorem sU:type_of% @List.nil_append:=@List.nil_append
theorem sV:type_of% @List.length_drop:=@List.length_drop
theorem sW:type_of% @List.length_eq_zero_iff:=@List.length_eq_zero_iff
theorem ua:type_of% @List.mem_append_left:=@List.mem_append_left
theorem ub:type_of% @List.mem_append_right:=@List.mem_append_right
theorem uc:type_of% @Int.toNat_zero:=@Int.toNat_zero
theorem ud:type_of% @Nat.testBit_or:=@Nat.testBit_or
theorem ue:type_of% @List.cons.injEq:=@List.cons.injEq
theorem uf:type_of% @Bool.not_true:=@Bool.not_true
theorem ug:type_of% @List.cons.inj:=@List.cons.inj
theorem vz:type_of% @List.foldl_cons:=@List.foldl_cons
theorem vA:type_of% @List.pairwise_map:=@List.pairwise_map
theorem vB:type_of% @List.pairwise_append:=@List.pairwise_append
theorem vC:type_of% @List.mem_of_mem_drop:=@List.mem_of_mem_drop
theorem vD:type_of% @Option.bind_eq_some_iff:=@Option.bind_eq_some_iff
theorem vE:type_of% @Nat.testBit_two_pow:=@Nat.testBit_two_pow
theorem vF:type_of% @Prod.mk.injEq:=@Prod.mk.injEq
theorem vG:type_of% @List.take_append_drop:=@List.take_append_drop
theorem vH:type_of% @List.takeWhile_cons:=@List.takeWhile_cons
theorem vI:type_of% @Array.getElem?_eq_getElem:=@Array.getElem?_eq_getElem
theorem vJ:type_of% @List.countP_cons:=@List.countP_cons
theorem vK:type_of% @List.countP_nil:=@List.countP_nil
theorem vL:type_of% @List.mem_range:=@List.mem_range
theorem yb:type_of% @List.Sublist.refl:=@List.Sublist.refl
theorem yc:type_of% @List.eq_nil_of_length_eq_zero:=@List.eq_nil_of_length_eq_zero
theorem yd:type_of% @List.contains_iff_mem:=@List.contains_iff_mem
theorem ye:type_of% @List.ext_getElem?:=@List.ext_getElem?
theorem yf:type_of% @List.getElem?_cons_zero:=@List.getElem?_cons_zero
theorem yg:type_of% @List.length_nil:=@List.length_nil
theorem yh:type_of% @List.countP_append:=@List.countP_append
theorem Aa:type_of% @Option.isSome_iff_exists:=@Option.isSome_iff_exists
theorem Ab:type_of% @List.Pairwise.and_mem:=@List.Pairwise.and_mem
theorem Ac:type_of% @List.getElem?_append_right:=@List.getElem?_append_right
theorem Ad:type_of% @List.mem_of_find?_eq_some:=@List.mem_of_find?_eq_some
theorem Ae:type_of% @List.getElem?_range:=@List.getElem?_range
theorem Af:type_of% @List.length_replicate:=@List.length_replicate
section
theorem vM {α:Type} {a:α} {l k:List α}:a::l++k=a::(l++k):=rfl
theorem yi {α:Type} {l:List α}:[]++l=l:=rfl
theorem lL {α:Type} {l:List α}:l++[]=l:=mC l
theorem eH {n:Nat}:Int.toNat (n:Int)=n:=rfl
theorem ku {α β:Type} {f:α->β} {a:α} {l:List α}:(a::l).map f=f a::l.map f:=rfl
theorem lM {α β:Type} {f:α->β}:[].map f=[]:=rfl
theorem jq {α β:Type} {f:α->List β} {a:α} {l:List α}:(a::l).flatMap f=f a++l.flatMap f:=rW
theorem kv {α β:Type} {f:α->List β}:[].flatMap f=[]:=rfl
section
namespace Go.cK
open Go Go.RowKit
def aR {α:Type}:List α->Nat->α->α
 |[],_,x=>x
 |a::_,0,_=>a
 |_::l,n+1,x=>aR l n x
theorem og {α:Type}:∀(l m:List α) (n:Nat) (x:α),n<l.length->aR (l++m) n x=aR l n x
 |[],_,_,_,h=>by simp at h
 |_::_,_,0,_,_=>rfl
 |_::l,m,n+1,x,h=>og l m n x (by simpa using h)
theorem KY {α:Type}:∀(l:List α) (n:Nat) (x:α),aR l n x∈l∨aR l n x=x
 |[],_,_=>.inr rfl
 |_::_,0,_=>.inl (c6 ..)
 |_::l,n+1,x=>(KY l n x).imp (dq _) id
theorem CP {α:Type}:∀{l:List α} {n:Nat} {x:α} (h:n<l.length),aR l n x=l[n]
 |_::_,0,_,_=>rfl
 |_::l,n+1,x,h=>CP (l:=l) (n:=n) (x:=x) (by simpa using h)
theorem U7 {a:Array UInt8} {n:Nat} {x:UInt8} (h:n<a.size):aR a.toList n x=a[n]:=by
 rw[CP (by simpa using h)];simp
inductive vN where
 |add|sub|mul|quo|rem|lt|le|dz|gp|fE|beq|cat|fI|uh|hJ|max
 deriving DecidableEq,Repr
inductive ui where
 |wrap (k:IntKind)|len|not|neg|CQ
 deriving DecidableEq,Repr
inductive E where
 |aN (n:Nat)|aW (n:Nat)|bv (n:Nat)|br (n:Nat)
 |aE (n:Int)|dB (b:Bool)|bN (s:List UInt8)
 |sm (a:Nat)|fg (n:Nat)|qj (n:Nat)
 |aF (o:vN) (a b:E)|un (o:ui) (a:E)|cut (s lo a8:E)
 deriving DecidableEq,Repr
def yj:IntKind->Nat
 | .i8=>0| .i16=>1| .i32=>2| .i64=>3| .u8=>4| .u16=>5| .u32=>6| .u64=>7
def vN.no:vN->Nat
 | .add=>0| .sub=>1| .mul=>2| .quo=>3| .rem=>4| .lt=>5| .le=>6| .dz=>7| .gp=>8| .fE=>9| .beq=>10| .cat=>11| .fI=>12| .uh=>13| .hJ=>14| .max=>15
def ui.no:ui->Nat
 | .wrap k=>10+yj k| .len=>0| .not=>1| .neg=>2| .CQ=>3
theorem vN.F4 {a b:vN} (h:Nat.beq a.no b.no=true):a=b:=by
 have h:=eE h;cases a<;>cases b<;>first|rfl|(simp[vN.no] at h)
theorem KZ {a b:IntKind} (h:yj a=yj b):a=b:=by cases a<;>cases b<;>first|rfl|(simp[yj] at h)
theorem ui.F4 {a b:ui} (h:Nat.beq a.no b.no=true):a=b:=by
 have h:=eE h;cases a<;>cases b<;>simp only[ui.no] at h<;>first|rfl|(exact congrArg ui.wrap (KZ (by omega)))|omega
def yk:Int->Int->Bool
 | .ofNat a,.ofNat b=>Nat.beq a b
 | .negSucc a,.negSucc b=>Nat.beq a b
 |_,_=>false
theorem K0 {a b:Int} (h:yk a b=true):a=b:=by
 cases a<;>cases b<;>simp only[yk] at h<;>first|(rw[eE h])|cases h
theorem U8 {a b:Int} (h:a=b):yk a b=true:=by subst h;cases a<;>simp[yk]
def yl:List UInt8->List UInt8->Bool
 |[],[]=>true
 |a::l,b::m=>Nat.beq a.toNat b.toNat&&yl l m
 |_,_=>false
theorem K1:∀{a b:List UInt8},yl a b=true->a=b
 |[],[],_=>rfl
 |[],_::_,h=>by simp[yl] at h
 |_::_,[],h=>by simp[yl] at h
 |a::l,b::m,h=>by
  simp only[yl,bT] at h;rw[UInt8.toNat_inj.1 (eE h.1),K1 h.2]
def K2:Bool->Bool->Bool
 |true,b=>b
 |false,b=>!b
theorem U9 {a b:Bool} (h:K2 a b=true):a=b:=by cases a<;>cases b<;>first|rfl|cases h
def E.eb:E->E->Bool
 | .aN a,.aN b=>Nat.beq a b
 | .aW a,.aW b=>Nat.beq a b
 | .bv a,.bv b=>Nat.beq a b
 | .br a,.br b=>Nat.beq a b
 | .sm a,.sm b=>Nat.beq a b
 | .fg a,.fg b=>Nat.beq a b
 | .qj a,.qj b=>Nat.beq a b
 | .aE a,.aE b=>yk a b
 | .dB a,.dB b=>K2 a b
 | .bN a,.bN b=>yl a b
 | .aF o a b,.aF p c d=>Nat.beq o.no p.no&&(a.eb c&&b.eb d)
 | .un o a,.un p c=>Nat.beq o.no p.no&&a.eb c
 | .cut a b c,.cut d e f=>a.eb d&&(b.eb e&&c.eb f)
 |_,_=>false
theorem E.jc:∀{a b:E},E.eb a b=true->a=b:=by
 intro a;induction a with
 |aN n=>intro b h;cases b<;>simp only[E.eb] at h<;>first|(rw[eE h])|cases h
 |aW n=>intro b h;cases b<;>simp only[E.eb] at h<;>first|(rw[eE h])|cases h
 |bv n=>intro b h;cases b<;>simp only[E.eb] at h<;>first|(rw[eE h])|cases h
 |br n=>intro b h;cases b<;>simp only[E.eb] at h<;>first|(rw[eE h])|cases h
 |sm n=>intro b h;cases b<;>simp only[E.eb] at h<;>first|(rw[eE h])|cases h
 |fg n=>intro b h;cases b<;>simp only[E.eb] at h<;>first|(rw[eE h])|cases h
 |qj n=>intro b h;cases b<;>simp only[E.eb] at h<;>first|(rw[eE h])|cases h
 |aE n=>intro b h;cases b<;>simp only[E.eb] at h<;>first|(rw[K0 h])|cases h
 |dB n=>intro b h;cases b<;>simp only[E.eb] at h<;>first|(rw[U9 h])|cases h
 |bN n=>intro b h;cases b<;>simp only[E.eb] at h<;>first|(rw[K1 h])|cases h
 |aF o x y q3 sX=>
  intro b h;cases b<;>simp only[E.eb,bT] at h<;>first|(rw[vN.F4 h.1,q3 h.2.1,sX h.2.2])|cases h
 |un o x q3=>
  intro b h;cases b<;>simp only[E.eb,bT] at h<;>first|(rw[ui.F4 h.1,q3 h.2])|cases h
 |cut x y z q3 sX U_=>
  intro b h;cases b<;>simp only[E.eb,bT] at h<;>first|(rw[q3 h.1,sX h.2.1,U_ h.2.2])|cases h
structure aX where
 aV:List Int:=[]
 N:List Nat:=[]
 B:List Bool:=[]
 T:List ByteArray:=[]
 V:List Value:=[]
 A:List (Option Addr):=[]
 M:List Nat:=[]
 L:List (List Value):=[]
structure dj where
 aV:Nat:=0
 N:Nat:=0
 B:Nat:=0
 T:Nat:=0
 V:Nat:=0
 A:Nat:=0
 M:Nat:=0
 L:Nat:=0
 deriving DecidableEq,Repr
def aX.cT (ρ:aX):dj:=⟨ρ.aV.length,ρ.N.length,ρ.B.length,ρ.T.length,ρ.V.length,ρ.A.length,ρ.M.length,ρ.L.length⟩
def aX.push (ρ d:aX):aX:=⟨ρ.aV++d.aV,ρ.N++d.N,ρ.B++d.B,ρ.T++d.T,ρ.V++d.V,ρ.A++d.A,ρ.M++d.M,ρ.L++d.L⟩
def dj.add (c d:dj):dj:=⟨c.aV+d.aV,c.N+d.N,c.B+d.B,c.T+d.T,c.V+d.V,c.A+d.A,c.M+d.M,c.L+d.L⟩
theorem aX.F5 (ρ d:aX):(ρ.push d).cT=ρ.cT.add d.cT:=by simp[aX.cT,aX.push,dj.add]
def vO:Value->Bool
 | .nilIface=>true
 |_=>false
def vP:Value->Bool
 | .nilIface| .iface _ _=>true
 |_=>false
def eg (a b:Int):Bool:=decide (a<b)
def er (a b:Int):Bool:=decide (a<=b)
theorem cX {a b:Int}:(eg a b=true)=(a<b):=by simp[eg]
theorem c7 {a b:Int}:(eg a b=false)=(b<=a):=by simp[eg]
theorem uj {a b:Int}:(er a b=true)=(a<=b):=by simp[er]
theorem uk {a b:Int}:(er a b=false)=(b<a):=by simp[er]
mutual
def E.i (ρ:aX):E->Int
 | .aN n=>aR ρ.aV n 0
 | .aW n=>((aR ρ.N n 0:Nat):Int)
 | .aE n=>n
 | .aF .add a b=>a.i ρ+b.i ρ
 | .aF .sub a b=>a.i ρ-b.i ρ
 | .aF .mul a b=>a.i ρ*b.i ρ
 | .aF .quo a b=>(a.i ρ).tdiv (b.i ρ)
 | .aF .rem a b=>(a.i ρ).tmod (b.i ρ)
 | .aF .max a b=>max (a.i ρ) (b.i ρ)
 | .aF .hJ s n=>((aR (s.t ρ).data.toList (n.i ρ).toNat 0).toNat:Int)
 | .un (.wrap k) a=>k.wrap (a.i ρ)
 | .un .neg a=> -a.i ρ
 | .un .len s=>((s.t ρ).size:Int)
 |_=>0
def E.b (ρ:aX):E->Bool
 | .bv n=>aR ρ.B n false
 | .dB b=>b
 | .sm a=>(aR ρ.A a none).isSome
 | .fg n=>vO (aR ρ.V n .nilIface)
 | .qj n=>vP (aR ρ.V n .nilIface)
 | .aF .lt a b=>eg (a.i ρ) (b.i ρ)
 | .aF .le a b=>er (a.i ρ) (b.i ρ)
 | .aF .dz a b=>a.i ρ==b.i ρ
 | .aF .gp a b=>a.b ρ&&b.b ρ
 | .aF .fE a b=>a.b ρ||b.b ρ
 | .aF .beq a b=>a.b ρ==b.b ρ
 | .aF .fI a b=>(a.t ρ).data.toList==(b.t ρ).data.toList
 | .aF .uh a b=>Op.bytesLess (a.t ρ).data.toList (b.t ρ).data.toList
 | .un .not a=>!a.b ρ
 |_=>false
def E.t (ρ:aX):E->ByteArray
 | .br n=>aR ρ.T n ⟨#[]⟩
 | .bN s=>⟨s.toArray⟩
 | .aF .cat a b=>a.t ρ++b.t ρ
 | .un .CQ a=>⟨#[UInt8.ofNat (a.i ρ).toNat]⟩
 | .cut s lo a8=>(s.t ρ).extract (lo.i ρ).toNat (a8.i ρ).toNat
 |_=>⟨#[]⟩
end
def E.ok (c:dj):E->Bool
 | .aN n=>n<c.aV| .aW n=>n<c.N| .bv n=>n<c.B| .br n=>n<c.T
 | .aE _| .dB _| .bN _=>true
 | .sm n=>n<c.A
 | .fg n| .qj n=>n<c.V
 | .aF _ a b=>a.ok c&&b.ok c
 | .un _ a=>a.ok c
 | .cut a b d=>a.ok c&&b.ok c&&d.ok c
theorem E.push (ρ d:aX) (e:E):e.ok ρ.cT=true->e.i (ρ.push d)=e.i ρ∧e.b (ρ.push d)=e.b ρ∧e.t (ρ.push d)=e.t ρ:=by
 induction e with
 |aN n=>intro h;have h:=of_decide_eq_true h;simp[E.i,E.b,E.t,aX.push,og _ _ _ _ h]
 |aW n=>intro h;have h:=of_decide_eq_true h;simp[E.i,E.b,E.t,aX.push,og _ _ _ _ h]
 |bv n=>intro h;have h:=of_decide_eq_true h;simp[E.i,E.b,E.t,aX.push,og _ _ _ _ h]
 |br n=>intro h;have h:=of_decide_eq_true h;simp[E.i,E.b,E.t,aX.push,og _ _ _ _ h]
 |aE n=>intro _;simp[E.i,E.b,E.t]
 |sm n=>intro h;have h:=of_decide_eq_true h;simp[E.i,E.b,E.t,aX.push,og _ _ _ _ h]
 |fg n=>intro h;have h:=of_decide_eq_true h;simp[E.i,E.b,E.t,aX.push,og _ _ _ _ h]
 |qj n=>intro h;have h:=of_decide_eq_true h;simp[E.i,E.b,E.t,aX.push,og _ _ _ _ h]
 |dB n=>intro _;simp[E.i,E.b,E.t]
 |bN n=>intro _;simp[E.i,E.b,E.t]
 |aF o a b lx q4=>
  intro h;simp only[E.ok,bT] at h;obtain⟨bn,a2,a3⟩:=lx h.1;obtain⟨fk,kx,jd⟩:=q4 h.2;cases o<;>simp[E.i,E.b,E.t,bn,a2,a3,fk,kx,jd]
 |un o a lx=>
  intro h;simp only[E.ok] at h;obtain⟨bn,a2,a3⟩:=lx h;cases o<;>simp[E.i,E.b,E.t,bn,a2,a3]
 |cut a b c lx q4 qk=>
  intro h;simp only[E.ok,bT] at h;obtain⟨_,_,a3⟩:=lx h.1.1;obtain⟨fk,_,_⟩:=q4 h.1.2;obtain⟨aJ,_,_⟩:=qk h.2;simp[E.i,E.b,E.t,a3,fk,aJ]
inductive af where
 |bool (e:E)|int (k:IntKind) (e:E)|str (e:E)
 |ptr (m:Nat) (off:Nat)
 |b6 (a:Nat) (i:E) (sz kN:Nat)
 |bt (a:Nat) (n c:E)
 |fM (m off n c:Nat)
 |db
 |val (v:Value)|var (n:Nat)
 |agg (l:List af)|cU (l:List af)
 |fn (f:FuncId) (l:List af)|oh (f:FuncId) (l:List af)
 |nz (t:TypeId) (s:af)
 |when (g:E) (w:Bool) (s:af)
mutual
def af.ak (ρ:aX):af->Value
 | .bool e=>.bool (e.b ρ)
 | .int k e=>.int k (e.i ρ)
 | .str e=>.string (e.t ρ)
 | .ptr m off=>.pointer (some ⟨aR ρ.M m 0,off,none⟩)
 | .b6 a i sz kN=>.pointer (some (((aR ρ.A a none).getD default).add ((i.i ρ).toNat*sz+kN)))
 | .bt a n c=>.slice (aR ρ.A a none) (n.i ρ).toNat (c.i ρ).toNat
 | .fM m off n c=>.slice (some ⟨aR ρ.M m 0,off,none⟩) n c
 | .db=>.slice none 0 0
 | .val v=>v
 | .var n=>aR ρ.V n .nilIface
 | .agg l=>.agg (af.b2 ρ l).toArray
 | .cU l=>.tuple (af.b2 ρ l).toArray
 | .fn f l=>.func (.func f) #[] (af.b2 ρ l).toArray
 | .oh f l=>.func (.func f) (af.b2 ρ l).toArray #[]
 | .nz t s=>.iface t (s.ak ρ)
 | .when g w s=>if g.b ρ=w then s.ak ρ else undef
def af.b2 (ρ:aX):List af->List Value
 |[]=>[]
 |s::l=>s.ak ρ::af.b2 ρ l
end
theorem af.jF (ρ:aX) (l:List af):af.b2 ρ l=l.map (af.ak ρ):=by
 induction l with
 |nil=>rfl
 |cons s l cF=>simp[af.b2,cF]
mutual
def af.ok (c:dj):af->Bool
 | .bool e| .int _ e| .str e=>e.ok c
 | .ptr m _=>m<c.M
 | .b6 a i _ _=>a<c.A&&i.ok c
 | .bt a n k=>a<c.A&&n.ok c&&k.ok c
 | .fM m _ _ _=>m<c.M
 | .db| .val _=>true
 | .var n=>n<c.V
 | .agg l| .cU l| .fn _ l| .oh _ l=>af.l8 c l
 | .nz _ s=>s.ok c
 | .when g _ s=>g.ok c&&s.ok c
def af.l8 (c:dj):List af->Bool
 |[]=>true
 |s::l=>s.ok c&&af.l8 c l
end
mutual
theorem af.push (ρ d:aX):∀s:af,s.ok ρ.cT=true->s.ak (ρ.push d)=s.ak ρ
 | .bool e,h=>by simp only[af.ok] at h;simp[af.ak,E.push ρ d e h]
 | .int _ e,h=>by simp only[af.ok] at h;simp[af.ak,E.push ρ d e h]
 | .str e,h=>by simp only[af.ok] at h;simp[af.ak,E.push ρ d e h]
 | .ptr m _,h=>by have h:=of_decide_eq_true h;simp[af.ak,aX.push,og _ _ _ _ h]
 | .b6 a i _ _,h=>by
  simp only[af.ok,bT] at h;have J:=E.push ρ d i h.2;have an:a<ρ.A.length:=of_decide_eq_true h.1;simp only[af.ak,J];simp[aX.push,og _ _ _ _ an]
 | .bt a n k,h=>by
  simp only[af.ok,bT] at h;have J:=(E.push ρ d n h.1.2).1;have an:=(E.push ρ d k h.2).1;simp only[af.ak,J,an];simp[aX.push,og _ _ _ _ (of_decide_eq_true h.1.1)]
 | .fM m _ _ _,h=>by have h:=of_decide_eq_true h;simp[af.ak,aX.push,og _ _ _ _ h]
 | .db,_=>rfl
 | .val _,_=>rfl
 | .var n,h=>by have h:=of_decide_eq_true h;simp[af.ak,aX.push,og _ _ _ _ h]
 | .agg l,h=>by simp only[af.ok] at h;simp[af.ak,af.sY ρ d l h]
 | .cU l,h=>by simp only[af.ok] at h;simp[af.ak,af.sY ρ d l h]
 | .fn _ l,h=>by simp only[af.ok] at h;simp[af.ak,af.sY ρ d l h]
 | .oh _ l,h=>by simp only[af.ok] at h;simp[af.ak,af.sY ρ d l h]
 | .nz _ s,h=>by simp only[af.ok] at h;simp[af.ak,af.push ρ d s h]
 | .when g w s,h=>by
  simp only[af.ok,bT] at h;simp[af.ak,af.push ρ d s h.2,(E.push ρ d g h.1).2.1]
theorem af.sY (ρ d:aX):∀l:List af,af.l8 ρ.cT l=true->af.b2 (ρ.push d) l=af.b2 ρ l
 |[],_=>rfl
 |s::l,h=>by simp only[af.l8,bT] at h;simp[af.b2,af.push ρ d s h.1,af.sY ρ d l h.2]
end
def ql:Value->af
 | .bool b=>.bool (.dB b)
 | .int k n=>.int k (.aE n)
 | .string s=>.str (.bN s.data.toList)
 | .slice none 0 0=>.db
 |v=>.val v
theorem K3 (ρ:aX) (v:Value):(ql v).ak ρ=v:=by
 unfold ql;split<;>simp[af.ak,E.b,E.i,E.t]
def ym:Value->af
 | .agg cs=>.agg (cs.toList.map ql)
 |v=>ql v
theorem yn (ρ:aX) (l:List Value):af.b2 ρ (l.map ql)=l:=by
 induction l with
 |nil=>rfl
 |cons v l cF=>simp[af.b2,K3,cF]
theorem qm (ρ:aX) (v:Value):(ym v).ak ρ=v:=by
 unfold ym;split
 ·simp[af.ak,yn]
 ·exact K3 ρ _
def aX.ew (ρ:aX):Prop:=∀v∈ρ.V,v.oneCell'=true
def af.cell:af->Bool
 | .agg _| .cU _| .when _ _ _=>false
 | .val v=>v.oneCell'
 |_=>true
theorem af.Ag {ρ:aX} (bP:ρ.ew):∀s:af,s.cell=true->(s.ak ρ).oneCell'=true
 | .var n,_=>by
  simp only[af.ak];rcases KY ρ.V n .nilIface with h|h
  ·exact bP _ h
  ·rw[h];rfl
 | .val v,h=>h
 | .bool _,_| .int _ _,_| .str _,_| .ptr _ _,_| .b6 _ _ _ _,_| .bt _ _ _,_| .fM _ _ _ _,_| .db,_| .fn _ _,_| .oh _ _,_| .nz _ _,_=>rfl
 | .agg _,h| .cU _,h| .when _ _ _,h=>by cases h
def af.cells:af->Option (List af)
 | .agg l=>if l.all af.cell then some l else none
 |s=>if s.cell then some [s] else none
theorem Va {v:Value} (h:v.oneCell'=true):v.cells=#[v]:=by cases v<;>first|rfl|cases h
theorem af.CR {ρ:aX} (bP:ρ.ew) {s:af} {l:List af} (h:s.cells=some l):(s.ak ρ).cells=(af.b2 ρ l).toArray∧∀x∈l,x.cell=true:=by
 cases s
 case agg k=>
  simp only[af.cells] at h;split at h
  ·rename_i bl;obtain rfl:k=l:=by simpa using h
   exact⟨by simp[af.ak,Value.cells],by simpa using bl⟩
  ·cases h
 all_goals
  simp only[af.cells] at h;split at h
  ·rename_i aH;obtain rfl:=(bm h).symm;refine⟨?_,by simpa using aH⟩;simp only[af.b2];exact Va (af.Ag bP _ aH)
  ·cases h
variable {P:Program}
structure b4 where
 m:Nat
 ty:TypeId
 cs:List af
def b4.at (ρ:aX) (b:b4) (w:World):Prop:=w.heap[aR ρ.M b.m 0]? =some (.cells (af.b2 ρ b.cs).toArray b.ty)
def jG:List b4->Nat->Option b4
 |[],_=>none
 |b::l,m=>if b.m=m then some b else jG l m
theorem mH:∀{l:List b4} {m:Nat} {b:b4},jG l m=some b->b∈l∧b.m=m
 |[],_,_,h=>by cases h
 |a::l,m,b,h=>by
  simp only[jG] at h;split at h
  ·rename_i e;obtain rfl:=bm h;exact⟨c6 ..,e⟩
  ·exact⟨dq _ (mH h).1,(mH h).2⟩
def hr (P:Program) (t:TypeId):Option Bool:=
 match P.underlying t with
 |some (.struct _)|some (.array _ _)=>some true
 |some _=>some false
 |none=>none
def hK (P:Program) (t:TypeId):Option Nat:=(P.info? t).map (·.size)
theorem yo {t:TypeId} {b:Bool} (h:hr P t=some b) (w:World):(isAgg t).run P w= .ok b w:=by
 unfold hr at h;split at h<;>simp_all [isAgg,underlying]
theorem jr {t:TypeId} {n:Nat} (h:hK P t=some n) (w:World):(sizeOf t).run P w= .ok n w:=by
 unfold hK at h;cases a8:P.info? t with
 |none=>simp[a8] at h
 |some i=>simp[a8] at h;subst h;simp[sizeOf,typeInfo,a8]
theorem add_add (a:Addr) (m n:Nat):(a.add m).add n=a.add (m+n):=by
 unfold Addr.add
 by_cases hm:m=0
 ·subst hm;simp
 ·by_cases cB:n=0
  ·subst cB;simp[hm]
  ·simp[hm,cB,oW]
theorem ky (b o n:Nat):(⟨b,o,none⟩:Addr).add n=⟨b,o+n,none⟩:=by
 unfold Addr.add;split<;>simp_all
def vQ (P:Program) (t:TypeId) (cs:List af) (off:Nat):Option af:=
 match hr P t,hK P t with
 |some true,some n=>let l:=(cs.drop off).take n;if l.length=n then some (.agg l) else none
 |some false,some _=>cs[off]?
 |_,_=>none
theorem dens_getElem? (ρ:aX) (l:List af) (n:Nat):(af.b2 ρ l)[n]? =(l[n]?).map (af.ak ρ):=by
 rw[af.jF,mD]
theorem F6 {ρ:aX} {t:TypeId} {cs:List af} {off:Nat} {s:af} (h:vQ P t cs off=some s) {w:World} {b:Nat} {ty:TypeId}
  (I:w.heap[b]? =some (.cells (af.b2 ρ cs).toArray ty)):(loadVar t ⟨b,off,none⟩).run P w= .ok (s.ak ρ) w:=by
 unfold vQ at h;split at h
 ·rename_i n ee c1;dsimp only at h;split at h
  ·rename_i aO;obtain rfl:=bm h
   have aH:(loadCells ⟨b,off,none⟩ n).run P w= .ok (af.b2 ρ ((cs.drop off).take n)).toArray w:=by
    have:=run_loadCells_list (P:=P) w ⟨b,off,none⟩ (af.b2 ρ ((cs.drop off).take n)) (fun aj v cu=>by
     rw[ky];rw[dens_getElem?] at cu
     have k3:aj<n:=by
      rcases pH aj n with J|J
      ·exact J
      ·rw[oX,if_neg (by omega)] at cu;cases cu
     rw[oX,if_pos k3,sO] at cu;simp[World.cell?,I,dens_getElem?,cu])
    rwa[af.jF,mW,aO,<-af.jF] at this
   simp[loadVar,yo ee,jr c1,aH,af.ak]
  ·cases h
 ·rename_i n ee c1;have:(w.cell? ⟨b,off,none⟩)=some (s.ak ρ):=by simp[World.cell?,I,dens_getElem?,h]
  simp[loadVar,yo ee,this]
 ·cases h
def over (c:List af) (k:Nat) (v:List af):List af:=c.take k++v++c.drop (k+v.length)
theorem CS (ρ:aX) (c v:List af) (k:Nat):af.b2 ρ (over c k v)=(af.b2 ρ c).take k++af.b2 ρ v++(af.b2 ρ c).drop (k+v.length):=by
 simp[over,af.jF,List.map_take,List.map_drop]
theorem F7 {ρ:aX} (bP:ρ.ew) {t:TypeId} {cs vs:List af} {off n:Nat} {s:af} (bD:s.cells=some vs) (c1:hK P t=some n) (cB:vs.length=n) (aO:off+n<=cs.length)
  {w:World} {b:Nat} {ty:TypeId} (I:w.heap[b]? =some (.cells (af.b2 ρ cs).toArray ty)):
  (storeVar t ⟨b,off,none⟩ (s.ak ρ)).run P w= .ok () (w.setRow b (af.b2 ρ (over cs off vs)).toArray):=by
 obtain⟨J,an⟩:=af.CR bP bD
 have aI:=run_storeCells_at (P:=P) b off ty (af.b2 ρ vs) 0 (af.b2 ρ cs).toArray w I (by simp[af.jF];omega) (fun v aB=>by
  rw[af.jF] at aB;obtain⟨x,j,rfl⟩:=h7.1 aB;exact af.Ag bP _ (an x j))
 have k4:(s.ak ρ).cells.size=n:=by rw[J];simp[af.jF,cB]
 simp only[storeVar,Sem.run_bind,jr c1,Result.andThen_ok];rw[if_neg (by rw[k4];simp)];rw[J];rw[aI,CS];simp[af.jF]
def um (P:Program) (t:TypeId) (cs:List af) (off:Nat):Option af:=vQ P t cs off
theorem yp {ρ:aX} {t:TypeId} {cs:List af} {off:Nat} {s:af} (h:um P t cs off=some s) (w:World):
  (part t (af.b2 ρ cs).toArray off).run P w= .ok (s.ak ρ) w:=by
 unfold um vQ at h;split at h
 ·rename_i n ee c1;dsimp only at h;split at h
  ·rename_i aO;obtain rfl:=bm h;simp only[part,Sem.run_bind,yo ee,Result.andThen_ok,if_true,jr c1,Sem.run_pure];congr 1;simp[af.ak,af.jF,List.map_take,List.map_drop]
  ·cases h
 ·rename_i n ee c1;simp only[part,Sem.run_bind,yo ee,Result.andThen_ok,if_false,rX];simp[dens_getElem?,h]
 ·cases h
mutual
def vR (P:Program):Nat->TypeId->af->af->Option E
 |0,_,_,_=>none
 |d+1,t,x,y=>
  match P.underlying t,x,y with
  |some (.int _),.int k a,.int dA b=>if k=dA then some (.aF .dz a b) else none
  |some .bool,.bool a,.bool b=>some (.aF .beq a b)
  |some .string,.str a,.str b=>some (.aF .fI a b)
  |some (.struct fs),.agg xs,.agg gJ=>if P.stoodInHeld t then none else vS P d xs gJ fs.toList
  |some (.array n el),.agg xs,.agg gJ=>match P.info? el with
   |some _=>yq P d el (P.cellsOf el) xs gJ (List.range n)
   |none=>none
  |some (.interface _),.nz u a,.nz v b=>if u=v then(match P.info? u with
   |some i=>if i.comparable then vR P d u a b else none
   |none=>none) else some (.dB false)
  |_,_,_=>none
def yq (P:Program):Nat->TypeId->Nat->List af->List af->List Nat->Option E
 |_,_,_,_,_,[]=>some (.dB true)
 |0,_,_,_,_,_::_=>none
 |d+1,el,z,xs,gJ,i::is=>
  match um P el xs (i*z),um P el gJ (i*z) with
  |some a,some b=>match vR P d el a b,yq P d el z xs gJ is with
   |some e,some (.dB true)=>some e
   |some e,some r=>some (.aF .gp e r)
   |_,_=>none
  |_,_=>none
def vS (P:Program):Nat->List af->List af->List Field->Option E
 |_,_,_,[]=>some (.dB true)
 |0,_,_,_::_=>none
 |d+1,xs,gJ,f::fs=>
  if f.name≠ "_" then
   match um P f.type xs f.offset,um P f.type gJ f.offset with
   |some a,some b=>match vR P d f.type a b,vS P d xs gJ fs with
    |some e,some (.dB true)=>some e
    |some e,some r=>some (.aF .gp e r)
    |_,_=>none
   |_,_=>none
  else vS P d xs gJ fs
end
theorem toList_data (s:ByteArray):s.toList=s.data.toList:=ByteArray.toList_eq s
mutual
theorem vT {ρ:aX} (w:World):∀(d D:Nat) (t:TypeId) (x y:af) (e:E),vR P d t x y=some e->d<=D->(Op.equalIn D t (x.ak ρ) (y.ak ρ)).run P w= .ok (e.b ρ) w
 |0,_,_,_,_,_,h,_=>by simp[vR] at h
 |d+1,0,_,_,_,_,_,fX=>by omega
 |d+1,D+1,t,x,y,e,h,fX=>by
  simp only[vR] at h;split at h
  ·rename_i gQ k a dA b hu;split at h
   ·obtain rfl:=bm h;rename_i aA;subst aA;exact run_equalIn_int w D t k gQ _ _ hu
   ·cases h
  ·rename_i a b hu;obtain rfl:=bm h;exact run_equalIn_bool w D t _ _ hu
  ·rename_i a b hu;obtain rfl:=bm h;rw[af.ak,af.ak,run_equalIn_string w D t _ _ hu,toList_data,toList_data];rfl
  ·rename_i fs xs gJ hu;split at h
   ·cases h
   ·rename_i jH;have Ah:P.fieldsOf t=fs:=by simp[Program.fieldsOf,hu]
    rw[af.ak,af.ak,run_equalIn_struct w D t _ _ (by rw[Ah];exact hu) (by simpa using jH),Ah];exact CT w d D xs gJ fs.toList e h (by omega)
  ·rename_i n el xs gJ hu;split at h
   ·rename_i i a8;rw[af.ak,af.ak,run_equalIn_array (w:=w) D _ _ hu a8];exact F8 w d D el (P.cellsOf el) xs gJ (List.range n) e h (by omega)
   ·cases h
  ·rename_i ms u a v b hu;split at h
   ·rename_i F9;subst F9;split at h
    ·rename_i i a8;split at h
     ·rename_i Vb;have:=vT (ρ:=ρ) w d D u a b e h (by omega);simp[af.ak,Op.equalIn,run_underlying hu,typeInfo,a8,Vb,this]
     ·cases h
    ·cases h
   ·rename_i F9;obtain rfl:=bm h;simp[af.ak,Op.equalIn,run_underlying hu,F9,E.b]
  ·cases h
theorem F8 {ρ:aX} (w:World):∀(d D:Nat) (el:TypeId) (z:Nat) (xs gJ:List af) (is:List Nat) (e:E),yq P d el z xs gJ is=some e->d<=D->
  (Op.eqItems D el z (af.b2 ρ xs).toArray (af.b2 ρ gJ).toArray is).run P w= .ok (e.b ρ) w
 |_,_,_,_,_,_,[],e,h,_=>by simp only[yq] at h;obtain rfl:=bm h;simp[Op.eqItems,E.b]
 |0,_,_,_,_,_,_::_,_,h,_=>by simp[yq] at h
 |d+1,D,el,z,xs,gJ,i::is,e,h,fX=>by
  simp only[yq] at h;simp only[Op.eqItems];split at h
  ·rename_i a b bl I;simp only[Sem.run_bind,yp bl,yp I,Result.andThen_ok];split at h
   ·rename_i a7 he CU;obtain rfl:=bm h;rw[vT w d D el a b a7 he (by omega)];simp only[Result.andThen_ok,Sem.run_ite,Sem.run_pure];have:=F8 (ρ:=ρ) w d D el z xs gJ is _ CU (by omega);rw[this];cases a7.b ρ<;>simp[E.b]
   ·rename_i a7 r Vc he aw;obtain rfl:=bm h;rw[vT w d D el a b a7 he (by omega)];simp only[Result.andThen_ok,Sem.run_ite,Sem.run_pure];have:=F8 (ρ:=ρ) w d D el z xs gJ is _ aw (by omega);rw[this];cases J:a7.b ρ<;>simp[E.b,J]
   ·cases h
  ·cases h
theorem CT {ρ:aX} (w:World):∀(d D:Nat) (xs gJ:List af) (fs:List Field) (e:E),vS P d xs gJ fs=some e->d<=D->
  (Op.eqFields D (af.b2 ρ xs).toArray (af.b2 ρ gJ).toArray fs).run P w= .ok (e.b ρ) w
 |_,_,_,_,[],e,h,_=>by simp only[vS] at h;obtain rfl:=bm h;simp[Op.eqFields,E.b]
 |0,_,_,_,_::_,_,h,_=>by simp[vS] at h
 |d+1,D,xs,gJ,f::fs,e,h,fX=>by
  simp only[vS] at h;simp only[Op.eqFields];split at h
  ·rename_i cB;rw[if_pos cB];split at h
   ·rename_i a b bl I;simp only[Sem.run_bind,yp bl,yp I,Result.andThen_ok];split at h
    ·rename_i a7 he CU;obtain rfl:=bm h;rw[vT w d D f.type a b a7 he (by omega)];simp only[Result.andThen_ok,Sem.run_ite,Sem.run_pure];have:=CT (ρ:=ρ) w d D xs gJ fs _ CU (by omega);rw[this];cases a7.b ρ<;>simp[E.b]
    ·rename_i a7 r Vc he aw;obtain rfl:=bm h;rw[vT w d D f.type a b a7 he (by omega)];simp only[Result.andThen_ok,Sem.run_ite,Sem.run_pure];have:=CT (ρ:=ρ) w d D xs gJ fs _ aw (by omega);rw[this];cases J:a7.b ρ<;>simp[E.b,J]
    ·cases h
   ·cases h
  ·rename_i cB;rw[if_neg cB];exact CT w d D xs gJ fs e h (by omega)
end
variable {P:Program}
theorem Ai (k:IntKind) (n:Int) (J:k.min<=n) (an:n<=k.max):k.wrap n=n:=by
 cases k<;>simp[IntKind.wrap,IntKind.min,IntKind.max,IntKind.bits,IntKind.signed] at* <;>omega
def isLit:E->Option Int
 | .aE n=>some n
 |_=>none
theorem vU {ρ:aX} {e:E} {n:Int} (h:isLit e=some n):e.i ρ=n:=by
 cases e<;>simp[isLit] at h;subst h;simp[E.i]
def gq:E->Bool
 | .aW _=>true
 | .aE n=>decide (0<=n)
 | .aF .add a b=>gq a&&gq b
 | .un .len _=>true
 |_=>false
theorem qn {ρ:aX}:∀{e:E},gq e=true->0<=e.i ρ
 | .aW n,_=>by simp[E.i]
 | .aE n,h=>by simpa[gq,E.i] using h
 | .aF .add a b,h=>by
  simp only[gq,bT] at h;have J:=qn (ρ:=ρ) h.1;have an:=qn (ρ:=ρ) h.2;simp only[E.i];omega
 | .un .len _,_=>by simp[E.i]
def ij (a b:E):E:=match a,b with
 | .aE x,.aE y=>.aE (x+y)
 |a,.aE 0=>a
 | .aE 0,b=>b
 | .aF .add a (.aE x),.aE y=>.aF .add a (.aE (x+y))
 |a,b=>.aF .add a b
theorem q5 {ρ:aX} (a b:E):(ij a b).i ρ=a.i ρ+b.i ρ:=by
 unfold ij;split<;>simp[E.i,Int.add_assoc]
def nW (ρ:aX):List E->Prop
 |[]=>True
 |e::l=>e.b ρ=true∧nW ρ l
def vV (ex:Bool) (k:IntKind) (a b:E) (e:E) (f:Int->Int->Int):List E×af:=
 match isLit a,isLit b with
 |some x,some y=>([],.int k (.aE (k.wrap (f x y))))
 |_,_=>if ex then([.aF .le (.aE k.min) e,.aF .le e (.aE k.max)],.int k e) else([],.int k (.un (.wrap k) e))
theorem yr {ρ:aX} {ex:Bool} {k:IntKind} {a b e:E} {f:Int->Int->Int} {cs:List E} {s:af} (bg:vV ex k a b e f=(cs,s)) (bs:e.i ρ=f (a.i ρ) (b.i ρ)) (h:nW ρ cs):
  s.ak ρ= .int k (k.wrap (f (a.i ρ) (b.i ρ))):=by
 unfold vV at bg;split at bg
 ·rename_i x y j bE;obtain⟨rfl,rfl⟩:=fD bg;simp[af.ak,E.i,vU j,vU bE]
 ·cases ex
  ·obtain⟨rfl,rfl⟩:=fD bg;simp[af.ak,E.i,bs]
  ·obtain⟨rfl,rfl⟩:=fD bg;have J:=of_decide_eq_true h.1;have an:=of_decide_eq_true h.2.1;simp only[E.i] at J an;simp only[af.ak];rw[<-bs,Ai k _ J an]
def uo (a b:E) (e:E) (f:Int->Int->Bool):List E×af:=
 match isLit a,isLit b with
 |some x,some y=>([],.bool (.dB (f x y)))
 |_,_=>([],.bool e)
theorem Vd {ρ:aX} {a b e:E} {f:Int->Int->Bool} {cs:List E} {s:af} (bg:uo a b e f=(cs,s)) (bs:e.b ρ=f (a.i ρ) (b.i ρ)):s.ak ρ= .bool (f (a.i ρ) (b.i ρ)):=by
 unfold uo at bg;split at bg
 ·rename_i x y j bE;obtain⟨rfl,rfl⟩:=fD bg;simp[af.ak,E.b,vU j,vU bE]
 ·obtain⟨rfl,rfl⟩:=fD bg;simp[af.ak,bs]
def nX:E->E
 | .dB b=>.dB (!b)
 | .un .not e=>e
 |e=>.un .not e
theorem uq {ρ:aX} (e:E):(nX e).b ρ= !(e.b ρ):=by
 unfold nX;split<;>simp[E.b]
def F_ (ex:Bool) (op:BinOp) (k:IntKind) (a b:E):Option (List E×af):=
 match op with
 | .add=>some (vV ex k a b (.aF .add a b) (· + ·))
 | .sub=>some (vV ex k a b (.aF .sub a b) (· - ·))
 | .mul=>some (vV ex k a b (.aF .mul a b) (· * ·))
 | .quo=>match vV ex k a b (.aF .quo a b) Int.tdiv,isLit b with
  |(cs,s),some y=>if y=0 then none else some (cs,s)
  |(cs,s),none=>some (nX (.aF .dz b (.aE 0))::cs,s)
 | .rem=>match isLit b with
  |some y=>if y=0 then none else some ([],.int k (.aF .rem a b))
  |none=>some ([nX (.aF .dz b (.aE 0))],.int k (.aF .rem a b))
 | .eql=>some (uo a b (.aF .dz a b) (· == ·))
 | .neq=>some (uo a b (nX (.aF .dz a b)) (· != ·))
 | .lss=>some (uo a b (.aF .lt a b) (fun x y=>decide (x<y)))
 | .leq=>some (uo a b (.aF .le a b) (fun x y=>decide (x<=y)))
 | .gtr=>some (uo a b (.aF .lt b a) (fun x y=>decide (y<x)))
 | .geq=>some (uo a b (.aF .le b a) (fun x y=>decide (y<=x)))
 |_=>none
theorem Ve {ρ:aX} {ex:Bool} {op:BinOp} {k:IntKind} {a b:E} {cs:List E} {s:af} (h:F_ ex op k a b=some (cs,s)) (aH:nW ρ cs) (t:TypeId) (w:World):
  (binOp op t (.int k (a.i ρ)) (.int k (b.i ρ))).run P w= .ok (s.ak ρ) w:=by
 cases op<;>simp only[F_] at h<;>try (cases h;done)
 case add=>
  rw[yr (bm h) (by simp[E.i]) aH];simp[binOp,Op.intArith]
 case sub=>
  rw[yr (bm h) (by simp[E.i]) aH];simp[binOp,Op.intArith]
 case mul=>
  rw[yr (bm h) (by simp[E.i]) aH];simp[binOp,Op.intArith]
 case quo=>
  split at h
  ·rename_i vW s' y hp I;split at h
   ·cases h
   ·rename_i bE;obtain⟨rfl,rfl⟩:=fD (bm h);rw[yr hp (by simp[E.i]) aH];simp[binOp,Op.intDiv,vU I,bE]
  ·rename_i vW s' hp I;obtain⟨rfl,rfl⟩:=fD (bm h);have bk:¬b.i ρ=0:=by have:=aH.1;rw[uq] at this;simpa[E.b,E.i] using this
   rw[yr hp (by simp[E.i]) aH.2];simp[binOp,Op.intDiv,bk]
 case rem=>
  split at h
  ·rename_i y I;split at h
   ·cases h
   ·rename_i bE;obtain⟨rfl,rfl⟩:=fD (bm h);have eI:=vU (ρ:=ρ) I;simp[binOp,Op.intDiv,eI,bE,af.ak,E.i]
  ·obtain⟨rfl,rfl⟩:=fD (bm h);have bk:¬b.i ρ=0:=by have:=aH.1;rw[uq] at this;simpa[E.b,E.i] using this
   simp[binOp,Op.intDiv,bk,af.ak,E.i]
 all_goals
  rw[Vd (ρ:=ρ) (bm h) (by first|(simp[E.b,eg,er];done)|(rw[uq];rfl))];simp[binOp,Op.intCmp]
def Ga (op:BinOp) (a b:E):Option (List E×af):=
 match op with
 | .add=>some ([.aF .le (.aF .add (.un .len a) (.un .len b)) (.aE 9223372036854775807)],.str (.aF .cat a b))
 | .eql=>some ([],.bool (.aF .fI a b))
 | .neq=>some ([],.bool (.un .not (.aF .fI a b)))
 | .lss=>some ([],.bool (.aF .uh a b))
 | .leq=>some ([],.bool (.aF .fE (.aF .uh a b) (.aF .fI a b)))
 | .gtr=>some ([],.bool (.un .not (.aF .fE (.aF .uh a b) (.aF .fI a b))))
 | .geq=>some ([],.bool (.un .not (.aF .uh a b)))
 |_=>none
theorem Vf {ρ:aX} {op:BinOp} {a b:E} {cs:List E} {s:af} (h:Ga op a b=some (cs,s)) (aH:nW ρ cs) (t:TypeId) (w:World):
  (binOp op t (.string (a.t ρ)) (.string (b.t ρ))).run P w= .ok (s.ak ρ) w:=by
 cases op<;>simp only[Ga] at h<;>try (cases h;done)
 all_goals obtain⟨rfl,rfl⟩:=fD (bm h)
 case add=>
  have J:=aH.1;have J:=of_decide_eq_true J;simp only[E.i] at J
  have an:¬((((a.t ρ).size+(b.t ρ).size:Nat):Int)>IntKind.i64.max):=by
   have:IntKind.i64.max=9223372036854775807:=by decide
   rw[this];omega
  simp only[binOp,Op.stringOp,if_neg an,Sem.run_pure];rfl
 all_goals simp[binOp,Op.stringOp,toList_data,af.ak,E.b]
def Gb (op:BinOp) (k:IntKind) (a b:E):Option (List E×af):=
 match op,isLit b with
 | .shr,some (.ofNat n)=>if n<=k.bits then some ([.aF .le (.aE 0) a],.int k (.aF .quo a (.aE (2^n)))) else none
 |_,_=>none
theorem Vg {ρ:aX} {op:BinOp} {k dA:IntKind} {a b:E} {cs:List E} {s:af} (h:Gb op k a b=some (cs,s)) (aH:nW ρ cs) (t:TypeId) (sZ s0:Operand) (w:World):
  (do eqGuard op t sZ s0 (.int k (a.i ρ)) (.int dA (b.i ρ));binOp op t (.int k (a.i ρ)) (.int dA (b.i ρ)):Sem Value).run P w= .ok (s.ak ρ) w:=by
 unfold Gb at h;split at h
 ·rename_i n I;split at h
  ·rename_i cB;obtain⟨rfl,rfl⟩:=fD (bm h);have bk:(0:Int)<=a.i ρ:=of_decide_eq_true aH.1;have e:b.i ρ=(n:Int):=vU I;rw[e];have bP:(eqGuard .shr t sZ s0 (.int k (a.i ρ)) (.int dA (n:Int))).run P w= .ok () w:=rfl;have an:(0:Int)<=2^n:=Int.le_of_lt (Int.pow_pos (by decide));simp only[Sem.run_bind,bP,Result.andThen_ok,binOp,Op.shift,if_neg (show¬((n:Int)<0) by omega),ih,Nat.min_eq_left cB,Sem.run_pure,af.ak,E.i];rw[Int.tdiv_eq_ediv_of_nonneg bk,Int.fdiv_eq_ediv_of_nonneg _ an]
  ·cases h
 ·cases h
def Gc (P:Program) (ex:Bool) (op:BinOp) (t:TypeId) (x y:af):Option (List E×af):=
 match x,y with
 | .int k a,.int dA b=>match Gb op k a b with
  |some r=>some r
  |none=>if k=dA then F_ ex op k a b else none
 | .str a,.str b=>Ga op a b
 | .bool a,.bool b=>
  match op,P.underlying t with
  | .eql,some .bool=>some ([],.bool (.aF .beq a b))
  | .neq,some .bool=>some ([],.bool (.un .not (.aF .beq a b)))
  |_,_=>none
 | .agg xs,.agg gJ=>
  if P.eqGuardType P.depth t then none else
  match op,vR P 16 t (.agg xs) (.agg gJ) with
  | .eql,some e=>some ([],.bool e)
  | .neq,some e=>some ([],.bool (nX e))
  |_,_=>none
 |_,_=>none
theorem Vh {ρ:aX} {ex:Bool} {op:BinOp} {t:TypeId} {x y:af} {cs:List E} {s:af} (h:Gc P ex op t x y=some (cs,s)) (aH:nW ρ cs) (sZ s0:Operand) (w:World):
  (do eqGuard op t sZ s0 (x.ak ρ) (y.ak ρ);binOp op t (x.ak ρ) (y.ak ρ):Sem Value).run P w= .ok (s.ak ρ) w:=by
 unfold Gc at h;split at h
 ·rename_i k a dA b;split at h
  ·rename_i r aw;obtain rfl:=bm h;exact Vg aw aH t sZ s0 w
  ·split at h
   ·rename_i aA;subst aA;have:(eqGuard op t sZ s0 ((af.int k a).ak ρ) ((af.int k b).ak ρ)).run P w= .ok () w:=by cases op<;>rfl
    simp only[Sem.run_bind,this,Result.andThen_ok];exact Ve h aH t w
   ·cases h
 ·rename_i a b;have:(eqGuard op t sZ s0 ((af.str a).ak ρ) ((af.str b).ak ρ)).run P w= .ok () w:=by cases op<;>rfl
  simp only[Sem.run_bind,this,Result.andThen_ok];exact Vf h aH t w
 ·split at h
  ·rename_i hu;obtain⟨rfl,rfl⟩:=fD (bm h);simp[af.ak,eqGuard,binOp,Op.equal,Op.maxDepth,run_equalIn_bool w 9999 t _ _ hu,E.b]
  ·rename_i hu;obtain⟨rfl,rfl⟩:=fD (bm h);simp[af.ak,eqGuard,binOp,Op.equal,Op.maxDepth,run_equalIn_bool w 9999 t _ _ hu,E.b]
  ·cases h
 ·split at h
  ·cases h
  ·rename_i xs gJ bP;have lN:(eqGuard op t sZ s0 ((af.agg xs).ak ρ) ((af.agg gJ).ak ρ)).run P w= .ok () w:=run_eqGuard_agg w op t sZ s0 _ _ (by simpa using bP);simp only[Sem.run_bind,lN,Result.andThen_ok];split at h
   ·rename_i e he;obtain⟨rfl,rfl⟩:=fD (bm h);have:=vT (ρ:=ρ) w 16 10000 t _ _ e he (by omega);have an:=run_eql_struct (P:=P) w t (af.b2 ρ xs).toArray (af.b2 ρ gJ).toArray;simp only[af.ak] at this ⊢;rw[an,this];rfl
   ·rename_i e he;obtain⟨rfl,rfl⟩:=fD (bm h);have:=vT (ρ:=ρ) w 16 10000 t _ _ e he (by omega);have an:=run_neq_struct (P:=P) w t (af.b2 ρ xs).toArray (af.b2 ρ gJ).toArray;simp only[af.ak,uq] at this ⊢;rw[an,this];rfl
   ·cases h
 ·cases h
theorem Vi {ρ:aX} (t:TypeId) (s i:E) (k:IntKind) (hu:P.underlying t=some .string) (bk:0<=i.i ρ) (J:i.i ρ<(s.t ρ).size) (w:World):
  (Instr.index t (.string (s.t ρ)) (.int k (i.i ρ))).run P w= .ok (.int .u8 (E.i ρ (.aF .hJ s i))) w:=by
 rw[run_index_string w t _ k _ hu];have cB:(i.i ρ).toNat<(s.t ρ).size:=by omega
 have ur:(i.i ρ).toNat<(s.t ρ).data.size:=cB;rw[dif_pos ⟨bk,J⟩];simp only[E.i,U7 ur];rfl
def nY (o:Option (IntKind×E)) (d:E):E:=match o with|some (_,e)=>e|none=>d
theorem Vj {ρ:aX} (t:TypeId) (s:E) (lo a8:Option (IntKind×E)) (hu:P.underlying t=some .string)
  (l h:Int) (aO:l=(nY lo (.aE 0)).i ρ) (aY:h=(nY a8 (.un .len s)).i ρ)
  (bk:0<=l) (J:l<=h) (an:h<=(s.t ρ).size) (w:World):
  (Instr.sliceAt t (.string (s.t ρ)) (lo.map fun x=>.int x.1 (x.2.i ρ)) (a8.map fun x=>.int x.1 (x.2.i ρ)) none).run P w= .ok (.string ((s.t ρ).extract l.toNat h.toNat)) w:=by
 have bn:0<=h:=Int.le_trans bk J;have a7:((s.t ρ).size:Int).toNat=(s.t ρ).size:=by simp
 have a2:¬(max h 0<l):=by omega
 rcases lo with _|⟨js,el⟩<;>rcases a8 with _|⟨qo,s3⟩<;>simp only[nY,E.i] at aO aY<;>subst aO<;>subst aY<;>
  simp_all [Instr.sliceAt,run_underlying hu,Instr.slice,Instr.sliceBounds,Instr.sliceBound,asIntOf]
end Go.cK
end
end
section
section
namespace Go.cK
open Go Go.RowKit
variable {P:Program}
abbrev et:=List (E×Bool)
def et.holds (ρ:aX) (kn:et):Prop:=∀p∈kn,p.1.b ρ=p.2
def cl:et->E->Option Bool
 |[],_=>none
 |(f,b)::kn,e=>
  if E.eb f e then some b else
  match f,b,e with
  | .aF .dz x (.aE m),true,.aF .dz y (.aE n)=>if E.eb x y then some (yk m n) else cl kn e
  |_,_,_=>cl kn e
theorem look_ok {ρ:aX}:∀{kn:et} {e:E} {b:Bool},et.holds ρ kn->cl kn e=some b->e.b ρ=b
 |[],_,_,_,h=>by cases h
 |(f,c)::kn,e,b,aA,h=>by
  have J:=aA (f,c) (c6 ..);have an:et.holds ρ kn:=fun p hp=>aA p (dq _ hp)
  simp only[cl] at h;split at h
  ·rename_i Gd;have Gd:=E.jc Gd;subst Gd;simpa using J.trans (by simpa using h)
  ·split at h
   ·split at h
    ·rename_i s4;have s4:=E.jc s4;subst s4;obtain rfl:=bm h;simp only[E.b,E.i,beq_iff_eq] at J;rw[oc];simp only[E.b,E.i,J,beq_iff_eq];exact⟨U8,K0⟩
    ·exact look_ok an h
   ·exact look_ok an h
def dec (kn:et):E->Option Bool
 | .dB b=>some b
 | .un .not e=>(dec kn e).map (!·)
 | .aF .gp a b=>
  match dec kn a,dec kn b with
  |some false,_=>some false
  |_,some false=>some false
  |some true,some true=>some true
  |_,_=>cl kn (.aF .gp a b)
 | .aF .fE a b=>
  match dec kn a,dec kn b with
  |some true,_=>some true
  |_,some true=>some true
  |some false,some false=>some false
  |_,_=>cl kn (.aF .fE a b)
 | .aF .beq a b=>
  match dec kn a,dec kn b with
  |some x,some y=>some (x==y)
  |_,_=>cl kn (.aF .beq a b)
 |e=>cl kn e
theorem lO {ρ:aX} {kn:et} (aA:et.holds ρ kn) (e:E):∀{b:Bool},dec kn e=some b->e.b ρ=b:=by
 induction e with
 |dB c=>intro b h;simpa[dec,E.b] using h
 |un o a cF=>
  intro b h;cases o<;>simp only[dec] at h<;>try exact look_ok aA h
  case not=>
   obtain⟨c,aH,rfl⟩:=hI.1 h;simp[E.b,cF aH]
 |aF o a c lx qk=>
  intro b h;cases o<;>simp only[dec] at h<;>try exact look_ok aA h
  case gp=>
   split at h
   ·rename_i J;simp only[E.b,lx J];simpa using h
   ·rename_i an _;simp only[E.b,qk an,oY];simpa using h
   ·rename_i J an;simp only[E.b,lx J,qk an];simpa using h
   ·exact look_ok aA h
  case fE=>
   split at h
   ·rename_i J;simp only[E.b,lx J];simpa using h
   ·rename_i an _;simp only[E.b,qk an,gf];simpa using h
   ·rename_i J an;simp only[E.b,lx J,qk an];simpa using h
   ·exact look_ok aA h
  case beq=>
   split at h
   ·rename_i x y J an;obtain rfl:=bm h;simp[E.b,lx J,qk an]
   ·exact look_ok aA h
 |aN|aW|bv|br|aE|bN|sm|fg|qj|cut=>intro b h;exact look_ok aA h
def jY:E->Bool->et->et
 | .un .not e,b,kn=>jY e (!b) kn
 | .aF .gp a c,true,kn=>jY a true (jY c true kn)
 | .aF .fE a c,false,kn=>jY a false (jY c false kn)
 | .aF .gp a c,false,kn=>match dec kn a,dec kn c with
  |some true,_=>jY c false kn
  |_,some true=>jY a false kn
  |_,_=>(.aF .gp a c,false)::kn
 | .aF .fE a c,true,kn=>match dec kn a,dec kn c with
  |some false,_=>jY c true kn
  |_,some false=>jY a true kn
  |_,_=>(.aF .fE a c,true)::kn
 | .dB _,_,kn=>kn
 |e,b,kn=>(e,b)::kn
theorem Aj {ρ:aX} {e:E} {b:Bool} {kn:et} (aA:et.holds ρ kn) (h:e.b ρ=b):et.holds ρ ((e,b)::kn):=by
 intro p hp;rcases dh.1 hp with J|J
 ·subst J;exact h
 ·exact aA p J
theorem ys {ρ:aX} (e:E):∀{b:Bool} {kn:et},et.holds ρ kn->e.b ρ=b->et.holds ρ (jY e b kn):=by
 induction e with
 |dB c=>intro b kn aA _;exact aA
 |un o a cF=>
  intro b kn aA h;cases o<;>try exact Aj aA h
  case not=>exact cF aA (by simp only[E.b] at h;rw[<-h,Bool.not_not])
 |aF o a c lx qk=>
  intro b kn aA h;cases o<;>try exact Aj aA h
  case gp=>
   cases b
   ·simp only[jY];split
    ·rename_i J;exact qk aA (by simpa[E.b,lO aA a J] using h)
    ·rename_i J _;exact lx aA (by simpa[E.b,lO aA c J] using h)
    ·exact Aj aA h
   ·simp only[E.b,bT] at h;exact lx (qk aA h.2) h.1
  case fE=>
   cases b
   ·simp only[E.b,k1] at h;exact lx (qk aA h.2) h.1
   ·simp only[jY];split
    ·rename_i J;exact qk aA (by simpa[E.b,lO aA a J] using h)
    ·rename_i J _;exact lx aA (by simpa[E.b,lO aA c J] using h)
    ·exact Aj aA h
 |aN|aW|bv|br|aE|bN|sm|fg|qj|cut=>intro b kn aA h;exact Aj aA h
def step1 (acc:et):E×Bool->et
 |(.aF .gp a c,false)=>match dec acc a,dec acc c with
  |some true,none=>jY c false acc
  |none,some true=>jY a false acc
  |_,_=>acc
 |(.aF .fE a c,true)=>match dec acc a,dec acc c with
  |some false,none=>jY c true acc
  |none,some false=>jY a true acc
  |_,_=>acc
 |_=>acc
theorem Vk {ρ:aX} {acc:et} (h:et.holds ρ acc) {p:E×Bool} (hp:p.1.b ρ=p.2):et.holds ρ (step1 acc p):=by
 unfold step1;split
 ·rename_i a c;split
  ·rename_i bl _;exact ys c h (by simpa[E.b,lO h a bl] using hp)
  ·rename_i _ aH;exact ys a h (by simpa[E.b,lO h c aH] using hp)
  ·exact h
 ·rename_i a c;split
  ·rename_i bl _;exact ys c h (by simpa[E.b,lO h a bl] using hp)
  ·rename_i _ aH;exact ys a h (by simpa[E.b,lO h c aH] using hp)
  ·exact h
 ·exact h
def Ge:et->et->et
 |[],acc=>acc
 |p::l,acc=>Ge l (step1 acc p)
theorem K4 {ρ:aX}:∀{l acc:et},et.holds ρ l->et.holds ρ acc->et.holds ρ (Ge l acc)
 |[],_,_,h=>h
 |p::l,acc,aO,h=>K4 (l:=l) (acc:=step1 acc p) (fun q bg=>aO q (dq _ bg)) (Vk h (aO p (c6 ..)))
def l9 (e:E) (b:Bool) (kn:et):et:=let k:=jY e b kn;Ge k k
theorem yt {ρ:aX} (e:E) {b:Bool} {kn:et} (aA:et.holds ρ kn) (h:e.b ρ=b):et.holds ρ (l9 e b kn):=K4 (ys e aA h) (ys e aA h)
def vX:E->E->E
 | .dB true,b=>b
 | .dB false,_=>.dB false
 |a,.dB true=>a
 |_,.dB false=>.dB false
 |a,b=>.aF .gp a b
theorem K5 {ρ:aX} (a b:E):(vX a b).b ρ=(a.b ρ&&b.b ρ):=by
 unfold vX;split<;>simp[E.b]
def r2:E->E->E
 | .dB false,b=>b
 | .dB true,_=>.dB true
 |a,.dB false=>a
 |_,.dB true=>.dB true
 |a,b=>.aF .fE a b
theorem K6 {ρ:aX} (a b:E):(r2 a b).b ρ=(a.b ρ||b.b ρ):=by
 unfold r2;split<;>simp[E.b]
def Ak (e:E) (w:Bool):E:=if w then e else nX e
theorem Gf {ρ:aX} (e:E) (w:Bool):(Ak e w).b ρ=(e.b ρ==w):=by
 cases w<;>simp[Ak,uq]
def Gg (c a b:E):E:=match a,b with
 | .dB true,b=>r2 c b
 |a,.dB false=>vX c a
 | .dB false,b=>vX (nX c) b
 |a,.dB true=>r2 (nX c) a
 |a,b=>r2 (vX c a) (vX (nX c) b)
theorem K7 {ρ:aX} (c a b:E):(Gg c a b).b ρ=if c.b ρ then a.b ρ else b.b ρ:=by
 unfold Gg;split<;>simp only[K5,K6,uq]<;>cases c.b ρ<;>simp[E.b]
def r3 (kn:et):af->af
 | .when g w s=>match dec kn g with
  |some b=>if b=w then s else .val undef
  |none=>.when g w s
 |s=>s
theorem CV {ρ:aX} {kn:et} (aA:et.holds ρ kn) (s:af):(r3 kn s).ak ρ=s.ak ρ:=by
 unfold r3;split
 ·rename_i g w s;split
  ·rename_i b I;have:=lO aA g I;split
   ·rename_i e;simp[af.ak,this,e]
   ·rename_i e;simp[af.ak,this,e]
  ·rfl
 ·rfl
abbrev eJ:=List (Nat×Option af)
def gB:eJ->Nat->Option af
 |[],_=>none
 |(k,v)::l,t=>if Nat.beq k t then v else gB l t
theorem CW:∀{az:eJ} {t:Nat} {x:af},gB az t=some x->∃p∈az,p.1=t∧p.2=some x
 |[],_,_,h=>by cases h
 |(k,v)::l,t,x,h=>by
  simp only[gB] at h;split at h
  ·rename_i aA;exact⟨(k,v),c6 ..,eE aA,h⟩
  ·obtain⟨p,hp,J,an⟩:=CW h;exact⟨p,dq _ hp,J,an⟩
theorem s5 (k:Nat) (v:Option af) (l:eJ):gB ((k,v)::l) k=v:=by simp[gB]
theorem vY {k t:Nat} (v:Option af) (l:eJ) (h:k≠t):gB ((k,v)::l) t=gB l t:=by
 simp only[gB];rw[if_neg (fun e=>h (eE e))]
def dU (az:eJ):Operand->Option af
 | .tmp t=>gB az t
 | .const v=>some (ym v)
 | .global g=>some (.val (.pointer (some ⟨g,0,none⟩)))
 | .func f=>some (.fn f [])
def uu (az:eJ):List Operand->Option (List af)
 |[]=>some []
 |x::l=>match dU az x,uu az l with
  |some s,some r=>some (s::r)
  |_,_=>none
def jt (kn:et) (az:eJ):eJ:=az.map fun p=>(p.1,p.2.map (r3 kn))
theorem K8 (kn:et):∀(az:eJ) (t:Nat),gB (jt kn az) t=(gB az t).map (r3 kn)
 |[],_=>rfl
 |(k,v)::l,t=>by
  simp only[jt,jo,gB];split
  ·rfl
  ·exact K8 kn l t
theorem Vl (kn:et) (az:eJ):∀(x:Operand) (s:af),dU (jt kn az) x=some s->∃mZ,dU az x=some mZ∧(s=mZ∨s=r3 kn mZ)
 | .tmp t,s,h=>by
  simp only[dU,K8] at h ⊢;obtain⟨y,bE,e⟩:=hI.1 h;exact⟨y,bE,.inr e.symm⟩
 | .const v,s,h=>⟨s,h,.inl rfl⟩
 | .global g,s,h=>⟨s,h,.inl rfl⟩
 | .func f,s,h=>⟨s,h,.inl rfl⟩
def eJ.at (ρ:aX) (az:eJ) (ev:Operand->Value):Prop:=∀x s,dU az x=some s->ev x=s.ak ρ
theorem s6 {ρ:aX} {kn:et} {az:eJ} {ev:Operand->Value} (bb:eJ.at ρ az ev) (aA:et.holds ρ kn):eJ.at ρ (jt kn az) ev:=by
 intro x s h;obtain⟨mZ,bk,J⟩:=Vl kn az x s h;rcases J with J|J
 ·subst J;exact bb x _ bk
 ·subst J;rw[CV aA];exact bb x mZ bk
theorem Al {ρ:aX} {az:eJ} {ev:Operand->Value} (bb:eJ.at ρ az ev):∀(l:List Operand) (r:List af),uu az l=some r->l.map ev=af.b2 ρ r
 |[],r,h=>by obtain rfl:=bm h;rfl
 |x::l,r,h=>by
  simp only[uu] at h;split at h
  ·rename_i s fF bD aw;obtain rfl:=bm h;simp[af.b2,bb x s bD,Al bb l fF aw]
  ·cases h
def uv (pl:Nat->Option (Nat×Nat)) (cells:List af):List (Nat×af)->Option (List af)
 |[]=>some cells
 |(i,s)::rest=>
  match pl i,s.cells with
  |some (off,n),some vs=>if vs.length=n∧off+n<=cells.length then uv pl (over cells off vs) rest else none
  |_,_=>none
def o2 (az:eJ):Option Operand->Option (Option (IntKind×E))
 |none=>some none
 |some x=>match dU az x with
  |some (.int k e)=>some (some (k,e))
  |_=>none
def qp:Option (Option (IntKind×E))->Nat->Option Nat
 |some none,d=>some d
 |some (some (_,.aE (.ofNat n))),_=>some n
 |_,_=>none
def Am (az:eJ):List (Nat×Operand)->Option (List (Nat×af))
 |[]=>some []
 |(i,x)::l=>match dU az x,Am az l with
  |some s,some r=>some ((i,s)::r)
  |_,_=>none
def byteOf:af->Option E
 | .int .u8 e=>some e
 |_=>none
theorem K9 {s:af} {e:E} (h:byteOf s=some e):s= .int .u8 e:=by
 unfold byteOf at h;split at h
 ·obtain rfl:=bm h;rfl
 ·cases h
def yu:List af->Option E
 |[]=>some (.bN [])
 |s::l=>match byteOf s,l with
  |some e,[]=>some (.un .CQ e)
  |some e,_=>(yu l).map fun r=>.aF .cat (.un .CQ e) r
  |none,_=>none
def Gh (P:Program) (az:eJ) (op:BinOp) (t:TypeId) (x y:Operand):Option (List E×af):=
 match op,P.underlying t,dU az x,y with
 | .eql,some (.interface _),some (.var n),.const .nilIface=>some ([.qj n],.bool (.fg n))
 | .neq,some (.interface _),some (.var n),.const .nilIface=>some ([.qj n],.bool (.un .not (.fg n)))
 | .eql,some (.slice _),some (.bt a _ _),.const (.slice none 0 0)=>some ([],.bool (.un .not (.sm a)))
 | .neq,some (.slice _),some (.bt a _ _),.const (.slice none 0 0)=>some ([],.bool (.sm a))
 |_,_,_,_=>none
theorem K_ {t el:TypeId} (hu:P.underlying t=some (.slice el)) (d:Nat) (a:Option Addr) (n c:Nat) (w:World):
  (Op.equalIn (d+1) t (.slice a n c) (.slice none 0 0)).run P w= .ok (!a.isSome) w:=by
 cases a<;>simp[Op.equalIn,run_underlying hu]
theorem La {t:TypeId} {ms:Array (String×TypeId)} (hu:P.underlying t=some (.interface ms)) (d:Nat) (v:Value) (aA:vP v=true) (w:World):
  (Op.equalIn (d+1) t v .nilIface).run P w= .ok (vO v) w:=by
 cases v<;>simp only[vP] at aA<;>try (cases aA;done)
 ·simp[Op.equalIn,run_underlying hu,vO]
 ·simp[Op.equalIn,run_underlying hu,vO]
theorem Vm {ρ:aX} {az:eJ} {ev:Operand->Value} (bb:eJ.at ρ az ev) {op:BinOp} {t:TypeId} {x y:Operand} {cs:List E} {s:af} (h:Gh P az op t x y=some (cs,s)) (aH:nW ρ cs) (w:World):
  (do eqGuard op t x y (ev x) (ev y);binOp op t (ev x) (ev y):Sem Value).run P w= .ok (s.ak ρ) w:=by
 have bh:ev (.const .nilIface)= .nilIface:=by have:=bb (.const .nilIface) (ym .nilIface) rfl;rw[qm] at this;exact this
 unfold Gh at h;split at h
 ·rename_i ms n hu j;obtain⟨rfl,rfl⟩:=fD (bm h);have a7:=bb _ _ j;have aA:=aH.1;simp only[E.b,af.ak] at aA a7 ⊢;rw[a7,bh];generalize aR ρ.V n .nilIface=v at*;have J:=La (P:=P) hu 9999 v aA w;have an:(eqGuard .eql t x (.const .nilIface) v .nilIface).run P w= .ok () w:=by cases v<;>simp[eqGuard]
  have aI:(binOp .eql t v .nilIface)=(do return .bool (<-Op.equal t v .nilIface)):=by cases v<;>first|rfl|(simp only[vP] at aA;cases aA)
  simp only[Sem.run_bind,an,aI,Result.andThen_ok,Op.equal,Op.maxDepth,J,Sem.run_pure]
 ·rename_i ms n hu j;obtain⟨rfl,rfl⟩:=fD (bm h);have a7:=bb _ _ j;have aA:=aH.1;simp only[E.b,af.ak] at aA a7 ⊢;rw[a7,bh];generalize aR ρ.V n .nilIface=v at*;have J:=La (P:=P) hu 9999 v aA w;have an:(eqGuard .neq t x (.const .nilIface) v .nilIface).run P w= .ok () w:=by cases v<;>simp[eqGuard]
  have aI:(binOp .neq t v .nilIface)=(do return .bool (!(<-Op.equal t v .nilIface))):=by cases v<;>first|rfl|(simp only[vP] at aA;cases aA)
  simp only[Sem.run_bind,an,aI,Result.andThen_ok,Op.equal,Op.maxDepth,J,Sem.run_pure]
 ·rename_i el a n c hu j;obtain⟨rfl,rfl⟩:=fD (bm h);have a7:=bb _ _ j;have c8:ev (.const (.slice none 0 0))= .slice none 0 0:=by have:=bb (.const (.slice none 0 0)) (ym (.slice none 0 0)) rfl;rw[qm] at this;exact this
  simp only[E.b,af.ak] at a7 ⊢;rw[a7,c8];have J:=K_ (P:=P) hu 9999 (aR ρ.A a none) (n.i ρ).toNat (c.i ρ).toNat w;have an:(eqGuard .eql t x (.const (.slice none 0 0)) (.slice (aR ρ.A a none) (n.i ρ).toNat (c.i ρ).toNat) (.slice none 0 0)).run P w= .ok () w:=by simp[eqGuard]
  have aI:(binOp .eql t (.slice (aR ρ.A a none) (n.i ρ).toNat (c.i ρ).toNat) (.slice none 0 0))=(do return .bool (<-Op.equal t (.slice (aR ρ.A a none) (n.i ρ).toNat (c.i ρ).toNat) (.slice none 0 0))):=rfl;simp only[Sem.run_bind,an,aI,Result.andThen_ok,Op.equal,Op.maxDepth,J,Sem.run_pure]
 ·rename_i el a n c hu j;obtain⟨rfl,rfl⟩:=fD (bm h);have a7:=bb _ _ j;have c8:ev (.const (.slice none 0 0))= .slice none 0 0:=by have:=bb (.const (.slice none 0 0)) (ym (.slice none 0 0)) rfl;rw[qm] at this;exact this
  simp only[E.b,af.ak] at a7 ⊢;rw[a7,c8];have J:=K_ (P:=P) hu 9999 (aR ρ.A a none) (n.i ρ).toNat (c.i ρ).toNat w;have an:(eqGuard .neq t x (.const (.slice none 0 0)) (.slice (aR ρ.A a none) (n.i ρ).toNat (c.i ρ).toNat) (.slice none 0 0)).run P w= .ok () w:=by simp[eqGuard]
  have aI:(binOp .neq t (.slice (aR ρ.A a none) (n.i ρ).toNat (c.i ρ).toNat) (.slice none 0 0))=(do return .bool (!(<-Op.equal t (.slice (aR ρ.A a none) (n.i ρ).toNat (c.i ρ).toNat) (.slice none 0 0)))):=rfl;simp only[Sem.run_bind,an,aI,Result.andThen_ok,Op.equal,Op.maxDepth,J,Sem.run_pure,Bool.not_not]
 ·cases h
def r4 (P:Program) (ex:Bool) (az:eJ) (hp:List b4) (kn:et):Op->Option (List E×af)
 | .move x| .assign x=>(dU az x).map ([],·)
 | .pick c a b=>match dU az c with
  |some (.bool e)=>match dec kn e with
   |some true=>(dU az a).map ([],·)
   |some false=>(dU az b).map ([],·)
   |none=>match (dU az a).map (r3 (l9 e true kn)),(dU az b).map (r3 (l9 e false kn)) with
    |some (.bool x),some (.bool y)=>some ([],.bool (Gg e x y))
    |_,_=>none
  |_=>none
 | .nilCheck x=>match dU az x with
  |some (.ptr m o)=>some ([],.ptr m o)
  |some (.fn f l)=>some ([],.fn f l)
  |some (.b6 a i z o)=>some ([],.b6 a i z o)
  |_=>none
 | .binOp op t x y _=>match Gh P az op t x y with
  |some r=>some r
  |none=>match dU az x,dU az y with
   |some a,some b=>Gc P ex op t a b
   |_,_=>none
 | .unOp .not _ x=>match dU az x with
  |some (.bool e)=>some ([],.bool (nX e))
  |_=>none
 | .unOp .neg _ x=>match dU az x with
  |some (.int k e)=>some (vV ex k (.aE 0) e (.un .neg e) (· - ·))
  |_=>none
 | .convert src dst x=>match P.underlying src,P.underlying dst,dU az x with
  |some _,some (.int k),some (.int dA e)=>if k=dA∧ex=true then some ([.aF .le (.aE k.min) e,.aF .le e (.aE k.max)],.int k e) else some ([],.int k (.un (.wrap k) e))
  |some .string,some .string,some (.str e)=>some ([],.str e)
  |some (.slice el),some .string,some (.fM m o n _)=>match P.underlying el,jG hp m with
   |some (.int .u8),some b=>if o+n<=b.cs.length then(yu ((b.cs.drop o).take n)).map fun e=>([],.str e) else none
   |_,_=>none
  |_,_,_=>none
 | .fieldAddr t x f=>match P.underlying t,dU az x with
  |some (.struct fs),some s=>match fs[f]? with
   |some fd=>match hK P fd.type with
    |some (_+1)=>match s with
     | .ptr m o=>some ([],.ptr m (o+fd.offset))
     | .b6 a i z o=>some ([],.b6 a i z (o+fd.offset))
     |_=>none
    |_=>none
   |none=>none
  |_,_=>none
 | .field t x f=>match P.underlying t,dU az x with
  |some (.struct fs),some (.agg cs)=>match fs[f]? with
   |some fd=>(um P fd.type cs fd.offset).map ([],·)
   |none=>none
  |_,_=>none
 | .index t x i=>match P.underlying t,dU az x,dU az i with
  |some .string,some (.str s),some (.int _ e)=>some ([.aF .le (.aE 0) e,.aF .lt e (.un .len s)],.int .u8 (.aF .hJ s e))
  |some (.array n el),some (.agg cs),some (.int _ (.aE aj))=>match hK P el with
   |some z=>if 0<=aj∧aj<n then(um P el cs (aj.toNat*z)).map ([],·) else none
   |none=>none
  |_,_,_=>none
 | .indexAddr t x i=>match P.underlying t,dU az x,dU az i with
  |some (.slice el),some (.bt a n _),some (.int _ e)=>match hK P el with
   |some z=>if gq n then some ([.sm a,.aF .le (.aE 0) e,.aF .lt e n],.b6 a e z 0) else none
   |none=>none
  |some (.slice el),some (.fM m o n _),some (.int _ (.aE aj))=>match hK P el with
   |some z=>if 0<=aj∧aj<n then some ([],.ptr m (o+aj.toNat*z)) else none
   |none=>none
  |some (.array n el),some (.ptr m o),some (.int _ (.aE aj))=>match hK P el with
   |some z=>if 0<=aj∧aj<n then some ([],.ptr m (o+aj.toNat*z)) else none
   |none=>none
  |_,_,_=>none
 | .extract x i=>match dU az x with
  |some (.cU l)=>(l[i]?).map ([],·)
  |_=>none
 | .load t x=>match dU az x with
  |some (.ptr m o)=>match jG hp m with
   |some b=>(vQ P t b.cs o).map ([],·)
   |none=>none
  |_=>none
 | .slice t x lo a8 none=>match P.underlying t,dU az x,o2 az lo,o2 az a8 with
  |some .string,some (.str s),some l,some h=>
   some ([.aF .le (.aE 0) (nY l (.aE 0)),.aF .le (nY l (.aE 0)) (nY h (.un .len s)),.aF .le (nY h (.un .len s)) (.un .len s)],.str (.cut s (nY l (.aE 0)) (nY h (.un .len s))))
  |some (.array n el),some (.ptr m o),some l,some h=>match hK P el,qp (some l) 0,qp (some h) n with
   |some z,some l,some h=>if l<=h∧h<=n then some ([],.fM m (if n=l then o else o+l*z) (h-l) (n-l)) else none
   |_,_,_=>none
  |some (.slice el),some (.fM m o n c),some l,some h=>match hK P el,qp (some l) 0,qp (some h) n with
   |some z,some l,some h=>if l<=h∧h<=c then some ([],.fM m (if c=l then o else o+l*z) (h-l) (c-l)) else none
   |_,_,_=>none
  |_,_,_,_=>none
 | .makeFunc (.func f) first cap=>if first.size=0 then(uu az cap.toList).map fun l=>([],.fn f l) else if cap.size=0 then(uu az first.toList).map fun l=>([],.oh f l) else none
 | .makeInterface t x=>match P.underlying t,dU az x with
  |some (.interface _),_=>none
  |some _,some s=>some ([],.nz t s)
  |_,_=>none
 | .build t cw=>match P.info? t,P.underlying t,Am az cw.toList with
  |some it,some (.struct fs),some l=>match it.zero,fs.toList.mapM (fun f=>(P.info? f.type).map fun i=>(f.offset,i.size)) with
   |some z,some pl=>(uv (fun i=>pl[i]?) (z.cells.toList.map ql) l).map fun cs=>([],.agg cs)
   |_,_=>none
  |some it,some (.array _ el),some l=>match it.zero,P.info? el with
   |some z,some dZ=>(uv (fun i=>some (i*dZ.size,dZ.size)) (z.cells.toList.map ql) l).map fun cs=>([],.agg cs)
   |_,_=>none
  |_,_,_=>none
 | .call {callee:=.builtin .len,args:=args,argTypes:=ts}=>match ts[0]?,args[0]? with
  |some t,some x=>match P.underlying t,dU az x with
   |some .string,some (.str s)=>some ([],.int .i64 (.un .len s))
   |some (.slice _),some (.bt _ n _)=>if gq n then some ([],.int .i64 n) else none
   |some (.slice _),some (.fM _ _ n _)=>some ([],.int .i64 (.aE n))
   |some (.slice _),some .db=>some ([],.int .i64 (.aE 0))
   |_,_=>none
  |_,_=>none
 | .call {callee:=.builtin .max,args:=args,argTypes:=_}=>match args.toList with
  |[x,y]=>match dU az x,dU az y with
   |some (.int k a),some (.int _ b)=>some ([],.int k (.aF .max a b))
   |_,_=>none
  |_=>none
 |_=>none
theorem An {ρ:aX} {az:eJ} {ev:Operand->Value} (bb:eJ.at ρ az ev) {x:Option Operand} {r:Option (IntKind×E)} (h:o2 az x=some r):
  x.map ev=r.map fun p=>.int p.1 (p.2.i ρ):=by
 unfold o2 at h;split at h
 ·obtain rfl:=bm h;rfl
 ·split at h
  ·rename_i j;obtain rfl:=bm h;simp[bb _ _ j,af.ak]
  ·cases h
theorem yv {ρ:aX} {az:eJ} {ev:Operand->Value} (bb:eJ.at ρ az ev) {x:Option Operand} {d l:Nat} (h:qp (o2 az x) d=some l):(x=none∧l=d)∨∃k,x.map ev=some (.int k (l:Int)):=by
 unfold qp at h;split at h
 ·rename_i j;left;obtain rfl:=bm h;unfold o2 at j;split at j
  ·exact⟨rfl,rfl⟩
  ·split at j<;>cases j
 ·rename_i k n j;obtain rfl:=bm h;exact .inr ⟨k,by rw[An bb j];simp[E.i]⟩
 ·cases h
theorem CX {ρ:aX} {az:eJ} {ev:Operand->Value} (bb:eJ.at ρ az ev):∀(l:List (Nat×Operand)) (r:List (Nat×af)),Am az l=some r->
  (l.map fun p=>(p.1,ev p.2))=r.map fun p=>(p.1,p.2.ak ρ)
 |[],r,h=>by obtain rfl:=bm h;rfl
 |(i,x)::l,r,h=>by
  simp only[Am] at h;split at h
  ·rename_i s fF bD aw;obtain rfl:=bm h;simp[bb x s bD,CX bb l fF aw]
  ·cases h
theorem Gi:∀(vs:List Value) (cells:List Value) (off aj:Nat),off+aj+vs.length<=cells.length->
  ((vs.zipIdx aj).foldl (fun cs (x:Value×Nat)=>cs.setIfInBounds (off+x.2) x.1) cells.toArray)=(cells.take (off+aj)++vs++cells.drop (off+aj+vs.length)).toArray
 |[],cells,off,aj,_=>by simp
 |v::vs,cells,off,aj,h=>by
  have cF:=Gi vs (cells.set (off+aj) v) off (aj+1) (by simp at h ⊢;omega);simp only[List.zipIdx_cons,vz,List.setIfInBounds_toArray];rw[cF];congr 1;have e:=list_seg_step cells (off+aj) v vs (by simp at h;omega);simpa[oW] using e
theorem CY {ρ:aX} (bP:ρ.ew) (pl:Nat->Option (Nat×Nat)):
  ∀(l:List (Nat×af)) (cells r:List af),uv pl cells l=some r->
  Instr.fill pl (af.b2 ρ cells).toArray (l.map fun p=>(p.1,p.2.ak ρ))=some (af.b2 ρ r).toArray
 |[],cells,r,h=>by obtain rfl:=bm h;rfl
 |(i,s)::l,cells,r,h=>by
  simp only[uv] at h;split at h
  ·rename_i off n vs bs aB;split at h
   ·rename_i aO;obtain⟨J,an⟩:=af.CR bP aB;have cF:=CY bP pl l _ r h;simp only[jo,Instr.fill,bs,J];have k4:(af.b2 ρ vs).toArray.size=n:=by simp[af.jF,aO.1]
    have Vn:(af.b2 ρ cells).toArray.size=cells.length:=by simp[af.jF]
    rw[if_neg (by rw[k4,Vn];simp;exact aO.2)];rw[<-cF,CS,<-Array.foldl_toList,Array.toList_zipIdx];congr 1;have:=Gi (af.b2 ρ vs) (af.b2 ρ cells) off 0 (by simp[af.jF];omega);simpa[af.jF] using this
   ·cases h
  ·cases h
theorem ju {α β:Type} {a bB:α} {b pI:β} (h:some (a,b)=some (bB,pI)):a=bB∧b=pI:=fD (bm h)
theorem map_inj {x:Option af} {cs:List E} {s:af} (h:x.map (fun y=>(([]:List E),y))=some (cs,s)):cs=[]∧x=some s:=by
 cases x<;>simp at h;exact⟨h.1,by rw[h.2]⟩
theorem Lb {ρ:aX}:∀(l:List af) (e:E),yu l=some e->∃fY:List Int,af.b2 ρ l=fY.map (fun n=>Value.int .u8 n)∧(e.t ρ).data.toList=fY.map fun n=>UInt8.ofNat n.toNat
 |[],e,h=>by
  simp only[yu] at h;obtain rfl:=bm h;exact⟨[],rfl,by simp[E.t]⟩
 |s::l,e,h=>by
  simp only[yu] at h;split at h
  ·rename_i x j;have:=K9 j;subst this;obtain rfl:=bm h;exact⟨[x.i ρ],by simp[af.b2,af.ak],by simp[E.t]⟩
  ·rename_i x j _;have:=K9 j;subst this;obtain⟨r,aw,rfl⟩:=hI.1 h;obtain⟨fY,J,an⟩:=Lb _ r aw;refine⟨x.i ρ::fY,by rw[af.b2,J];simp[af.ak],?_⟩;simp only[E.t,ByteArray.data_append,Array.toList_append,an];simp
  ·cases h
theorem Lc:∀(fY:List Int) (mZ:ByteArray),(fY.foldl (fun r n=>r.push (UInt8.ofNat n.toNat)) mZ).data.toList=mZ.data.toList++fY.map fun n=>UInt8.ofNat n.toNat
 |[],mZ=>by simp
 |b::fY,mZ=>by
  rw[vz,Lc fY];simp[ByteArray.push]
set_option maxHeartbeats 1000000 in
theorem vZ {ρ:aX} {ex:Bool} {az:eJ} {hp:List b4} {kn:et} {ev:Operand->Value} {w:World} {o:Oper} {cs:List E} {s:af} (j:r4 P ex az hp kn o.op=some (cs,s))
  (bP:ρ.ew) (bb:eJ.at ρ az ev) (I:∀b∈hp,b.at ρ w) (aA:et.holds ρ kn) (aH:nW ρ cs):(execOp ev o).run P w= .ok (.value (s.ak ρ)) w:=by
 obtain⟨dst,op,ty,pos,after,guard⟩:=o;dsimp only at j;cases op<;>(try simp only[r4] at j)<;>try (cases j;done)
 case move x=>
  obtain⟨rfl,bE⟩:=map_inj j;simp[execOp,bb _ _ bE]
 case assign x=>
  obtain⟨rfl,bE⟩:=map_inj j;simp[execOp,bb _ _ bE]
 case pick c a b=>
  split at j
  ·rename_i e he;split at j
   ·rename_i a_;obtain⟨rfl,bE⟩:=map_inj j;simp[execOp,bb _ _ he,af.ak,lO aA e a_,bb _ _ bE,asBool]
   ·rename_i a_;obtain⟨rfl,bE⟩:=map_inj j;simp[execOp,bb _ _ he,af.ak,lO aA e a_,bb _ _ bE,asBool]
   ·split at j
    ·rename_i x y pJ Vo;obtain⟨rfl,rfl⟩:=ju j;obtain⟨Vp,uw,bl⟩:=hI.1 pJ;obtain⟨Vq,Vr,eI⟩:=hI.1 Vo;cases o3:e.b ρ
     ·have J:=CV (yt e aA o3) Vq;rw[eI] at J;simp[execOp,bb _ _ he,af.ak,asBool,o3,bb _ _ Vr,<-J,K7]
     ·have J:=CV (yt e aA o3) Vp;rw[bl] at J;simp[execOp,bb _ _ he,af.ak,asBool,o3,bb _ _ uw,<-J,K7]
    ·cases j
  ·cases j
 case nilCheck x=>
  split at j
  ·rename_i he;obtain⟨rfl,rfl⟩:=ju j;simp[execOp,bb _ _ he,af.ak]
  ·rename_i he;obtain⟨rfl,rfl⟩:=ju j;simp[execOp,bb _ _ he,af.ak]
  ·rename_i he;obtain⟨rfl,rfl⟩:=ju j;simp[execOp,bb _ _ he,af.ak]
  ·cases j
 case binOp op t x y axH=>
  split at j
  ·rename_i r aw;obtain rfl:=bm j;have:=Vm bb aw aH w;simp only[execOp,Sem.run_bind,Sem.run_pure] at this ⊢;rw[this];rfl
  split at j
  ·rename_i a b bl eI;have:=Vh j aH x y w;simp only[execOp,bb _ _ bl,bb _ _ eI,Sem.run_bind,Sem.run_pure] at this ⊢;rw[this];rfl
  ·cases j
 case unOp op t x=>
  cases op<;>(try simp only at j)<;>try (cases j;done)
  ·split at j
   ·rename_i k e he;have:=yr (ρ:=ρ) (bm j) (by simp[E.i]) aH;simp[execOp,bb _ _ he,af.ak,Op.unary,Op.intArith,this,E.i]
   ·cases j
  ·split at j
   ·rename_i e he;obtain⟨rfl,rfl⟩:=ju j;simp[execOp,bb _ _ he,af.ak,Op.unary,uq]
   ·cases j
 case convert src dst x=>
  split at j
  ·rename_i d k dA e bD a_ he;split at j
   ·rename_i Ao;obtain⟨rfl,rfl⟩:=ju j;obtain⟨rfl,_⟩:=Ao;have J:=of_decide_eq_true aH.1;have an:=of_decide_eq_true aH.2.1;simp only[E.i] at J an;have:=Ai k _ J an;cases d<;>simp[execOp,bb _ _ he,af.ak,convert,run_underlying bD,run_underlying a_,Conv.intToInt,this]
   ·obtain⟨rfl,rfl⟩:=ju j;cases d<;>simp[execOp,bb _ _ he,af.ak,convert,run_underlying bD,run_underlying a_,Conv.intToInt,E.i]
  ·rename_i e bD a_ he;obtain⟨rfl,rfl⟩:=ju j;simp[execOp,bb _ _ he,af.ak,convert,run_underlying bD,run_underlying a_]
  ·rename_i el m o n c bD a_ he;split at j
   ·rename_i b hu bs;split at j
    ·rename_i aO;cases aw:yu ((b.cs.drop o).take n) with
     |none=>simp[aw] at j
     |some e=>
      simp only[aw,l6] at j;obtain⟨rfl,rfl⟩:=ju j;obtain⟨fY,J,an⟩:=Lb (ρ:=ρ) _ e aw;obtain⟨hm,rfl⟩:=mH bs;have kz:=I b hm;unfold b4.at at kz
      have eU:fY.length=n:=by
       have:=congrArg List.length J;simp[af.jF] at this;omega
      have aI:=run_bytesToString (P:=P) w ⟨aR ρ.M b.m 0,o,none⟩ n c fY (by
       have:=run_loadCells_list (P:=P) w ⟨aR ρ.M b.m 0,o,none⟩ (fY.map (fun n=>Value.int .u8 n)) (fun aj v cu=>by
        rw[ky]
        have k3:aj<n:=by
         rcases pH aj n with aI|aI
         ·exact aI
         ·rw[qd (by simp;omega)] at cu;cases cu
        rw[<-J,dens_getElem?,oX,if_pos k3,sO] at cu;simp[World.cell?,kz,dens_getElem?,cu])
       rwa[mW,eU] at this)
      have cc:e.t ρ=fY.foldl (fun r n=>r.push (UInt8.ofNat n.toNat)) ByteArray.empty:=by
       apply ByteArray.ext;apply Array.ext';rw[an,Lc];simp
      have bu:(convert src dst (.slice (some ⟨aR ρ.M b.m 0,o,none⟩) n c)).run P w= .ok (.string (e.t ρ)) w:=by
       simp only[convert,Sem.run_bind,run_underlying bD,run_underlying a_,Result.andThen_ok,run_underlying hu,aI,cc]
      simp[execOp,bb _ _ he,af.ak,bu]
    ·cases j
   ·cases j
  ·cases j
 case fieldAddr t x f=>
  split at j
  ·rename_i fs s' hu he;split at j
   ·rename_i fd q6;split at j
    ·rename_i n cB;split at j
     ·obtain⟨rfl,rfl⟩:=ju j;simp[execOp,bb _ _ he,af.ak,Instr.fieldAt,run_underlying hu,q6,Instr.sureAddr,fieldPlace,jr cB,ky]
     ·obtain⟨rfl,rfl⟩:=ju j;simp[execOp,bb _ _ he,af.ak,Instr.fieldAt,run_underlying hu,q6,Instr.sureAddr,fieldPlace,jr cB,add_add,oW]
     ·cases j
    ·cases j
   ·cases j
  ·cases j
 case field t x f=>
  split at j
  ·rename_i fs vW hu he;split at j
   ·rename_i fd q6;obtain⟨rfl,bE⟩:=map_inj j;have:=yp (ρ:=ρ) bE w;simp[execOp,bb _ _ he,af.ak,Instr.field,run_underlying hu,q6,this,asAgg]
   ·cases j
  ·cases j
 case index t x i=>
  split at j
  ·rename_i s' k e hu he a8;obtain⟨rfl,rfl⟩:=ju j;have J:=of_decide_eq_true aH.1;have an:=of_decide_eq_true aH.2.1;simp only[E.i] at J an;have:=Vi (P:=P) (ρ:=ρ) t s' e k hu J an w;simp[execOp,bb _ _ he,bb _ _ a8,af.ak,this]
  ·rename_i n el vW k aj hu he a8;split at j
   ·rename_i z cS;split at j
    ·rename_i cu;obtain⟨rfl,bE⟩:=map_inj j;have:=yp (ρ:=ρ) bE w;simp[execOp,bb _ _ he,bb _ _ a8,af.ak,E.i,Instr.index,asIntOf,run_underlying hu,cu,jr cS,this]
    ·cases j
   ·cases j
  ·cases j
 case indexAddr t x i=>
  split at j
  ·rename_i el a n c k e hu he a8;split at j
   ·rename_i z cS;split at j
    ·rename_i cB;obtain⟨rfl,rfl⟩:=ju j;obtain⟨g1,g2,g3,_⟩:=aH;have an:=of_decide_eq_true g2;have aI:=of_decide_eq_true g3;have cc:=qn (ρ:=ρ) cB;simp only[E.i] at an;have bu:e.i ρ<((n.i ρ).toNat:Int):=by omega
     simp only[E.b] at g1;obtain⟨ad,q7⟩:=Aa.1 g1;simp[execOp,bb _ _ he,bb _ _ a8,af.ak,Instr.indexAt,asIntOf,run_underlying hu,q7,an,aI,jr cS];intro hs;omega
    ·cases j
   ·cases j
  ·rename_i el m o n c k aj hu he a8;split at j
   ·rename_i z cS;split at j
    ·rename_i cu;obtain⟨rfl,rfl⟩:=ju j;simp[execOp,bb _ _ he,bb _ _ a8,af.ak,Instr.indexAt,asIntOf,run_underlying hu,cu,jr cS,E.i,ky]
    ·cases j
   ·cases j
  ·rename_i n el m o k aj hu he a8;split at j
   ·rename_i z cS;split at j
    ·rename_i cu;obtain⟨rfl,rfl⟩:=ju j;simp[execOp,bb _ _ he,bb _ _ a8,af.ak,Instr.indexAt,asIntOf,run_underlying hu,cu,jr cS,E.i,ky,Instr.sureAddr]
    ·cases j
   ·cases j
  ·cases j
 case extract x i=>
  split at j
  ·rename_i l he;obtain⟨rfl,bE⟩:=map_inj j;simp[execOp,bb _ _ he,af.ak,Instr.extract,dens_getElem?,bE]
  ·cases j
 case load t x=>
  split at j
  ·rename_i m o he;split at j
   ·rename_i b bs;obtain⟨rfl,bE⟩:=map_inj j;obtain⟨hm,rfl⟩:=mH bs;have:=F6 (ρ:=ρ) bE (I b hm);simp[execOp,bb _ _ he,af.ak,Instr.loadAt,Instr.sureAddr,this]
   ·cases j
  ·cases j
 case slice t x lo a8 s7=>
  cases s7<;>(try simp only at j)<;>try (cases j;done)
  split at j
  ·rename_i s' l h hu he aO aY;obtain⟨rfl,rfl⟩:=ju j;obtain⟨g1,g2,g3,_⟩:=aH;have J:=of_decide_eq_true g1;have an:=of_decide_eq_true g2;have aI:=of_decide_eq_true g3;simp only[E.i] at J aI;have:=Vj (P:=P) (ρ:=ρ) t s' l h hu _ _ rfl rfl J an aI w;simp[execOp,bb _ _ he,af.ak,An bb aO,An bb aY,this,E.t]
  ·rename_i n el m o l h hu he aO aY;split at j
   ·rename_i z fx hl cS gC v7;split at j
    ·rename_i Ld;obtain⟨rfl,rfl⟩:=ju j;rw[<-aO] at gC;rw[<-aY] at v7;have hm:P.arrayLen t=n:=by simp[Program.arrayLen,hu]
     have q8:P.elem t=el:=by simp[Program.elem,hu]
     have jI:P.underlying t=some (.array (P.arrayLen t) (P.elem t)):=by rw[q8,hm];exact hu
     have mI:hK P (P.elem t)=some z:=by rw[q8];exact cS
     have key:(Instr.sliceAt t (.pointer (some ⟨aR ρ.M m 0,o,none⟩)) (lo.map ev) (a8.map ev) none).run P w= .ok (.slice (some ⟨aR ρ.M m 0,if n=fx then o else o+fx*z,none⟩) (hl-fx) (n-fx)) w:=by
      have e:(⟨aR ρ.M m 0,if n=fx then o else o+fx*z,none⟩:Addr)=if n=fx then⟨aR ρ.M m 0,o,none⟩ else(⟨aR ρ.M m 0,o,none⟩:Addr).add (fx*z):=by
       split
       ·rfl
       ·rw[ky]
      rw[e];rcases yv bb gC with⟨rfl,rfl⟩|⟨js,el⟩<;>rcases yv bb v7 with⟨rfl,rfl⟩|⟨qo,s3⟩
      ·rw[oZ,run_sliceAt_array_all w t _ jI,jr mI];simp[Result.andThen,slicedAt,hm]
      ·rw[oZ,s3,run_sliceAt_array_h w t _ jI qo _ (by omega) (by rw[hm];omega),jr mI];simp[Result.andThen,slicedAt,hm]
      ·rw[oZ,el,run_sliceAt_array_l w t _ jI js _ (by omega) (by rw[hm];omega),jr mI];simp[Result.andThen,slicedAt,hm]
      ·rw[el,s3,run_sliceAt_array_lh w t _ jI js qo _ _ (by omega) (by omega) (by rw[hm];omega),jr mI];simp[Result.andThen,slicedAt,hm]
     simp only[execOp,bb _ _ he,af.ak,oZ,Sem.run_bind,key,Result.andThen_ok,Sem.run_pure,E.i,ih]
    ·cases j
   ·cases j
  ·rename_i el m o n c l h hu he aO aY;split at j
   ·rename_i z fx hl cS gC v7;split at j
    ·rename_i Ld;obtain⟨rfl,rfl⟩:=ju j;rw[<-aO] at gC;rw[<-aY] at v7;have q8:P.elem t=el:=by simp[Program.elem,hu]
     have jI:P.underlying t=some (.slice (P.elem t)):=by rw[q8];exact hu
     have mI:hK P (P.elem t)=some z:=by rw[q8];exact cS
     have key:(Instr.slice t (.slice (some ⟨aR ρ.M m 0,o,none⟩) n c) (lo.map ev) (a8.map ev) none).run P w= .ok (.slice (some ⟨aR ρ.M m 0,if c=fx then o else o+fx*z,none⟩) (hl-fx) (c-fx)) w:=by
      have e:(some (⟨aR ρ.M m 0,if c=fx then o else o+fx*z,none⟩:Addr))=if c=fx then some ⟨aR ρ.M m 0,o,none⟩ else(some (⟨aR ρ.M m 0,o,none⟩:Addr)).map (·.add (fx*z)):=by
       split
       ·rfl
       ·rw[l6,ky]
      rw[e];rcases yv bb gC with⟨rfl,rfl⟩|⟨js,el⟩<;>rcases yv bb v7 with⟨rfl,rfl⟩|⟨qo,s3⟩
      ·rw[oZ,run_slice_all w t _ _ _ jI,jr mI];simp[Result.andThen,sliced]
      ·rw[oZ,s3,run_slice_h w t _ _ _ jI qo _ (by omega) (by omega),jr mI];simp[Result.andThen,sliced]
      ·rw[oZ,el,run_slice_l w t _ _ _ jI js _ (by omega) (by omega),jr mI];simp[Result.andThen,sliced]
      ·rw[el,s3,run_slice_lh w t _ _ _ jI js qo _ _ (by omega) (by omega) (by omega),jr mI];simp[Result.andThen,sliced]
     simp only[execOp,bb _ _ he,af.ak,oZ,Sem.run_bind,run_sliceAt_slice w t _ _ _ _ jI,E.i,ih,key,Result.andThen_ok,Sem.run_pure]
    ·cases j
   ·cases j
  ·cases j
 case makeFunc fn first cap=>
  cases fn<;>(try simp only at j)<;>try (cases j;done)
  split at j
  ·rename_i bk;cases aO:uu az cap.toList with
   |none=>simp[aO] at j
   |some l=>
    simp only[aO,l6] at j;obtain⟨rfl,rfl⟩:=ju j;have J:=Al bb _ _ aO;have an:first=#[]:=by simpa using bk
    subst an
    have aI:cap.map ev=(af.b2 ρ l).toArray:=by
     rw[<-J,<-sP]
    simp[execOp,Instr.makeFunc,af.ak,aI]
  ·split at j
   ·rename_i bk;cases aO:uu az first.toList with
    |none=>simp[aO] at j
    |some l=>
     simp only[aO,l6] at j;obtain⟨rfl,rfl⟩:=ju j;have J:=Al bb _ _ aO;have an:cap=#[]:=by simpa using bk
     subst an
     have aI:first.map ev=(af.b2 ρ l).toArray:=by
      rw[<-J,<-sP]
     simp[execOp,Instr.makeFunc,af.ak,aI]
   ·cases j
 case makeInterface t x=>
  split at j
  ·cases j
  ·rename_i d s' iA a_ he;obtain⟨rfl,rfl⟩:=ju j
   have:P.concrete t=true:=by
    unfold Program.concrete;rw[a_];cases d<;>first|rfl|exact(iA _ rfl).elim
   simp[execOp,bb _ _ he,af.ak,run_makeInterface w t _ this]
  ·cases j
 case build t cw=>
  split at j
  ·rename_i it fs l eh hu aO;split at j
   ·rename_i z pl cS l_;cases bs:uv (fun i=>pl[i]?) (z.cells.toList.map ql) l with
    |none=>simp[bs] at j
    |some r=>
     simp only[bs,l6] at j;obtain⟨rfl,rfl⟩:=ju j;have J:=CY bP (fun i=>pl[i]?) l _ r bs;rw[yn] at J;have an:=CX bb _ _ aO
     have aI:P.built t (cw.map fun p=>(p.1,ev p.2)).toList=some (af.b2 ρ r).toArray:=by
      unfold Program.built;simp only[eh,hu,cS,l_];rw[sP,an];simpa using J
     have:=run_build w t _ _ aI;simp only[execOp];simp[this,af.ak]
   ·cases j
  ·rename_i it n el l eh hu aO;split at j
   ·rename_i z dZ cS ma;cases bs:uv (fun i=>some (i*dZ.size,dZ.size)) (z.cells.toList.map ql) l with
    |none=>simp[bs] at j
    |some r=>
     simp only[bs,l6] at j;obtain⟨rfl,rfl⟩:=ju j;have J:=CY bP (fun i=>some (i*dZ.size,dZ.size)) l _ r bs;rw[yn] at J;have an:=CX bb _ _ aO
     have aI:P.built t (cw.map fun p=>(p.1,ev p.2)).toList=some (af.b2 ρ r).toArray:=by
      unfold Program.built;simp only[eh,hu,cS,ma];rw[sP,an];simpa using J
     have:=run_build w t _ _ aI;simp only[execOp];simp[this,af.ak]
   ·cases j
  ·cases j
 case call c=>
  obtain⟨callee,args,ts⟩:=c;cases callee<;>(try simp only at j)<;>try (cases j;done)
  rename_i bi;cases bi<;>(try simp only at j)<;>try (cases j;done)
  rotate_left
  ·skip
   split at j
   ·rename_i x y s4;split at j
    ·rename_i k a dA b J an;obtain⟨rfl,rfl⟩:=ju j;have a7:args.map ev=#[ev x,ev y]:=by rw[show args=#[x,y] from Array.toList_inj.1 s4];simp
     simp only[execOp,resolve,invoke,builtin,Sem.run_bind,Sem.run_pure,Result.andThen_ok,a7,bb _ _ J,bb _ _ an,af.ak,run_max_int2,E.i];have bu:(if b.i ρ>a.i ρ then b.i ρ else a.i ρ)=max (a.i ρ) (b.i ρ):=by split<;>omega
     simp[bu]
    ·cases j
   ·cases j
  split at j
  ·rename_i t x yw qq;have fy:(args.map ev)[0]? =some (ev x):=by simp[qq]
   split at j
   ·rename_i s' hu he;obtain⟨rfl,rfl⟩:=ju j;simp[execOp,resolve,invoke,builtin,Builtin.len_,yw,qq,run_underlying hu,bb _ _ he,af.ak,E.i,goInt]
   ·rename_i el a n c hu he;split at j
    ·rename_i cB;obtain⟨rfl,rfl⟩:=ju j;have cc:=qn (ρ:=ρ) cB;have bu:max (n.i ρ) 0=n.i ρ:=by omega
     simp[execOp,resolve,invoke,builtin,Builtin.len_,yw,qq,run_underlying hu,bb _ _ he,af.ak,goInt,bu]
    ·cases j
   ·rename_i el m o n c hu he;obtain⟨rfl,rfl⟩:=ju j;simp[execOp,resolve,invoke,builtin,Builtin.len_,yw,qq,run_underlying hu,bb _ _ he,af.ak,E.i,goInt]
   ·rename_i el hu he;obtain⟨rfl,rfl⟩:=ju j;simp[execOp,resolve,invoke,builtin,Builtin.len_,yw,qq,run_underlying hu,bb _ _ he,af.ak,E.i,goInt]
   ·cases j
  ·cases j
end Go.cK
end
end
section
section
namespace Go.cK
open Go Go.RowKit
variable {P:Program}
structure al where
 w:World
 aV:Nat->Prop
 lt:∀b,aV b->b<w.heap.size
structure Ext (W W':al):Prop where
 size:W.w.heap.size<=W'.w.heap.size
 sub:∀b,W.aV b->W'.aV b
 du:∀b,W.aV b->W'.w.heap[b]? =W.w.heap[b]?
 os:W'.w.os=W.w.os
 tape:W'.w.tape=W.w.tape
 output:W'.w.output=W.w.output
theorem Ext.refl (W:al):Ext W W:=⟨e9 _,fun _ h=>h,fun _ _=>rfl,rfl,rfl,rfl⟩
theorem Ext.trans {A B C:al} (h:Ext A B) (k:Ext B C):Ext A C:=
 ⟨iz h.size k.size,fun b I=>k.sub b (h.sub b I),fun b I=>(k.du b (h.sub b I)).trans (h.du b I),k.os.trans h.os,k.tape.trans h.tape,k.output.trans h.output⟩
def s8 (n:Nat) (W':al):Prop:=∀b,n<=b->b<W'.w.heap.size->W'.aV b
def al.all (W:al):al:=⟨W.w,fun b=>b<W.w.heap.size,fun _ h=>h⟩
def al.fz (W:al) (ms:List Nat):al:=⟨W.w,fun b=>b<W.w.heap.size∧b∉ms,fun _ h=>h.1⟩
theorem al.dw (W:al):Ext W W.all:=⟨e9 _,fun b I=>W.lt b I,fun _ _=>rfl,rfl,rfl,rfl⟩
theorem al.Le (W:al) {ms:List Nat} (h:∀b,W.aV b->b∉ms):Ext W (W.fz ms):=⟨e9 _,fun b I=>⟨W.lt b I,h b I⟩,fun _ _=>rfl,rfl,rfl,rfl⟩
structure cO (W:al) (w':World):Prop where
 os:w'.os=W.w.os
 tape:w'.tape=W.w.tape
 output:w'.output=W.w.output
 size:W.w.heap.size<=w'.heap.size
 du:∀b,W.aV b->w'.heap[b]? =W.w.heap[b]?
theorem cO.CZ {W W':al} (x:Ext W W'):cO W W'.w:=⟨x.os,x.tape,x.output,x.size,x.du⟩
theorem cO.below {W:al} {w':World} (h:cO W.all w'):Below W.w.heap.size W.w w':=⟨h.os,h.tape,h.output,h.size,h.du⟩
theorem cO.kA {W:al} {w':World} (h:Below W.w.heap.size W.w w'):cO W.all w':=⟨h.os,h.tape,h.output,h.size,h.block⟩
theorem cO.eP {V W:al} {w':World} (h:cO W w') (e:V.w=W.w) (s:∀b,V.aV b->W.aV b):cO V w':=by
 obtain⟨v,aV,lt⟩:=V;dsimp only at e;subst e;exact⟨h.os,h.tape,h.output,h.size,fun b I=>h.du b (s b I)⟩
def bK (P:Program) (f:FuncId) (args:Array Value) (W:al) (R:Ending->World->Prop):Prop:=Calls P f args W.w fun e w'=>cO W w'∧R e w'
def o4 (R:Value->World->Prop):Ending->World->Prop:=fun e w'=>∃v,e= .returned v∧R v w'
def gR (P:Program) (f:FuncId) (args:Array Value) (W:al) (R:Value->World->Prop):Prop:=bK P f args W (o4 R)
def da (P:Program) (f:FuncId) (args:Array Value) (W:al) (v:Value):Prop:=gR P f args W.all fun u _=>u=v
theorem bK.mono {f:FuncId} {args:Array Value} {W:al} {R R':Ending->World->Prop} (h:bK P f args W R) (aw:∀e w',cO W w'->R e w'->R' e w'):bK P f args W R':=
 Calls.mono h fun e w' ⟨aA,gg⟩=>⟨aA,aw e w' aA gg⟩
theorem bK.eP {f:FuncId} {args:Array Value} {V W:al} {R:Ending->World->Prop} (h:bK P f args W R) (e:V.w=W.w) (s:∀b,V.aV b->W.aV b):bK P f args V R:=by
 unfold bK at*;rw[e];exact Calls.mono h fun _ _ ⟨aA,gg⟩=>⟨aA.eP e s,gg⟩
theorem gR.mono {f:FuncId} {args:Array Value} {W:al} {R R':Value->World->Prop} (h:gR P f args W R) (aw:∀v w',cO W w'->R v w'->R' v w'):gR P f args W R':=
 bK.mono h fun _ w' aA ⟨v,he,gg⟩=>⟨v,he,aw v w' aA gg⟩
def aX.fits (d:aX) (c:dj):Prop:=d.cT=c∧d.ew
def jv {α:Type}:Nat->(List α->Prop)->Prop
 |0,p=>p []
 |n+1,p=>∃a,jv n fun l=>p (a::l)
def r5:Nat->(List Value->Prop)->Prop
 |0,p=>p []
 |n+1,p=>∃a:Value,a.oneCell'=true∧r5 n fun l=>p (a::l)
def gr (c:dj) (p:aX->Prop):Prop:=
 jv c.aV fun i=>jv c.N fun n=>jv c.B fun b=>jv c.T fun t=>r5 c.V fun v=>jv c.A fun a=>jv c.M fun m=>jv c.L fun l=>p ⟨i,n,b,t,v,a,m,l⟩
theorem jv.out {α:Type}:∀{n:Nat} {p:List α->Prop},jv n p->∃l,l.length=n∧p l
 |0,_,h=>⟨[],rfl,h⟩
 |n+1,p,⟨a,h⟩=>let⟨l,J,an⟩:=jv.out h;⟨a::l,by simp[J],an⟩
theorem r5.out:∀{n:Nat} {p:List Value->Prop},r5 n p->∃l,l.length=n∧(∀v∈l,v.oneCell'=true)∧p l
 |0,_,h=>⟨[],rfl,fun v aB=>(by cases aB),h⟩
 |n+1,p,⟨a,bl,h⟩=>let⟨l,J,aI,an⟩:=r5.out h;⟨a::l,by simp[J],fun v aB=>(dh.1 aB).elim (fun e=>e▸bl) (aI v),an⟩
theorem gr.out {c:dj} {p:aX->Prop} (h:gr c p):∃d:aX,d.fits c∧p d:=by
 obtain⟨i,a8,h⟩:=jv.out h;obtain⟨n,cB,h⟩:=jv.out h;obtain⟨b,I,h⟩:=jv.out h;obtain⟨t,bb,h⟩:=jv.out h;obtain⟨v,aB,Gj,h⟩:=r5.out h;obtain⟨a,bl,h⟩:=jv.out h;obtain⟨m,hm,h⟩:=jv.out h;obtain⟨l,aO,h⟩:=jv.out h;exact⟨⟨i,n,b,t,v,a,m,l⟩,⟨by simp[aX.cT,a8,cB,I,bb,aB,bl,hm,aO],Gj⟩,h⟩
theorem jv.mk {α:Type}:∀{l:List α} {n:Nat} {p:List α->Prop},l.length=n->p l->jv n p
 |[],0,_,_,h=>h
 |[],_+1,_,e,_=>by simp at e
 |_::_,0,_,e,_=>by simp at e
 |a::l,n+1,p,e,h=>⟨a,jv.mk (l:=l) (by simpa using e) h⟩
theorem r5.mk:∀{l:List Value} {n:Nat} {p:List Value->Prop},l.length=n->(∀v∈l,v.oneCell'=true)->p l->r5 n p
 |[],0,_,_,_,h=>h
 |[],_+1,_,e,_,_=>by simp at e
 |_::_,0,_,e,_,_=>by simp at e
 |a::l,n+1,p,e,aB,h=>⟨a,aB a (c6 ..),r5.mk (l:=l) (by simpa using e) (fun v Gj=>aB v (dq _ Gj)) h⟩
theorem gr.mk {c:dj} {p:aX->Prop} {d:aX} (a_:d.fits c) (h:p d):gr c p:=by
 obtain⟨rfl,bP⟩:=a_;exact jv.mk rfl (jv.mk rfl (jv.mk rfl (jv.mk rfl (r5.mk rfl bP (jv.mk rfl (jv.mk rfl (jv.mk rfl h)))))))
inductive dV where
 |l (k:Nat)
 |s (x:af)
 |z (n:E)
def dV.ak (ρ:aX):dV->List Value
 | .l k=>aR ρ.L k []
 | .s x=>[x.ak ρ]
 | .z n=>List.replicate (n.i ρ).toNat (.int .i64 0)
def dF (ρ:aX) (xs:List dV):List Value:=xs.flatMap (dV.ak ρ)
structure b3 where
 v:af
 n:E
 e:TypeId
 sz:Nat
 xs:List dV
def b3.at (ar:Nat) (ρ:aX) (r:b3) (w:World):Prop:=w.ownsRow ar r.e r.sz (r.v.ak ρ) (r.n.i ρ).toNat (dF ρ r.xs)∧∀u∈dF ρ r.xs,u.oneCell'=true
def hR (ar:Nat) (ρ:aX) (rw:List b3) (w:World):Prop:=∀r∈rw,r.at ar ρ w
def dV.ok (c:dj):dV->Bool
 | .l k=>k<c.L
 | .s x=>x.ok c
 | .z n=>n.ok c
def b3.ok (c:dj) (r:b3):Bool:=r.v.ok c&&r.n.ok c&&r.xs.all (dV.ok c)
def jw (a:Option Addr) (lo c sz:Nat):Option Addr:=if c=lo then a else a.map (·.add (lo*sz))
inductive Tree where
 |ret (s:af) (hp:List b4) (ro:List b4) (rw:List b3)
 |mJ (s:af)
 |aC (c:E) (a b:Tree)
 |a1 (c:E) (t:Tree)
 |new (t:Tree)
 |wr (t:Tree)
 |call (f:FuncId) (args:List af) (hp:List b4) (rw:List b3) (mu:List b4) (dm:af) (c:dj) (t:Tree)
 |jZ (f:FuncId) (args:List af) (hp:List b4) (rw:List b3) (dm:af) (c:dj) (t:Tree)
 |oi (f:FuncId) (args:List af) (hp:List b4) (rw:List b3) (ly:List b3) (dm:af) (iB:List b3) (c:dj) (t:Tree)
 |eM (fY:List b4) (t:Tree)
 |yx (rs:List b3) (t:Tree)
 |pre (v:af) (r:b3) (k:E) (t:Tree)
 |j0 (xs:List dV) (i:E) (o z:Nat) (vs:List af) (t:Tree)
 |Gk (xs:List dV) (lo n:E) (z:Nat) (zs:Array Value) (t:Tree)
 |grow (t:Tree)
 |cl (ty:TypeId) (p dm:af) (c:dj) (t:Tree)
 |j1 (ty:TypeId) (p dm:af) (r:b3) (c:dj) (t:Tree)
 |eu (n:E) (t:Tree)
 |cells (a:Nat) (n c:E) (sz:Nat) (rw:List b3) (t:Tree)
 |sub (a:Nat) (lo a8 c:E) (sz:Nat) (t:Tree)
 |m_ (a:Addr) (t:Tree)
 |s9 (ty:TypeId) (cs:List af) (t:Tree)
 |lP (a b:Tree)
 |loop (init:List af) (Ap:List b3) (fJ:List af) (oj:List b3) (c:dj) (t:Tree)
 |again (n:Nat) (j2:List af) (rows:List b3)
 |q9 (e:E) (t:Tree)
 |join (a:Tree) (fJ:List af) (oj:List b3) (c:dj) (t:Tree)
abbrev ha:=List (List Value->List (List Value)->al->Prop)
def ha.at (L:ha) (n:Nat) (vs:List Value) (ls:List (List Value)) (W:al):Prop:=match L[n]? with
 |some p=>p vs ls W
 |none=>False
def fA (ρ:aX) (hp:List b4) (w:World):Prop:=∀b∈hp,b.at ρ w
def qs (ρ:aX) (mu:List b4):List Nat:=mu.map fun b=>aR ρ.M b.m 0
def hL (ρ:aX) (rw:List b3):List (List Value):=rw.map fun r=>dF ρ r.xs
def dk (ρ:aX) (r:b3):Option Nat:=(r.v.ak ρ).ownBlock
def iO (ρ:aX) (rw:List b3):List Nat:=rw.filterMap (dk ρ)
structure Aq (ar n:Nat) (ks:List Nat) (ρ:aX) (iB:List b3) (w:World):Prop where
 at_:hR ar ρ iB w
 new:∀r∈iB,∀k,dk ρ r=some k->n<=k∨k∈ks
 e2:iB.Pairwise fun r q=>∀k,dk ρ r=some k->dk ρ q≠some k
def Gl (n:Nat) (ks:List Nat) (W':al):Prop:=∀b,n<=b->b<W'.w.heap.size->b∉ks->W'.aV b
def hg (l:List Value) (k:Nat) (vs:List Value):List Value:=l.take k++vs++l.drop (k+vs.length)
def Ar (ρ:aX) (W:al) (hp mu:List b4):Prop:=(∀a∈hp,∀b∈mu,a.m≠b.m->aR ρ.M a.m 0≠aR ρ.M b.m 0)∧∀b∈mu,¬W.aV (aR ρ.M b.m 0)
theorem Ar.ext {ρ:aX} {W:al} {hp mu:List b4} (h:Ar ρ W hp mu):Ext W (W.fz (qs ρ mu)):=
 ⟨e9 _,fun b I=>⟨W.lt b I,fun hm=>by obtain⟨x,j,e⟩:=h7.1 hm;exact h.2 x j (by rw[e];exact I)⟩,fun _ _=>rfl,rfl,rfl,rfl⟩
def Tree.ak (P:Program) (ar:Nat) (R:Ending->World->Prop):Tree->ha->aX->al->Prop
 | .ret s hp ro rw,_,ρ,W=>fA ρ hp W.w->fA ρ ro W.w->hR ar ρ rw W.w->((rw.Pairwise fun r q=>∀k,dk ρ r=some k->dk ρ q≠some k)∧∀r∈rw,∀k,dk ρ r=some k->¬W.aV k)->R (.returned (s.ak ρ)) W.w
 | .mJ s,_,ρ,W=>R (.panicked [{v:=s.ak ρ,recovered:=false}]) W.w
 | .aC c a b,L,ρ,W=>(c.b ρ=true->a.ak P ar R L ρ W)∧(c.b ρ=false->b.ak P ar R L ρ W)
 | .a1 c t,L,ρ,W=>c.b ρ=true∧t.ak P ar R L ρ W
 | .new t,L,ρ,W=>∀m W',ar<=m->Ext W W'->t.ak P ar R L (ρ.push {M:=[m]}) W'
 | .wr t,L,ρ,W=>∀W',Ext W W'->t.ak P ar R L ρ W'
 | .call f args hp rw mu dm c t,L,ρ,W=>fA ρ hp W.w->Ar ρ W hp mu->hR ar ρ rw W.w->bK P f (af.b2 ρ args).toArray (W.fz (qs ρ mu)) fun e w'=>match e with
   | .returned v=>gr c fun d=>v=dm.ak (ρ.push d)∧fA (ρ.push d) mu w'∧∀W',W'.w=w'->Ext W W'->s8 W.w.heap.size W'->t.ak P ar R L (ρ.push d) W'
   | .panicked cD=>R (.panicked cD) w'
   | .outgrown=>False
 | .jZ f args hp rw dm c t,L,ρ,W=>gr c fun d=>(∀W',Ext W W'->fA ρ hp W'.w->hR ar ρ rw W'.w->da P f (af.b2 ρ args).toArray W' (dm.ak (ρ.push d)))∧t.ak P ar R L (ρ.push d) W
 | .oi f args hp rw ly dm iB c t,L,ρ,W=>fA ρ hp W.w->hR ar ρ rw W.w->bK P f (af.b2 ρ args).toArray (W.fz (iO ρ ly)) fun e w'=>match e with
   | .returned v=>gr c fun d=>v=dm.ak (ρ.push d)∧Aq ar W.w.heap.size (iO ρ ly) (ρ.push d) iB w'∧∀W',W'.w=w'->Ext W W'->Gl W.w.heap.size (iO (ρ.push d) iB) W'->t.ak P ar R L (ρ.push d) W'
   | .panicked cD=>R (.panicked cD) w'
   | .outgrown=>False
 | .eM fY t,L,ρ,W=>∀W',W'.w=W.w->Ext W W'->(∀b∈fY,ar<=aR ρ.M b.m 0->W'.aV (aR ρ.M b.m 0))->fA ρ fY W'.w->t.ak P ar R L ρ W'
 | .pre v r k t,L,ρ,W=>(∃ad n c,r.v.ak ρ= .slice ad n c∧v.ak ρ= .slice ad (k.i ρ).toNat c∧(k.i ρ).toNat<=(r.n.i ρ).toNat)∧t.ak P ar R L (ρ.push {L:=[(dF ρ r.xs).take ((k.i ρ).toNat*r.sz)]}) W
 | .yx rs t,L,ρ,W=>∀W',W'.w=W.w->Ext W W'->(∀r∈rs,∀k,dk ρ r=some k->W'.aV k)->hR ar ρ rs W'.w->t.ak P ar R L ρ W'
 | .Gk xs lo n z zs t,L,ρ,W=>∀W',Ext W W'->t.ak P ar R L (ρ.push {L:=[hg (dF ρ xs) ((lo.i ρ).toNat*z) (Builtin.zeroCells zs ((n.i ρ).toNat-(lo.i ρ).toNat)).toList]}) W'
 | .j0 xs i o z vs t,L,ρ,W=>∀W',Ext W W'->t.ak P ar R L (ρ.push {L:=[hg (dF ρ xs) ((i.i ρ).toNat*z+o) (af.b2 ρ vs)]}) W'
 | .grow t,L,ρ,W=>∀W',Ext W W'->t.ak P ar R L ρ W'
 | .cl ty p dm c t,L,ρ,W=>gr c fun d=>(∀W',Ext W W'->(Instr.loadAt ty (p.ak ρ)).run P W'.w= .ok (dm.ak (ρ.push d)) W'.w)∧t.ak P ar R L (ρ.push d) W
 | .j1 ty p dm r c t,L,ρ,W=>gr c fun d=>(∀w,r.at ar ρ w->(Instr.loadAt ty (p.ak ρ)).run P w= .ok (dm.ak (ρ.push d)) w)∧t.ak P ar R L (ρ.push d) W
 | .eu n t,L,ρ,W=>∀a c W',(0<n.i ρ->a.isSome=true)->Ext W W'->t.ak P ar R L (ρ.push {A:=[a],N:=[c]}) W'
 | .cells a n c sz rw t,L,ρ,W=>∃l,l.length=(n.i ρ).toNat*sz∧(∀u∈l,u.oneCell'=true)∧(aR ρ.A a none=none->n.i ρ<=0∧c.i ρ<=0)∧
   (∀ad,aR ρ.A a none=some ad->∀W',Ext W W'->hR ar ρ rw W'.w->∀aj u,l[aj]? =some u->W'.w.cell? (ad.add aj)=some u)∧t.ak P ar R L (ρ.push {L:=[l]}) W
 | .sub a lo a8 c sz t,L,ρ,W=>t.ak P ar R L (ρ.push {A:=[jw (aR ρ.A a none) (lo.i ρ).toNat (c.i ρ).toNat sz],N:=[(a8.i ρ).toNat-(lo.i ρ).toNat,(c.i ρ).toNat-(lo.i ρ).toNat]}) W
 | .m_ a t,L,ρ,W=>t.ak P ar R L (ρ.push {A:=[some a]}) W
 | .lP a b,L,ρ,W=>a.ak P ar R L ρ W∧b.ak P ar R L ρ W
 | .s9 ty cs t,L,ρ,W=>∀m W',ar<=m->Ext W W'->W'.aV m->W'.w.heap[m]? =some (.cells (af.b2 ρ cs).toArray ty)->t.ak P ar R L (ρ.push {A:=[some ⟨m,0,none⟩]}) W'
 | .loop init Ap fJ oj c t,L,ρ,W=>∃(Inv:Nat->List Value->List (List Value)->al->Prop) (n:Nat),Inv n (af.b2 ρ init) (hL ρ Ap) W∧
   ∀n vs ls W',Ext W W'->Inv n vs ls W'->gr c fun d=>af.b2 (ρ.push d) fJ=vs∧hL (ρ.push d) oj=ls∧
    (hR ar (ρ.push d) oj W'.w->t.ak P ar R (L++[fun lz fG ht=>∃fZ,fZ<n∧Inv fZ lz fG ht]) (ρ.push d) W')
 | .again n j2 rows,L,ρ,W=>L.at n (af.b2 ρ j2) (hL ρ rows) W
 | .q9 e t,L,ρ,W=>∀m c W',Ext W W'->W'.aV m->m<W'.w.heap.size->(∀aj,aj<(e.t ρ).size->W'.w.cell? ⟨m,aj,none⟩=some (.int .u8 ((e.t ρ).data.toList.getD aj 0).toNat))->(e.t ρ).size<=c->
   t.ak P ar R L (ρ.push {A:=[some ⟨m,0,none⟩],N:=[c]}) W'
 | .join a fJ oj c t,L,ρ,W=>∃eV:List Value->List (List Value)->al->Prop,a.ak P ar R (L++[eV]) ρ W∧∀vs ls W',Ext W W'->eV vs ls W'->gr c fun d=>af.b2 (ρ.push d) fJ=vs∧hL (ρ.push d) oj=ls∧
    (hR ar (ρ.push d) oj W'.w->t.ak P ar R L (ρ.push d) W')
def Gm:List b4->Tree->Tree
 |[],t=>t
 |b::fY,t=>.eM (b::fY) t
def al.eM (W:al) (ms:List Nat) (h:∀m∈ms,m<W.w.heap.size):al:=⟨W.w,fun b=>W.aV b∨b∈ms,fun b I=>I.elim (W.lt b) (h b)⟩
theorem Lf {ar:Nat} {R:Ending->World->Prop} {L:ha} {ρ:aX} {W:al} {fY:List b4} {t:Tree} (h:(Gm fY t).ak P ar R L ρ W) (I:fA ρ fY W.w):
  ∃W':al,W'.w=W.w∧Ext W W'∧(∀b,W'.aV b->W.aV b∨∃x∈fY,b=aR ρ.M x.m 0∧ar<=b)∧t.ak P ar R L ρ W':=by
 cases fY with
 |nil=>exact⟨W,rfl,Ext.refl W,fun b I=>.inl I,h⟩
 |cons cm fY=>
  have fr:∀m∈((cm::fY).map fun b=>aR ρ.M b.m 0).filter (ar<= ·),m<W.w.heap.size:=fun m hm=>by
   obtain⟨x,j,rfl⟩:=h7.1 (lJ.1 hm).1;have:=I x j;unfold b4.at at this;exact(fq.1 this).1
  refine⟨W.eM _ fr,rfl,⟨e9 _,fun b h=>.inl h,fun _ _=>rfl,rfl,rfl,rfl⟩,fun b h=>?_,?_⟩
  ·rcases h with h|h
   ·exact .inl h
   ·obtain⟨J,an⟩:=lJ.1 h;obtain⟨x,j,rfl⟩:=h7.1 J;exact .inr ⟨x,j,rfl,of_decide_eq_true an⟩
  ·refine h (W.eM _ fr) rfl ⟨e9 _,fun b h=>.inl h,fun _ _=>rfl,rfl,rfl,rfl⟩ (fun b J an=>.inr ?_) I;exact lJ.2 ⟨h7.2 ⟨b,J,rfl⟩,decide_eq_true an⟩
def Gn:List b3->Tree->Tree
 |[],t=>t
 |r::l,t=>.yx (r::l) t
theorem Lg {ar:Nat} {R:Ending->World->Prop} {L:ha} {ρ:aX} {W:al} {rs:List b3} {t:Tree} (h:(Gn rs t).ak P ar R L ρ W) (I:hR ar ρ rs W.w):
  ∃W':al,W'.w=W.w∧Ext W W'∧(∀b,W'.aV b->W.aV b∨∃r∈rs,dk ρ r=some b∧ar<=b)∧t.ak P ar R L ρ W':=by
 cases rs with
 |nil=>exact⟨W,rfl,Ext.refl W,fun b I=>.inl I,h⟩
 |cons o5 rs=>
  have ik:∀r∈o5::rs,∀k,dk ρ r=some k->ar<=k∧k<W.w.heap.size:=fun r aw k aA=>World.ownsRow.lt (I r aw).1 k aA
  have fr:∀m∈iO ρ (o5::rs),m<W.w.heap.size:=fun m hm=>by
   obtain⟨r,aw,e⟩:=List.mem_filterMap.1 hm;exact(ik r aw m e).2
  refine⟨W.eM _ fr,rfl,⟨e9 _,fun b h=>.inl h,fun _ _=>rfl,rfl,rfl,rfl⟩,fun b h=>?_,?_⟩
  ·rcases h with h|h
   ·exact .inl h
   ·obtain⟨r,aw,e⟩:=List.mem_filterMap.1 h;exact .inr ⟨r,aw,e,(ik r aw b e).1⟩
  ·exact h (W.eM _ fr) rfl ⟨e9 _,fun b h=>.inl h,fun _ _=>rfl,rfl,rfl,rfl⟩ (fun r aw k aA=>.inr (List.mem_filterMap.2 ⟨r,aw,aA⟩)) I
structure bC where
 n:Nat
 az:eJ
 hp:List b4
 ro:List b4
 rw:List b3
 kn:et
 c:dj
 fh:Nat
def af.okO (c:dj):Option af->Bool
 |none=>true
 |some s=>s.ok c
def b4.ok (c:dj) (b:b4):Bool:=b.m<c.M&&af.l8 c b.cs
def bC.ok (s:bC):Bool:=(s.az.all (fun p=>af.okO s.c p.2)&&s.hp.all (b4.ok s.c)&&s.ro.all (b4.ok s.c)&&s.rw.all (b3.ok s.c))&&s.kn.all (fun p=>p.1.ok s.c)
structure Holds (N:Nat) (W0:al) (ρ:aX) (s:bC) (a:Act) (W:al):Prop where
 cT:ρ.cT=s.c
 ew:ρ.ew
 az:eJ.at ρ s.az a.eval
 len:a.tmps.size=s.n
 iC:a.defers=[]
 hp:fA ρ s.hp W.w
 ro:fA ρ s.ro W.w
 rw:hR N ρ s.rw W.w
 iP:∀b∈s.ro,W0.aV (aR ρ.M b.m 0)
 own:∀b∈s.hp,¬W.aV (aR ρ.M b.m 0)
 gS:∀r∈s.rw,∀k,dk ρ r=some k->¬W.aV k∧∀b∈s.hp,aR ρ.M b.m 0≠k
 dc:s.hp.Pairwise fun a b=>aR ρ.M a.m 0≠aR ρ.M b.m 0
 lA:s.rw.Pairwise fun r q=>∀k,dk ρ r=some k->dk ρ q≠some k
 kn:et.holds ρ s.kn
 sub:∀b,W.aV b->W0.aV b∨N<=b
 mK:N<=W0.w.heap.size
 ext:Ext W0 W
theorem Holds.q_ {N:Nat} {W0:al} {ρ:aX} {s:bC} {a:Act} {W:al} (h:Holds N W0 ρ s a W):N<=W.w.heap.size:=iz h.mK h.ext.size
theorem Lh {ρ d:aX} {az:eJ} {ev:Operand->Value} (h:eJ.at ρ az ev) (bc:az.all (fun p=>af.okO ρ.cT p.2)=true):eJ.at (ρ.push d) az ev:=by
 intro x s j;cases x with
 |tmp t=>
  have J:=h _ _ j;rw[J];simp only[dU] at j;obtain⟨p,hp,_,an⟩:=CW j;have:=ep.1 bc _ hp;rw[an] at this;exact(af.push ρ d s this).symm
 |const v=>simp only[dU] at j;obtain rfl:=bm j;rw[qm];have:=h (.const v) _ rfl;rw[qm] at this;exact this
 |global g=>simp only[dU] at j;obtain rfl:=bm j;exact h (.global g) _ rfl
 |func f=>simp only[dU] at j;obtain rfl:=bm j;exact h (.func f) _ rfl
theorem aX.Gp {ρ d:aX} (h:ρ.ew) (k:d.ew):(ρ.push d).ew:=by
 intro v aB;rcases mE.1 aB with J|J
 ·exact h v J
 ·exact k v J
theorem o6 {ρ d:aX} {m:Nat} (h:m<ρ.cT.M):aR (ρ.push d).M m 0=aR ρ.M m 0:=og _ _ _ _ h
theorem fA.push {ρ d:aX} {hp:List b4} {w:World} (h:fA ρ hp w) (bc:hp.all (b4.ok ρ.cT)=true):fA (ρ.push d) hp w:=by
 intro b I;have J:=ep.1 bc b I;simp only[b4.ok,bT] at J;have:=h b I;unfold b4.at at*;rw[o6 (of_decide_eq_true J.1),af.sY ρ d b.cs J.2];exact this
theorem Gq {ρ d:aX}:∀{xs:List dV},xs.all (dV.ok ρ.cT)=true->dF (ρ.push d) xs=dF ρ xs
 |[],_=>rfl
 |x::xs,h=>by
  simp only[qe,bT] at h;have cF:=Gq (d:=d) h.2;unfold dF at cF ⊢;simp only[rW,cF];congr 1;cases x with
  |l k=>simp only[dV.ok] at h;exact og _ _ _ _ (of_decide_eq_true h.1)
  |s y=>simp only[dV.ok] at h;simp only[dV.ak];rw[af.push ρ d y h.1]
  |z n=>simp only[dV.ok] at h;simp only[dV.ak];rw[(E.push ρ d n h.1).1]
theorem b3.push {ρ d:aX} {r:b3} (h:r.ok ρ.cT=true):r.v.ak (ρ.push d)=r.v.ak ρ∧r.n.i (ρ.push d)=r.n.i ρ∧dF (ρ.push d) r.xs=dF ρ r.xs:=by
 simp only[b3.ok,bT] at h;exact⟨af.push ρ d _ h.1.1,(E.push ρ d _ h.1.2).1,Gq h.2⟩
theorem hR.push {ar:Nat} {ρ d:aX} {rw:List b3} {w:World} (h:hR ar ρ rw w) (bc:rw.all (b3.ok ρ.cT)=true):hR ar (ρ.push d) rw w:=by
 intro r aw;obtain⟨J,an,aI⟩:=b3.push (d:=d) (ep.1 bc r aw);have:=h r aw;unfold b3.at at*;rw[J,an,aI];exact this
theorem qt {ρ d:aX} {r:b3} (h:r.ok ρ.cT=true):dk (ρ.push d) r=dk ρ r:=by unfold dk;rw[(b3.push (d:=d) h).1]
theorem Holds.push {N:Nat} {W0:al} {ρ d:aX} {s:bC} {a:Act} {W:al} (h:Holds N W0 ρ s a W) (bc:s.ok=true) (a_:d.ew):Holds N W0 (ρ.push d) {s with c:=s.c.add d.cT} a W:=by
 simp only[bC.ok,bT] at bc;obtain⟨⟨⟨⟨ec,fc⟩,iQ⟩,hv⟩,fS⟩:=bc;rw[<-h.cT] at ec fc fS iQ hv
 have hm:∀b∈s.hp,b.m<ρ.cT.M:=fun b I=>by
  have:=ep.1 fc b I;simp only[b4.ok,bT] at this;exact of_decide_eq_true this.1
 have As:∀b∈s.ro,b.m<ρ.cT.M:=fun b I=>by
  have:=ep.1 iQ b I;simp only[b4.ok,bT] at this;exact of_decide_eq_true this.1
 have aw:∀r∈s.rw,dk (ρ.push d) r=dk ρ r:=fun r aw=>qt (ep.1 hv r aw)
 refine⟨by rw[aX.F5,h.cT],aX.Gp h.ew a_,Lh h.az ec,h.len,h.iC,h.hp.push fc,h.ro.push iQ,h.rw.push hv,?_,?_,?_,?_,?_,?_,h.sub,h.mK,h.ext⟩
 ·intro b I;rw[o6 (As b I)];exact h.iP b I
 ·intro b I;rw[o6 (hm b I)];exact h.own b I
 ·intro r om k aA;rw[aw r om] at aA;obtain⟨J,an⟩:=h.gS r om k aA;exact⟨J,fun b I=>by rw[o6 (hm b I)];exact an b I⟩
 ·refine(Ab.1 h.dc).imp ?_;rintro x y ⟨j,bE,s4⟩;rw[o6 (hm x j),o6 (hm y bE)];exact s4
 ·refine(Ab.1 h.lA).imp ?_;rintro x y ⟨j,bE,s4⟩ k aA;rw[aw x j] at aA;rw[aw y bE];exact s4 k aA
 ·intro p hp;have:=ep.1 fS p hp;rw[(E.push ρ d p.1 this).2.1];exact h.kn p hp
def eQ (n:Nat) (az:eJ) (d:Option Nat) (v:Option af):eJ:=match d with
 |some d=>if Nat.ble (d+1) n then(d,v)::az else az
 |none=>az
theorem Holds.put {N:Nat} {W0:al} {ρ:aX} {s:bC} {a:Act} {W:al} (h:Holds N W0 ρ s a W) (d:Option Nat) (v:Value) (x:Option af) (j:∀y,x=some y->v=y.ak ρ):
  Holds N W0 ρ {s with az:=eQ s.n s.az d x} (a.put d v) W:=by
 cases d with
 |none=>exact h
 |some d=>
  by_cases a_:Nat.ble (d+1) s.n=true
  ·have fr:d<a.tmps.size:=by rw[h.len];exact l7 a_
   have e:eQ s.n s.az (some d) x=(d,x)::s.az:=by simp only[eQ];rw[if_pos a_]
   rw[e];refine⟨h.cT,h.ew,?_,by simp[Act.put,h.len],h.iC,h.hp,h.ro,h.rw,h.iP,h.own,h.gS,h.dc,h.lA,h.kn,h.sub,h.mK,h.ext⟩;intro o y bc;cases o with
   |tmp t=>
    simp only[dU] at bc;simp only[Act.put,Act.eval]
    by_cases bb:d=t
    ·subst bb;rw[s5] at bc;have:(a.tmps.setIfInBounds d v)[d]? =some v:=by simp[fr]
     simp only[mF,this,ny];exact j y bc
    ·rw[vY _ _ bb] at bc;have:=h.az (.tmp t) y bc;simp only[Act.eval,mF] at this ⊢;rw[Array.getElem?_setIfInBounds_ne bb];exact this
   |const c=>exact h.az (.const c) y bc
   |global g=>exact h.az (.global g) y bc
   |func f=>exact h.az (.func f) y bc
  ·have e:eQ s.n s.az (some d) x=s.az:=by simp only[eQ];rw[if_neg a_]
   have yy:a.tmps.size<=d:=by
    rw[h.len];rcases pH d s.n with J|J
    ·exact absurd (Nat.ble_eq_true_of_le J) a_
    ·exact J
   have bh:a.put (some d) v=a:=by
    simp only[Act.put];rw[Array.setIfInBounds_eq_of_size_le yy]
   rw[e,bh];exact h
theorem Holds.ux {N:Nat} {W0:al} {ρ:aX} {s:bC} {a:Act} {W:al} (h:Holds N W0 ρ s a W) {kn:et} (aA:et.holds ρ kn):Holds N W0 ρ {s with kn:=kn} a W:=
 ⟨h.cT,h.ew,h.az,h.len,h.iC,h.hp,h.ro,h.rw,h.iP,h.own,h.gS,h.dc,h.lA,aA,h.sub,h.mK,h.ext⟩
theorem Holds.jY {N:Nat} {W0:al} {ρ:aX} {s:bC} {a:Act} {W:al} (h:Holds N W0 ρ s a W) {e:E} {b:Bool} (he:e.b ρ=b):Holds N W0 ρ {s with kn:=l9 e b s.kn} a W:=h.ux (yt e h.kn he)
theorem Holds.qu {N:Nat} {W0:al} {ρ:aX} {s:bC} {a:Act} {W:al} (h:Holds N W0 ρ s a W) {az:eJ} (bb:eJ.at ρ az a.eval):Holds N W0 ρ {s with az:=az} a W:=
 ⟨h.cT,h.ew,bb,h.len,h.iC,h.hp,h.ro,h.rw,h.iP,h.own,h.gS,h.dc,h.lA,h.kn,h.sub,h.mK,h.ext⟩
variable {P:Program}
def Gr:Value->Value->Bool
 | .pointer a,.pointer b=>decide (a=b)
 | .nilIface,.nilIface=>true
 | .nilFunc,.nilFunc=>true
 | .map none,.map none=>true
 | .tuple ⟨[]⟩,.tuple ⟨[]⟩=>true
 |_,_=>false
theorem Vs {a b:Value} (h:Gr a b=true):a=b:=by
 unfold Gr at h;split at h<;>first|rfl|(simp at h;done)|(simp at h;rw[h])
mutual
def af.eb:af->af->Bool
 | .bool a,.bool b=>E.eb a b
 | .int k a,.int aj b=>Nat.beq (yj k) (yj aj)&&E.eb a b
 | .str a,.str b=>E.eb a b
 | .ptr m o,.ptr n p=>decide (m=n)&&decide (o=p)
 | .b6 a i z o,.b6 b aj y p=>decide (a=b)&&E.eb i aj&&decide (z=y)&&decide (o=p)
 | .bt a n c,.bt b m d=>decide (a=b)&&E.eb n m&&E.eb c d
 | .fM a o n c,.fM b p m d=>decide (a=b)&&decide (o=p)&&decide (n=m)&&decide (c=d)
 | .db,.db=>true
 | .val a,.val b=>Gr a b
 | .var n,.var m=>decide (n=m)
 | .agg l,.agg m=>af.nA l m
 | .cU l,.cU m=>af.nA l m
 | .fn f l,.fn g m=>decide (f=g)&&af.nA l m
 | .oh f l,.oh g m=>decide (f=g)&&af.nA l m
 | .nz t s,.nz u r=>decide (t=u)&&af.eb s r
 | .when g w s,.when h v r=>E.eb g h&&decide (w=v)&&af.eb s r
 |_,_=>false
def af.nA:List af->List af->Bool
 |[],[]=>true
 |a::l,b::m=>af.eb a b&&af.nA l m
 |_,_=>false
end
mutual
theorem af.jc:∀{a b:af},af.eb a b=true->a=b
 | .bool a,b,h=>by cases b<;>simp only[af.eb] at h<;>first|(rw[E.jc h])|cases h
 | .int k a,b,h=>by cases b<;>simp only[af.eb,bT] at h<;>first|(rw[KZ (eE h.1),E.jc h.2])|cases h
 | .str a,b,h=>by cases b<;>simp only[af.eb] at h<;>first|(rw[E.jc h])|cases h
 | .ptr m o,b,h=>by cases b<;>simp_all [af.eb]
 | .b6 a i z o,b,h=>by cases b<;>simp only[af.eb,bT] at h<;>first|(rw[of_decide_eq_true h.1.1.1,E.jc h.1.1.2,of_decide_eq_true h.1.2,of_decide_eq_true h.2])|cases h
 | .bt a n c,b,h=>by cases b<;>simp only[af.eb,bT] at h<;>first|(rw[of_decide_eq_true h.1.1,E.jc h.1.2,E.jc h.2])|cases h
 | .fM a o n c,b,h=>by cases b<;>simp_all [af.eb]
 | .db,b,h=>by cases b<;>simp_all [af.eb]
 | .val a,b,h=>by
  cases b<;>simp only[af.eb] at h<;>try (cases h;done)
  rw[Vs h]
 | .var n,b,h=>by cases b<;>simp_all [af.eb]
 | .agg l,b,h=>by
  cases b<;>simp only[af.eb] at h<;>try (cases h;done)
  rw[af.s_ h]
 | .cU l,b,h=>by
  cases b<;>simp only[af.eb] at h<;>try (cases h;done)
  rw[af.s_ h]
 | .fn f l,b,h=>by
  cases b<;>simp only[af.eb,bT] at h<;>try (cases h;done)
  rw[of_decide_eq_true h.1,af.s_ h.2]
 | .oh f l,b,h=>by
  cases b<;>simp only[af.eb,bT] at h<;>try (cases h;done)
  rw[of_decide_eq_true h.1,af.s_ h.2]
 | .nz t s,b,h=>by
  cases b<;>simp only[af.eb,bT] at h<;>try (cases h;done)
  rw[of_decide_eq_true h.1,af.jc h.2]
 | .when g w s,b,h=>by
  cases b<;>simp only[af.eb,bT] at h<;>try (cases h;done)
  rw[E.jc h.1.1,of_decide_eq_true h.1.2,af.jc h.2]
theorem af.s_:∀{a b:List af},af.nA a b=true->a=b
 |[],[],_=>rfl
 |[],_::_,h=>by simp[af.nA] at h
 |_::_,[],h=>by simp[af.nA] at h
 |a::l,b::m,h=>by
  simp only[af.nA,bT] at h;rw[af.jc h.1,af.s_ h.2]
end
mutual
def C0 (P:Program):Nat->TypeId->dj->Option (List af×dj)
 |0,_,_=>none
 |d+1,t,c=>
  match P.underlying t with
  |some .bool=>some ([.bool (.bv c.B)],{c with B:=c.B+1})
  |some (.int k)=>some ([.int k (.aN c.aV)],{c with aV:=c.aV+1})
  |some .string=>some ([.str (.br c.T)],{c with T:=c.T+1})
  |some (.slice _)=>some ([.bt c.A (.aW c.N) (.aW (c.N+1))],{c with A:=c.A+1,N:=c.N+2})
  |some (.struct fs)=>Li P d fs.toList c
  |some (.array n el)=>Lj P d n el c
  |some (.pointer _)|some (.map _ _)|some (.func _ _ _)|some (.interface _)=>some ([.var c.V],{c with V:=c.V+1})
  |_=>none
def Lj (P:Program):Nat->Nat->TypeId->dj->Option (List af×dj)
 |_,0,_,c=>some ([],c)
 |0,_+1,_,_=>none
 |d+1,n+1,t,c=>match C0 P d t c with
  |some (l,bG)=>match Lj P d n t bG with
   |some (m,oo)=>some (l++m,oo)
   |none=>none
  |none=>none
def Li (P:Program):Nat->List Field->dj->Option (List af×dj)
 |_,[],c=>some ([],c)
 |0,_::_,_=>none
 |d+1,f::fs,c=>match C0 P d f.type c with
  |some (l,bG)=>match Li P d fs bG with
   |some (m,oo)=>some (l++m,oo)
   |none=>none
  |none=>none
end
def uy (P:Program) (t:TypeId) (c:dj):Option (af×dj):=
 match P.underlying t,C0 P 40 t c with
 |some (.struct _),some (l,bG)=>some (.agg l,bG)
 |some (.array _ _),some (l,bG)=>some (.agg l,bG)
 |_,some ([s],bG)=>some (s,bG)
 |_,_=>none
def Lk (P:Program):List TypeId->dj->Option (List af×dj)
 |[],c=>some ([],c)
 |t::ts,c=>match uy P t c with
  |some (s,bG)=>match Lk P ts bG with
   |some (l,oo)=>some (s::l,oo)
   |none=>none
  |none=>none
def yz (P:Program) (t:TypeId) (c:dj):Option (af×dj):=
 match P.underlying t with
 |some (.tuple ts)=>match Lk P ts.toList c with
  |some (l,bG)=>some (.cU l,bG)
  |none=>none
 |_=>uy P t c
def dj.eP (c d:dj):dj:=⟨c.aV-d.aV,c.N-d.N,c.B-d.B,c.T-d.T,c.V-d.V,c.A-d.A,c.M-d.M,c.L-d.L⟩
mutual
def af.refs:af->List Nat
 | .ptr m _| .fM m _ _ _=>[m]
 | .agg l| .cU l| .fn _ l| .oh _ l=>af.At l
 | .nz _ s=>s.refs
 |_=>[]
def af.At:List af->List Nat
 |[]=>[]
 |s::l=>s.refs++af.At l
end
def Ll (hp:List b4) (ms:List Nat):List b4:=hp.filter fun b=>ms.contains b.m
def mb (hp:List b4) (args:List af):List b4:=
 let J:=Ll hp (af.At args)
 Ll hp (af.At args++J.flatMap fun b=>af.At b.cs)
theorem Au {ρ:aX} {hp:List b4} {args:List af} {w:World} (h:fA ρ hp w):fA ρ (mb hp args) w:=fun b I=>h b (lJ.1 I).1
def ta:List b4->Nat->List af->List b4
 |[],_,_=>[]
 |b::l,m,cs=>if b.m=m then {b with cs:=cs}::l else b::ta l m cs
def pK:List b3->af->Option b3
 |[],_=>none
 |r::l,v=>if af.eb r.v v then some r else pK l v
def o7:List b3->af->List b3
 |[],_=>[]
 |r::l,v=>if af.eb r.v v then l else r::o7 l v
theorem Gs {Rel:b3->b3->Prop} (bD:∀a b,Rel a b->Rel b a):∀{rw:List b3} {v:af} {r:b3},pK rw v=some r->rw.Pairwise Rel->
  r∈rw∧r.v=v∧(o7 rw v).Sublist rw∧∀q∈o7 rw v,Rel r q
 |[],_,_,h,_=>by cases h
 |a::l,v,r,h,hp=>by
  simp only[pK] at h;simp only[o7];rw[od] at hp;split at h
  ·rename_i e;obtain rfl:=bm h;rw[if_pos e];exact⟨c6 ..,af.jc e,List.sublist_cons_self ..,hp.1⟩
  ·rename_i e;rw[if_neg e];obtain⟨i1,i2,i3,i4⟩:=Gs bD h hp.2;refine⟨dq _ i1,i2,i3.cons_cons _,fun q bg=>?_⟩;rcases dh.1 bg with bh|bh
   ·subst bh;exact bD _ _ (hp.1 r i1)
   ·exact i4 q bh
def rowOf (P:Program) (rw:List b3) (t:TypeId) (v:af):Option (b3×List b3×TypeInfo):=
 match P.underlying t with
 |some (.slice el)=>match P.info? el with
  |some dZ=>match v with
   | .db=>some (⟨.db,.aE 0,el,dZ.size,[]⟩,rw,dZ)
   |v=>match pK rw v with
    |some r=>if r.e=el∧r.sz=dZ.size then some (r,o7 rw v,dZ) else none
    |none=>none
  |none=>none
 |_=>none
def oq (a b:E):E:=match a,b with
 | .aE x,.aE y=>.dB (decide (x<=y))
 |a,b=>.aF .le a b
theorem r6 {ρ:aX} (a b:E):(oq a b).b ρ=er (a.i ρ) (b.i ρ):=by
 unfold oq;split<;>rfl
def ra (bytes:Nat):Nat:=if bytes=0 then maxLen else min maxLen (140737488355328/bytes)
theorem Lm {bytes n:Nat} (h:n<=ra bytes):n<=maxLen∧n*bytes<=140737488355328:=by
 unfold ra at h;split at h
 ·rename_i e;subst e;exact⟨h,by simp⟩
 ·rename_i e;refine⟨by omega,?_⟩;have J:n<=140737488355328/bytes:=by omega
  exact(Nat.le_div_iff_mul_le (by omega)).1 J
inductive Pos where
 |az (t:Nat)
 |cell (m off:Nat)
 |row (t:Nat) (ty:TypeId)
 |rb (m off:Nat) (ty:TypeId)
structure C1 where
 key:Nat
 cw:List Pos
structure ds where
 ex:Bool:=false
 iR:Nat:=400
 ei:List C1:=[]
 k5:List (Nat×Nat):=[]
 inl:List FuncId:=[]
 mu:List (FuncId×List Nat):=[]
 gT:List Nat:=[]
 lQ:List TypeId:=[]
 jJ:List TypeId:=[]
 fN:Bool:=false
 rws:List (FuncId×(List Nat×List (Nat×TypeId×Nat))):=[]
 mc:List FuncId:=[]
 kB:List (Nat×List Nat):=[]
 j3:List C1:=[]
 depth:Nat:=6
def ds.find:List C1->Nat->List Pos
 |[],_=>[]
 |l::ls,k=>if l.key=k then l.cw else ds.find ls k
def ds.Ln:List C1->Nat->Option (List Pos)
 |[],_=>none
 |l::ls,k=>if l.key=k then some l.cw else ds.Ln ls k
def ds.re {α:Type}:List (Nat×α)->Nat->Option α
 |[],_=>none
 |(k,x)::ls,f=>if k=f then some x else ds.re ls f
def Gt (P:Program) (hp:List b4) (args:List af):List Nat->dj->Option (List b4×dj)
 |[],c=>some ([],c)
 |p::cw,c=>match args[p]? with
  |some (.ptr m _)=>match jG hp m with
   |some b=>match C0 P 40 b.ty c with
    |some (cs,bG)=>match Gt P hp args cw bG with
     |some (l,oo)=>some (⟨m,b.ty,cs⟩::l,oo)
     |none=>none
    |none=>none
   |none=>none
  |_=>none
inductive pL where
 |new (ty:TypeId) (cs:List af) (s:af)
 |uz (m:Nat) (cs:List af)
 |call (f:FuncId) (args:List af)
 |cl (t:TypeId) (p:af)
 |j1 (t:TypeId) (p:af) (r:b3)
 |eu (r:b3) (rest:List b3) (k:E) (xs:List dV) (b:Nat)
 |v8 (r:b3) (rest:List b3) (a:Nat) (k c:E) (b:Nat)
 |sub (a:Nat) (lo a8 c n:E) (sz:Nat)
 |m_ (a:Addr) (n c:Nat)
 |yA (a:Addr) (i:E) (n z:Nat)
 |j0 (r:b3) (rest:List b3) (i:E) (o z:Nat) (vs:List af)
 |mJ (s:af)
 |q9 (e:E)
def rowAt:List b3->Nat->Option b3
 |[],_=>none
 |r::l,a=>match r.v with
  | .bt b _ _=>if b=a then some r else rowAt l a
  |_=>rowAt l a
theorem C2:∀{l:List b3} {a:Nat} {r:b3},rowAt l a=some r->r∈l
 |[],_,_,h=>by cases h
 |q::l,a,r,h=>by
  simp only[rowAt] at h;split at h
  ·split at h
   ·obtain rfl:=bm h;exact c6 ..
   ·exact dq _ (C2 h)
  ·exact dq _ (C2 h)
def Av (P:Program) (s:bC) (t:TypeId) (x:Operand) (lo a8 s7:Option Operand):Option pL:=
 match s7 with
 |some _=>none
 |none=>match P.underlying t,dU s.az x with
  |some (.slice el),some (.bt a n c)=>match hK P el,o2 s.az lo,o2 s.az a8 with
   |some z,some l,some h=>if gq n&&gq c then some (.sub a (nY l (.aE 0)) (nY h n) c (match h with|some _=>c|none=>n) z) else none
   |_,_,_=>none
  |some (.array n el),some (.val (.pointer (some a)))=>match hK P el,qp (o2 s.az lo) 0,qp (o2 s.az a8) n with
   |some z,some l,some h=>if l<=h∧h<=n then some (.m_ (if n=l then a else a.add (l*z)) (h-l) (n-l)) else none
   |_,_,_=>none
  |_,_=>none
def yB (P:Program) (s:bC) (args:List Operand) (ts:List TypeId):Option pL:=
 match ts,args with
 |[t,cR],[x,y]=>if t=cR then(match dU s.az x,dU s.az y with
  |some v,some u=>match rowOf P s.rw t v with
   |some (r,rest,dZ)=>match dZ.zero with
    |some z=>if z.cells.size=dZ.size∧0<dZ.size then(match u with
     | .fM m o k _=>match jG s.hp m with
      |some b=>if((b.cs.drop o).take (k*dZ.size)).length=k*dZ.size∧((b.cs.drop o).take (k*dZ.size)).all af.cell then some (.eu r rest (.aE k) (((b.cs.drop o).take (k*dZ.size)).map .s) dZ.bytes) else none
      |none=>none
     | .bt a k c=>match pK s.rw (.bt a k c) with
      |some q=>if q.e=r.e∧q.sz=r.sz∧gq q.n&&E.eb q.n k then some (.eu r rest k q.xs dZ.bytes) else none
      |none=>if gq k&&gq c then some (.v8 r rest a k c dZ.bytes) else none
     |_=>none) else none
    |none=>none
   |none=>none
  |_,_=>none) else none
 |_,_=>none
def Aw (P:Program) (s:bC) (f:Operand) (args:List Operand):Option pL:=
 match dU s.az f,uu s.az args with
 |some (.fn g caps),some l=>match P.funcs[g]? with
  |some fn=>if fn.body.isSome∧(fn.name== "runtime.NumGoroutine")=false then some (.call g (l++caps)) else none
  |none=>none
 |some (.oh g fY),some l=>match P.funcs[g]? with
  |some fn=>if fn.body.isSome∧(fn.name== "runtime.NumGoroutine")=false then some (.call g (fY++l)) else none
  |none=>none
 |_,_=>none
def Gu (P:Program) (s:bC) (c:Call):Option pL:=
 match c.callee with
 | .value f=>Aw P s f c.args.toList
 | .builtin b=>match b with
  | .append=>yB P s c.args.toList c.argTypes.toList
  |_=>none
 |_=>none
def k6 (ty:TypeId) (z:Nat):b3:=⟨.db,.aE 0,ty,z,[]⟩
def Ax (P:Program) (s:bC) (t:TypeId) (l c:Operand):Option pL:=match P.underlying t,dU s.az l,dU s.az c with
 |some (.slice el),some (.int _ nl),some (.int _ eF)=>match P.info? el with
  |some dZ=>match dZ.zero with
   |some (.int .i64 0)=>if E.eb nl eF&&(gq nl&&(decide (dZ.size=1)&&decide (0<dZ.bytes))) then some (.eu (k6 el 1) s.rw nl [.z nl] dZ.bytes) else none
   |_=>none
  |none=>none
 |_,_,_=>none
theorem Vt {P:Program} {s:bC} {t:TypeId} {l c:Operand} {r:b3} {rest:List b3} {k:E} {xs:List dV} {b:Nat} (h:Ax P s t l c=some (.eu r rest k xs b)):
  ∃el js nl cW dZ,r=k6 el 1∧rest=s.rw∧k=nl∧xs=[.z nl]∧P.underlying t=some (.slice el)∧dU s.az l=some (.int js nl)∧dU s.az c=some (.int cW nl)∧P.info? el=some dZ∧dZ.zero=some (.int .i64 0)∧dZ.size=1∧b=dZ.bytes:=by
 unfold Ax at h;split at h
 ·rename_i el js nl cW eF hu aO aH;split at h
  ·rename_i dZ ma;split at h
   ·rename_i cS;split at h
    ·rename_i e;simp only[bT,decide_eq_true_eq] at e;have fy:=E.jc e.1;subst fy;have e:=bm h;injection e with a7 bh c8 gj hx
     exact⟨el,js,nl,cW,dZ,a7.symm,bh.symm,c8.symm,gj.symm,hu,aO,aH,ma,cS,by simp_all,hx.symm⟩
    ·cases h
   ·cases h
  ·cases h
 ·cases h
theorem ot {P:Program} {s:bC} {t:TypeId} {l c:Operand} {e:pL} (h:Ax P s t l c=some e):∃r rest k xs b,e= .eu r rest k xs b:=by
 unfold Ax at h
 (repeat' split at h)<;>first|(cases h;done)|(obtain rfl:=(bm h).symm;exact⟨_,_,_,_,_,rfl⟩)
def hy (P:Program) (s:bC) (o:Op):Option pL:=
 match o with
 | .alloc t=>match (P.info? t).bind (·.zero) with
  |some z=>some (.new t (z.cells.toList.map ql) (.ptr s.c.M 0))
  |none=>none
 | .box t x=>match (dU s.az x).bind af.cells with
  |some l=>some (.new t l (.ptr s.c.M 0))
  |none=>none
 | .buildSlice t len cw=>match P.underlying t,Am s.az cw.toList with
  |some (.slice el),some l=>match P.info? el with
   |some dZ=>match dZ.zero with
    |some z=>if len*dZ.size<=16777216 then(uv (fun i=>some (i*dZ.size,dZ.size)) (((Array.range (len*dZ.size)).map (z.cells[· % z.cells.size]!)).toList.map ql) l).map fun cs=>.new el cs (.fM s.c.M 0 len len) else none
    |none=>none
   |none=>none
  |_,_=>none
 | .makeSlice t l c=>match P.underlying t,qp (o2 s.az (some l)) 0,qp (o2 s.az (some c)) 0 with
  |some (.slice el),some n,some fZ=>match P.info? el with
   |some dZ=>match dZ.zero with
    |some z=>if n=fZ∧n<=100000∧dZ.bytes*n<=100000 then some (.new el ((madeCells z.cells (n*dZ.size)).toList.map ql) (.fM s.c.M 0 n n)) else none
    |none=>none
   |none=>none
  |_,_,_=>Ax P s t l c
 | .convert src dst x=>match P.underlying src,P.underlying dst,dU s.az x with
  |some .string,some (.slice el),some (.str e)=>(match P.underlying el with
   |some (.int .u8)=>some (.q9 e)
   |_=>none)
  |_,_,_=>none
 | .store t p x=>match dU s.az p,(dU s.az x).bind af.cells,hK P t with
  |some (.ptr m o),some vs,some n=>match jG s.hp m with
   |some b=>if vs.length=n∧o+n<=b.cs.length then some (.uz m (over b.cs o vs)) else none
   |none=>none
  |some (.b6 a i z o),some vs,some n=>match rowAt s.rw a with
   |some r=>match pK s.rw r.v with
    |some q=>if vs.length=n∧o+n<=z∧q.sz=z then some (.j0 q (o7 s.rw r.v) i o z vs) else none
    |none=>none
   |none=>none
  |_,_,_=>none
 | .load t p=>match dU s.az p with
  |some (.b6 a i z o)=>match rowAt s.rw a with
   |some r=>some (.j1 t (.b6 a i z o) r)
   |none=>some (.cl t (.b6 a i z o))
  |some (.val (.pointer (some a)))=>some (.cl t (.val (.pointer (some a))))
  |some (.var n)=>some (.cl t (.var n))
  |_=>none
 | .slice t x lo a8 s7=>Av P s t x lo a8 s7
 | .indexAddr t x i=>match P.underlying t,dU s.az x,dU s.az i with
  |some (.array n el),some (.val (.pointer (some a))),some (.int _ e)=>match hK P el with
   |some z=>some (.yA a e n z)
   |none=>none
  |_,_,_=>none
 | .panic x=>match dU s.az x with
  |some (.nz t v)=>some (.mJ (.nz t v))
  |_=>none
 | .call c=>Gu P s c
 |_=>none
def Ay (ops:Array Oper) (s:bC) (o:Oper):Option E:=
 match o.guard with
 |none=>some (.dB true)
 |some (aj,want)=>match (ops[aj]?).bind (·.dst) with
  |some d=>match gB s.az d with
   |some (.bool e)=>some (Ak e want)
   |some (.when g w (.bool e))=>some (vX (Ak g w) (Ak e want))
   |some (.val (.tuple ⟨[]⟩))=>some (.dB false)
   |_=>none
  |none=>none
def lB (kn:et):List E->Tree->Tree
 |[],t=>t
 |e::l,t=>if dec kn e=some true then lB kn l t else .a1 e (lB kn l t)
def pM (kn:et):List E->et
 |[]=>kn
 |e::l=>pM (l9 e true kn) l
def tb:af:=.val (.tuple #[])
abbrev na:=FuncId->List af->List b4->dj->Option Tree
def h_ (c:dj):Tree->Bool
 | .ret v _ _ _=>v.ok c
 | .aC e a b=>e.ok c&&h_ c a&&h_ c b
 | .a1 e t=>e.ok c&&h_ c t
 | .new t| .wr t| .grow t=>h_ c t
 |_=>false
def rf:Tree->bC->(af->bC->Option Tree)->Option Tree
 | .ret v _ _ _,s,k=>k v s
 | .aC e a b,s,k=>match dec s.kn e with
  |some true=>rf a s k
  |some false=>rf b s k
  |none=>match rf a {s with kn:=l9 e true s.kn} k,rf b {s with kn:=l9 e false s.kn} k with
   |some t,some u=>some (.aC e t u)
   |_,_=>none
 | .a1 e t,s,k=>(rf t {s with kn:=pM s.kn [e]} k).map (lB s.kn [e])
 | .new t,s,k| .wr t,s,k| .grow t,s,k=>rf t s k
 |_,_,_=>none
def Gv (inl:na) (f:FuncId) (args:List af) (s:bC):Option Tree:=
 match inl f args (s.hp++s.ro) s.c with
 |some t=>if h_ s.c t then some t else none
 |none=>none
def ia (s:bC) (d:Option Nat) (r:b3) (rest:List b3) (k:E) (xs:List dV):bC:=
 let v:af:=.bt s.c.A (ij r.n k) (.aW s.c.N)
 {s with az:=eQ s.n s.az d (some v),rw:=⟨v,ij r.n k,r.e,r.sz,r.xs++xs⟩::rest,c:=s.c.add {A:=1,N:=1}}
def C3 (s:bC) (lo a8:E):E:=match lo with
 | .aE 0=>if gq a8 then a8 else .aW s.c.N
 |_=>.aW s.c.N
def C4 (s:bC) (lo c:E):E:=match lo with
 | .aE 0=>if gq c then c else .aW (s.c.N+1)
 |_=>.aW (s.c.N+1)
def Gw (s:bC) (d:Option Nat) (lo a8 c:E):bC:={s with az:=eQ s.n s.az d (some (.bt s.c.A (C3 s lo a8) (C4 s lo c))),c:=s.c.add {A:=1,N:=2}}
def C5 (lo a8 n:E):List E:=[oq (.aE 0) lo,oq lo a8]++(if E.eb a8 n then [] else [oq a8 n])
def qv (mu:List b4) (b:b4):b4:=match jG mu b.m with
 |some pI=>pI
 |none=>b
def Az (hp mu:List b4):Bool:=mu.all fun b=>match jG hp b.m with
 |some pI=>decide (pI.ty=b.ty)
 |none=>false
mutual
def af.flat:af->List af
 | .agg l| .cU l=>af.C6 l
 |s=>[s]
def af.C6:List af->List af
 |[]=>[]
 |s::l=>s.flat++af.C6 l
end
def Gx:List af->List (Nat×TypeId×Nat)->dj->Option (List b3×dj)
 |_,[],c=>some ([],c)
 |l,(i,e,sz)::cw,c=>match l[i]? with
  |some (.bt a n k)=>if gq n then(match Gx l cw {c with L:=c.L+1} with
   |some (r,bG)=>some (⟨.bt a n k,n,e,sz,[.l c.L]⟩::r,bG)
   |none=>none) else none
  |_=>none
def AA:List b3->List af->List Nat->Option (List b3×List b3)
 |rw,_,[]=>some ([],rw)
 |rw,args,p::cw=>match args[p]? with
  |some .db=>AA rw args cw
  |some v=>match pK rw v with
   |some r=>match AA (o7 rw v) args cw with
    |some (l,rest)=>some (r::l,rest)
    |none=>none
   |none=>none
  |none=>none
def r7 (s:bC) (d:Option Nat) (q:b3) (rest:List b3):bC:={s with az:=eQ s.n s.az d (some tb),rw:={q with xs:=[.l s.c.L]}::rest,c:=s.c.add {L:=1}}
def C7 (cf:ds) (c:dj) (ty:TypeId):af->Option Nat
 | .fM m o n k=>if cf.lQ.contains ty&&(decide (m=c.M)&&(decide (o=0)&&decide (n=k))) then some n else none
 |_=>none
theorem Lo {cf:ds} {c:dj} {ty:TypeId} {v:af} {n:Nat} (h:C7 cf c ty v=some n):v= .fM c.M 0 n n:=by
 unfold C7 at h;split at h
 ·split at h
  ·rename_i e;simp only[bT] at e;obtain rfl:=bm h;rw[of_decide_eq_true e.2.1,of_decide_eq_true e.2.2.1,<-of_decide_eq_true e.2.2.2]
  ·cases h
 ·cases h
def C8 (P:Program) (cf:ds) (c:dj) (ty:TypeId) (cs:List af):af->Option (Nat×Nat)
 | .fM m o n k=>if cf.jJ.contains ty&&(decide (m=c.M)&&(decide (o=0)&&(decide (n=k)&&(decide (n<=1000000)&&cs.all af.cell)))) then(match hK P ty with
  |some z=>if cs.length=n*z then some (n,z) else none
  |none=>none) else none
 |_=>none
theorem Lp {P:Program} {cf:ds} {c:dj} {ty:TypeId} {cs:List af} {v:af} {n z:Nat} (h:C8 P cf c ty cs v=some (n,z)):v= .fM c.M 0 n n∧n<=1000000∧(∀x∈cs,x.cell=true)∧cs.length=n*z:=by
 unfold C8 at h;split at h
 ·split at h
  ·rename_i e;simp only[bT,decide_eq_true_eq] at e;obtain⟨_,rfl,rfl,rfl,gj,hx⟩:=e;split at h
   ·split at h
    ·rename_i aO;injection h with h
     injection h with J an
     subst J an;exact⟨rfl,gj,ep.1 hx,aO⟩
    ·cases h
   ·cases h
  ·cases h
 ·cases h
def v_ (i:E) (m:Nat):List E:=[oq (.aE 0) i,.aF .lt i (.aE m)]
def j4 (P:Program) (cf:ds) (inl:na) (ops:Array Oper):Nat->List Oper->bC->(bC->Option Tree)->Option Tree
 |_,[],s,K=>K s
 |0,_::_,_,_=>none
 |n+1,o::rest,s,K=>
  match Ay ops s o with
  |none=>none
  |some G=>match dec s.kn G with
   |some false=>j4 P cf inl ops n rest {s with az:=eQ s.n s.az o.dst (some tb)} K
   |none=>match r4 P cf.ex (jt (l9 G true s.kn) s.az) (s.hp++s.ro) (l9 G true s.kn) o.op with
    |some (cs,v)=>(j4 P cf inl ops n rest {s with az:=eQ s.n s.az o.dst (some (.when G true v)),kn:=pM s.kn (cs.map (r2 (nX G)))} K).map (lB s.kn (cs.map (r2 (nX G))))
    |none=>match j4 P cf inl ops n (o::rest) {s with kn:=l9 G true s.kn} K,j4 P cf inl ops n (o::rest) {s with kn:=l9 G false s.kn} K with
     |some a,some b=>some (.aC G a b)
     |_,_=>none
   |some true=>match r4 P cf.ex (jt s.kn s.az) (s.hp++s.ro) s.kn o.op with
    |some (cs,v)=>(j4 P cf inl ops n rest {s with az:=eQ s.n s.az o.dst (some v),kn:=pM s.kn cs} K).map (lB s.kn cs)
    |none=>match hy P {s with az:=jt s.kn s.az} o.op with
     |some (.new ty cs v)=>match C7 cf s.c ty v with
      |some m=>if s.ok&&af.l8 s.c cs then(j4 P cf inl ops n rest {s with az:=eQ s.n s.az o.dst (some (.bt s.c.A (.aE m) (.aE m))),c:=s.c.add {A:=1}} K).map (.s9 ty cs) else none
      |none=>match C8 P cf s.c ty cs v with
       |some (m,z)=>if s.ok&&af.l8 s.c cs then(j4 P cf inl ops n rest (ia s o.dst (k6 ty z) s.rw (.aE m) (cs.map .s)) K).map (.eu (.aE m)) else none
       |none=>if s.ok&&af.l8 s.c cs then(j4 P cf inl ops n rest {s with az:=eQ s.n s.az o.dst (some v),hp:=⟨s.c.M,ty,cs⟩::s.hp,c:=s.c.add {M:=1}} K).map .new else none
     |some (.uz m cs)=>(j4 P cf inl ops n rest {s with az:=eQ s.n s.az o.dst (some tb),hp:=ta s.hp m cs} K).map .wr
     |some (.call f args)=>match Gv inl f args s with
      |some t=>rf t s fun v s'=>(j4 P cf inl ops n rest {s' with az:=eQ s'.n s'.az o.dst (some v)} K).map .grow
      |none=>match ds.re cf.rws f with
      |some (cw,iD)=>match yz P o.type s.c with
       |some (dm,aJ)=>match Gx (dm.flat++af.C6 args) iD aJ,AA s.rw (af.C6 args) cw with
        |some (iB,bG),some (ly,rh)=>if s.ok then(j4 P cf inl ops n rest {s with az:=eQ s.n s.az o.dst (some dm),rw:=iB++rh,c:=s.c.add (bG.eP s.c)} K).map (.oi f args (mb (s.hp++s.ro) args) s.rw ly dm iB (bG.eP s.c)) else none
        |_,_=>none
       |none=>none
      |none=>match yz P o.type s.c with
       |some (dm,aJ)=>match Gt P s.hp args ((ds.re cf.mu f).getD []) aJ with
        |some (mu,bG)=>if s.ok&&Az s.hp mu then(j4 P cf inl ops n rest {s with az:=eQ s.n s.az o.dst (some dm),hp:=s.hp.map (qv mu),c:=s.c.add (bG.eP s.c)} K).map (.call f args (mb (s.hp++s.ro) args) s.rw mu dm (bG.eP s.c)) else none
        |none=>none
       |none=>none
     |some (.cl t p)=>match uy P t s.c with
      |some (dm,bG)=>if s.ok then(j4 P cf inl ops n rest {s with az:=eQ s.n s.az o.dst (some dm),c:=s.c.add (bG.eP s.c)} K).map (.cl t p dm (bG.eP s.c)) else none
      |none=>none
     |some (.j1 t p r)=>match uy P t s.c with
      |some (dm,bG)=>if s.ok then(j4 P cf inl ops n rest {s with az:=eQ s.n s.az o.dst (some dm),c:=s.c.add (bG.eP s.c)} K).map (.j1 t p dm r (bG.eP s.c)) else none
      |none=>none
     |some (.eu r rw k xs b)=>if s.ok&&gq k&&gq r.n&&k.ok s.c&&xs.all (dV.ok s.c)&&r.ok s.c then(j4 P cf inl ops n rest (ia s o.dst r rw k xs) K).map fun t=>lB s.kn [oq (ij r.n k) (.aE (ra b))] (.eu (ij r.n k) t) else none
     |some (.v8 r rw a k c b)=>if s.ok&&gq k&&gq c&&gq r.n&&k.ok s.c&&c.ok s.c&&a<s.c.A&&r.ok s.c then
       (j4 P cf inl ops n rest (ia {s with c:=s.c.add {L:=1}} o.dst r rw k [.l s.c.L]) K).map fun t=>lB s.kn [oq (ij r.n k) (.aE (ra b))] (.cells a k c r.sz s.rw (.eu (ij r.n k) t)) else none
     |some (.sub a lo a8 c m z)=>if s.ok&&a8.ok s.c&&c.ok s.c then(j4 P cf inl ops n rest (Gw s o.dst lo a8 c) K).map fun t=>lB s.kn (C5 lo a8 m) (.sub a lo a8 c z t) else none
     |some (.m_ a m c)=>if s.ok then(j4 P cf inl ops n rest {s with az:=eQ s.n s.az o.dst (some (.bt s.c.A (.aE m) (.aE c))),c:=s.c.add {A:=1}} K).map (.m_ a) else none
     |some (.yA ad i m z)=>if s.ok&&i.ok s.c then(j4 P cf inl ops n rest {s with az:=eQ s.n s.az o.dst (some (.b6 s.c.A i z 0)),c:=s.c.add {A:=1},kn:=pM s.kn (v_ i m)} K).map fun t=>lB s.kn (v_ i m) (.m_ ad t) else none
     |some (.j0 q rw i b z vs)=>if s.ok&&q.ok s.c&&i.ok s.c&&af.l8 s.c vs&&gq q.n then(j4 P cf inl ops n rest (r7 s o.dst q rw) K).map fun t=>lB s.kn [oq (.aE 0) i,.aF .lt i q.n] (.j0 q.xs i b z vs t) else none
     |some (.mJ v)=>some (.mJ v)
     |some (.q9 e)=>if s.ok&&e.ok s.c then(j4 P cf inl ops n rest {s with az:=eQ s.n s.az o.dst (some (.bt s.c.A (.un .len e) (.aW s.c.N))),c:=s.c.add {A:=1,N:=1}} K).map (.q9 e) else none
     |none=>none
theorem Gy {N:Nat} {W0:al} {ρ:aX} {ops:Array Oper} {s:bC} {a:Act} {W:al} {o:Oper} {G:E} (h:Holds N W0 ρ s a W) (bP:Ay ops s o=some G):Region.wanted o (yielded ops a.tmps)=G.b ρ:=by
 unfold Ay at bP;unfold Region.wanted;split at bP
 ·rename_i bk;obtain rfl:=bm bP;rw[bk];rfl
 ·rename_i aj want bk;rw[bk];show(yielded ops a.tmps aj==some want)=_;split at bP
  ·rename_i d a_
   have val:∀x:af,gB s.az d=some x->(a.tmps[d]?).getD undef=x.ak ρ:=fun x j=>by
    have J:=h.az (.tmp d) x j;simpa[Act.eval,mF] using J
   split at bP
   ·rename_i e he;obtain rfl:=bm bP;have J:=val _ he;simp only[af.ak] at J
    have an:a.tmps[d]? =some (.bool (e.b ρ)):=by
     cases nb:a.tmps[d]? with
     |none=>rw[nb] at J;cases J
     |some v=>rw[nb] at J;simpa using J
    simp only[yielded,a_,lK,an,Gf];rfl
   ·rename_i g w e he;obtain rfl:=bm bP;have J:=val _ he;simp only[af.ak] at J;rw[K5,Gf,Gf]
    by_cases hh:g.b ρ=w
    ·rw[if_pos hh] at J
     have an:a.tmps[d]? =some (.bool (e.b ρ)):=by
      cases nb:a.tmps[d]? with
      |none=>rw[nb] at J;cases J
      |some v=>rw[nb] at J;simpa using J
     simp only[yielded,a_,lK,an,hh,beq_self_eq_true,eX];rfl
    ·rw[if_neg hh] at J
     have an:yielded ops a.tmps aj=none:=by
      simp only[yielded,a_,lK];cases nb:a.tmps[d]? with
      |none=>rfl
      |some v=>rw[nb] at J;simp only[ny] at J;rw[J];rfl
     rw[an];have aI:(g.b ρ==w)=false:=by simpa using hh
     rw[aI];rfl
   ·rename_i he;obtain rfl:=bm bP;have J:=val _ he;simp only[af.ak] at J
    have an:yielded ops a.tmps aj=none:=by
     simp only[yielded,a_,lK];cases nb:a.tmps[d]? with
     |none=>rfl
     |some v=>rw[nb] at J;simp only[ny] at J;rw[J]
    rw[an];rfl
   ·cases bP
  ·cases bP
theorem me {ar:Nat} {R:Ending->World->Prop} {L:ha} {ρ:aX} {W:al} {kn:et} (aA:et.holds ρ kn):∀{cs:List E} {t:Tree},(lB kn cs t).ak P ar R L ρ W->nW ρ cs∧t.ak P ar R L ρ W
 |[],t,h=>⟨trivial,h⟩
 |e::_,t,h=>by
  simp only[lB] at h;split at h
  ·rename_i a_;have:=me aA h;exact⟨⟨lO aA e a_,this.1⟩,this.2⟩
  ·have:=me aA h.2;exact⟨⟨h.1,this.1⟩,this.2⟩
theorem tc {ρ:aX}:∀{cs:List E} {kn:et},et.holds ρ kn->nW ρ cs->et.holds ρ (pM kn cs)
 |[],_,aA,_=>aA
 |e::_,kn,aA,h=>tc (kn:=l9 e true kn) (yt e aA h.1) h.2
theorem Gz (ρ:aX):∀(hp:List b4) (m:Nat) (b:b4) (cs:List af),jG hp m=some b->(hp.Pairwise fun a b=>aR ρ.M a.m 0≠aR ρ.M b.m 0)->
  (∀x∈ta hp m cs,x={b with cs:=cs}∨(x∈hp∧aR ρ.M x.m 0≠aR ρ.M b.m 0))∧(ta hp m cs).map (·.m)=hp.map (·.m)
 |[],_,_,_,h,_=>by cases h
 |a::l,m,b,cs,h,hp=>by
  simp only[jG] at h;simp only[ta];rw[od] at hp;split at h
  ·rename_i e;obtain rfl:=bm h;rw[if_pos e];refine⟨fun x j=>?_,by simp⟩;rcases dh.1 j with J|J
   ·exact .inl J
   ·exact .inr ⟨dq _ J,fun bh=>hp.1 x J bh.symm⟩
  ·rename_i e;rw[if_neg e];obtain⟨i1,i2⟩:=Gz ρ l m b cs h hp.2;refine⟨fun x j=>?_,by simp[i2]⟩;rcases dh.1 j with J|J
   ·subst J;exact .inr ⟨c6 ..,hp.1 b (mH h).1⟩
   ·rcases i1 x J with an|an
    ·exact .inl an
    ·exact .inr ⟨dq _ an.1,an.2⟩
theorem Vu (ρ:aX) {a b:List b4} (h:a.map (·.m)=b.map (·.m)) (I:b.Pairwise fun x y=>aR ρ.M x.m 0≠aR ρ.M y.m 0):a.Pairwise fun x y=>aR ρ.M x.m 0≠aR ρ.M y.m 0:=by
 have J:(b.map (·.m)).Pairwise fun x y=>aR ρ.M x 0≠aR ρ.M y 0:=(vA (R:=fun x y=>aR ρ.M x 0≠aR ρ.M y 0)).2 I
 rw[<-h] at J;exact(vA (R:=fun x y=>aR ρ.M x 0≠aR ρ.M y 0)).1 J
def al.next (W:al) (w':World) (h:W.w.heap.size<=w'.heap.size):al:=
 ⟨w',fun b=>W.aV b∨(W.w.heap.size<=b∧b<w'.heap.size),fun b I=>I.elim (fun J=>lv (W.lt b J) h) (fun J=>J.2)⟩
theorem al.kO (W:al) {w':World} (h:cO W w'):Ext W (W.next w' h.size):=⟨h.size,fun _ J=>.inl J,h.du,h.os,h.tape,h.output⟩
theorem al.C9 (W:al) {w':World} (h:W.w.heap.size<=w'.heap.size):s8 W.w.heap.size (W.next w' h):=fun _ J an=>.inr ⟨J,an⟩
theorem fA.lt {ρ:aX} {hp:List b4} {w:World} (h:fA ρ hp w) {b:b4} (I:b∈hp):aR ρ.M b.m 0<w.heap.size:=by
 have:=h b I;unfold b4.at at this;exact(fq.1 this).1
theorem fA.du {ρ:aX} {hp:List b4} {w w':World} (h:fA ρ hp w) (aA:∀b∈hp,w'.heap[aR ρ.M b.m 0]? =w.heap[aR ρ.M b.m 0]?):fA ρ hp w':=fun b hm=>by
 have:=h b hm;unfold b4.at at*;rw[aA b hm];exact this
theorem b3.at.lt {ar:Nat} {ρ:aX} {r:b3} {w:World} (h:r.at ar ρ w) {k:Nat} (aA:dk ρ r=some k):ar<=k∧k<w.heap.size:=World.ownsRow.lt h.1 k aA
theorem b3.at.du {ar:Nat} {ρ:aX} {r:b3} {w w':World} (h:r.at ar ρ w) (aA:∀k,dk ρ r=some k->w'.heap[k]? =w.heap[k]?):r.at ar ρ w':=by
 refine⟨⟨h.1.1,?_⟩,h.2⟩;rcases h.1.2 with cB|⟨g,cap,cur,aB,I,Vv,rest⟩
 ·exact .inl cB
 ·refine .inr ⟨g,cap,cur,aB,I,?_,rest⟩;rw[aA g (by unfold dk;rw[aB];rfl)];exact Vv
theorem Holds.move {N:Nat} {W0:al} {ρ:aX} {s:bC} {a:Act} {W W':al} (h:Holds N W0 ρ s a W) (x:Ext W W') (bD:∀b,W'.aV b->W.aV b∨W.w.heap.size<=b)
  (aY:∀b∈s.hp,W'.w.heap[aR ρ.M b.m 0]? =W.w.heap[aR ρ.M b.m 0]?) (aw:∀r∈s.rw,∀k,dk ρ r=some k->W'.w.heap[k]? =W.w.heap[k]?):Holds N W0 ρ s a W':=by
 refine⟨h.cT,h.ew,h.az,h.len,h.iC,h.hp.du aY,h.ro.du fun b I=>x.du _ (h.ext.sub _ (h.iP b I)),fun r om=>(h.rw r om).du (aw r om),h.iP,fun b I bf=>?_,fun r om k aA=>⟨fun bf=>?_,(h.gS r om k aA).2⟩,h.dc,h.lA,h.kn,fun b bf=>?_,h.mK,h.ext.trans x⟩
 ·rcases bD _ bf with J|J
  ·exact h.own b I J
  ·have:=h.hp.lt I;omega
 ·rcases bD _ bf with J|J
  ·exact(h.gS r om k aA).1 J
  ·have:=(h.rw r om).lt aA;omega
 ·rcases bD _ bf with J|J
  ·exact h.sub b J
  ·exact .inr (iz h.q_ J)
theorem cO.all {W:al} {w':World} (h:cO W.all w'):cO W w':=h.eP rfl fun b I=>W.lt b I
theorem Holds.grow {N:Nat} {W0:al} {ρ:aX} {s:bC} {a:Act} {W:al} (h:Holds N W0 ρ s a W) {w':World} (aA:cO W.all w'):Holds N W0 ρ s a (W.next w' aA.size):=
 h.move (W.kO aA.all) (fun _ I=>I.elim .inl fun J=>.inr J.1) (fun b I=>aA.du _ (h.hp.lt I)) (fun r aw k dC=>aA.du _ ((h.rw r aw).lt dC).2)
def al.plus (W:al) (o:Obj):al:=⟨W.w.alloc o,W.aV,fun b I=>by have:=W.lt b I;simp;omega⟩
theorem al.C_ (W:al) (o:Obj):Ext W (W.plus o):=⟨by simp[al.plus],fun _ h=>h,fun b I=>Below.heap_alloc _ _ _ (W.lt b I),rfl,rfl,rfl⟩
theorem lC {α:Type}:∀(l:List α) (a x:α),aR (l++[a]) l.length x=a
 |[],_,_=>rfl
 |_::l,a,x=>lC l a x
theorem Holds.new {N:Nat} {W0:al} {ρ:aX} {s:bC} {a:Act} {W:al} (h:Holds N W0 ρ s a W) (bc:s.ok=true) (ty:TypeId) (cs:List af) (j5:af.l8 s.c cs=true):
  Holds N W0 (ρ.push {M:=[W.w.heap.size]}) {s with hp:=⟨s.c.M,ty,cs⟩::s.hp,c:=s.c.add {M:=1}} a (W.plus (.cells (af.b2 ρ cs).toArray ty)):=by
 have a_:({M:=[W.w.heap.size]}:aX).ew:=fun v aB=>by cases aB
 have bk:=h.push bc a_
 have J:Holds N W0 (ρ.push {M:=[W.w.heap.size]}) {s with c:=s.c.add {M:=1}} a (W.plus (.cells (af.b2 ρ cs).toArray ty)):=
  bk.move (W.C_ _) (fun b I=>.inl I) (fun b I=>Below.heap_alloc _ _ _ (bk.hp.lt I)) (fun r aw k aA=>Below.heap_alloc _ _ _ ((bk.rw r aw).lt aA).2)
 have gK:ρ.M.length=s.c.M:=by rw[<-h.cT];rfl
 have qw:aR (ρ.push {M:=[W.w.heap.size]}).M s.c.M 0=W.w.heap.size:=by
  show aR (ρ.M++[W.w.heap.size]) s.c.M 0=_;rw[<-gK];exact lC _ _ _
 have fr:∀b∈s.hp,aR (ρ.push {M:=[W.w.heap.size]}).M b.m 0<W.w.heap.size:=fun b I=>bk.hp.lt I
 refine⟨J.cT,J.ew,J.az,J.len,J.iC,?_,J.ro,J.rw,J.iP,?_,?_,?_,J.lA,J.kn,J.sub,J.mK,J.ext⟩
 ·intro b I;rcases dh.1 I with e|e
  ·subst e;unfold b4.at;rw[qw,af.sY ρ _ cs (by rw[h.cT];exact j5)];show(W.w.heap.push _)[W.w.heap.size]? =_;simp
  ·exact J.hp b e
 ·intro b I;rcases dh.1 I with e|e
  ·subst e;rw[qw];exact fun bf=>by have:=W.lt _ bf;omega
  ·exact J.own b e
 ·intro r aw k aA;refine⟨(J.gS r aw k aA).1,fun b I=>?_⟩;rcases dh.1 I with e|e
  ·subst e;rw[qw];have:=((bk.rw r aw).lt aA).2;omega
  ·exact(J.gS r aw k aA).2 b e
 ·rw[od];refine⟨fun b I=>?_,J.dc⟩;rw[qw];have:=fr b I;omega
def al.td (W:al) (o:Obj):al:=⟨W.w.alloc o,fun b=>W.aV b∨b=W.w.heap.size,fun b I=>by
 rcases I with h|h
 ·have:=W.lt b h;simp;omega
 ·subst h;simp⟩
theorem al.yC (W:al) (o:Obj):Ext W (W.td o):=⟨by simp[al.td],fun _ h=>.inl h,fun b I=>Below.heap_alloc _ _ _ (W.lt b I),rfl,rfl,rfl⟩
theorem Holds.s9 {N:Nat} {W0:al} {ρ:aX} {s:bC} {a:Act} {W:al} (h:Holds N W0 ρ s a W) (bc:s.ok=true) (ty:TypeId) (cs:List af) (m:Nat) (dst:Option Nat):
  Holds N W0 (ρ.push {A:=[some ⟨W.w.heap.size,0,none⟩]}) {s with az:=eQ s.n s.az dst (some (.bt s.c.A (.aE m) (.aE m))),c:=s.c.add {A:=1}} (a.put dst (.slice (some ⟨W.w.heap.size,0,none⟩) m m)) (W.td (.cells (af.b2 ρ cs).toArray ty)):=by
 have bk:=h.push (d:={A:=[some ⟨W.w.heap.size,0,none⟩]}) bc (fun v aB=>by cases aB)
 have ee:aR (ρ.push {A:=[some ⟨W.w.heap.size,0,none⟩]}).A s.c.A none=some ⟨W.w.heap.size,0,none⟩:=by
  show aR (ρ.A++[some ⟨W.w.heap.size,0,none⟩]) s.c.A none=_;rw[<-h.cT];exact lC _ _ _
 have J:Holds N W0 (ρ.push {A:=[some ⟨W.w.heap.size,0,none⟩]}) {s with c:=s.c.add {A:=1}} a (W.td (.cells (af.b2 ρ cs).toArray ty)):=
  bk.move (W.yC _) (fun b I=>I.imp id fun e=>by rw[e];exact e9 _) (fun b I=>Below.heap_alloc _ _ _ (bk.hp.lt I)) (fun r aw k aA=>Below.heap_alloc _ _ _ ((bk.rw r aw).lt aA).2)
 exact J.put dst _ (some (.bt s.c.A (.aE m) (.aE m))) fun y bE=>by
  obtain rfl:=bm bE;simp only[af.ak,ee,E.i,ih]
def al.row (W:al) (g:Nat) (cs:Array Value):al:=⟨W.w.setRow g cs,W.aV,fun b I=>by have:=W.lt b I;simpa using this⟩
theorem Holds.uz {N:Nat} {W0:al} {ρ:aX} {s:bC} {a:Act} {W:al} (h:Holds N W0 ρ s a W) {m:Nat} {b:b4} (bs:jG s.hp m=some b) (cs:List af):
  Ext W (W.row (aR ρ.M m 0) (af.b2 ρ cs).toArray)∧Holds N W0 ρ {s with hp:=ta s.hp m cs} a (W.row (aR ρ.M m 0) (af.b2 ρ cs).toArray):=by
 obtain⟨hm,rfl⟩:=mH bs;obtain⟨s1,s2⟩:=Gz ρ s.hp b.m b cs bs h.dc;have kz:=h.hp b hm;have fB:=h.own b hm;unfold b4.at at kz;have x:Ext W (W.row (aR ρ.M b.m 0) (af.b2 ρ cs).toArray):=⟨by simp[al.row],fun _ h=>h,fun k aA=>setRow_other _ _ _ _ (fun e=>fB (e▸aA)),rfl,rfl,rfl⟩;refine⟨x,h.cT,h.ew,h.az,h.len,h.iC,?_,h.ro.du fun y bE=>setRow_other _ _ _ _ fun e=>fB (e▸h.ext.sub _ (h.iP y bE)),fun r aw=>(h.rw r aw).du fun k aA=>setRow_other _ _ _ _ fun e=>(h.gS r aw k aA).2 b hm e.symm,h.iP,fun y bE=>?_,fun r aw k aA=>⟨(h.gS r aw k aA).1,fun y bE=>?_⟩,Vu ρ s2 h.dc,h.lA,h.kn,h.sub,h.mK,h.ext.trans x⟩
 ·intro y bE;unfold b4.at;rcases s1 y bE with e|e
  ·subst e;exact setRow_heap W.w _ _ _ _ (0,0) kz
  ·have:=h.hp y e.1;unfold b4.at at this;rw[<-this];exact setRow_other _ _ _ _ e.2
 ·rcases s1 y bE with e|e
  ·subst e;exact fB
  ·exact h.own y e.1
 ·rcases s1 y bE with e|e
  ·subst e;exact(h.gS r aw k aA).2 b hm
  ·exact(h.gS r aw k aA).2 y e.1
def yD (ρ:aX) (r q:b3):Prop:=∀k,dk ρ r=some k->dk ρ q≠some k
theorem Da {ρ:aX} {a b:b3} (h:yD ρ a b):yD ρ b a:=fun k aA dC=>h k dC aA
theorem uA:∀{rw:List b3} {v:af} {r:b3},pK rw v=some r->rw.Perm (r::o7 rw v)∧r.v=v
 |[],_,_,h=>by cases h
 |a::l,v,r,h=>by
  simp only[pK] at h;simp only[o7];split at h
  ·rename_i e;obtain rfl:=bm h;rw[if_pos e];exact⟨List.Perm.refl _,af.jc e⟩
  ·rename_i e;rw[if_neg e];obtain⟨J,an⟩:=uA h;exact⟨(J.cons a).trans (List.Perm.swap ..),an⟩
theorem GA:∀{rw:List b3} {args:List af} {cw:List Nat} {l rest:List b3},AA rw args cw=some (l,rest)->rw.Perm (l++rest)
 |rw,args,[],l,rest,h=>by
  have e:=bm h;injection e with a7 bh
  subst a7 bh;exact List.Perm.refl _
 |rw,args,p::cw,l,rest,h=>by
  simp only[AA] at h;split at h
  ·exact GA h
  ·split at h
   ·rename_i r bs;split at h
    ·rename_i fx je bP;have e:=bm h;injection e with a7 bh
     subst a7 bh;exact(uA bs).1.trans ((GA bP).cons r)
    ·cases h
   ·cases h
  ·cases h
theorem nB {ρ:aX} {rw:List b3} {k:Nat}:k∈iO ρ rw↔∃r∈rw,dk ρ r=some k:=List.mem_filterMap
theorem Db:∀{l:List b3} {a:Nat} {r:b3},rowAt l a=some r->∃n c,r.v= .bt a n c
 |[],_,_,h=>by cases h
 |q::l,a,r,h=>by
  simp only[rowAt] at h;split at h
  ·rename_i b n c bg;split at h
   ·rename_i e;obtain rfl:=bm h;subst e;exact⟨_,_,bg⟩
   ·exact Db h
  ·exact Db h
def al.wa (W:al) (w':World) (h:W.w.heap.size<=w'.heap.size) (ks:List Nat):al:=
 ⟨w',fun b=>W.aV b∨(W.w.heap.size<=b∧b<w'.heap.size∧b∉ks),fun b I=>I.elim (fun J=>lv (W.lt b J) h) (fun J=>J.2.1)⟩
theorem al.Dc (W:al) {w':World} (h:cO W w') (ks:List Nat):Ext W (W.wa w' h.size ks):=⟨h.size,fun _ J=>.inl J,h.du,h.os,h.tape,h.output⟩
theorem al.Lq (W:al) {w':World} (h:W.w.heap.size<=w'.heap.size) (ks:List Nat):Gl W.w.heap.size ks (W.wa w' h ks):=fun _ J an aI=>.inr ⟨J,an,aI⟩
theorem Holds.GB {N:Nat} {W0:al} {ρ:aX} {s:bC} {a:Act} {W:al} (h:Holds N W0 ρ s a W) {ly rest:List b3} (hp:s.rw.Perm (ly++rest)) {b:Nat} (bf:W.aV b):b∉iO ρ ly:=fun I=>by
 obtain⟨r,aw,aA⟩:=nB.1 I;exact(h.gS r (hp.mem_iff.2 (ua _ aw)) b aA).1 bf
theorem Holds.Lr {N:Nat} {W0:al} {ρ d:aX} {s:bC} {a:Act} {W:al} (h:Holds N W0 ρ s a W) (bc:s.ok=true) (a_:d.ew) {ly rest iB:List b3} (hp:s.rw.Perm (ly++rest)) {w':World} (aA:cO (W.fz (iO ρ ly)) w')
  (cB:Aq N W.w.heap.size (iO ρ ly) (ρ.push d) iB w'):
  ∃bD:cO W w',Holds N W0 (ρ.push d) {s with rw:=iB++rest,c:=s.c.add d.cT} a (W.wa w' bD.size (iO (ρ.push d) iB)):=by
 have bk:=h.push bc a_;have bD:cO W w':=aA.eP rfl fun b I=>⟨W.lt b I,h.GB hp I⟩
 refine⟨bD,?_⟩;have x:=W.Dc bD (iO (ρ.push d) iB);have GC:∀r∈ly,r∈s.rw:=fun r aw=>hp.mem_iff.2 (ua _ aw)
 have kP:∀r∈rest,r∈s.rw:=fun r aw=>hp.mem_iff.2 (ub _ aw)
 have pN:∀q∈s.rw,dk (ρ.push d) q=dk ρ q:=fun q bg=>by
  simp only[bC.ok,bT] at bc;exact qt (by rw[h.cT];exact ep.1 bc.1.2 q bg)
 have ou:∀b∈s.hp,aR (ρ.push d).M b.m 0=aR ρ.M b.m 0:=fun b I=>by
  simp only[bC.ok,bT] at bc;have:=ep.1 bc.1.1.1.2 b I;simp only[b4.ok,bT] at this;exact o6 (by rw[h.cT];exact of_decide_eq_true this.1)
 have e2:(ly++rest).Pairwise (yD ρ):=(hp.pairwise_iff (fun ri=>Da ri)).1 h.lA
 have Ls:∀q∈rest,∀k,dk ρ q=some k->k∉iO ρ ly:=fun q bg k dC hm=>by
  obtain⟨r,aw,wb⟩:=nB.1 hm;exact(vB.1 e2).2.2 r aw q bg k wb dC
 have Vw:∀r∈iB,∀k,dk (ρ.push d) r=some k->¬(W.wa w' bD.size (iO (ρ.push d) iB)).aV k∧∀b∈s.hp,aR (ρ.push d).M b.m 0≠k:=fun r aw k wb=>by
  rcases cB.new r aw k wb with J|J
  ·refine⟨?_,fun b I=>?_⟩
   ·rintro (bf|⟨_,_,cc⟩)
    ·have:=W.lt _ bf;omega
    ·exact cc (nB.2 ⟨r,aw,wb⟩)
   ·rw[ou b I];have:=h.hp.lt I;omega
  ·obtain⟨q,bg,wc⟩:=nB.1 J;have an:=h.gS q (GC q bg) k wc;refine⟨?_,fun b I=>by rw[ou b I];exact an.2 b I⟩;rintro (bf|⟨aI,_,cc⟩)
   ·exact an.1 bf
   ·exact cc (nB.2 ⟨r,aw,wb⟩)
 refine⟨bk.cT,bk.ew,bk.az,bk.len,bk.iC,?_,bk.ro.du fun b I=>x.du _ (bk.ext.sub _ (bk.iP b I)),?_,bk.iP,?_,?_,bk.dc,?_,bk.kn,fun b bf=>?_,bk.mK,bk.ext.trans x⟩
 ·refine fA.du bk.hp fun b I=>aA.du _ ⟨bk.hp.lt I,fun hm=>?_⟩
  obtain⟨r,aw,wb⟩:=nB.1 hm;exact(h.gS r (GC r aw) _ wb).2 b I (ou b I).symm
 ·intro r aw;rcases mE.1 aw with J|J
  ·exact cB.at_ r J
  ·refine(bk.rw r (kP r J)).du fun k dC=>aA.du _ ⟨((bk.rw r (kP r J)).lt dC).2,?_⟩
   rw[pN r (kP r J)] at dC;exact Ls r J k dC
 ·intro b I;rintro (bf|⟨J,_⟩)
  ·exact bk.own b I bf
  ·have:=bk.hp.lt I;omega
 ·intro r aw k dC;rcases mE.1 aw with J|J
  ·exact Vw r J k dC
  ·refine⟨?_,(bk.gS r (kP r J) k dC).2⟩;rintro (bf|⟨an,_⟩)
   ·exact(bk.gS r (kP r J) k dC).1 bf
   ·have:=((bk.rw r (kP r J)).lt dC).2;omega
 ·refine vB.2 ⟨cB.e2,?_,fun r aw q bg k dC e6=>?_⟩
  ·refine(Ab.1 (vB.1 e2).2.1).imp ?_;rintro r q ⟨aw,bg,GD⟩ k dC e6;rw[pN r (kP r aw)] at dC;rw[pN q (kP q bg)] at e6;exact GD k dC e6
  ·have fr:=((bk.rw q (kP q bg)).lt e6).2;rw[pN q (kP q bg)] at e6;rcases cB.new r aw k dC with J|J
   ·omega
   ·exact Ls q bg k e6 J
 ·rcases bf with J|J
  ·exact bk.sub b J
  ·exact .inr (iz bk.q_ J.1)
theorem Lt {l vs:List Value} {k:Nat} (h:k+vs.length<=l.length):(hg l k vs).length=l.length:=by simp[hg];omega
theorem Vx {l vs:List Value} {k m:Nat} (h:k+vs.length<=m) (hm:m<=l.length):(hg l k vs).take m=hg (l.take m) k vs:=by
 unfold hg;rw[List.take_take,Nat.min_eq_left (by omega),List.drop_take,jW,jW,List.take_append,List.take_append];have J:(l.take k).take m=l.take k:=by rw[List.take_take,Nat.min_eq_right (by omega)]
 have an:(l.take k).length=k:=by rw[mX];omega
 rw[J,an,sQ (l:=vs) (by omega)];congr 2;rw[show m-k-vs.length=m-(k+vs.length) from by omega]
theorem Vy {l vs:List Value} {k:Nat} {u:Value} (h:u∈hg l k vs):u∈l∨u∈vs:=by
 unfold hg at h;rcases mE.1 h with h|h
 ·rcases mE.1 h with h|h
  ·exact .inl (rY h)
  ·exact .inr h
 ·exact .inl (vC h)
theorem Holds.Lu {N:Nat} {W0:al} {ρ:aX} {s:bC} {a:Act} {W:al} (h:Holds N W0 ρ s a W) (bc:s.ok=true) {q:b3} {rest:List b3} (ov:s.rw.Perm (q::rest)) (we:q.ok s.c=true) {aa:Nat} {n c:E} (r8:q.v= .bt aa n c) {k:Nat} {us:List Value}
  (qx:q.v.ak ρ≠ .slice none 0 0) (te:k+us.length<=(q.n.i ρ).toNat*q.sz) (iS:∀u∈us,u.oneCell'=true):
  ∃g cap cur,aR ρ.A aa none=some ⟨g,0,none⟩∧W.w.heap[g]? =some (.cells cur q.e (0,0))∧cur.size=cap*q.sz∧k+us.length<=cur.size∧
   Ext W (W.row g (hg cur.toList k us).toArray)∧
   Holds N W0 (ρ.push {L:=[hg (dF ρ q.xs) k us]}) {s with rw:={q with xs:=[.l s.c.L]}::rest,c:=s.c.add {L:=1}} a (W.row g (hg cur.toList k us).toArray):=by
 have kC:q∈s.rw:=ov.mem_iff.2 (c6 ..);have kP:∀r∈rest,r∈s.rw:=fun r aw=>ov.mem_iff.2 (dq _ aw)
 have e2:(q::rest).Pairwise (yD ρ):=(ov.pairwise_iff (fun ri=>Da ri)).1 h.lA;rw[od] at e2;obtain⟨kz,Vz⟩:=h.rw q kC;obtain⟨eU,hi⟩:=kz;rcases hi with⟨GF,uB⟩|⟨g,cap,cur,aB,Lv,bP,yE,AB,j5,wg⟩
 ·exact absurd GF qx
 have ee:aR ρ.A aa none=some ⟨g,0,none⟩:=by
  rw[r8] at aB;simp only[af.ak] at aB;injection aB
 have fB:dk ρ q=some g:=by unfold dk;rw[aB];rfl
 have qy:(q.n.i ρ).toNat*q.sz<=cur.size:=by rw[j5];exact sR _ yE
 generalize hz:hg (dF ρ q.xs) k us=L;refine⟨g,cap,cur,ee,bP,j5,by omega,?_⟩;generalize Lw:hg cur.toList k us=Dd;have Lx:=h.gS q kC g fB;have x:Ext W (W.row g Dd.toArray):=⟨by simp[al.row],fun _ h=>h,fun b I=>setRow_other _ _ _ _ (fun e=>Lx.1 (e▸I)),rfl,rfl,rfl⟩;have a_:({L:=[L]}:aX).ew:=fun v aB=>by cases aB
 have hp:=h.push bc a_
 have pN:∀r∈s.rw,dk (ρ.push {L:=[L]}) r=dk ρ r:=fun r aw=>by
  simp only[bC.ok,bT] at bc;exact qt (by rw[h.cT];exact ep.1 bc.1.2 r aw)
 have Ly:=b3.push (d:={L:=[L]}) (r:=q) (by rw[h.cT];exact we)
 have yF:aR (ρ.push {L:=[L]}).L s.c.L []=L:=by
  show aR (ρ.L++[L]) s.c.L []=L;rw[<-h.cT];exact lC _ _ _
 have AD:dF (ρ.push {L:=[L]}) [.l s.c.L]=L:=by simp[dF,dV.ak,yF]
 have ou:∀b∈s.hp,aR (ρ.push {L:=[L]}).M b.m 0=aR ρ.M b.m 0:=fun b I=>by
  simp only[bC.ok,bT] at bc;have:=ep.1 bc.1.1.1.2 b I;simp only[b4.ok,bT] at this;exact o6 (by rw[h.cT];exact of_decide_eq_true this.1)
 refine⟨x,?_⟩;refine⟨hp.cT,hp.ew,hp.az,hp.len,hp.iC,hp.hp.du fun b I=>setRow_other _ _ _ _ fun e=>?_,hp.ro.du fun b I=>x.du _ (hp.ext.sub _ (hp.iP b I)),?_,hp.iP,hp.own,?_,hp.dc,?_,hp.kn,hp.sub,hp.mK,hp.ext.trans x⟩
 ·rw[ou b I] at e;exact Lx.2 b I e
 ·intro r aw;rcases dh.1 aw with e|e
  ·subst e;refine⟨?_,?_⟩
   ·show World.ownsRow _ _ q.e q.sz (q.v.ak _) (q.n.i _).toNat (dF _ [.l s.c.L]);rw[Ly.1,Ly.2.1,AD,<-hz];refine⟨?_,.inr ⟨g,cap,Dd.toArray,aB,Lv,setRow_heap _ _ _ _ _ _ bP,yE,AB,?_,?_⟩⟩
    ·rw[Lt (by rw[eU];exact te),eU]
    ·rw[<-Lw,List.size_toArray,Lt (by rw[sS];exact iz te qy),sS,j5]
    ·show Dd.take _=_;rw[<-Lw,Vx te (by rw[sS];exact qy),wg]
   ·show∀u∈dF _ [.l s.c.L],_;rw[AD,<-hz];intro u hu;rcases Vy hu with bu|bu
    ·exact Vz u bu
    ·exact iS u bu
  ·refine(hp.rw r (kP r e)).du fun dA dC=>setRow_other _ _ _ _ fun bh=>?_
   rw[pN r (kP r e)] at dC;subst bh;exact e2.1 r e _ fB dC
 ·intro r aw dA dC;rcases dh.1 aw with e|e
  ·subst e;have c8:dk (ρ.push {L:=[L]}) q=some dA:=dC;exact hp.gS q kC dA c8
  ·exact hp.gS r (kP r e) dA dC
 ·show List.Pairwise _ (_::rest);rw[od];refine⟨fun r aw dA dC e6=>?_,?_⟩
  ·have c8:dk (ρ.push {L:=[L]}) q=some dA:=dC;rw[pN q kC] at c8;rw[pN r (kP r aw)] at e6;exact e2.1 r aw dA c8 e6
  ·refine(Ab.1 e2.2).imp ?_;rintro r j6 ⟨aw,r9,GD⟩ dA dC e6;rw[pN r (kP r aw)] at dC;rw[pN j6 (kP j6 r9)] at e6;exact GD dA dC e6
theorem Holds.j0 {N:Nat} {W0:al} {ρ:aX} {s:bC} {a:Act} {W:al} (h:Holds N W0 ρ s a W) (bc:s.ok=true) {q:b3} {rest:List b3} (ov:s.rw.Perm (q::rest)) (we:q.ok s.c=true) {aa:Nat} {n c:E} (r8:q.v= .bt aa n c) {i:E} {o:Nat} {vs:List af}
  (bk:0<=i.i ρ) (J:i.i ρ<q.n.i ρ) (bb:o+vs.length<=q.sz) (iS:∀u∈af.b2 ρ vs,u.oneCell'=true) (d:Option Nat):
  ∃g cap cur,aR ρ.A aa none=some ⟨g,0,none⟩∧W.w.heap[g]? =some (.cells cur q.e (0,0))∧cur.size=cap*q.sz∧((i.i ρ).toNat*q.sz+o)+vs.length<=cur.size∧
   Ext W (W.row g (hg cur.toList ((i.i ρ).toNat*q.sz+o) (af.b2 ρ vs)).toArray)∧
   Holds N W0 (ρ.push {L:=[hg (dF ρ q.xs) ((i.i ρ).toNat*q.sz+o) (af.b2 ρ vs)]}) (r7 s d q rest) (a.put d undef) (W.row g (hg cur.toList ((i.i ρ).toNat*q.sz+o) (af.b2 ρ vs)).toArray):=by
 have De:(af.b2 ρ vs).length=vs.length:=by simp[af.jF]
 have kC:q∈s.rw:=ov.mem_iff.2 (c6 ..)
 obtain⟨g,cap,cur,b0,bZ,eG,gu,gU,il⟩:=h.Lu bc ov we r8 (k:=(i.i ρ).toNat*q.sz+o) (us:=af.b2 ρ vs) (fun qx=>by
   obtain⟨⟨_,hi⟩,_⟩:=h.rw q kC;rcases hi with⟨_,uB⟩|⟨g,cap,cur,aB,_⟩
   ·omega
   ·rw[aB] at qx;cases qx) (by
   have a7:(i.i ρ).toNat+1<=(q.n.i ρ).toNat:=by omega
   have bh:=sR q.sz a7;rw[sT,Nat.one_mul] at bh;omega) iS
 rw[De] at gu;exact⟨g,cap,cur,b0,bZ,eG,gu,gU,il.put d undef (some tb) (fun y bE=>by obtain rfl:=bm bE;rfl)⟩
theorem Lz:∀{l:List b4} {m:Nat},jG l m=none->∀b∈l,b.m≠m
 |[],_,_,_,I=>by cases I
 |a::l,m,h,b,I=>by
  simp only[jG] at h;split at h
  ·cases h
  ·rename_i e;rcases dh.1 I with bh|bh
   ·subst bh;exact e
   ·exact Lz h b bh
theorem Df {ρ:aX}:∀{hp:List b4},(hp.Pairwise fun a b=>aR ρ.M a.m 0≠aR ρ.M b.m 0)->∀{a b:b4},a∈hp->b∈hp->a.m≠b.m->aR ρ.M a.m 0≠aR ρ.M b.m 0
 |[],_,_,_,h,_,_=>by cases h
 |x::l,hp,a,b,bl,I,iA=>by
  rw[od] at hp;rcases dh.1 bl with e|e<;>rcases dh.1 I with bh|bh
  ·subst e bh;exact absurd rfl iA
  ·subst e;exact hp.1 b bh
  ·subst bh;exact fun h=>hp.1 a e h.symm
  ·exact Df hp.2 e bh iA
theorem Holds.r_ {N:Nat} {W0:al} {ρ d:aX} {s:bC} {a:Act} {W:al} (h:Holds N W0 ρ s a W) (bc:s.ok=true) (a_:d.ew) {mu:List b4} (uC:Az s.hp mu=true) {w':World} (aA:cO (W.fz (qs ρ mu)) w') (kz:fA (ρ.push d) mu w'):
  ∃bD:cO W w',Holds N W0 (ρ.push d) {s with hp:=s.hp.map (qv mu),c:=s.c.add d.cT} a (W.next w' bD.size):=by
 have bk:=h.push bc a_
 have min:∀b∈mu,∃cm∈s.hp,cm.m=b.m:=fun b I=>by
  have:=ep.1 uC b I;cases bs:jG s.hp b.m with
  |none=>rw[bs] at this;cases this
  |some cm=>exact⟨cm,(mH bs).1,(mH bs).2⟩
 have ou:∀b∈s.hp,aR (ρ.push d).M b.m 0=aR ρ.M b.m 0:=fun b I=>by
  simp only[bC.ok,bT] at bc;have:=ep.1 bc.1.1.1.2 b I;simp only[b4.ok,bT] at this;exact o6 (by rw[h.cT];exact of_decide_eq_true this.1)
 have GG:∀k∈qs ρ mu,∃cm∈s.hp,k=aR ρ.M cm.m 0∧∃b∈mu,b.m=cm.m:=fun k aA=>by
  obtain⟨b,I,rfl⟩:=h7.1 aA;obtain⟨cm,J,an⟩:=min b I;exact⟨cm,J,by rw[an],b,I,an.symm⟩
 have VA:∀b,W.aV b->b∉qs ρ mu:=fun b bf I=>by
  obtain⟨cm,J,rfl,_⟩:=GG b I;exact h.own cm J bf
 have bD:cO W w':=aA.eP rfl fun b I=>⟨W.lt b I,VA b I⟩
 refine⟨bD,?_⟩;have x:=W.kO bD
 have eb:∀b∈s.hp,jG mu b.m=none->w'.heap[aR ρ.M b.m 0]? =W.w.heap[aR ρ.M b.m 0]? :=fun b I cB=>by
  refine aA.du _ ⟨h.hp.lt I,fun ik=>?_⟩;obtain⟨cm,J,an,fk,yG,aI⟩:=GG _ ik;exact Df h.dc I J (fun e=>Lz cB fk yG (aI.trans e.symm)) an
 have hm:∀b,(qv mu b).m=b.m:=fun b=>by
  unfold qv;split
  ·rename_i pI e;exact(mH e).2
  ·rfl
 refine⟨bk.cT,bk.ew,bk.az,bk.len,bk.iC,?_,bk.ro.du fun b I=>x.du _ (bk.ext.sub _ (bk.iP b I)),fun r aw=>(bk.rw r aw).du fun k dC=>?_,bk.iP,?_,?_,?_,bk.lA,bk.kn,fun b bf=>?_,bk.mK,bk.ext.trans x⟩
 ·intro y bE;obtain⟨b,I,rfl⟩:=h7.1 bE;unfold qv;split
  ·rename_i pI e;exact kz pI (mH e).1
  ·rename_i e;have:=bk.hp b I;unfold b4.at at*;rw[ou b I] at*;rw[show(W.next w' bD.size).w.heap[aR ρ.M b.m 0]? =W.w.heap[aR ρ.M b.m 0]? from eb b I e];exact this
 ·refine aA.du _ ⟨((bk.rw r aw).lt dC).2,fun ik=>?_⟩;obtain⟨cm,J,an,_⟩:=GG _ ik;have:=(bk.gS r aw k dC).2 cm J;rw[ou cm J] at this;exact this an.symm
 ·intro y bE;obtain⟨b,I,rfl⟩:=h7.1 bE;rw[hm];rintro (bf|⟨J,_⟩)
  ·exact bk.own b I bf
  ·have:=bk.hp.lt I;omega
 ·intro r aw k dC;refine⟨?_,fun y bE=>?_⟩
  ·rintro (bf|⟨J,_⟩)
   ·exact(bk.gS r aw k dC).1 bf
   ·have:=((bk.rw r aw).lt dC).2;omega
  ·obtain⟨b,I,rfl⟩:=h7.1 bE;rw[hm];exact(bk.gS r aw k dC).2 b I
 ·rw[vA];exact bk.dc.imp fun ri=>by rw[hm,hm];exact ri
 ·rcases bf with J|J
  ·exact bk.sub b J
  ·exact .inr (iz bk.q_ J.1)
theorem LA {N:Nat} {W0:al} {ρ:aX} {s:bC} {a:Act} {W:al} (h:Holds N W0 ρ s a W) {mu:List b4} (uC:Az s.hp mu=true) (args:List af):Ar ρ W (mb (s.hp++s.ro) args) mu:=by
 refine⟨fun x j b I iA=>?_,fun b I=>?_⟩;rotate_left
 ·have qz:=ep.1 uC b I;cases bs:jG s.hp b.m with
  |none=>rw[bs] at qz;cases qz
  |some cm=>
   obtain⟨f1,f2⟩:=mH bs;rw[<-f2];exact h.own cm f1
 have yH:=(lJ.1 j).1;have qz:=ep.1 uC b I;cases bs:jG s.hp b.m with
 |none=>rw[bs] at qz;cases qz
 |some cm=>
  obtain⟨f1,f2⟩:=mH bs;rcases mE.1 yH with J|J
  ·have:=Df h.dc J f1 (by rw[f2];exact iA);rw[f2] at this;exact this
  ·intro e;refine h.own cm f1 ?_;rw[f2,<-e];exact h.ext.sub _ (h.iP x J)
variable {P:Program}
theorem qA {s:bC} {t:TypeId} {x:Operand} {lo a8 s7:Option Operand} {e:pL} (h:Av P s t x lo a8 s7=some e):(∃a lo a8 c n sz,e= .sub a lo a8 c n sz)∨∃a n c,e= .m_ a n c:=by
 unfold Av at h
 (repeat' split at h)<;>first|(cases h;done)|(obtain rfl:=(bm h).symm;first|exact .inl ⟨_,_,_,_,_,_,rfl⟩|exact .inr ⟨_,_,_,rfl⟩)
theorem qB {s:bC} {args:List Operand} {ts:List TypeId} {e:pL} (h:yB P s args ts=some e):(∃r rest k xs b,e= .eu r rest k xs b)∨∃r rest a k c b,e= .v8 r rest a k c b:=by
 unfold yB at h
 (repeat' split at h)<;>first|(cases h;done)|(obtain rfl:=(bm h).symm;first|exact .inl ⟨_,_,_,_,_,rfl⟩|exact .inr ⟨_,_,_,_,_,_,rfl⟩)
theorem pO {s:bC} {f:Operand} {args:List Operand} {e:pL} (h:Aw P s f args=some e):∃g l,e= .call g l:=by
 unfold Aw at h
 (repeat' split at h)<;>first|(cases h;done)|(obtain rfl:=(bm h).symm;exact⟨_,_,rfl⟩)
theorem o8 {s:bC} {c:Call} {e:pL} (h:Gu P s c=some e):(∃f,c.callee= .value f∧Aw P s f c.args.toList=some e)∨(c.callee= .builtin .append∧yB P s c.args.toList c.argTypes.toList=some e):=by
 unfold Gu at h;split at h
 ·rename_i f bs;exact .inl ⟨f,bs,h⟩
 ·rename_i b I;split at h
  ·exact .inr ⟨I,h⟩
  ·cases h
 ·cases h
theorem yI {N:Nat} {W0:al} {ρ:aX} {s:bC} {a:Act} {W:al} (h:Holds N W0 ρ s a W) {o:Oper} {ty:TypeId} {cs:List af} {v:af} (j:hy P s o.op=some (.new ty cs v)) {ρ':aX} (wh:aR ρ'.M s.c.M 0=W.w.heap.size):
  (execOp a.eval o).run P W.w= .ok (.value (v.ak ρ')) (W.w.alloc (.cells (af.b2 ρ cs).toArray ty)):=by
 obtain⟨dst,op,kD,pos,after,guard⟩:=o;dsimp only at j;cases op<;>simp only[hy] at j<;>try (cases j;done)
 case alloc t=>
  split at j
  ·rename_i z cS;have e:=bm j;injection e with a7 bh c8
   subst a7 bh c8;obtain⟨it,eh,AE⟩:=vD.1 cS;simp[execOp,Instr.alloc,zeroValue,typeInfo,eh,AE,newVar,newRow,yn,af.ak,wh]
  ·cases j
 case box t x=>
  split at j
  ·rename_i l aO;have e:=bm j;injection e with a7 bh c8
   subst a7 bh c8;obtain⟨y,bE,aH⟩:=vD.1 aO;have J:=(af.CR h.ew aH).1;simp[execOp,Instr.box,newVar,newRow,h.az _ _ bE,J,af.ak,wh]
  ·cases j
 case buildSlice t len cw=>
  split at j
  ·rename_i el l hu aO;split at j
   ·rename_i dZ ma;split at j
    ·rename_i z cS;split at j
     ·rename_i eU;obtain⟨r,aw,e⟩:=hI.1 j;injection e with a7 bh c8
      subst a7 bh c8;have J:=CY (ρ:=ρ) h.ew _ l _ r aw;rw[yn,Array.toArray_toList] at J;have an:=CX h.az _ _ aO;have aI:(cw.map fun p=>(p.1,a.eval p.2)).toList=l.map fun p=>(p.1,p.2.ak ρ):=by rw[sP,an]
      have bD:(sizeOf el).run P W.w= .ok dZ.size W.w:=by simp[sizeOf,typeInfo,ma]
      have AF:(zeroValue el).run P W.w= .ok z W.w:=by simp[zeroValue,typeInfo,ma,cS]
      have gv:¬(len*dZ.size>2^24):=by omega
      simp only[execOp,Instr.buildSlice,Sem.run_bind,run_underlying hu,Result.andThen_ok,bD,Sem.run_pure,aI];rw[if_neg gv]
      by_cases bk:len*dZ.size=0
      ·simp only[bk,if_true,Sem.run_pure,Sem.run_bind,Result.andThen_ok];simp only[bk] at J;have fy:∀f:Nat->Value,(Array.range 0).map f=#[]:=fun f=>by simp
       rw[fy] at J;rw[fy,J];simp[newRow,af.ak,wh]
      ·simp only[bk,if_false,Sem.run_bind,AF,Result.andThen_ok,Sem.run_pure];rw[J];simp[newRow,af.ak,wh]
     ·cases j
    ·cases j
   ·cases j
  ·cases j
 case makeSlice t l c=>
  split at j
  ·rename_i el n fZ hu aO aH;split at j
   ·rename_i dZ ma;split at j
    ·rename_i z cS;split at j
     ·rename_i cB;have e:=bm j;injection e with a7 bh c8
      subst a7 bh c8;obtain⟨rfl,bk,an⟩:=cB
      have key:∀x:Operand,qp (o2 s.az (some x)) 0=some n->∃k,a.eval x= .int k (n:Int):=fun x j=>by
       unfold o2 at j;dsimp only at j;split at j
       ·rename_i k e he;unfold qp at j;split at j
        ·rename_i bu;injection bu with hs;cases hs
        ·rename_i dA m bu;obtain rfl:=bm j;injection bu with hs
         injection hs with k7
         injection k7 with nC yJ
         subst nC yJ;exact⟨_,h.az _ _ he⟩
        ·cases j
       ·cases j
      obtain⟨js,gC⟩:=key l aO;obtain⟨cW,sa⟩:=key c aH
      have VB:((dZ.bytes:Int)*(n:Int))<=281474976710656:=by
       have:((dZ.bytes*n:Nat):Int)<=100000:=by omega
       rw[Int.natCast_mul] at this;omega
      have aw:=run_make (P:=P) W.w t el dZ z hu ma cS js cW n n (by omega) (qf _) VB (by omega);simp only[ih] at aw;simp[execOp,gC,sa,aw,yn,af.ak,wh]
     ·cases j
    ·cases j
   ·cases j
  ·obtain⟨_,_,_,_,_,e⟩:=ot j;cases e
 case slice=>rcases qA j with⟨_,_,_,_,_,_,e⟩|⟨_,_,_,e⟩<;>cases e
 case call c=>
  rcases o8 j with⟨f,_,J⟩|⟨_,J⟩
  ·obtain⟨_,_,e⟩:=pO J;cases e
  ·rcases qB J with⟨_,_,_,_,_,e⟩|⟨_,_,_,_,_,_,e⟩<;>cases e
 all_goals ((repeat' split at j)<;>first|(cases j;done)|(obtain⟨r,aw,e⟩:=hI.1 j;cases e;done)|(obtain⟨_,_,_,_,_,e⟩:=ot j;cases e;done)|skip)
theorem LB {N:Nat} {W0:al} {ρ:aX} {s:bC} {a:Act} {W:al} (h:Holds N W0 ρ s a W) {o:Oper} {m:Nat} {cs:List af} (j:hy P s o.op=some (.uz m cs)):
  (∃b,jG s.hp m=some b)∧(execOp a.eval o).run P W.w= .ok .skip (W.w.setRow (aR ρ.M m 0) (af.b2 ρ cs).toArray):=by
 obtain⟨dst,op,kD,pos,after,guard⟩:=o;dsimp only at j;cases op<;>simp only[hy] at j<;>try (cases j;done)
 case store t p x=>
  split at j
  ·rename_i wi off vs n hp aB cB;split at j
   ·rename_i b I;split at j
    ·rename_i aO;have e:=bm j;injection e with a7 bh
     subst a7 bh;obtain⟨y,bE,aH⟩:=vD.1 aB;obtain⟨hm,rfl⟩:=mH I;have kz:=h.hp b hm;unfold b4.at at kz;refine⟨⟨b,I⟩,?_⟩;have:=F7 (P:=P) h.ew aH cB aO.1 aO.2 kz;simp[execOp,Instr.storeAt,Instr.sureAddr,h.az _ _ hp,af.ak,h.az _ _ bE,this]
    ·cases j
   ·cases j
  ·(repeat' split at j)<;>cases j
  ·cases j
 case slice=>rcases qA j with⟨_,_,_,_,_,_,e⟩|⟨_,_,_,e⟩<;>cases e
 case call c=>
  rcases o8 j with⟨f,_,J⟩|⟨_,J⟩
  ·obtain⟨_,_,e⟩:=pO J;cases e
  ·rcases qB J with⟨_,_,_,_,_,e⟩|⟨_,_,_,_,_,_,e⟩<;>cases e
 all_goals ((repeat' split at j)<;>first|(cases j;done)|(obtain⟨r,aw,e⟩:=hI.1 j;cases e;done)|(obtain⟨_,_,_,_,_,e⟩:=ot j;cases e;done)|skip)
theorem LC {N:Nat} {W0:al} {ρ:aX} {s:bC} {a:Act} {W:al} (h:Holds N W0 ρ s a W) (bc:s.ok=true) {o:Oper} {q:b3} {rest:List b3} {i:E} {b z:Nat} {vs:List af} (j:hy P s o.op=some (.j0 q rest i b z vs))
  (we:q.ok s.c=true) (bk:0<=i.i ρ) (J:i.i ρ<q.n.i ρ):
  ∃w' W',(execOp a.eval o).run P W.w= .ok .skip w'∧W'.w=w'∧Ext W W'∧Holds N W0 (ρ.push {L:=[hg (dF ρ q.xs) ((i.i ρ).toNat*z+b) (af.b2 ρ vs)]}) (r7 s o.dst q rest) (a.put o.dst undef) W'∧s.rw.Perm (q::rest)∧∃g arr,dk ρ q=some g∧W'=W.row g arr:=by
 obtain⟨dst,op,kD,pos,after,guard⟩:=o;dsimp only at j;cases op<;>simp only[hy] at j<;>try (cases j;done)
 case store t p x=>
  split at j
  ·(repeat' split at j)<;>cases j
  ·rename_i aa i' yK hb lz n hp aB cB;split at j
   ·rename_i r aw;split at j
    ·rename_i k8 wj;split at j
     ·rename_i aO;have e:=bm j;injection e with a7 bh c8 gj hx ow
      subst a7 bh c8 gj hx ow;obtain⟨sb,tf,yL⟩:=aO;obtain⟨y,bE,aH⟩:=vD.1 aB;obtain⟨ox,qC⟩:=uA wj;obtain⟨dd,qD,yM⟩:=Db aw;obtain⟨aJ,c2⟩:=af.CR h.ew aH
      have iS:∀u∈af.b2 ρ lz,u.oneCell'=true:=fun v aB=>by
       rw[af.jF] at aB;obtain⟨x,j,rfl⟩:=h7.1 aB;exact af.Ag h.ew _ (c2 x j)
      obtain⟨g,cap,cur,b0,bZ,eG,gu,gU,il⟩:=h.j0 bc ox we (qC.trans yM) bk J (o:=hb) (vs:=lz) (by rw[yL];omega) iS dst;rw[yL] at gu gU il;refine⟨_,_,?_,rfl,gU,il,ox,g,_,by simp[dk,qC.trans yM,af.ak,b0,Value.ownBlock],rfl⟩;have De:(af.b2 ρ lz).length=lz.length:=by simp[af.jF]
      have aI:=run_storeCells_at P g ((i'.i ρ).toNat*yK+hb) k8.e (af.b2 ρ lz) 0 cur W.w bZ (by rw[De];omega) iS;have k4:(y.ak ρ).cells.size=n:=by rw[aJ];simp[af.jF,sb]
      have jH:(storeVar t ⟨g,(i'.i ρ).toNat*yK+hb,none⟩ (y.ak ρ)).run P W.w= .ok () (W.w.setRow g (hg cur.toList ((i'.i ρ).toNat*yK+hb) (af.b2 ρ lz)).toArray):=by
       simp only[storeVar,Sem.run_bind,jr cB,Result.andThen_ok];rw[if_neg (by rw[k4];simp)];rw[aJ,aI];simp[hg]
      have LD:=h.az _ _ hp;simp only[af.ak,b0,ny,ky,mY] at LD;simp[execOp,Instr.storeAt,Instr.sureAddr,LD,h.az _ _ bE,jH,al.row]
     ·cases j
    ·cases j
   ·cases j
  ·cases j
 case slice=>rcases qA j with⟨_,_,_,_,_,_,e⟩|⟨_,_,_,e⟩<;>cases e
 case call c=>
  rcases o8 j with⟨f,_,J⟩|⟨_,J⟩
  ·obtain⟨_,_,e⟩:=pO J;cases e
  ·rcases qB J with⟨_,_,_,_,_,e⟩|⟨_,_,_,_,_,_,e⟩<;>cases e
 all_goals ((repeat' split at j)<;>first|(cases j;done)|(obtain⟨r,aw,e⟩:=hI.1 j;cases e;done)|(obtain⟨_,_,_,_,_,e⟩:=ot j;cases e;done)|skip)
theorem LF {N:Nat} {W0:al} {ρ:aX} {s:bC} {a:Act} {W:al} (h:Holds N W0 ρ s a W) (bc:s.ok=true) {o:Oper} {q:b3} {rest:List b3} {i:E} {b z:Nat} {vs:List af} (j:hy P s o.op=some (.j0 q rest i b z vs))
  (we:q.ok s.c=true) (bk:0<=i.i ρ) (J:i.i ρ<q.n.i ρ):
  ∃w' W',(execOp a.eval o).run P W.w= .ok .skip w'∧W'.w=w'∧Ext W W'∧Holds N W0 (ρ.push {L:=[hg (dF ρ q.xs) ((i.i ρ).toNat*z+b) (af.b2 ρ vs)]}) (r7 s o.dst q rest) (a.put o.dst undef) W':=by
 obtain⟨w',W',J,an,aI,cc,_⟩:=LC h bc j we bk J;exact⟨w',W',J,an,aI,cc⟩
theorem wk {N:Nat} {W0:al} {ρ:aX} {s:bC} {a:Act} {W:al} (h:Holds N W0 ρ s a W) {o:Oper} {f:FuncId} {args:List af} (j:hy P s o.op=some (.call f args)) (w:World):
  (execOp a.eval o).run P w= .ok (.enter f (af.b2 ρ args).toArray) w:=by
 obtain⟨dst,op,kD,pos,after,guard⟩:=o;dsimp only at j;cases op<;>simp only[hy] at j<;>try (cases j;done)
 case slice=>rcases qA j with⟨_,_,_,_,_,_,e⟩|⟨_,_,_,e⟩<;>cases e
 case call c=>
  rcases o8 j with⟨kN,aH,J⟩|⟨_,J⟩
  ·obtain⟨callee,LG,ts⟩:=c;dsimp only at aH J;subst aH;unfold Aw at J;split at J
   ·rename_i g caps l bs aO;split at J
    ·rename_i fn j7;split at J
     ·rename_i I;have e:=bm J;injection e with a7 bh
      subst a7 bh;have J:=Al h.az _ _ aO;have an:LG.map a.eval=(af.b2 ρ l).toArray:=by rw[<-J,<-sP]
      have aI:fn.body.isNone=false:=by cases hA:fn.body<;>simp_all
      simp only[execOp,resolve,Deferred.ofValue,h.az _ _ bs,af.ak,Sem.run_bind,Sem.run_pure,Result.andThen_ok,an,invoke,callFunc,run_program,j7];simp only[I.2,rX,if_false,aI,Sem.run_pure];simp[af.jF]
     ·cases J
    ·cases J
   ·rename_i g fY l bs aO;split at J
    ·rename_i fn j7;split at J
     ·rename_i I;have e:=bm J;injection e with a7 bh
      subst a7 bh;have J:=Al h.az _ _ aO;have an:LG.map a.eval=(af.b2 ρ l).toArray:=by rw[<-J,<-sP]
      have aI:fn.body.isNone=false:=by cases hA:fn.body<;>simp_all
      simp only[execOp,resolve,Deferred.ofValue,h.az _ _ bs,af.ak,Sem.run_bind,Sem.run_pure,Result.andThen_ok,an,invoke,callFunc,run_program,j7];simp only[I.2,rX,if_false,aI,Sem.run_pure];simp[af.jF]
     ·cases J
    ·cases J
   ·cases J
  ·rcases qB J with⟨_,_,_,_,_,e⟩|⟨_,_,_,_,_,_,e⟩<;>cases e
 all_goals ((repeat' split at j)<;>first|(cases j;done)|(obtain⟨r,aw,e⟩:=hI.1 j;cases e;done)|(obtain⟨_,_,_,_,_,e⟩:=ot j;cases e;done)|skip)
theorem GH {N:Nat} {W0:al} {ρ:aX} {s:bC} {a:Act} {W:al} (h:Holds N W0 ρ s a W) {o:Oper} {t:TypeId} {p:af} (j:hy P s o.op=some (.cl t p)) {w:World} {v:Value}
  (aO:(Instr.loadAt t (p.ak ρ)).run P w= .ok v w):(execOp a.eval o).run P w= .ok (.value v) w:=by
 obtain⟨dst,op,kD,pos,after,guard⟩:=o;dsimp only at j;cases op<;>simp only[hy] at j<;>try (cases j;done)
 case load cR LH=>
  (repeat' split at j)<;>first|(cases j;done)|skip
  all_goals
   have e:=bm j;injection e with a7 bh
   subst a7 bh
  ·rename_i he _ _;simp only[execOp,h.az _ _ he,Sem.run_bind,aO,Result.andThen_ok,Sem.run_pure]
  ·rename_i he;simp only[execOp,h.az _ _ he,Sem.run_bind,aO,Result.andThen_ok,Sem.run_pure]
  ·rename_i he;simp only[execOp,h.az _ _ he,Sem.run_bind,aO,Result.andThen_ok,Sem.run_pure]
 case slice=>rcases qA j with⟨_,_,_,_,_,_,e⟩|⟨_,_,_,e⟩<;>cases e
 case call c=>
  rcases o8 j with⟨f,_,J⟩|⟨_,J⟩
  ·obtain⟨_,_,e⟩:=pO J;cases e
  ·rcases qB J with⟨_,_,_,_,_,e⟩|⟨_,_,_,_,_,_,e⟩<;>cases e
 all_goals ((repeat' split at j)<;>first|(cases j;done)|(obtain⟨r,aw,e⟩:=hI.1 j;cases e;done)|(obtain⟨_,_,_,_,_,e⟩:=ot j;cases e;done)|skip)
theorem GI {N:Nat} {W0:al} {ρ:aX} {s:bC} {a:Act} {W:al} (h:Holds N W0 ρ s a W) {o:Oper} {t:TypeId} {p:af} {r:b3} (j:hy P s o.op=some (.j1 t p r)) {w:World} {v:Value}
  (aO:(Instr.loadAt t (p.ak ρ)).run P w= .ok v w):r∈s.rw∧(execOp a.eval o).run P w= .ok (.value v) w:=by
 obtain⟨dst,op,kD,pos,after,guard⟩:=o;dsimp only at j;cases op<;>simp only[hy] at j<;>try (cases j;done)
 case load cR LH=>
  (repeat' split at j)<;>first|(cases j;done)|skip
  rename_i he _ _ aw;have e:=bm j;injection e with a7 bh c8
  subst a7 bh c8;exact⟨C2 aw,by simp only[execOp,h.az _ _ he,Sem.run_bind,aO,Result.andThen_ok,Sem.run_pure]⟩
 case slice=>rcases qA j with⟨_,_,_,_,_,_,e⟩|⟨_,_,_,e⟩<;>cases e
 case call c=>
  rcases o8 j with⟨f,_,J⟩|⟨_,J⟩
  ·obtain⟨_,_,e⟩:=pO J;cases e
  ·rcases qB J with⟨_,_,_,_,_,e⟩|⟨_,_,_,_,_,_,e⟩<;>cases e
 all_goals ((repeat' split at j)<;>first|(cases j;done)|(obtain⟨r,aw,e⟩:=hI.1 j;cases e;done)|(obtain⟨_,_,_,_,_,e⟩:=ot j;cases e;done)|skip)
theorem VC {N:Nat} {W0:al} {ρ:aX} {s:bC} {a:Act} {W:al} (h:Holds N W0 ρ s a W) {o:Oper} {v:af} (j:hy P s o.op=some (.mJ v)) (w:World):
  (execOp a.eval o).run P w= .halt (.panic (v.ak ρ)) w:=by
 obtain⟨dst,op,kD,pos,after,guard⟩:=o;dsimp only at j;cases op<;>simp only[hy] at j<;>try (cases j;done)
 case panic x=>
  split at j
  ·rename_i cR uD he;have e:=bm j;injection e with a7
   subst a7;simp[execOp,h.az _ _ he,af.ak,Instr.panic,goPanic]
  ·cases j
 case slice=>rcases qA j with⟨_,_,_,_,_,_,e⟩|⟨_,_,_,e⟩<;>cases e
 case call c=>
  rcases o8 j with⟨f,_,J⟩|⟨_,J⟩
  ·obtain⟨_,_,e⟩:=pO J;cases e
  ·rcases qB J with⟨_,_,_,_,_,e⟩|⟨_,_,_,_,_,_,e⟩<;>cases e
 all_goals ((repeat' split at j)<;>first|(cases j;done)|(obtain⟨r,aw,e⟩:=hI.1 j;cases e;done)|(obtain⟨_,_,_,_,_,e⟩:=ot j;cases e;done)|skip)
variable {P:Program}
theorem LI (w:World) (nc:Nat) (t ty e:TypeId) (i:TypeInfo) (z:Value) (bb:P.underlying t=some (.slice e)) (a8:P.info? e=some i) (cS:i.zero=some z) (tg:z.cells.size=i.size) (k4:0<i.size)
  (v:Value) (n:Nat) (xs:List Value) (fB:w.ownsRow nc e i.size v n xs) (x:Value) (m:Nat) (nD:List Value)
  (j:(x= .slice none 0 0∧m=0∧nD=[])∨∃ad c,x= .slice (some ad) m c∧nD.length=m*i.size∧(∀(aj:Nat) u,nD[aj]? =some u->w.cell? (ad.add aj)=some u)∧∀u∈nD,u.oneCell'=true)
  (hm:n+m<=maxLen) (I:(n+m)*i.bytes<=140737488355328) (GJ:nc<=w.heap.size):
  ∃a c w',(Builtin.append_ #[t,t] ty #[v,x]).run P w= .ok (.slice a (n+m) c) w'∧w'.ownsRow nc e i.size (.slice a (n+m) c) (n+m) (xs++nD)∧w.grownBy w' v.ownBlock∧
   (∀k,(Value.slice a (n+m) c).ownBlock=some k->v.ownBlock=some k∨w.heap.size<=k)∧(0<n+m->a.isSome=true):=by
 have mL:∀{u:Value} {w':World} {k:Nat} {l:List Value},w'.ownsRow nc e i.size u k l->∃a c,u= .slice a k c∧(0<k->a.isSome=true):=fun h=>by
  rcases h.2 with⟨rfl,rfl⟩|⟨g,cap,cur,rfl,_⟩
  ·exact⟨none,0,rfl,fun h=>by omega⟩
  ·exact⟨_,_,rfl,fun _=>rfl⟩
 rcases j with⟨rfl,rfl,rfl⟩|⟨ad,c,rfl,aO,Dg,J⟩
 ·have aw:=run_append_owned_none (P:=P) (w:=w) nc t ty e i i.size bb a8 v n xs fB;obtain⟨a,c,rfl,bD⟩:=mL fB;exact⟨a,c,w,aw,by simpa using fB,⟨rfl,rfl,rfl,e9 _,fun _ _ _=>rfl⟩,fun k aA=>.inl aA,bD⟩
 ·obtain⟨uD,w',aw,an,aI,cc⟩:=run_append_own (P:=P) w nc t ty e i z i.size i.bytes bb a8 cS rfl rfl tg k4 v n xs fB ad m c nD aO Dg J hm I GJ;obtain⟨a,bG,rfl,bD⟩:=mL an;refine⟨a,bG,w',aw,an,aI,fun k aA=>?_,bD⟩;rcases fB.2 with⟨rfl,rfl⟩|⟨g,cap,cur,rfl,Lv,bP,yE,AB,j5,wg⟩
  ·by_cases fi:m=0
   ·subst fi;rw[(cc.2 ⟨rfl,rfl⟩:Value.slice a (0+0) bG=_)] at aA;cases aA
   ·have r9:=run_append_nil (P:=P) w t ty e i z bb a8 cS ad m c nD aO Dg (by omega) (by simp only[maxLen] at hm;omega) (by have eI:=I;simp only[mY] at eI;omega);rw[r9] at aw;injection aw with a7 bh
    rw[<-a7] at aA;simp only[Value.ownBlock,nT] at aA;exact .inr (by omega)
  ·by_cases VD:n+m<=cap
   ·obtain⟨kQ,r9,_⟩:=run_append_fits (P:=P) w nc t ty e i i.size bb a8 rfl g n cap xs fB ad m c nD aO Dg J VD;rw[r9] at aw;injection aw with a7 bh
    rw[<-a7] at aA;exact .inl aA
   ·have r9:=run_append_grow (P:=P) w t ty e i z bb a8 cS ⟨g,0,none⟩ n cap xs fB.1 (fB.cells rfl) ad m c nD aO Dg (by omega) (by simp only[maxLen] at hm;omega) (growslice_fits (by omega) I);rw[r9] at aw;injection aw with a7 bh
    rw[<-a7] at aA;simp only[Value.ownBlock,nT] at aA;exact .inr (by omega)
theorem LJ {N:Nat} {W0:al} {ρ:aX} {s:bC} {a:Act} {W:al} (h:Holds N W0 ρ s a W) {t:TypeId} {v:af} {r:b3} {rest:List b3} {dZ:TypeInfo} (aw:rowOf P s.rw t v=some (r,rest,dZ)):
  P.underlying t=some (.slice r.e)∧P.info? r.e=some dZ∧r.sz=dZ.size∧r.v=v∧r.at N ρ W.w∧rest.Sublist s.rw∧(∀q∈rest,∀k,dk ρ r=some k->dk ρ q≠some k)∧
   ∀k,dk ρ r=some k->¬W.aV k∧∀b∈s.hp,aR ρ.M b.m 0≠k:=by
 unfold rowOf at aw;split at aw
 ·rename_i el hu;split at aw
  ·rename_i axI ma;split at aw
   ·have e:=bm aw;injection e with a7 bh
    injection bh with bh c8
    subst a7 bh c8;refine⟨hu,ma,rfl,rfl,⟨World.ownsRow_nil _ _ _ _,fun u hu=>by cases hu⟩,yb _,fun q _ k aA=>?_,fun k aA=>?_⟩
    ·simp[dk,af.ak,Value.ownBlock] at aA
    ·simp[dk,af.ak,Value.ownBlock] at aA
   ·rename_i uD _;split at aw
    ·rename_i fF bs;split at aw
     ·rename_i GK;have e:=bm aw;injection e with a7 bh
      injection bh with bh c8
      subst a7 bh c8;obtain⟨s1,s2,Dh,f_⟩:=Gs (Rel:=fun r q=>∀k,dk ρ r=some k->dk ρ q≠some k) (fun a b ri k aA dC=>ri k dC aA) bs h.lA;exact⟨by rw[GK.1];exact hu,by rw[GK.1];exact ma,GK.2,s2,h.rw _ s1,Dh,f_,h.gS _ s1⟩
     ·cases aw
    ·cases aw
  ·cases aw
 ·cases aw
theorem LK {α:Type} (l m:List α) (x y:α) (n:Nat) (h:l.length=n):aR (l++y::m) n x=y:=by
 subst h;induction l with
 |nil=>rfl
 |cons a l cF=>exact cF
theorem LL (ρ:aX) (l m:List dV):dF ρ (l++m)=dF ρ l++dF ρ m:=by simp[dF]
theorem Di (ρ:aX):∀l:List af,dF ρ (l.map .s)=af.b2 ρ l
 |[]=>rfl
 |x::l=>by have:=Di ρ l;unfold dF at this ⊢;simp only[jo,rW,dV.ak,this,af.b2,qg,sU]
theorem Holds.eu {N:Nat} {W0:al} {ρ:aX} {s:bC} {a:Act} {W:al} (h:Holds N W0 ρ s a W) (bc:s.ok=true) {r:b3} {rest:List b3} {k:E} {xs:List dV}
  (aw:r.at N ρ W.w) (k9:rest.Sublist s.rw) (iA:∀q∈rest,∀k,dk ρ r=some k->dk ρ q≠some k) (fB:∀k,dk ρ r=some k->¬W.aV k∧∀b∈s.hp,aR ρ.M b.m 0≠k)
  (aA:gq k=true) (cB:gq r.n=true) (wm:k.ok s.c=true) (Dj:xs.all (dV.ok s.c)=true) (kE:r.ok s.c=true)
  {ad:Option Addr} {c:Nat} {w':World} (an:w'.ownsRow N r.e r.sz (.slice ad ((r.n.i ρ).toNat+(k.i ρ).toNat) c) ((r.n.i ρ).toNat+(k.i ρ).toNat) (dF ρ r.xs++dF ρ xs))
  (iS:∀u∈dF ρ xs,u.oneCell'=true) (bP:W.w.grownBy w' (r.v.ak ρ).ownBlock)
  (I:∀dA,(Value.slice ad ((r.n.i ρ).toNat+(k.i ρ).toNat) c).ownBlock=some dA->(r.v.ak ρ).ownBlock=some dA∨W.w.heap.size<=dA) (d:Option Nat):
  ∃W':al,W'.w=w'∧Ext W W'∧(af.bt s.c.A (ij r.n k) (.aW s.c.N)).ak (ρ.push {A:=[ad],N:=[c]})= .slice ad ((r.n.i ρ).toNat+(k.i ρ).toNat) c∧
   Holds N W0 (ρ.push {A:=[ad],N:=[c]}) (ia s d r rest k xs) (a.put d (.slice ad ((r.n.i ρ).toNat+(k.i ρ).toNat) c)) W':=by
 have a_:({A:=[ad],N:=[c]}:aX).ew:=fun v aB=>by cases aB
 have bk:=h.push bc a_;have GL:∀b,b<W.w.heap.size->(∀k,(r.v.ak ρ).ownBlock=some k->b≠k)->w'.heap[b]? =W.w.heap[b]? :=fun b J aI=>bP.block b J fun e=>aI b e.symm rfl
 let W':al:=⟨w',W.aV,fun b I=>lv (W.lt b I) bP.size⟩
 have x:Ext W W':=⟨bP.size,fun _ I=>I,fun b I=>GL b (W.lt b I) fun k dC e=>(fB k dC).1 (e▸I),bP.os,bP.tape,bP.output⟩
 have ou:∀b∈s.hp,aR (ρ.push {A:=[ad],N:=[c]}).M b.m 0=aR ρ.M b.m 0:=fun b I=>by
  simp only[bC.ok,bT] at bc;have:=ep.1 bc.1.1.1.2 b I;simp only[b4.ok,bT] at this;exact o6 (by rw[h.cT];exact of_decide_eq_true this.1)
 have pN:∀q∈s.rw,dk (ρ.push {A:=[ad],N:=[c]}) q=dk ρ q:=fun q bg=>by
  simp only[bC.ok,bT] at bc;exact qt (by rw[h.cT];exact ep.1 bc.1.2 q bg)
 have ee:aR (ρ.push {A:=[ad],N:=[c]}).A s.c.A none=ad:=by
  show aR (ρ.A++[ad]) s.c.A none=ad;rw[<-h.cT];exact lC _ _ _
 have eA:aR (ρ.push {A:=[ad],N:=[c]}).N s.c.N 0=c:=by
  show aR (ρ.N++[c]) s.c.N 0=c;rw[<-h.cT];exact lC _ _ _
 have GM:=(E.push ρ {A:=[ad],N:=[c]} k (by rw[h.cT];exact wm)).1;have oy:=b3.push (d:={A:=[ad],N:=[c]}) (r:=r) (by rw[h.cT];exact kE);have LM:=Gq (d:={A:=[ad],N:=[c]}) (xs:=xs) (by rw[h.cT];exact Dj);have ox:=qn (ρ:=ρ) aA;have qC:=qn (ρ:=ρ) cB;have AG:((ij r.n k).i (ρ.push {A:=[ad],N:=[c]})).toNat=(r.n.i ρ).toNat+(k.i ρ).toNat:=by rw[q5,GM,oy.2.1];omega
 have ft:(af.bt s.c.A (ij r.n k) (.aW s.c.N)).ak (ρ.push {A:=[ad],N:=[c]})= .slice ad ((r.n.i ρ).toNat+(k.i ρ).toNat) c:=by
  simp only[af.ak,E.i,ee,AG,eA,ih]
 refine⟨W',rfl,x,ft,?_⟩
 have J:Holds N W0 (ρ.push {A:=[ad],N:=[c]}) {s with rw:=⟨.bt s.c.A (ij r.n k) (.aW s.c.N),ij r.n k,r.e,r.sz,r.xs++xs⟩::rest,c:=s.c.add {A:=1,N:=1}} a W':=by
  refine⟨bk.cT,bk.ew,bk.az,bk.len,bk.iC,bk.hp.du fun b I=>?_,bk.ro.du fun b I=>x.du _ (bk.ext.sub _ (bk.iP b I)),?_,bk.iP,bk.own,?_,bk.dc,?_,bk.kn,bk.sub,bk.mK,bk.ext.trans x⟩
  ·refine GL _ (bk.hp.lt I) fun k dC e=>?_
   rw[ou b I] at e;exact(fB k dC).2 b I e
  ·intro q bg;rcases dh.1 bg with e|e
   ·subst e;refine⟨?_,?_⟩
    ·show w'.ownsRow _ r.e r.sz (af.ak _ _) _ (dF _ (r.xs++xs));rw[ft,LL,oy.2.2,LM];show w'.ownsRow _ _ _ _ ((ij r.n k).i _).toNat _;rw[AG];exact an
    ·show∀u∈dF _ (r.xs++xs),_;rw[LL,oy.2.2,LM];intro u hu;rcases mE.1 hu with aI|aI
     ·exact aw.2 u aI
     ·exact iS u aI
   ·have kC:=k9.subset e;refine(bk.rw q kC).du fun dA dC=>GL _ ((bk.rw q kC).lt dC).2 fun bZ e6 bh=>?_
    rw[pN q kC] at dC;subst bh;exact iA q e _ e6 dC
  ·intro q bg dA dC;rcases dh.1 bg with e|e
   ·subst e;unfold dk at dC;rw[ft] at dC;rcases I dA dC with aI|aI
    ·exact⟨(fB dA aI).1,fun b I=>by rw[ou b I];exact(fB dA aI).2 b I⟩
    ·refine⟨fun bf=>?_,fun b I=>?_⟩
     ·have:=W.lt _ bf;omega
     ·have:=bk.hp.lt I;omega
   ·exact bk.gS q (k9.subset e) dA dC
  ·show List.Pairwise _ (_::rest);rw[od];refine⟨fun q bg dA dC e6=>?_,bk.lA.sublist k9⟩;have kC:=k9.subset bg;unfold dk at dC;rw[ft] at dC;have fr:=((bk.rw q kC).lt e6).2;rw[pN q kC] at e6;rcases I dA dC with aI|aI
   ·exact iA q bg dA aI e6
   ·omega
 exact J.put d _ (some _) fun y bE=>by obtain rfl:=bm bE;exact ft.symm
theorem LN {N:Nat} {W0:al} {ρ:aX} {s:bC} {a:Act} {W:al} (h:Holds N W0 ρ s a W) {c:Call} {dst:Option Tmp} {kD:TypeId} {pos:String} {after:Array Edge} {guard:Option (Nat×Bool)} {x y:Operand} {t:TypeId} (aH:c.callee= .builtin .append)
  (bl:c.args.toList=[x,y]) (fj:c.argTypes.toList=[t,t]) {v u:Value} {w:World} (aB:a.eval x=v) (hu:a.eval y=u) {r:Value} {w':World} (aw:(Builtin.append_ #[t,t] kD #[v,u]).run P w= .ok r w'):
  (execOp a.eval ⟨dst,.call c,kD,pos,after,guard⟩).run P w= .ok (.value r) w':=by
 obtain⟨callee,args,ts⟩:=c;dsimp only at aH bl fj;subst aH;have a7:args=#[x,y]:=by apply Array.ext';simpa using bl
 have bh:ts=#[t,t]:=by apply Array.ext';simpa using fj
 subst a7 bh;simp only[execOp,resolve,invoke,builtin,Sem.run_bind,Sem.run_pure,Result.andThen_ok,List.map_toArray,jo,List.map_nil,aB,hu,aw]
theorem LO {c:dj}:∀{l:List af} {x:af},af.l8 c l=true->x∈l->x.ok c=true
 |[],_,_,h=>by cases h
 |y::l,x,h,j=>by
  simp only[af.l8,bT] at h;rcases dh.1 j with e|e
  ·subst e;exact h.1
  ·exact LO h.2 e
theorem Dk {rw:List b3} {t:TypeId} {v:af} {r:b3} {rest:List b3} {dZ:TypeInfo} (aw:rowOf P rw t v=some (r,rest,dZ)):r.v= .db∨r∈rw:=by
 unfold rowOf at aw;split at aw
 ·split at aw
  ·split at aw
   ·have e:=bm aw;injection e with a7 bh
    subst a7;exact .inl rfl
   ·split at aw
    ·rename_i fF bs;split at aw
     ·have e:=bm aw;injection e with a7 bh
      subst a7;exact .inr ((uA bs).1.mem_iff.2 (c6 ..))
     ·cases aw
    ·cases aw
  ·cases aw
 ·cases aw
theorem GN {ρ:aX} {W:al} {rw:List b3} {r:b3} {w':World} (bP:W.w.grownBy w' (r.v.ak ρ).ownBlock) (hm:r.v= .db∨r∈rw):cO (W.fz (iO ρ rw)) w':=
 ⟨bP.os,bP.tape,bP.output,bP.size,fun b I=>bP.block b I.1 fun e=>by
  rcases hm with h|h
  ·rw[h] at e;simp[af.ak,Value.ownBlock] at e
  ·exact I.2 (nB.2 ⟨r,h,e.symm⟩)⟩
theorem Holds.LP {N:Nat} {W0:al} {ρ:aX} {s:bC} {a:Act} {W:al} (h:Holds N W0 ρ s a W) (bc:s.ok=true) (ty:TypeId) (cs:List af) (j5:af.l8 s.c cs=true) {n z:Nat} (aO:cs.length=n*z) (VE:∀x∈cs,x.cell=true) (cB:n<=1000000) (dst:Option Nat):
  ∃W':al,W'.w=W.w.alloc (.cells (af.b2 ρ cs).toArray ty)∧Ext W W'∧
   Holds N W0 (ρ.push {A:=[some ⟨W.w.heap.size,0,none⟩],N:=[n]}) (ia s dst (k6 ty z) s.rw (.aE n) (cs.map .s)) (a.put dst (.slice (some ⟨W.w.heap.size,0,none⟩) n n)) W':=by
 have a_:(af.b2 ρ cs).length=n*z:=by rw[af.jF,mW,aO]
 have iS:∀u∈dF ρ (cs.map .s),u.oneCell'=true:=by
  rw[Di,af.jF];intro u hu;obtain⟨y,bE,rfl⟩:=h7.1 hu;exact af.Ag h.ew _ (VE y bE)
 have AG:((k6 ty z).n.i ρ).toNat+((E.aE n).i ρ).toNat=n:=by simp[k6,E.i]
 have key:=h.eu bc (r:=k6 ty z) (rest:=s.rw) (k:=.aE n) (xs:=cs.map .s) (ad:=some ⟨W.w.heap.size,0,none⟩) (c:=n) (w':=W.w.alloc (.cells (af.b2 ρ cs).toArray ty))
  ⟨World.ownsRow_nil _ _ _ _,fun u hu=>by cases hu⟩ (yb _) (fun q _ k aA=>by simp[dk,k6,af.ak,Value.ownBlock] at aA) (fun k aA=>by simp[dk,k6,af.ak,Value.ownBlock] at aA) (by simp[gq]) (by simp[k6,gq]) (by simp[E.ok])
  (by
   refine ep.2 fun x j=>?_
   obtain⟨y,bE,rfl⟩:=h7.1 j;exact LO j5 bE)
  (by simp[k6,b3.ok,af.ok,E.ok])
  (by
   rw[AG,Di];show World.ownsRow _ _ ty z _ _ (af.b2 ρ cs);refine⟨a_,.inr ⟨W.w.heap.size,n,(af.b2 ρ cs).toArray,rfl,h.q_,by show(W.w.heap.push _)[W.w.heap.size]? =_;simp,e9 _,by simp only[maxLen];omega,by simp[a_],?_⟩⟩;rw[<-a_];simp)
  iS (World.grownBy_alloc _ _ _) (fun dA dC=>by
   simp only[Value.ownBlock,nT] at dC;exact .inr (by omega)) dst
 rw[AG] at key;obtain⟨W',a7,bh,c8,gj⟩:=key;exact⟨W',a7,bh,gj⟩
theorem VF {N:Nat} {W0:al} {ρ d:aX} {s:bC} {a:Act} {W:al} (h:Holds N W0 ρ s a W) (bc:s.ok=true):iO (ρ.push d) s.rw=iO ρ s.rw:=by
 simp only[bC.ok,bT] at bc
 have:∀l:List b3,(∀q∈l,q∈s.rw)->iO (ρ.push d) l=iO ρ l:=fun l=>by
  induction l with
  |nil=>intro _;rfl
  |cons q l cF=>
   intro aO;have a7:=qt (d:=d) (r:=q) (ρ:=ρ) (by rw[h.cT];exact ep.1 bc.1.2 q (aO q (c6 ..)));have bh:=cF fun x j=>aO x (dq _ j)
   unfold iO at*;rw[List.filterMap_cons,List.filterMap_cons,a7,bh]
 exact this s.rw fun _ h=>h
theorem GO {N:Nat} {W0:al} {ρ:aX} {s:bC} {a:Act} {W:al} (h:Holds N W0 ρ s a W) (bc:s.ok=true) {r:b3} {rest:List b3} {k:E} {xs:List dV} {d:Option Nat} (hm:r.v= .db∨r∈s.rw) (k9:rest.Sublist s.rw) {ad:Option Addr} {n c:Nat}
  (ft:(af.bt s.c.A (ij r.n k) (.aW s.c.N)).ak (ρ.push {A:=[ad],N:=[c]})= .slice ad n c) (I:∀dA,(Value.slice ad n c).ownBlock=some dA->(r.v.ak ρ).ownBlock=some dA∨W.w.heap.size<=dA):
  ∀q∈(ia s d r rest k xs).rw,∀dA,dk (ρ.push {A:=[ad],N:=[c]}) q=some dA->dA∈iO ρ s.rw∨W.w.heap.size<=dA:=by
 intro q bg dA dC;rcases dh.1 bg with e|e
 ·subst e;unfold dk at dC;rw[ft] at dC;rcases I dA dC with aI|aI
  ·rcases hm with cc|cc
   ·rw[cc] at aI;simp[af.ak,Value.ownBlock] at aI
   ·exact .inl (nB.2 ⟨r,cc,aI⟩)
  ·exact .inr aI
 ·have kC:=k9.subset e;simp only[bC.ok,bT] at bc;rw[qt (by rw[h.cT];exact ep.1 bc.1.2 q kC)] at dC;exact .inl (nB.2 ⟨q,kC,dC⟩)
theorem LQ {N:Nat} {W0:al} {ρ:aX} {s:bC} {a:Act} {W:al} (h:Holds N W0 ρ s a W) (bc:s.ok=true) {o:Oper} {r:b3} {rest:List b3} {k:E} {xs:List dV} {b:Nat} (j:hy P s o.op=some (.eu r rest k xs b))
  (aA:gq k=true) (cB:gq r.n=true) (wm:k.ok s.c=true) (Dj:xs.all (dV.ok s.c)=true) (kE:r.ok s.c=true) (hle:(oq (ij r.n k) (.aE (ra b))).b ρ=true):
  ∃ad c w' W',(execOp a.eval o).run P W.w= .ok (.value (.slice ad ((r.n.i ρ).toNat+(k.i ρ).toNat) c)) w'∧W'.w=w'∧Ext W W'∧(0<(ij r.n k).i ρ->ad.isSome=true)∧
   Holds N W0 (ρ.push {A:=[ad],N:=[c]}) (ia s o.dst r rest k xs) (a.put o.dst (.slice ad ((r.n.i ρ).toNat+(k.i ρ).toNat) c)) W'∧cO (W.fz (iO ρ s.rw)) w'∧(∀q∈(ia s o.dst r rest k xs).rw,∀dA,dk (ρ.push {A:=[ad],N:=[c]}) q=some dA->dA∈iO ρ s.rw∨W.w.heap.size<=dA):=by
 have ox:=qn (ρ:=ρ) aA;have qC:=qn (ρ:=ρ) cB
 have GP:(r.n.i ρ).toNat+(k.i ρ).toNat<=ra b:=by
  rw[r6,q5] at hle;have:=of_decide_eq_true hle;simp only[E.i] at this;omega
 obtain⟨j8,jK⟩:=Lm GP;obtain⟨dst,op,kD,pos,after,guard⟩:=o;dsimp only at j ⊢;cases op<;>simp only[hy] at j<;>try (cases j;done)
 case slice=>rcases qA j with⟨_,_,_,_,_,_,e⟩|⟨_,_,_,e⟩<;>cases e
 case makeSlice t l c=>
  split at j
  ·(repeat' split at j)<;>first|(cases j;done)|skip
  ·obtain⟨el,js,nl,cW,dZ,rfl,rfl,rfl,rfl,hu,aO,GQ,ma,cS,k4,VG⟩:=Vt j;subst VG;have jI:=h.az _ _ aO;have VH:=h.az _ _ GQ;simp only[k6,E.i,uc,mY] at j8 jK ⊢
   have aw:=run_make (P:=P) W.w t el dZ (.int .i64 0) hu ma cS js cW (k.i ρ) (k.i ρ) ox (qf _) (by
    have:(((k.i ρ).toNat*dZ.bytes:Nat):Int)<=140737488355328:=by omega
    rw[Int.natCast_mul,Int.toNat_of_nonneg ox,Int.mul_comm] at this;omega) (by simp only[maxLen] at j8;omega)
   have VI:(madeCells (Value.int .i64 0).cells ((k.i ρ).toNat*dZ.size)).toList=List.replicate (k.i ρ).toNat (.int .i64 0):=by
    rw[k4,Nat.mul_one];refine List.ext_getElem (by simp[size_madeCells]) fun aj J an=>?_
    simp[madeCells,Value.cells,Nat.mod_one]
   have AD:dF ρ [dV.z k]=List.replicate (k.i ρ).toNat (.int .i64 0):=by simp[dF,dV.ak]
   have key:=h.eu bc (r:=k6 el 1) (rest:=s.rw) (k:=k) (xs:=[.z k]) (ad:=some ⟨W.w.heap.size,0,none⟩) (c:=(k.i ρ).toNat) (w':=W.w.alloc (.cells (madeCells (Value.int .i64 0).cells ((k.i ρ).toNat*dZ.size)) el))
    ⟨World.ownsRow_nil _ _ _ _,fun u hu=>by cases hu⟩ (yb _) (fun q _ k aA=>by simp[dk,k6,af.ak,Value.ownBlock] at aA) (fun k aA=>by simp[dk,k6,af.ak,Value.ownBlock] at aA) aA (by simp[k6,gq]) wm Dj kE
    (by
     simp only[k6,E.i,uc,mY];rw[AD];show World.ownsRow _ _ el 1 _ _ (List.replicate (k.i ρ).toNat (.int .i64 0));refine⟨by simp,.inr ⟨W.w.heap.size,(k.i ρ).toNat,madeCells (Value.int .i64 0).cells ((k.i ρ).toNat*dZ.size),rfl,h.q_,by show(W.w.heap.push _)[W.w.heap.size]? =_;simp,e9 _,j8,by rw[size_madeCells,k4],?_⟩⟩;rw[VI];simp)
    (by rw[AD];intro u hu;rw[(List.mem_replicate.1 hu).2];rfl) (World.grownBy_alloc _ _ _) (fun dA dC=>by
     simp only[Value.ownBlock,nT] at dC;exact .inr (by omega)) dst
   simp only[k6,E.i,uc,mY] at key;obtain⟨W',a7,bh,c8,gj⟩:=key;refine⟨some ⟨W.w.heap.size,0,none⟩,(k.i ρ).toNat,_,W',?_,a7,bh,fun _=>rfl,gj,GN (r:=k6 el 1) (World.grownBy_alloc _ _ _) (.inl rfl),?_⟩
   ·simp[execOp,jI,VH,af.ak,aw]
   ·exact GO h bc (r:=k6 el 1) (k:=k) (xs:=[.z k]) (.inl rfl) (yb _) c8 (fun dA dC=>by
     simp only[Value.ownBlock,nT] at dC;exact .inr (by omega))
 case call c=>
  rcases o8 j with⟨f,_,J⟩|⟨aH,J⟩
  ·obtain⟨_,_,e⟩:=pO J;cases e
  ·unfold yB at J;split at J
   ·rename_i t cR x y fj has;split at J
    ·rename_i yN;subst yN;split at J
     ·rename_i v u aB hu;split at J
      ·rename_i fF je dZ yO;split at J
       ·rename_i z cS;split at J
        ·rename_i AH;obtain⟨g1,g2,g3,g4,g5,g6,g7,g8⟩:=LJ h yO
         have key:∀(lD:Value) (nD:List Value),r=fF->rest=je->b=dZ.bytes->dF ρ xs=nD->a.eval y=lD->
           ((lD= .slice none 0 0∧(k.i ρ).toNat=0∧nD=[])∨∃ad c,lD= .slice (some ad) (k.i ρ).toNat c∧nD.length=(k.i ρ).toNat*dZ.size∧(∀(aj:Nat) u,nD[aj]? =some u->W.w.cell? (ad.add aj)=some u)∧∀u∈nD,u.oneCell'=true)->
           ∃ad bG w' W',(execOp a.eval ⟨dst,.call c,kD,pos,after,guard⟩).run P W.w= .ok (.value (.slice ad ((r.n.i ρ).toNat+(k.i ρ).toNat) bG)) w'∧W'.w=w'∧Ext W W'∧(0<(ij r.n k).i ρ->ad.isSome=true)∧
            Holds N W0 (ρ.push {A:=[ad],N:=[bG]}) (ia s dst r rest k xs) (a.put dst (.slice ad ((r.n.i ρ).toNat+(k.i ρ).toNat) bG)) W'∧cO (W.fz (iO ρ s.rw)) w'∧(∀q∈(ia s dst r rest k xs).rw,∀dA,dk (ρ.push {A:=[ad],N:=[bG]}) q=some dA->dA∈iO ρ s.rw∨W.w.heap.size<=dA):=by
          rintro lD nD rfl rfl rfl Dl hex Dm;have fB:=g5.1;rw[g3] at fB;obtain⟨ad,bG,w',aw,iT,rj,wo,AI⟩:=LI (P:=P) W.w N t kD r.e dZ z g1 g2 cS AH.1 AH.2 (r.v.ak ρ) (r.n.i ρ).toNat (dF ρ r.xs) fB lD (k.i ρ).toNat nD Dm j8 jK h.q_;rw[<-Dl] at iT
          have iS:∀u∈dF ρ xs,u.oneCell'=true:=by
           rw[Dl];rcases Dm with⟨_,_,rfl⟩|⟨_,_,_,_,_,J⟩
           ·intro u hu;cases hu
           ·exact J
          rw[<-g3] at iT;obtain⟨W',a7,bh,c8,gj⟩:=h.eu bc g5 g6 g7 g8 aA cB wm Dj kE iT iS rj wo dst;have yM:a.eval x=r.v.ak ρ:=by rw[g4];exact h.az _ _ aB
          refine⟨ad,bG,w',W',LN h aH has fj yM hex aw,a7,bh,fun bk=>AI ?_,gj,GN rj (Dk yO),GO h bc (Dk yO) g6 c8 wo⟩;rw[q5] at bk;omega
         split at J
         ·rename_i m o dA qD;split at J
          ·rename_i yP VJ;split at J
           ·rename_i aO;have e:=bm J;injection e with a7 bh c8 gj hx
            subst c8 gj;obtain⟨im,rfl⟩:=mH VJ;have kz:=h.hp yP im;unfold b4.at at kz;refine key _ _ a7.symm bh.symm hx.symm (Di ρ _) (h.az _ _ hu) (.inr ⟨⟨aR ρ.M yP.m 0,o,none⟩,qD,by simp[af.ak,E.i],by simp[E.i,af.jF];simpa using aO.1,fun aj u cu=>?_,fun u LR=>?_⟩)
            ·rw[ky];rw[dens_getElem?] at cu
             have LS:(List.take (dA*dZ.size) (List.drop o yP.cs))[aj]? =yP.cs[o+aj]? :=by
              rw[oX];split
              ·rw[sO]
              ·rename_i fr;rw[qd (by rw[aO.1];omega)] at cu;cases cu
             rw[LS] at cu;simp[World.cell?,kz,dens_getElem?,cu]
            ·rw[af.jF] at LR;obtain⟨VK,GR,rfl⟩:=h7.1 LR;exact af.Ag h.ew _ (by have:=ep.1 aO.2 VK GR;exact this)
           ·cases J
          ·cases J
         ·rename_i aa jf qD;split at J
          ·rename_i q bg;split at J
           ·rename_i GS;have e:=bm J;injection e with a7 bh c8 gj hx
            subst c8 gj;obtain⟨s1,s2,Dh,f_⟩:=Gs (Rel:=fun r q=>∀k,dk ρ r=some k->dk ρ q≠some k) (fun a b ri k aA dC=>ri k dC aA) bg h.lA;have AJ:=h.rw q s1;simp only[bT,decide_eq_true_eq] at GS;have LU:=E.jc GS.2.2.2;have r8:a.eval y=q.v.ak ρ:=by rw[s2];exact h.az _ _ hu
            refine key _ _ a7.symm bh.symm hx.symm rfl r8 ?_;have AK:=AJ.1;rw[LU] at AK;rcases AK.2 with⟨f1,f2⟩|⟨g,cap,cur,f1,_⟩
            ·left;refine⟨f1,f2,?_⟩;have:=AK.1;rw[f2] at this;exact yc (by simpa using this)
            ·right;refine⟨⟨g,0,none⟩,cap,f1,?_,fun aj u cu=>?_,AJ.2⟩
             ·rw[AK.1,GS.2.1,g3]
             ·exact AK.cells (g:=g) (by rw[f1];rfl) aj u cu
           ·cases J
          ·split at J<;>cases J
         ·cases J
        ·cases J
       ·cases J
      ·cases J
     ·cases J
    ·cases J
   ·cases J
 all_goals ((repeat' split at j)<;>first|(cases j;done)|(obtain⟨r,aw,e⟩:=hI.1 j;cases e;done)|(obtain⟨_,_,_,_,_,e⟩:=ot j;cases e;done)|skip)
def dj.le (c d:dj):Prop:=c.aV<=d.aV∧c.N<=d.N∧c.B<=d.B∧c.T<=d.T∧c.V<=d.V∧c.A<=d.A∧c.M<=d.M∧c.L<=d.L
theorem dj.VL (c d:dj):c.le (c.add d):=by simp[dj.le,dj.add]
theorem E.j9 {c d:dj} (aO:c.le d) (e:E):e.ok c=true->e.ok d=true:=by
 obtain⟨J,an,aI,cc,bu,hs,k7,nC⟩:=aO;induction e with
 |aF o a b lx q4=>intro h;simp only[E.ok,bT] at h ⊢;exact⟨lx h.1,q4 h.2⟩
 |un o a cF=>exact cF
 |cut a b d i1 i2 i3=>intro h;simp only[E.ok,bT] at h ⊢;exact⟨⟨i1 h.1.1,i2 h.1.2⟩,i3 h.2⟩
 |aN|aW|bv|br|aE|dB|bN|sm|fg|qj=>intro h;simp only[E.ok,decide_eq_true_eq] at h ⊢ <;>omega
mutual
theorem af.j9 {c d:dj} (aO:c.le d):∀s:af,s.ok c=true->s.ok d=true
 | .bool e,h| .int _ e,h| .str e,h=>E.j9 aO e h
 | .ptr m _,h=>by simp only[af.ok,decide_eq_true_eq] at h ⊢;have:=aO.2.2.2.2.2.2.1;omega
 | .b6 a i _ _,h=>by
  simp only[af.ok,bT,decide_eq_true_eq] at h ⊢;have:=aO.2.2.2.2.2.1;exact⟨by omega,E.j9 aO _ h.2⟩
 | .bt a n k,h=>by
  simp only[af.ok,bT,decide_eq_true_eq] at h ⊢;have:=aO.2.2.2.2.2.1;exact⟨⟨by omega,E.j9 aO _ h.1.2⟩,E.j9 aO _ h.2⟩
 | .fM m _ _ _,h=>by simp only[af.ok,decide_eq_true_eq] at h ⊢;have:=aO.2.2.2.2.2.2.1;omega
 | .db,_=>rfl
 | .val _,_=>rfl
 | .var n,h=>by simp only[af.ok,decide_eq_true_eq] at h ⊢;have:=aO.2.2.2.2.1;omega
 | .agg l,h| .cU l,h| .fn _ l,h| .oh _ l,h=>af.GU aO l h
 | .nz _ s,h=>af.j9 aO s h
 | .when g _ s,h=>by
  simp only[af.ok,bT] at h ⊢;exact⟨E.j9 aO _ h.1,af.j9 aO s h.2⟩
theorem af.GU {c d:dj} (aO:c.le d):∀l:List af,af.l8 c l=true->af.l8 d l=true
 |[],_=>rfl
 |s::l,h=>by simp only[af.l8,bT] at h ⊢;exact⟨af.j9 aO s h.1,af.GU aO l h.2⟩
end
theorem dV.j9 {c d:dj} (aO:c.le d) (x:dV) (h:x.ok c=true):x.ok d=true:=by
 cases x with
 |l k=>simp only[dV.ok,decide_eq_true_eq] at h ⊢;have:=aO.2.2.2.2.2.2.2;omega
 |s y=>exact af.j9 aO y h
 |z n=>exact E.j9 aO n h
theorem b3.j9 {c d:dj} (aO:c.le d) {r:b3} (h:r.ok c=true):r.ok d=true:=by
 simp only[b3.ok,bT] at h ⊢;exact⟨⟨af.j9 aO _ h.1.1,E.j9 aO _ h.1.2⟩,ep.2 fun x j=>dV.j9 aO x (ep.1 h.2 x j)⟩
theorem b4.j9 {c d:dj} (aO:c.le d) {b:b4} (h:b.ok c=true):b.ok d=true:=by
 simp only[b4.ok,bT,decide_eq_true_eq] at h ⊢;have:=aO.2.2.2.2.2.2.1;exact⟨by omega,af.GU aO _ h.2⟩
theorem bC.j9 {s:bC} {d:dj} (aO:s.c.le d) (h:s.ok=true):bC.ok {s with c:=d}=true:=by
 simp only[bC.ok,bT] at h ⊢;refine⟨⟨⟨⟨?_,?_⟩,?_⟩,?_⟩,?_⟩
 ·refine ep.2 fun p hp=>?_
  have:=ep.1 h.1.1.1.1 p hp
  revert this
  cases p.2 with
  |none=>exact fun _=>rfl
  |some y=>exact af.j9 aO y
 ·exact ep.2 fun b I=>b4.j9 aO (ep.1 h.1.1.1.2 b I)
 ·exact ep.2 fun b I=>b4.j9 aO (ep.1 h.1.1.2 b I)
 ·exact ep.2 fun b I=>b3.j9 aO (ep.1 h.1.2 b I)
 ·exact ep.2 fun p hp=>E.j9 aO _ (ep.1 h.2 p hp)
theorem GV {N:Nat} {W0:al} {ρ:aX} {s:bC} {a:Act} {W:al} (h:Holds N W0 ρ s a W) (bc:s.ok=true) {o:Oper} {r:b3} {rest:List b3} {aa:Nat} {k c:E} {b:Nat} (j:hy P s o.op=some (.v8 r rest aa k c b))
  (aA:gq k=true) (cB:gq r.n=true) (wm:k.ok s.c=true) (kE:r.ok s.c=true) (LV:gq c=true) (hle:(oq (ij r.n k) (.aE (ra b))).b ρ=true)
  {l:List Value} (aO:l.length=(k.i ρ).toNat*r.sz) (sb:∀u∈l,u.oneCell'=true) (tf:aR ρ.A aa none=none->k.i ρ<=0∧c.i ρ<=0) (yL:∀ad,aR ρ.A aa none=some ad->∀(aj:Nat) u,l[aj]? =some u->W.w.cell? (ad.add aj)=some u):
  ∃ad bG w' W',(execOp a.eval o).run P W.w= .ok (.value (.slice ad ((r.n.i ρ).toNat+(k.i ρ).toNat) bG)) w'∧W'.w=w'∧Ext W W'∧(0<(ij r.n k).i ρ->ad.isSome=true)∧
   Holds N W0 ((ρ.push {L:=[l]}).push {A:=[ad],N:=[bG]}) (ia {s with c:=s.c.add {L:=1}} o.dst r rest k [.l s.c.L]) (a.put o.dst (.slice ad ((r.n.i ρ).toNat+(k.i ρ).toNat) bG)) W'∧cO (W.fz (iO ρ s.rw)) w'∧(∀q∈(ia {s with c:=s.c.add {L:=1}} o.dst r rest k [.l s.c.L]).rw,∀dA,dk ((ρ.push {L:=[l]}).push {A:=[ad],N:=[bG]}) q=some dA->dA∈iO ρ s.rw∨W.w.heap.size<=dA):=by
 have ox:=qn (ρ:=ρ) aA;have qC:=qn (ρ:=ρ) cB
 have GP:(r.n.i ρ).toNat+(k.i ρ).toNat<=ra b:=by
  rw[r6,q5] at hle;have:=of_decide_eq_true hle;simp only[E.i] at this;omega
 obtain⟨j8,jK⟩:=Lm GP;have a_:({L:=[l]}:aX).ew:=fun v aB=>by cases aB
 have bk:=h.push bc a_;have j_:({L:=[l]}:aX).cT={L:=1}:=rfl;rw[j_] at bk;have axJ:s.c.L<(s.c.add {L:=1}).L:=by simp[dj.add]
 have hz:=dj.VL s.c {L:=1};obtain⟨dst,op,kD,pos,after,guard⟩:=o;dsimp only at j ⊢;cases op<;>simp only[hy] at j<;>try (cases j;done)
 case slice=>rcases qA j with⟨_,_,_,_,_,_,e⟩|⟨_,_,_,e⟩<;>cases e
 case call dp=>
  rcases o8 j with⟨f,_,J⟩|⟨aH,J⟩
  ·obtain⟨_,_,e⟩:=pO J;cases e
  ·unfold yB at J;split at J
   ·rename_i t cR x y fj has;split at J
    ·rename_i yN;subst yN;split at J
     ·rename_i v u aB hu;split at J
      ·rename_i fF je dZ yO;split at J
       ·rename_i z cS;split at J
        ·rename_i AH;split at J
         ·split at J
          ·split at J<;>cases J
          ·cases J
         ·rename_i a2 jf qD;split at J
          ·split at J<;>cases J
          ·split at J
           ·have e:=bm J;injection e with a7 bh c8 gj hx ow
            subst a7 bh c8 gj hx ow;have qq:=yO;obtain⟨g1,g2,g3,g4,g5,g6,g7,g8⟩:=LJ h yO
            have Dm:((Value.slice (aR ρ.A a2 none) (jf.i ρ).toNat (qD.i ρ).toNat= .slice none 0 0∧(jf.i ρ).toNat=0∧l=[])∨∃ad c,Value.slice (aR ρ.A a2 none) (jf.i ρ).toNat (qD.i ρ).toNat= .slice (some ad) (jf.i ρ).toNat c∧l.length=(jf.i ρ).toNat*dZ.size∧(∀(aj:Nat) u,l[aj]? =some u->W.w.cell? (ad.add aj)=some u)∧∀u∈l,u.oneCell'=true):=by
             cases ee:aR ρ.A a2 none with
             |none=>
              obtain⟨pP,iT⟩:=tf ee;have th:(jf.i ρ).toNat=0:=by omega
              have z2:(qD.i ρ).toNat=0:=by omega
              left;refine⟨by rw[th,z2],th,?_⟩;rw[th] at aO;exact yc (by simpa using aO)
             |some ad=>exact .inr ⟨ad,_,rfl,by rw[aO,g3],yL ad ee,sb⟩
            have fB:=g5.1;rw[g3] at fB;obtain⟨ad,bG,w',aw,iT,rj,wo,AI⟩:=LI (P:=P) W.w N t kD fF.e dZ z g1 g2 cS AH.1 AH.2 (fF.v.ak ρ) (fF.n.i ρ).toNat (dF ρ fF.xs) fB _ (jf.i ρ).toNat l Dm j8 jK h.q_
            have yF:dF (ρ.push {L:=[l]}) [.l s.c.L]=l:=by
             show aR (ρ.L++[l]) s.c.L []++[]=l;rw[<-h.cT,mC];exact lC _ _ _
            have oy:=b3.push (d:={L:=[l]}) (r:=fF) (by rw[h.cT];exact kE);have Dn:=(E.push ρ {L:=[l]} jf (by rw[h.cT];exact wm)).1;have LW:bC.ok {s with c:=s.c.add {L:=1}}=true:=bC.j9 hz bc;rw[<-g3] at iT
            have VM:w'.ownsRow N fF.e fF.sz (.slice ad ((fF.n.i (ρ.push {L:=[l]})).toNat+(jf.i (ρ.push {L:=[l]})).toNat) bG) ((fF.n.i (ρ.push {L:=[l]})).toNat+(jf.i (ρ.push {L:=[l]})).toNat) (dF (ρ.push {L:=[l]}) fF.xs++dF (ρ.push {L:=[l]}) [.l s.c.L]):=by
             rw[oy.2.1,Dn,oy.2.2,yF];exact iT
            have VN:fF.at N (ρ.push {L:=[l]}) W.w:=by
             unfold b3.at at*;rw[oy.1,oy.2.1,oy.2.2];exact g5
            have VO:∀q∈je,∀k,dk (ρ.push {L:=[l]}) fF=some k->dk (ρ.push {L:=[l]}) q≠some k:=fun q bg k jg e6=>by
             have kC:=g6.subset bg;simp only[bC.ok,bT] at bc;rw[qt (by rw[h.cT];exact kE)] at jg;rw[qt (by rw[h.cT];exact ep.1 bc.1.2 q kC)] at e6;exact g7 q bg k jg e6
            have VP:∀k,dk (ρ.push {L:=[l]}) fF=some k->¬W.aV k∧∀b∈s.hp,aR (ρ.push {L:=[l]}).M b.m 0≠k:=fun k jg=>by
             rw[qt (by rw[h.cT];exact kE)] at jg;refine⟨(g8 k jg).1,fun b I=>?_⟩;simp only[bC.ok,bT] at bc;have:=ep.1 bc.1.1.1.2 b I;simp only[b4.ok,bT] at this;rw[o6 (by rw[h.cT];exact of_decide_eq_true this.1)];exact(g8 k jg).2 b I
            obtain⟨W',a7,bh,c8,gj⟩:=bk.eu LW VN g6 VO VP aA cB (E.j9 hz _ wm) (by simp[dV.ok,dj.add]) (b3.j9 hz kE) VM (by rw[yF];exact sb) (by rw[oy.1];exact rj) (by rw[oy.1,oy.2.1,Dn];exact wo) dst;rw[oy.2.1,Dn] at gj;refine⟨ad,bG,w',W',LN h aH has fj (by rw[g4];exact h.az _ _ aB) (h.az _ _ hu) aw,a7,bh,fun hp=>AI ?_,gj,GN rj (Dk qq),fun q bg dA dC=>(GO bk LW (Dk qq) g6 c8 (by rw[oy.1,oy.2.1,Dn];exact wo) q bg dA dC).imp (fun hm=>by rwa[VF h bc] at hm) id⟩;rw[q5] at hp;omega
           ·cases J
         ·cases J
        ·cases J
       ·cases J
      ·cases J
     ·cases J
    ·cases J
   ·cases J
 all_goals ((repeat' split at j)<;>first|(cases j;done)|(obtain⟨r,aw,e⟩:=hI.1 j;cases e;done)|(obtain⟨_,_,_,_,_,e⟩:=ot j;cases e;done)|skip)
theorem GW {N:Nat} {W0:al} {ρ:aX} {s:bC} {a:Act} {W:al} (h:Holds N W0 ρ s a W) {o:Oper} {aa:Nat} {lo a8 c m:E} {sz:Nat} (j:hy P s o.op=some (.sub aa lo a8 c m sz)) (aH:nW ρ (C5 lo a8 m)) (w:World):
  (execOp a.eval o).run P w= .ok (.value (.slice (jw (aR ρ.A aa none) (lo.i ρ).toNat (c.i ρ).toNat sz) ((a8.i ρ).toNat-(lo.i ρ).toNat) ((c.i ρ).toNat-(lo.i ρ).toNat))) w∧0<=c.i ρ:=by
 have aJ:0<=lo.i ρ:=by have:=aH.1;rw[r6] at this;have:=of_decide_eq_true this;simpa[E.i] using this
 have c2:lo.i ρ<=a8.i ρ:=by have:=aH.2.1;rw[r6] at this;exact of_decide_eq_true this
 have c3:a8.i ρ<=m.i ρ:=by
  have:=aH.2.2;split at this
  ·rename_i e;rw[E.jc e];exact qf _
  ·have:=this.1;rw[r6] at this;exact of_decide_eq_true this
 obtain⟨dst,op,kD,pos,after,guard⟩:=o;dsimp only at j;cases op<;>simp only[hy] at j<;>try (cases j;done)
 case slice t x rk bk s7=>
  unfold Av at j;split at j
  ·cases j
  ·split at j
   ·rename_i el a2 bz Dp hu he;split at j
    ·rename_i z fx hl cS aO aY;split at j
     ·rename_i qy;simp only[bT] at qy;have e:=bm j;injection e with a7 bh c8 gj hx ow
      subst a7 bh c8 gj ow;have pP:=qn (ρ:=ρ) qy.1;have iT:=qn (ρ:=ρ) qy.2;have VQ:=An h.az aO;have VR:=An h.az aY;refine⟨?_,iT⟩;have q8:P.elem t=el:=by simp[Program.elem,hu]
      have jI:P.underlying t=some (.slice (P.elem t)):=by rw[q8];exact hu
      have mI:hK P (P.elem t)=some z:=by rw[q8];exact cS
      have key:(Instr.slice t (.slice (aR ρ.A a2 none) (bz.i ρ).toNat (Dp.i ρ).toNat) (rk.map a.eval) (bk.map a.eval) none).run P w= .ok (.slice (jw (aR ρ.A a2 none) ((nY fx (.aE 0)).i ρ).toNat (Dp.i ρ).toNat z) (((nY hl bz).i ρ).toNat-((nY fx (.aE 0)).i ρ).toNat) ((Dp.i ρ).toNat-((nY fx (.aE 0)).i ρ).toNat)) w:=by
       rw[VQ,VR];rcases fx with _|⟨js,le⟩<;>rcases hl with _|⟨qo,Dq⟩<;>simp only[nY,E.i] at aJ c2 c3 ⊢ <;>subst hx<;>dsimp only at c3<;>simp only[oZ,l6]
       ·rw[run_slice_all w t _ _ _ jI,jr mI];simp[Result.andThen,sliced,jw]
       ·rw[run_slice_h w t _ _ _ jI qo _ (by omega) (by omega),jr mI];simp[Result.andThen,sliced,jw]
       ·rw[run_slice_l w t _ _ _ jI js _ (by omega) (by omega),jr mI];simp[Result.andThen,sliced,jw]
       ·rw[run_slice_lh w t _ _ _ jI js qo _ _ (by omega) (by omega) (by omega),jr mI];simp[Result.andThen,sliced,jw]
      simp only[execOp,h.az _ _ he,af.ak,oZ,Sem.run_bind,run_sliceAt_slice w t _ _ _ _ jI,key,Result.andThen_ok,Sem.run_pure]
     ·cases j
    ·cases j
   ·(repeat' split at j)<;>cases j
   ·cases j
 case call dp=>
  rcases o8 j with⟨f,_,J⟩|⟨_,J⟩
  ·obtain⟨_,_,e⟩:=pO J;cases e
  ·rcases qB J with⟨_,_,_,_,_,e⟩|⟨_,_,_,_,_,_,e⟩<;>cases e
 all_goals ((repeat' split at j)<;>first|(cases j;done)|(obtain⟨r,aw,e⟩:=hI.1 j;cases e;done)|(obtain⟨_,_,_,_,_,e⟩:=ot j;cases e;done)|skip)
theorem LX {N:Nat} {W0:al} {ρ:aX} {s:bC} {a:Act} {W:al} (h:Holds N W0 ρ s a W) {o:Oper} {ad:Addr} {i:E} {n z:Nat} (j:hy P s o.op=some (.yA ad i n z)) (aH:nW ρ (v_ i n)) (w:World):
  (execOp a.eval o).run P w= .ok (.value (.pointer (some (ad.add ((i.i ρ).toNat*z+0))))) w:=by
 obtain⟨aJ,c2,_⟩:=aH;rw[r6] at aJ;have aJ:0<=i.i ρ:=by have:=of_decide_eq_true aJ;simpa[E.i] using this
 have c2:i.i ρ<(n:Int):=by have:=of_decide_eq_true c2;simpa[E.i] using this
 obtain⟨dst,op,kD,pos,after,guard⟩:=o;dsimp only at j;cases op<;>simp only[hy] at j<;>try (cases j;done)
 case indexAddr t x aj=>
  split at j
  ·rename_i m el a2 k e hu he a8;split at j
   ·rename_i yK cS;have fy:=bm j;injection fy with a7 bh c8 gj
    subst a7 bh c8 gj;have c3:(e.i ρ).toNat<m:=by omega
    simp[execOp,h.az _ _ he,h.az _ _ a8,af.ak,Instr.indexAt,asIntOf,run_underlying hu,jr cS,Instr.sureAddr,aJ,c2,c3]
    try omega
   ·cases j
  ·cases j
 case slice=>rcases qA j with⟨_,_,_,_,_,_,e⟩|⟨_,_,_,e⟩<;>cases e
 case call dp=>
  rcases o8 j with⟨f,_,J⟩|⟨_,J⟩
  ·obtain⟨_,_,e⟩:=pO J;cases e
  ·rcases qB J with⟨_,_,_,_,_,e⟩|⟨_,_,_,_,_,_,e⟩<;>cases e
 all_goals ((repeat' split at j)<;>first|(cases j;done)|(obtain⟨r,aw,e⟩:=hI.1 j;cases e;done)|(obtain⟨_,_,_,_,_,e⟩:=ot j;cases e;done)|skip)
theorem LY {N:Nat} {W0:al} {ρ:aX} {s:bC} {a:Act} {W:al} (h:Holds N W0 ρ s a W) {o:Oper} {ad:Addr} {n c:Nat} (j:hy P s o.op=some (.m_ ad n c)) (w:World):
  (execOp a.eval o).run P w= .ok (.value (.slice (some ad) n c)) w:=by
 obtain⟨dst,op,kD,pos,after,guard⟩:=o;dsimp only at j;cases op<;>simp only[hy] at j<;>try (cases j;done)
 case slice t x rk bk s7=>
  unfold Av at j;split at j
  ·cases j
  ·split at j
   ·(repeat' split at j)<;>cases j
   ·rename_i m el a2 hu he;split at j
    ·rename_i z fx hl cS aO aY;split at j
     ·rename_i Ld;have e:=bm j;injection e with a7 bh c8
      subst a7 bh c8;have hm:P.arrayLen t=m:=by simp[Program.arrayLen,hu]
      have q8:P.elem t=el:=by simp[Program.elem,hu]
      have jI:P.underlying t=some (.array (P.arrayLen t) (P.elem t)):=by rw[q8,hm];exact hu
      have mI:hK P (P.elem t)=some z:=by rw[q8];exact cS
      have key:(Instr.sliceAt t (.pointer (some a2)) (rk.map a.eval) (bk.map a.eval) none).run P w= .ok (.slice (some (if m=fx then a2 else a2.add (fx*z))) (hl-fx) (m-fx)) w:=by
       rcases yv h.az aO with⟨rfl,rfl⟩|⟨js,el⟩<;>rcases yv h.az aY with⟨rfl,rfl⟩|⟨qo,s3⟩
       ·rw[oZ,run_sliceAt_array_all w t a2 jI,jr mI];simp[Result.andThen,slicedAt,hm]
       ·rw[oZ,s3,run_sliceAt_array_h w t a2 jI qo _ (by omega) (by rw[hm];omega),jr mI];simp[Result.andThen,slicedAt,hm]
       ·rw[oZ,el,run_sliceAt_array_l w t a2 jI js _ (by omega) (by rw[hm];omega),jr mI];simp[Result.andThen,slicedAt,hm]
       ·rw[el,s3,run_sliceAt_array_lh w t a2 jI js qo _ _ (by omega) (by omega) (by rw[hm];omega),jr mI];simp[Result.andThen,slicedAt,hm]
      simp only[execOp,h.az _ _ he,af.ak,oZ,Sem.run_bind,key,Result.andThen_ok,Sem.run_pure]
     ·cases j
    ·cases j
   ·cases j
 case call dp=>
  rcases o8 j with⟨f,_,J⟩|⟨_,J⟩
  ·obtain⟨_,_,e⟩:=pO J;cases e
  ·rcases qB J with⟨_,_,_,_,_,e⟩|⟨_,_,_,_,_,_,e⟩<;>cases e
 all_goals ((repeat' split at j)<;>first|(cases j;done)|(obtain⟨r,aw,e⟩:=hI.1 j;cases e;done)|(obtain⟨_,_,_,_,_,e⟩:=ot j;cases e;done)|skip)
variable {P:Program}
def wq:List Nat->Nat
 |[]=>0
 |t::l=>2^t|||wq l
theorem wu:∀(l:List Nat) (t:Nat),(wq l).testBit t=l.contains t
 |[],t=>by simp[wq]
 |a::l,t=>by
  simp only[wq,ud,wu l t,List.contains_cons,vE]
  by_cases h:a=t
  ·subst h;simp
  ·have J:(t==a)=false:=by rw[beq_eq_false_iff_ne];exact fun e=>h e.symm
   rw[J,decide_eq_false h]
structure Sum where
 d:Nat
 l:Nat
 p:Nat
def jh (ops:Array Oper) (o:Oper):Sum:=⟨wq o.dst.toList,wq (o.looksAt ops),wq (o.after.toList.filterMap fun e=>if Region.binds .any e then some e.on else none)⟩
def GX (x y:Sum):Bool:=Nat.beq (Nat.land x.d y.l) 0&&(Nat.beq (Nat.land x.d y.d) 0&&Nat.beq (Nat.land y.d x.l) 0)
theorem GY {a b t:Nat} (h:Nat.beq (Nat.land a b) 0=true) (bl:a.testBit t=true):b.testBit t=false:=by
 have h:=eE h
 have an:(a&&&b).testBit t=false:=by
  show(Nat.land a b).testBit t=false;rw[h];simp
 rw[Nat.testBit_and,bl,eX] at an;exact an
theorem VS {ops:Array Oper} {x y:Oper} (h:GX (jh ops x) (jh ops y)=true):x.apart ops y=true:=by
 simp only[GX,jh,bT] at h;obtain⟨J,an,aI⟩:=h;unfold Oper.apart;rw[bT];constructor
 ·cases j:x.dst with
  |none=>rfl
  |some d=>
   have a7:=GY J (t:=d) (by rw[wu,j];simp);have bh:=GY an (t:=d) (by rw[wu,j];simp);rw[wu] at a7 bh;simp only[bT,hq,bne_iff_ne];refine⟨a7,fun e=>?_⟩;rw[e] at bh;simp at bh
 ·cases bE:y.dst with
  |none=>rfl
  |some d=>
   have c8:=GY aI (t:=d) (by rw[wu,bE];simp);rw[wu] at c8;show(!(x.looksAt ops).contains d)=true;rw[c8];rfl
theorem uE {ops:Array Oper} {o:Oper} {k:Nat}:(jh ops o).p.testBit k=true↔∃e∈o.after,Region.binds .any e=true∧e.on=k:=by
 simp only[jh,wu];rw[yd,List.mem_filterMap];constructor
 ·rintro⟨e,he,aA⟩;split at aA
  ·rename_i I;exact⟨e,by simpa using he,I,bm aA⟩
  ·cases aA
 ·rintro⟨e,he,I,rfl⟩;exact⟨e,by simpa using he,by rw[if_pos I]⟩
def rl (ops:Array Oper) (cz:Nat) (cx:Array Bool):Prop:=cx.size=ops.size∧∀aj,aj<ops.size->cx[aj]? =some (cz.testBit aj)
theorem rl.getD {ops:Array Oper} {cz:Nat} {cx:Array Bool} (h:rl ops cz cx) {aj:Nat} (cu:aj<ops.size) (b:Bool):cx.getD aj b=cz.testBit aj:=by
 rw[mF,h.2 aj cu];rfl
theorem rl.set {ops:Array Oper} {cz:Nat} {cx:Array Bool} (h:rl ops cz cx) {i:Nat} (a8:i<ops.size):rl ops (cz|||2^i) (cx.setIfInBounds i true):=by
 refine⟨by simp[h.1],fun aj cu=>?_⟩;rw[ud,vE]
 by_cases e:i=aj
 ·subst e;rw[Array.getElem?_setIfInBounds_self_of_lt (by rw[h.1];exact a8)];simp
 ·rw[Array.getElem?_setIfInBounds_ne e,h.2 aj cu,decide_eq_false e];simp
def nd (cz:Nat) (x:Sum):Bool:=Nat.beq (Nat.land x.p cz) x.p
theorem Dr {ops:Array Oper} {cz:Nat} {cx:Array Bool} (h:rl ops cz cx) {i:Nat} {o:Oper} (a8:ops[i]? =some o) (hw:∀e∈o.after,Region.binds .any e=true->e.on<ops.size):
  i∈Region.ready .any ops cx↔cz.testBit i=false∧nd cz (jh ops o)=true:=by
 have fr:i<ops.size:=(fq.1 a8).1;rw[mem_ready,h.getD fr];refine and_congr_right fun _=>?_
 constructor
 ·rintro⟨hb,Ds,hc⟩;obtain rfl:o=hb:=bm (a8.symm.trans Ds);unfold nd
  have:Nat.land (jh ops o).p cz=(jh ops o).p:=by
   apply Nat.eq_of_testBit_eq;intro k;show((jh ops o).p&&&cz).testBit k=_;rw[Nat.testBit_and];cases hp:(jh ops o).p.testBit k
   ·rfl
   ·obtain⟨e,he,I,rfl⟩:=uE.1 hp;have:=hc e he I;rw[h.getD (hw e he I)] at this;rw[this];rfl
  rw[this];exact Nat.beq_refl _
 ·intro aw;refine⟨o,a8,fun e he I=>?_⟩;rw[h.getD (hw e he I)];have hp:(jh ops o).p.testBit e.on=true:=uE.2 ⟨e,he,I,rfl⟩;have:=eE aw
  have an:((jh ops o).p&&&cz).testBit e.on=true:=by
   show(Nat.land (jh ops o).p cz).testBit e.on=true;rw[this];exact hp
  rw[Nat.testBit_and,hp,eX] at an;exact an
abbrev hn (w w':World):Prop:=Below w.heap.size w w'
theorem hn.refl (w:World):hn w w:=Below.refl _ _
theorem hn.trans {a b c:World} (h:hn a b) (k:hn b c):hn a c:=Below.trans h (Below.mono k h.size)
def rm:Op->Bool
 | .move _| .assign _| .binOp .. | .unOp .. | .convert .. | .indexAddr .. | .field .. =>true
 |_=>false
def LZ (ops:Array Oper) (i:Nat) (cx:Array Bool):Prop:=∃iq,ops[i]? =some iq∧∀k,cx.getD k false=true->(∃e∈iq.after,Region.binds .any e=true∧e.on=k)∨∃ok,ops[k]? =some ok∧rm ok.op=true
def GZ (P:Program) (ops:Array Oper) (Q:Exit->Act->World->Prop) (n g:Nat):Nat->(World->Prop)->Array Bool->Act->World->Prop
 |0,_,cx,a,w=>(∀aj,aj<n->cx.getD aj true=true)∧∀w',hn w w'->wpAny P .any ops Q g cx a w'
 |f+1,C,cx,a,w=>Region.ready .any ops cx≠[]∧∀i∈Region.ready .any ops cx,i<n∧∀w',hn w w'->wpOp P ops Q i (fun bB iE=>(C iE∧GZ P ops Q n g f C (cx.setIfInBounds i true) bB iE)∨(LZ ops i cx∧∃kR:World->Prop,kR iE∧(∀w w',kR w->hn w w'->kR w')∧GZ P ops Q n g f kR (cx.setIfInBounds i true) bB iE)) a w'
abbrev jx (P:Program) (ops:Array Oper) (Q:Exit->Act->World->Prop) (C:World->Prop) (n g f:Nat) (cx:Array Bool) (a:Act) (w:World):Prop:=GZ P ops Q n g f C cx a w
theorem o9 {ops:Array Oper} {Q:Exit->Act->World->Prop} {C kR:World->Prop} {n g:Nat} (hC:∀w,C w->kR w):∀(f:Nat) (cx:Array Bool) (a:Act) (w:World),jx P ops Q C n g f cx a w->jx P ops Q kR n g f cx a w
 |0,_,_,_,h=>h
 |f+1,_,_,_,h=>⟨h.1,fun i a8=>⟨(h.2 i a8).1,fun w' dx=>wpOp_mono (fun bB iE h=>h.imp (fun⟨J,an⟩=>⟨hC _ J,o9 hC f _ _ _ an⟩) id) ((h.2 i a8).2 w' dx)⟩⟩
theorem L0 {ops:Array Oper} {Q:Exit->Act->World->Prop} {C:World->Prop} {n g:Nat}:∀(f:Nat) (cx:Array Bool) (a:Act) (w w':World),hn w w'->jx P ops Q C n g f cx a w->jx P ops Q C n g f cx a w'
 |0,_,_,_,_,hw,h=>⟨h.1,fun kQ an=>h.2 kQ (hw.trans an)⟩
 |f+1,_,_,_,_,hw,h=>⟨h.1,fun i a8=>⟨(h.2 i a8).1,fun kQ an=>(h.2 i a8).2 kQ (hw.trans an)⟩⟩
theorem G0 {ops:Array Oper} {Q:Exit->Act->World->Prop} {n g:Nat}:∀(f:Nat) {C:World->Prop} (cx:Array Bool) (a:Act) (w:World),jx P ops Q C n g f cx a w->wpAny P .any ops Q (f+g) cx a w
 |0,_,cx,a,w,h=>by rw[mY];exact h.2 w (hn.refl w)
 |f+1,_,cx,a,w,h=>by
  rw[show f+1+g=(f+g)+1 by omega]
  exact⟨fun bk=>absurd bk h.1,fun i a8=>wpOp_mono (fun bB w' hl=>by
   rcases hl with hl|⟨_,kR,_,_,hl⟩
   ·exact G0 f _ _ _ hl.2
   ·exact G0 f _ _ _ hl) ((h.2 i a8).2 w (hn.refl w))⟩
def nE (P:Program) (ops:Array Oper) (C:World->Prop) (o:Oper) (v:Value) (a:Act):Prop:=
 (Region.wanted o (yielded ops a.tmps)=true∧∀w,C w->o.quietAt P a (fun w'=>hn w w') w v)∨(Region.wanted o (yielded ops a.tmps)=false∧v=undef)
theorem nE.of_same {ops:Array Oper} {C:World->Prop} {o:Oper} {v:Value} {a bB:Act} (bE:nE P ops C o v a) (he:execOp bB.eval o=execOp a.eval o)
  (hw:Region.wanted o (yielded ops bB.tmps)=Region.wanted o (yielded ops a.tmps)):nE P ops C o v bB:=by
 unfold nE Oper.quietAt at*;rw[he,hw];exact bE
theorem nE.wpOp {ops:Array Oper} {Q:Exit->Act->World->Prop} {C:World->Prop} {i:Nat} {o:Oper} {v:Value} {a:Act} (a8:ops[i]? =some o) (bE:nE P ops C o v a) {w:World} (hC:C w) {K:Act->World->Prop}
  (h:∀w',hn w w'->K (a.put o.dst v) w'):wpOp P ops Q i K a w:=by
 unfold Go.wpOp;simp only[a8];rcases bE with⟨hw,aB⟩|⟨hw,rfl⟩
 ·simp only[hw,if_true];refine .inl ?_;have aI:=aB w hC;unfold Oper.quietAt at aI;unfold Oper.wp;generalize (execOp a.eval o).run P w=r at*;cases r with
  |ok n w'=>
   cases n<;>simp only[Oper.quietUpon] at aI<;>simp only[Oper.upon]
   case value u=>obtain⟨rfl,rfl⟩:=aI;exact h _ (hn.refl _)
   case skip=>obtain⟨rfl,rfl⟩:=aI;exact h _ (hn.refl _)
   case enter f args=>
    obtain⟨rfl,aH⟩:=aI;exact aH.mono fun e iE ⟨he,VT⟩=>by subst he;exact h _ VT
  |halt x w'=>simp only[Oper.quietUpon] at aI
 ·simp only[hw,rX,if_false];exact h _ (hn.refl _)
theorem VU {ops:Array Oper} {Q:Exit->Act->World->Prop} {C:World->Prop} {aj:Nat} {iq e_:Oper} {v:Value} (cu:ops[aj]? =some e_) (G1:iq.apart ops e_=true)
  (VV:∀cs b,iq.op≠ .select cs b) (L1:∀cs b,e_.op≠ .select cs b)
  (yQ:∀c a w,Q (.panic c) (a.put iq.dst v) w->Q (.panic c) a w) {K:Act->World->Prop} {a:Act} {w:World}
  (bE:nE P ops C iq v a) (h:wpOp P ops Q aj K (a.put iq.dst v) w):wpOp P ops Q aj (fun bB w'=>nE P ops C iq v bB∧K (bB.put iq.dst v) w') a w:=by
 obtain⟨J,an,aI⟩:=Oper.apart_spec G1
 have du:∀(a:Act),nE P ops C iq v a->∀u,nE P ops C iq v (a.put e_.dst u):=fun a bE u=>
  bE.of_same (execOp_put iq VV a e_.dst u aI) (wanted_put iq a e_.dst u aI)
 have VW:∀d,nE P ops C iq v {a with defers:=d::a.defers}:=fun d=>bE.of_same rfl rfl
 unfold Go.wpOp at*;simp only[cu] at*;rw[wanted_put e_ a iq.dst v J] at h
 by_cases hw:Region.wanted e_ (yielded ops a.tmps)=true
 ·simp only[hw,if_true] at h ⊢;rcases h with h|⟨L2,VX⟩
  ·left;unfold Oper.wp at*;rw[execOp_put e_ L1 a iq.dst v J] at h;cases aw:(execOp a.eval e_).run P w with
   |ok hM w'=>
    rw[aw] at h;cases hM with
    |value u=>exact⟨du a bE u,by rw[<-Act.put_comm a v u an];exact h⟩
    |skip=>exact⟨du a bE _,by rw[<-Act.put_comm a v undef an];exact h⟩
    |defer d=>
     simp only[Oper.upon] at h ⊢;refine⟨du _ (VW d) _,?_⟩;rw[<-Act.put_comm _ v undef an,<-Act.put_defers];exact h
    |enter f args=>
     simp only[Oper.upon] at h ⊢;refine Calls.mono h fun e iE he=>?_
     cases e with
     |returned u=>exact⟨du a bE u,by rw[<-Act.put_comm a v u an];exact he⟩
     |panicked c=>exact yQ _ _ _ he
     |outgrown=>exact he
    |row rw args=>
     simp only[Oper.upon] at h ⊢;exact Rows.mono h fun u iE he=>⟨du a bE u,by rw[<-Act.put_comm a v u an];exact he⟩
    |_=>simp only[Oper.upon] at h
   |halt x w'=>
    rw[aw] at h;cases x with
    |panic u=>exact yQ _ _ _ h
    |_=>simp only[Oper.upon] at h
  ·right;unfold Oper.asks at*;rw[execOp_put e_ L1 a iq.dst v J] at L2;exact⟨L2,VX⟩
 ·simp only[hw] at h ⊢;exact⟨du a bE _,by rw[<-Act.put_comm a v undef an];exact h⟩
def G2 (ops:Array Oper) (n:Nat):Prop:=∀aj e_,ops[aj]? =some e_->n<=aj->(∀i,i<n->aj=n->∃e∈e_.after,Region.binds .any e=true∧e.on=i)∧(n<aj->∃e∈e_.after,Region.binds .any e=true∧e.on=n)
theorem AL {ops:Array Oper} {n:Nat} (cC:G2 ops n) {cz:Nat} {cx:Array Bool} (aO:rl ops cz cx) (I:∀aj,n<=aj->cz.testBit aj=false) {i:Nat} (a8:i<n) (ik:i<ops.size) (pQ:cz.testBit i=false) {aj:Nat} (cu:aj∈Region.ready .any ops cx):aj<n:=by
 rcases pH aj n with h|h
 ·exact h
 exfalso;obtain⟨_,e_,ir,hc⟩:=mem_ready.1 cu;have k3:aj<ops.size:=(fq.1 ir).1;obtain⟨t1,t2⟩:=cC aj e_ ir h
 by_cases e:aj=n
 ·obtain⟨x,j,nf,G3⟩:=t1 i a8 e;have:=hc x j nf;rw[G3,aO.getD ik,pQ] at this;cases this
 ·obtain⟨x,j,nf,G3⟩:=t2 (by omega);have:=hc x j nf;rw[G3,aO.getD (by omega),I n (e9 _)] at this;cases this
theorem nE.VY {ops:Array Oper} {C kR:World->Prop} {o:Oper} {v:Value} {a:Act} (bE:nE P ops C o v a) (h:∀w,kR w->C w):nE P ops kR o v a:=
 bE.imp (fun⟨J,an⟩=>⟨J,fun w hw=>an w (h w hw)⟩) id
theorem VZ {ops:Array Oper} {Q:Exit->Act->World->Prop} {n g:Nat} {i:Nat} {iq:Oper} {v:Value} (a8:ops[i]? =some iq) (ik:i<n) (Dt:∀(aj:Nat) (o:Oper) cs b,ops[aj]? =some o->o.op≠ .select cs b)
  (cC:G2 ops n) (yQ:∀c a w,Q (.panic c) (a.put iq.dst v) w->Q (.panic c) a w):
  ∀(f:Nat) (C:World->Prop) (_:∀w w',C w->hn w w'->C w') (cz:Nat) (cx:Array Bool) (a:Act) (w:World),rl ops cz cx->(∀aj,n<=aj->cz.testBit aj=false)->
   (∀aj e_,ops[aj]? =some e_->aj≠i->cx.getD aj true=false->(∀e∈e_.after,Region.binds .any e=true->e.on≠i)->iq.apart ops e_=true)->
   i∈Region.ready .any ops cx->nE P ops (fun w=>rm iq.op=true∨C w) iq v a->C w->
   jx P ops Q C n g f (cx.setIfInBounds i true) (a.put iq.dst v) w->jx P ops Q C n g (f+1) cx a w:=by
 have yR:i<ops.size:=(fq.1 a8).1;intro f;induction f with
 |zero=>
  intro C sc cz cx a w aO I G4 aw bE hC H;have pQ:cz.testBit i=false:=by have:=(mem_ready.1 aw).1;rwa[aO.getD yR] at this
  refine⟨fun h=>(by rw[h] at aw;cases aw),fun aj cu=>?_⟩;have k3:=AL cC aO I ik yR pQ cu;refine⟨k3,fun w' dx=>?_⟩
  by_cases sd:aj=i
  ·subst sd;exact bE.wpOp a8 (.inr (sc _ _ hC dx)) fun kQ an=>.inl ⟨sc _ _ (sc _ _ hC dx) an,H.1,fun V0 aI=>H.2 V0 (dx.trans (an.trans aI))⟩
  ·exfalso;have J:=H.1 aj k3;obtain⟨Du,e_,ir,_⟩:=mem_ready.1 cu;rw[getD_set_ne true (Ne.symm sd)] at J;rw[Du] at J;cases J
 |succ f cF=>
  intro C sc cz cx a w aO I G4 aw bE hC H;have pQ:cz.testBit i=false:=by have:=(mem_ready.1 aw).1;rwa[aO.getD yR] at this
  refine⟨fun h=>(by rw[h] at aw;cases aw),fun aj cu=>?_⟩;have k3:=AL cC aO I ik yR pQ cu;refine⟨k3,fun w' dx=>?_⟩
  by_cases sd:aj=i
  ·subst sd;exact bE.wpOp a8 (.inr (sc _ _ hC dx)) fun kQ an=>.inl ⟨sc _ _ (sc _ _ hC dx) an,L0 _ _ _ _ _ (dx.trans an) H⟩
  ·have J:=(H.2 aj (ready_mono cu sd)).2 w' dx;obtain⟨Du,e_,ir,hc⟩:=mem_ready.1 cu;have L3:aj<ops.size:=(fq.1 ir).1
   have L4:∀e∈e_.after,Region.binds .any e=true->e.on≠i:=fun e he eI heq=>by
    have J:=hc e he eI;rw[heq,aO.getD yR,pQ] at J;cases J
   have an:=VU ir (G4 aj e_ ir sd Du L4) (fun cs b=>Dt i iq cs b a8) (fun cs b=>Dt aj e_ cs b ir) yQ bE J
   have L5:∀k ok,ops[k]? =some ok->k≠i->(cx.setIfInBounds aj true).getD k true=false->
     (∀e∈ok.after,Region.binds .any e=true->e.on≠i)->iq.apart ops ok=true:=fun k ok aA GM pQ gv=>by
    refine G4 k ok aA GM ?_ gv
    by_cases Dv:aj=k
    ·subst Dv;exact Du
    ·rw[getD_set_ne true Dv] at pQ;exact pQ
   have eI:∀k,n<=k->(cz|||2^aj).testBit k=false:=fun k aA=>by
    rw[ud,I k aA,vE,decide_eq_false (by omega)];rfl
   have L6:i<cx.size:=by rw[aO.1];exact yR
   refine wpOp_mono (fun bB kQ aI=>?_) an;rcases aI with⟨aI,cc|⟨⟨L7,L8,L9⟩,kR,L_,Ma,cc⟩⟩
   ·refine .inl ⟨cc.1,cF C sc _ (cx.setIfInBounds aj true) bB kQ (aO.set L3) eI L5 (ready_mono aw (Ne.symm sd)) aI cc.1 ?_⟩;rw[Array.setIfInBounds_comm _ _ sd];exact cc.2
   ·obtain rfl:L7=e_:=bm (L8.symm.trans ir);refine .inr ⟨⟨L7,L8,fun k aA=>?_⟩,kR,L_,Ma,?_⟩
    ·refine L9 k ?_
     by_cases uF:i=k
     ·subst uF;simp[mF,L6]
     ·rw[getD_set_ne false uF];exact aA
    ·rcases L9 i (by simp[mF,L6]) with⟨e,he,yG,wv⟩|⟨ok,bV,pR⟩
     ·exact absurd wv (L4 e he yG)
     ·obtain rfl:iq=ok:=bm (a8.symm.trans bV);refine cF kR Ma _ (cx.setIfInBounds aj true) bB kQ (aO.set L3) eI L5 (ready_mono aw (Ne.symm sd)) (aI.VY fun w _=>.inl pR) L_ ?_;rw[Array.setIfInBounds_comm _ _ sd];exact cc
theorem V1 {ops:Array Oper} {Q:Exit->Act->World->Prop} {C:World->Prop} {n g f:Nat} {i:Nat} {cx:Array Bool} {a:Act} {w:World} (aw:∀aj,aj∈Region.ready .any ops cx↔aj=i) (ik:i<n)
  (h:∀w',hn w w'->wpOp P ops Q i (fun bB iE=>C iE∧jx P ops Q C n g f (cx.setIfInBounds i true) bB iE) a w'):jx P ops Q C n g (f+1) cx a w:=
 ⟨fun bk=>(by have:=(aw i).2 rfl;rw[bk] at this;cases this),fun aj cu=>by obtain rfl:=(aw aj).1 cu;exact⟨ik,fun w' dx=>wpOp_mono (fun _ _ h=>.inl h) (h w' dx)⟩⟩
theorem V2 {ops:Array Oper} {Q:Exit->Act->World->Prop} {C:World->Prop} {n g f:Nat} {i:Nat} {cx:Array Bool} {a:Act} {w:World} (aw:∀aj,aj∈Region.ready .any ops cx↔aj=i) (ik:i<n) (I:LZ ops i cx)
  (h:∀w',hn w w'->wpOp P ops Q i (fun bB iE=>∃kR:World->Prop,kR iE∧(∀w w',kR w->hn w w'->kR w')∧jx P ops Q kR n g f (cx.setIfInBounds i true) bB iE) a w'):jx P ops Q C n g (f+1) cx a w:=
 ⟨fun bk=>(by have:=(aw i).2 rfl;rw[bk] at this;cases this),fun aj cu=>by obtain rfl:=(aw aj).1 cu;exact⟨ik,fun w' dx=>wpOp_mono (fun _ _ h=>.inr ⟨I,h⟩) (h w' dx)⟩⟩
end Go.cK
end
namespace Go.cK
theorem aU:type_of% (And.intro @aX.push.eq_1 (And.intro @vM (And.intro @yi (@lL)))):=And.intro @aX.push.eq_1 (And.intro @vM (And.intro @yi (@lL)))
theorem U:type_of% (And.intro @af.ak.eq_1 (And.intro @af.ak.eq_2 (And.intro @af.ak.eq_3 (And.intro @af.ak.eq_4 (And.intro @af.ak.eq_5 (And.intro @af.ak.eq_6 (And.intro @af.ak.eq_7 (And.intro @af.ak.eq_8 (And.intro @af.ak.eq_9 (And.intro @af.ak.eq_10 (And.intro @af.ak.eq_11 (And.intro @af.ak.eq_12 (And.intro @af.ak.eq_13 (And.intro @af.ak.eq_14 (And.intro @af.ak.eq_15 (And.intro @af.ak.eq_16 (And.intro @af.b2.eq_1 (And.intro @af.b2.eq_2 (And.intro @E.i.eq_1 (And.intro @E.i.eq_2 (And.intro @E.i.eq_3 (And.intro @E.i.eq_4 (And.intro @E.i.eq_5 (And.intro @E.i.eq_6 (And.intro @E.i.eq_7 (And.intro @E.i.eq_8 (And.intro @E.i.eq_9 (And.intro @E.i.eq_10 (And.intro @E.i.eq_11 (And.intro @E.i.eq_12 (And.intro @E.i.eq_13 (And.intro @E.i.eq_14 (And.intro @E.b.eq_1 (And.intro @E.b.eq_2 (And.intro @E.b.eq_3 (And.intro @E.b.eq_4 (And.intro @E.b.eq_5 (And.intro @E.b.eq_6 (And.intro @E.b.eq_7 (And.intro @E.b.eq_8 (And.intro @E.b.eq_9 (And.intro @E.b.eq_10 (And.intro @E.b.eq_11 (And.intro @E.b.eq_12 (And.intro @E.b.eq_13 (And.intro @E.b.eq_14 (And.intro @E.b.eq_15 (And.intro @E.t.eq_1 (And.intro @E.t.eq_2 (And.intro @E.t.eq_3 (And.intro @E.t.eq_4 (And.intro @E.t.eq_5 (And.intro @E.t.eq_6 (And.intro @aR.eq_1 (And.intro @aR.eq_2 (And.intro @aR.eq_3 (And.intro aU (@eH)))))))))))))))))))))))))))))))))))))))))))))))))))))))))):=And.intro @af.ak.eq_1 (And.intro @af.ak.eq_2 (And.intro @af.ak.eq_3 (And.intro @af.ak.eq_4 (And.intro @af.ak.eq_5 (And.intro @af.ak.eq_6 (And.intro @af.ak.eq_7 (And.intro @af.ak.eq_8 (And.intro @af.ak.eq_9 (And.intro @af.ak.eq_10 (And.intro @af.ak.eq_11 (And.intro @af.ak.eq_12 (And.intro @af.ak.eq_13 (And.intro @af.ak.eq_14 (And.intro @af.ak.eq_15 (And.intro @af.ak.eq_16 (And.intro @af.b2.eq_1 (And.intro @af.b2.eq_2 (And.intro @E.i.eq_1 (And.intro @E.i.eq_2 (And.intro @E.i.eq_3 (And.intro @E.i.eq_4 (And.intro @E.i.eq_5 (And.intro @E.i.eq_6 (And.intro @E.i.eq_7 (And.intro @E.i.eq_8 (And.intro @E.i.eq_9 (And.intro @E.i.eq_10 (And.intro @E.i.eq_11 (And.intro @E.i.eq_12 (And.intro @E.i.eq_13 (And.intro @E.i.eq_14 (And.intro @E.b.eq_1 (And.intro @E.b.eq_2 (And.intro @E.b.eq_3 (And.intro @E.b.eq_4 (And.intro @E.b.eq_5 (And.intro @E.b.eq_6 (And.intro @E.b.eq_7 (And.intro @E.b.eq_8 (And.intro @E.b.eq_9 (And.intro @E.b.eq_10 (And.intro @E.b.eq_11 (And.intro @E.b.eq_12 (And.intro @E.b.eq_13 (And.intro @E.b.eq_14 (And.intro @E.b.eq_15 (And.intro @E.t.eq_1 (And.intro @E.t.eq_2 (And.intro @E.t.eq_3 (And.intro @E.t.eq_4 (And.intro @E.t.eq_5 (And.intro @E.t.eq_6 (And.intro @aR.eq_1 (And.intro @aR.eq_2 (And.intro @aR.eq_3 (And.intro aU (@eH)))))))))))))))))))))))))))))))))))))))))))))))))))))))))
theorem dD:type_of% (And.intro @dF.eq_1 (And.intro @hL.eq_1 (And.intro @dV.ak.eq_1 (And.intro @dV.ak.eq_2 (And.intro @dV.ak.eq_3 (And.intro @aR.eq_1 (And.intro @aR.eq_2 (And.intro @aR.eq_3 (And.intro aU (And.intro @ku (And.intro @lM (And.intro @jq (@kv))))))))))))):=And.intro @dF.eq_1 (And.intro @hL.eq_1 (And.intro @dV.ak.eq_1 (And.intro @dV.ak.eq_2 (And.intro @dV.ak.eq_3 (And.intro @aR.eq_1 (And.intro @aR.eq_2 (And.intro @aR.eq_3 (And.intro aU (And.intro @ku (And.intro @lM (And.intro @jq (@kv))))))))))))
end Go.cK
end
