/- Part 5 of what the proofs of this seat share: the executor, data in memory, walks.
-/
import Derived.Test.YthnoknnlcnikbaaGreatDoorK4
import Derived.Test.YthnoknnlcnikbaaGreatDoorK3
import Derived.Test.YthnoknnlcnikbaaGreatDoorK2
set_option linter.all false
set_option maxHeartbeats 8000000
set_option maxRecDepth 100000
namespace Go.V
open Go
def od:=@List.length_singleton
def nU:=@List.mem_cons_of_mem
def sT:=@List.drop_of_length_le
def vf:=@List.append_of_mem
def wR:=@List.length_range
def EY:=@Nat.ble_eq_true_of_le
def Ig:=@List.drop_succ_cons
def Q9:=@List.drop_append_of_le_length
def L4:=@List.length_take_of_le
def Ih:=@Int.natCast_nonneg
def L5:=@List.getElem?_of_mem
def At:=@Nat.add_eq
def L6:=@decide_eq_decide
def Q':=@Nat.pow_lt_pow_right
def EZ:=@Nat.mul_eq
def E0:=@Nat.sub_eq
def Ra:=@List.drop_left
variable{foot:List Nat}{P:Program}{f t c' j g off sz T clock:Nat}{args:Array Operand}{I:aH}{M M0:List aE}{K:Value->Prop}{s x y p0:Operand}{db:Option ea}{aF:ea}{xs cs vs aS:List Value}{m:List dY}{b:Bool}{R α:Type}{a:Int}{r:Option Nat}{E:Env}{fL:IntKind}{other:Prop}{os:aR}{aM:Addr}{w:Value}
def a8.whole{args:List Value}{K:Value->aH->List aE->Prop}(post:Value->aH->List aE->Prop)(av:Spec P f args I M post)(k:∀ v I' M',(∀ b o,I b=some o->I' b=some o)->post v I' M'->K v I' M'):a8 foot P f args I M K:=
 .mk M [] post (by simp) av λv I' M' aa ad=>by rw[dF];exact k v I' M' aa ad
def eJ.whole{soft:Bool}{args:List Value}{K:Value->aH->List aE->Prop}(post:Value->aH->List aE->Prop)(av:Spec P f args I M post)(rp:∀ v I' M',post v I' M'->∀ x∈M,x∈M')(k:∀ v I' M',(∀ b o,I b=some o->I' b=some o)->post v I' M'->K v I' M'):eJ soft foot P f args I M K:=
 .oJ M [] post (by simp) av rp λv I' M' aa ad=>by rw[dF];exact k v I' M' aa ad
section
variable{X:c3}{β:Nat->Nat}{a:Act}{w:World}{F:Fr}{C:dN}{I:aH}{M:List aE}{o:Oper}{K:gl}
def hc.ma{I:aH}{M M':List aE}(h:M=M'):hc foot I M I M':=by subst h;exact .refl
def bD.h7(h:bD X o F C I M λF C I M=>∃ I' M',hc X.foot I M I' M'/\K F C I' M'):bD X o F C I M K:=by obtain⟨h⟩:=h;refine⟨λa w Q aV=>td ?_ (h a w Q aV)⟩;rintro bL w'⟨dc,C',I',M',⟨β,af⟩,eA,dD,hw,ae⟩;exact⟨dc,C',eA,dD,⟨β,af.h7 hw⟩,ae⟩
def bD.k5(aN:cW X.P X.E)(aA:o.op=.call { callee:=.builtin .append,args:=#[s,x],argTypes:=#[t,t] })(ah:∀ d,o.dst=some d->d<X.n)
  {e:Nat} {db:ea} (aq:X.E t=some db) (dk:db.bP=.slice e) (he:X.E e=some aF)
  (os:aR) (bg:os.ok aF.size xs) (av:bH F s=.val os.val)
  {b9:Nat} (ab:bH F x=.val (.slice (some ⟨b9,0,none⟩) 1 c')) (ax:cs.length=aF.size) (aa:fK cs=true)
  (a9 post:List aE) (ba:M=⟨b9,.cells cs.toArray e (0,0)⟩::(a9++(os.ar e++post))) (b1:os.n+1<=9223372036854775807) (b8:(os.n+1)*aF.bytes<=140737488355328)
  (k:∀ br:aR,br.n=os.n+1->(∀ g,br.a=some g->I g=none)->br.ok aF.size (xs++cs)->K (put o.dst (.val br.val) F) C I (a9++(br.ar e++post))):bD X o F C I M K:=by
 refine .h7 (.WH aN aA ah aq dk he os bg av (m:=1) (cb:=cs) ab (by decide) ?_ aa (Mr:=⟨b9,.cells cs.toArray e (0,0)⟩::(a9++post)) ?_ (by unfold maxLen;exact b1) b8 ?_)
 ·rw[oI];refine⟨rfl,_,_,_,.inr ⟨⟨b9,.cells cs.toArray e (0,0)⟩,by rw[ba];exact .head _,rfl,rfl⟩,?_,ax⟩;simp only[qp];exact fC (by omega)
 ·rw[ba];have ad:(⟨b9,.cells cs.toArray e (0,0)⟩::(a9++(os.ar e++post)):List aE).Perm (⟨b9,.cells cs.toArray e (0,0)⟩::(os.ar e++(a9++post))):=.cons _ (yg _ _ _);exact ad.trans na.symm
 ·intro g c aS bA ew e' fe jZ;refine⟨I,a9++((⟨some g,os.n+1,c,aS⟩:aR).ar e++post),.sub (M1:=⟨g,.cells aS.toArray e (0,0)⟩::(a9++post)) (.cons_cons _ (.cons _ (.refl _))) (.perm ?_ .refl),k ⟨some g,os.n+1,c,aS⟩ rfl (λeg aw=>by cases aw;exact bA) ⟨?_,(λh=>by cases h),λeg aw=>?_⟩⟩
  ·exact na.symm
  ·rw[cr,bg.len,ax,lX,oI]
  ·cases aw;exact⟨ew,e',fe,jZ⟩
def bD.wS(aN:cW X.P X.E)(aA:o.op=.call { callee:=.builtin .append,args:=#[s,x],argTypes:=#[t,t] })(ah:∀ d,o.dst=some d->d<X.n)
  {e:Nat} {db:ea} (aq:X.E t=some db) (dk:db.bP=.slice e) (he:X.E e=some aF)
  (os:aR) (bg:os.ok aF.size xs) (av:bH F s=.val os.val)
  {sa:Option Addr} {m:Nat} {cb:List Value} (ab:bH F x=.val (.slice sa m c')) (ax:cb.length=m*aF.size) (aD:0<m->∃ aM,sa=some aM/\cR I M aM (m*aF.size) cb) (aa:fK cb=true)
  (a9 post:List aE) (ba:M=a9++(os.ar e++post)) (b1:os.n+m<=9223372036854775807) (b8:(os.n+m)*aF.bytes<=140737488355328)
  (k:∀ br:aR,br.n=os.n+m->(0<m->∀ g,br.a=some g->I g=none)->br.ok aF.size (xs++cb)->K (put o.dst (.val br.val) F) C I (a9++(br.ar e++post))):bD X o F C I M K:=by
 by_cases ay:m=0
 ·subst ay;have mw:cb=[]:=jl (by simpa using ax);subst mw;refine .PO aN aA ah aq dk aq (λk=>by rw[dk];simp) he (sa:=os.a.map λg=>⟨g,0,none⟩) (n:=os.n) (c:=os.c) av ?_ ab (.inl ⟨_,_,rfl⟩) ?_
  ·cases a7:os.a with
   |none=>obtain⟨ew,e'⟩:=bg.nil a7;omega
   |some g=>exact(bg.cap g a7).2.1
  ·have:=k os rfl (λh=>by omega) (by rw[dF];exact bg);rw[ba];exact this
 obtain⟨aM,rfl,bp⟩:=aD (by omega);refine .h7 (.WH aN aA ah aq dk he os bg av (m:=m) (cb:=cb) ab (by omega) bp aa (Mr:=a9++post) ?_ (by unfold maxLen;exact b1) b8 ?_)
 ·rw[ba];exact(yg _ _ _)
 ·intro g c aS bA ew e' fe jZ;refine⟨I,a9++((⟨some g,os.n+m,c,aS⟩:aR).ar e++post),.perm ?_ .refl,k ⟨some g,os.n+m,c,aS⟩ rfl (λ_ eg aw=>by cases aw;exact bA) ⟨?_,(λh=>by cases h),λeg aw=>?_⟩⟩
  ·exact na.symm
  ·rw[cr,bg.len,ax,lX]
  ·cases aw;exact⟨ew,e',fe,jZ⟩
end
noncomputable section
inductive bh(α:Type) where
 |nil| node (x:Option α) (l r:bh α)
def b2{α:Type}(b:Bool)(x y:α):α:=@Bool.rec (λ_=>α) y x b
def bu{α R:Type}(o:Option α)(x:R)(f:α->R):R:=@Option.rec α (λ_=>R) x f o
section
variable{α R:Type}
def bh.get(t:bh α):Nat->Option α:=@bh.rec α (λ_=>Nat->Option α) (λ_=>none) (λx _ _ akX E1 k=>b2 (Nat.beq k 0) x (b2 (Nat.beq (Nat.mod k 2) 1) (akX (Nat.div k 2)) (E1 (Nat.sub (Nat.div k 2) 1)))) t
def bh.nV(v:Option α)(t:bh α):Nat->(bh α->R)->R:=@bh.rec α (λ_=>Nat->(bh α->R)->R) (λk K=>b2 (Nat.beq k 0) (K (.node v .nil .nil)) (K .nil)) (λx l r sl akY k K=>b2 (Nat.beq k 0) (K (.node v l r)) (b2 (Nat.beq (Nat.mod k 2) 1) (sl (Nat.div k 2) λl=>K (.node x l r)) (akY (Nat.sub (Nat.div k 2) 1) λr=>K (.node x l r)))) t
def bh.E2(t:bh α)(off n:Nat):(List α->Option R)->Option R:=@Nat.rec (λ_=>Nat->(List α->Option R)->Option R) (λ_ K=>K []) (λ_ aQ off K=>bu (t.get off) none λv=>aQ (Nat.add off 1) λl=>K (v::l)) n off
def bh.yB(l:List α)(t:bh α)(off:Nat)(K:bh α->R):R:=@List.rec α (λ_=>bh α->Nat->R) (λt _=>K t) (λv _ aQ t off=>t.nV (some v) off λt=>aQ t (Nat.add off 1)) l t off
def bh.bare:Nat->bh α
 |0=>.nil| n+1=>.node none (bh.bare n) (bh.bare n)
end
inductive ap where
 |b(x:Bool) | i (k:IntKind) (n:Int) | s (l:List UInt8)| pn | p (id off:Nat) | g (n off:Nat)| sn | sl (id off n c:Nat) | sx (id off e n:Nat) | gs (g off n c:Nat) | so| mn | m (id:Nat)| f (g:Nat) (l r:List ap) | y (id:Nat) | fn| ni | Ii (t:Nat) (v:ap)| t (l:List ap) | a (l:List ap)
def ap.cells:ap->List ap
 | .a l=>l| v=>[v]
def ap.one:ap->Bool
 | .a _ | .t _=>false| _=>true
def Ij:Value->Option ap
 | .bool x=>some (.b x)| .int k n=>some (.i k n)| .string q=>some (.s q.data.toList)| .pointer none=>some .pn| .slice none 0 0=>some .sn| .map none=>some .mn| .nilFunc=>some .fn| .nilIface=>some .ni| _=>none
def yC:List Value->Option (List ap)
 |[]=>some []
 |v::vs=>match Ij v,yC vs with
  |some x,some l=>some (x::l)| _,_=>none
def E3:Value->Option ap
 | .agg cs=>match yC cs.toList with
  |some l=>some (.a l)| none=>none
 |v=>Ij v
def ap.nat:ap->Option Nat
 | .i _ (.ofNat n)=>some n| _=>none
inductive fw where
 |cells(cs:bh ap)(T fQ:Nat)| map (es:List (ap×ap))| loop (busy:Bool) (n:Nat) (an:bh ap) (ps:List Nat) (fk body:Code)| done (c:Code) (n:Nat) (an:bh ap) (ps:List Nat) (fk body:Code)
structure bw where
 t:bh fw
 n:Nat
def sU:Int->Int->Bool
 | .ofNat a,.ofNat b=>Nat.beq a b| .negSucc a,.negSucc b=>Nat.beq a b| _,_=>false
def CL:Int->Int->Bool
 | .ofNat a,.ofNat b=>Nat.ble a b| .negSucc a,.negSucc b=>Nat.ble b a| .negSucc _,.ofNat _=>true| .ofNat _,.negSucc _=>false
def DV(a b:Int):Bool:=!CL b a
def Rb(op:BinOp)(x y:Int):Option Bool:=match op with
 | .eql=>some (sU x y)| .neq=>some (!sU x y)| .lss=>some (DV x y)| .leq=>some (CL x y)| .gtr=>some (DV y x)| .geq=>some (CL y x)| _=>none
def L7:IntKind->Nat
 | .i8=>127 | .i16=>32767 | .i32=>2147483647 | .i64=>9223372036854775807| .u8=>255 | .u16=>65535 | .u32=>4294967295 | .u64=>18446744073709551615
def wT(k:IntKind):Int->Int
 | .ofNat n=>bif Nat.ble n (L7 k)then .ofNat n else k.wrap (.ofNat n)| n=>k.wrap n
def Zo:Int->Int->Int
 | .ofNat a,.ofNat b=>.ofNat (Nat.add a b)| a,b=>a+b
def Rc:Int->Int->Int
 | .ofNat a,.ofNat b=>bif Nat.ble b a then .ofNat (Nat.sub a b)else(.ofNat a:Int) - .ofNat b| a,b=>a-b
def Zp:Int->Int->Int
 | .ofNat a,.ofNat b=>.ofNat (Nat.mul a b)| a,b=>a*b
def Zq:Int->Int->Int
 | .ofNat a,.ofNat b=>.ofNat (Nat.div a b)| a,b=>a.tdiv b
def Zr:Int->Int->Int
 | .ofNat a,.ofNat b=>.ofNat (Nat.mod a b)| a,b=>a.tmod b
def Zs:Int->Nat->Int
 | .ofNat a,j=>.ofNat (Nat.mul a (Nat.pow 2 j))| a,j=>a*2^j
def Zt:Int->Nat->Int
 | .ofNat a,j=>.ofNat (Nat.div a (Nat.pow 2 j))| a,j=>a.fdiv (2^j)
def E4(op:BinOp)(k:IntKind)(x y:Int):Option Int:=
 match k,x,y with
 | .u64,.ofNat a,.ofNat b=>
  bif Nat.ble a 18446744073709551615&&Nat.ble b 18446744073709551615 then
   (match op with
   | .and=>some (.ofNat (Nat.land a b))| .or=>some (.ofNat (Nat.lor a b))| .xor=>some (.ofNat (Nat.xor a b))| .andNot=>some (.ofNat (Nat.land a (Nat.sub 18446744073709551615 b)))| _=>none)
  else none
 |_,_,_=>uC op k x y
def Rd(a b:UInt8):Bool:=Nat.beq a.toNat b.toNat
def vg:List UInt8->List UInt8->Bool
 |[],[]=>true| a::l,b::m=>bif Rd a b then vg l m else false| _,_=>false
def E5:ap->ap->Option Bool
 | .b x,.b w=>some (x == w)| .i k x,.i l w=>b2 (IntKind.lS k l) (some (sU x w)) none| .s x,.s w=>some (vg x w)| _,_=>none
def Zu:List ap->List ap->Option Bool
 |[],[]=>some true
 |x::l,w::m=>match E5 x w with
  |some true=>Zu l m
  |some false=>(match Zu l m with
   |some _=>some false| none=>none)
  |none=>none
 |_,_=>none
def avO:ap->ap->Option Bool
 | .pn,.pn=>some true| .pn,.p _ _=>some false| .p _ _,.pn=>some false| .pn,.g _ _=>some false| .g _ _,.pn=>some false| _,_=>none
def Re(op:BinOp)(k fL:IntKind)(a b:Int):Option ap:=match op with
 | .shl=>(match b with
  | .ofNat j=>some (.i k (wT k (Zs a (b2 (Nat.ble j k.bits) j k.bits))))| _=>none)
 | .shr=>(match b with
  | .ofNat j=>some (.i k (Zt a (b2 (Nat.ble j k.bits) j k.bits)))| _=>none)
 | .add=>b2 (IntKind.lS k fL) (some (.i k (wT k (Zo a b)))) none| .sub=>b2 (IntKind.lS k fL) (some (.i k (wT k (Rc a b)))) none| .mul=>b2 (IntKind.lS k fL) (some (.i k (wT k (Zp a b)))) none| .quo=>b2 (IntKind.lS k fL) (b2 (sU b 0) none (some (.i k (wT k (Zq a b))))) none| .rem=>b2 (IntKind.lS k fL) (b2 (sU b 0) none (some (.i k (Zr a b)))) none| .and=>b2 (IntKind.lS k fL) (bu (E4 .and k a b) none λr=>some (.i k r)) none| .or=>b2 (IntKind.lS k fL) (bu (E4 .or k a b) none λr=>some (.i k r)) none| .xor=>b2 (IntKind.lS k fL) (bu (E4 .xor k a b) none λr=>some (.i k r)) none| .andNot=>b2 (IntKind.lS k fL) (bu (E4 .andNot k a b) none λr=>some (.i k r)) none| op=>b2 (IntKind.lS k fL) (bu (Rb op a b) none λr=>some (.b r)) none
def Rf(op:BinOp)(a b:List UInt8):Option ap:=match op with
 | .eql=>some (.b (vg a b))| .neq=>some (.b (b2 (vg a b) false true))| .add=>b2 (Nat.ble (Nat.add a.length b.length) 9223372036854775807) (some (.s (a++b))) none| _=>none
def Rg(op:BinOp)(db:Option ea)(a b:Bool):Option ap:=match db with
 |some { bP:=.bool,.. }=>
  (match op with
  | .eql=>some (.b (a == b))| .neq=>some (.b (!(a == b)))| _=>none)
 |_=>none
def E6(agg:Bool)(l:List ap):Option ap:=bif agg then some (.a l)else match l with
 |[v]=>some v| _=>none
def CM:Nat->List ap->Option (List ap)
 |0,_=>some []| _+1,[]=>none
 |n+1,v::l=>match CM n l with
  |some r=>some (v::r)| none=>none
def CN{α:Type}:List α->Nat->List α
 |[],_=>[]| v::l,n=>bif Nat.beq n 0 then v::l else CN l (Nat.sub n 1)
def Au(E:Env)(t o:Nat)(l:List ap):Option ap:=bu (E t) none λi=>b2 (Nat.beq i.size 0) none <| bu (CM i.size (CN l o)) none λr=>E6 i.bP.agg r
def CO(F:Nat->ap->ap->Option Bool)(E:Env)(l m:List ap):List (Nat×Nat)->Option Bool
 |[]=>some true|(t,o)::r=>bu (Au E t o l) none λx=>bu (Au E t o m) none λy=>bu (F t x y) none λb=>b2 b (CO F E l m r) (some false)
def Zv(P:Program)(t:Nat):Bool:=match P.underlying t with
 |some (.struct cV)=>!P.stoodInHeld t&&cV.toList.all λf=>decide (f.name ≠ "_")
 |_=>false
def yD(P:Program)(E:Env):Nat->Nat->ap->ap->Option Bool
 |0,_,_,_=>none
 |d+1,t,x,y=>bu (E t) none λi=>match i.bP,x,y with
  | .bool,.b a,.b b=>some (a == b)| .int _,.i k a,.i fL b=>b2 (IntKind.lS k fL) (some (sU a b)) none| .string,.s a,.s b=>some (vg a b)| .struct cV,.a l,.a m=>b2 (Zv P t) (CO (yD P E d) E l m cV) none| .array n e,.a l,.a m=>bu (E e) none λaF=>CO (yD P E d) E l m ((List.range n).map λi=>(e,i*aF.size))
  |_,_,_=>none
def Ik(P:Program)(E:Env)(op:BinOp)(t:Nat)(l m:List ap):Option ap:=b2 (P.eqGuardType P.depth t) none (bu (yD P E 8 t (.a l) (.a m)) none λb=>match op with
 | .eql=>some (.b b)| .neq=>some (.b (!b))| _=>none)
def Rh:ap->Option Bool
 | .sn=>some true| .sl .. | .sx .. | .gs .. | .so=>some false| _=>none
def Ri:ap->Option Bool
 | .pn=>some true| .p .. | .g ..=>some false| _=>none
def L8(op:BinOp)(b:Bool):Option ap:=match op with
 | .eql=>some (.b b)| .neq=>some (.b (!b))| _=>none
def Rj(P:Program)(E:Env)(op:BinOp)(t:Nat)(x y:ap):Option ap:=
 match x,y with
 | .i k a,.i fL b=>Re op k fL a b| .s a,.s b=>Rf op a b| .b a,.b b=>Rg op (E t) a b| .a l,.a m=>Ik P E op t l m
 |x,.sn=>bu (E t) none λi=>(match i.bP with
  | .slice _=>bu (Rh x) none λb=>L8 op b
  |_=>none)
 |x,.pn=>bu (E t) none λi=>(match i.bP with
  | .pointer _=>bu (Ri x) none λb=>L8 op b
  |_=>none)
 |_,_=>none
def wU{α:Type}:List α->Nat->Option α
 |[],_=>none| v::l,n=>bif Nat.beq n 0 then some v else wU l (Nat.sub n 1)
def yE:List ap->Nat->List ap->Option (List ap)
 |cs,0,[]=>some cs
 |_::cs,0,v::vs=>match yE cs 0 vs with
  |some r=>some (v::r)| none=>none
 |c::cs,n+1,vs=>match yE cs n vs with
  |some r=>some (c::r)| none=>none
 |[],_,_=>none
def Av(place:Nat->Option (Nat×Nat)):List ap->List (Nat×ap)->Option (List ap)
 |cells,[]=>some cells
 |cells,(i,v)::bl=>match place i with
  |none=>none
  |some (off,size)=>bif Nat.beq v.cells.length size then(match yE cells off v.cells with
   |some cs=>Av place cs bl| none=>none)else none
def dw(an:bh ap):Operand->Option ap
 | .tmp t=>an.get t| .const v=>E3 v| .global g=>some (.g g 0)| .func f=>some (.f f [] [])
def oe(an:bh ap):List Operand->Option (List ap)
 |[]=>some []
 |x::xs=>match dw an x,oe an xs with
  |some v,some l=>some (v::l)| _,_=>none
def E7(an:bh ap):List (Nat×Operand)->Option (List (Nat×ap))
 |[]=>some []
 |(i,x)::xs=>match dw an x,E7 an xs with
  |some v,some l=>some ((i,v)::l)| _,_=>none
abbrev GT:=Nat->Option (bh ap)
def tW{R:Type}(G:GT)(m:bh fw)(x:ap)(n:Nat)(K:List ap->Option R):Option R:=match x with
 | .p id off=>(match m.get id with
  |some (.cells cs _ fQ)=>bif Nat.ble (Nat.add off n) fQ then cs.E2 off n K else none| _=>none)
 | .g g off=>(match G g with
  |some cs=>cs.E2 off n K| none=>none)
 |_=>none
def Il(x:ap)(n:Nat):Option ap:=match x with
 | .p id off=>some (.p id (Nat.add off n))| .g g off=>some (.g g (Nat.add off n))| _=>none
def L9(x:ap)(j sz:Nat):Option ap:=match x with
 | .sl id off n _=>bif Nat.blt j n then some (.p id (Nat.add off (Nat.mul j sz)))else none| .sx id off _ n=>bif Nat.blt j n then some (.p id (Nat.add off (Nat.mul j sz)))else none| .gs g off n _=>bif Nat.blt j n then some (.g g (Nat.add off (Nat.mul j sz)))else none| _=>none
def wV:ap->Option Nat
 | .sn | .so=>some 0| .sl _ _ n _ | .sx _ _ _ n | .gs _ _ n _=>some n| _=>none
def sV(v:ap):Option Nat:=match v with
 | .s l=>some l.length| v=>wV v
def Rk(x:ap)(sz l:Nat)(h:Option Nat):Option ap:=match x with
 | .sn=>bif Nat.beq l 0&&Nat.beq (h.getD 0) 0 then some .sn else none
 | .sl id off n c=>let h:=h.getD n
  bif Nat.ble l h&&Nat.ble h c then bif Nat.beq c l then some (.sl id off (Nat.sub h l) 0)else some (.sl id (Nat.add off (Nat.mul l sz)) (Nat.sub h l) (Nat.sub c l))else none
 | .sx id off e n=>let h:=h.getD n
  bif Nat.ble l h&&Nat.ble h n then(bif Nat.beq l 0||Nat.blt l n then some (.sx id (Nat.add off (Nat.mul l sz)) (Nat.add e l) (Nat.sub h l))else some .so)else none
 |_=>none
def CP(o:Option (Option ap)):Option (Option Nat):=match o with
 |none=>some none
 |some (some v)=>(match v.nat with
  |some n=>some (some n)| none=>none)
 |some none=>none
def Rl(l:List UInt8)(lo hi:Nat):List UInt8:=(CN l lo).take (Nat.sub hi lo)
def Zw(c a b:Option ap):Option ap:=match c,a,b with
 |some (.b c),some u,some v=>some (b2 c u v)| _,_,_=>none
def Zx(op:UnOp)(x:Option ap):Option ap:=match op,x with
 | .not,some (.b b)=>some (.b (b2 b false true))| .neg,some (.i k n)=>some (.i k (wT k (0-n)))| _,_=>none
def Zy(P:Program)(E:Env)(op:BinOp)(t:Nat)(x y:Option ap):Option ap:=bu x none λx=>bu y none λy=>Rj P E op t x y
def Zz(G:GT)(m:bh fw)(i:Option ea)(x:Option ap):Option ap:=bu i none λi=>bu x none λx=>tW G m x i.size λl=>E6 i.bP.agg l
def ZA(x:Option ap):Option ap:=match x with
 |some (.p id off)=>some (.p id off)| some (.g g off)=>some (.g g off)| _=>none
def L'(E:Env)(t i:Nat):Option (Nat×ea):=match E t with
 |some { bP:=.struct cV,.. }=>(match wU cV i with
  |some (fx,off)=>(match E fx with
   |some hv=>some (off,hv)| none=>none)
  |none=>none)
 |_=>none
def ZB(r:Option (Nat×ea))(x:Option ap):Option ap:=bu r none λr=>bu x none λx=>b2 (Nat.beq r.2.size 0) none (Il x r.1)
def Ma(aF:ea)(cs:List ap)(off:Nat):Option ap:=b2 (Nat.beq aF.size 0) none <| bu (CM aF.size (CN cs off)) none λl=>E6 aF.bP.agg l
def ZC(r:Option (Nat×ea))(x:Option ap):Option ap:=match r,x with
 |some (off,hv),some (.a cs)=>Ma hv cs off| _,_=>none
def Rm(E:Env)(t:Nat):Option (Option Nat×ea):=match E t with
 |some { bP:=.slice e,.. }=>(match E e with
  |some aF=>some (none,aF)| none=>none)
 |some { bP:=.array n e,.. }=>(match E e with
  |some aF=>some (some n,aF)| none=>none)
 |_=>none
def ZD(r:Option (Option Nat×ea))(x i:Option ap):Option ap:=bu r none λr=>bu x none λx=>bu i none λi=>bu i.nat none λj=>
 bu r.1 (L9 x j r.2.size) λn=>b2 (Nat.blt j n) (Il x (Nat.mul j r.2.size)) none
def Rn(l:List UInt8)(j:Nat):Option ap:=bu (wU l j) none λb=>some (.i .u8 (.ofNat b.toNat))
def ZE(cs:List ap)(j n:Nat)(aF:ea):Option ap:=b2 (Nat.beq (Nat.mul n aF.size) cs.length&&Nat.blt j n) (Ma aF cs (Nat.mul j aF.size)) none
def Im(E:Env)(t:Nat)(x i:Option ap):Option ap:=match E t,x,i with
 |some { bP:=.string,.. },some (.s l),some i=>bu i.nat none λj=>Rn l j
 |some { bP:=.array n e,.. },some (.a cs),some i=>bu (E e) none λaF=>bu i.nat none λj=>ZE cs j n aF
 |_,_,_=>none
def Io(o:Option (List ap)):Option ap:=bu o none λl=>some (.a l)
def ZF(E:Env)(t:Nat)(ps:Option (List (Nat×ap))):Option ap:=match E t,ps with
 |some i,some vs=>bu (yC i.zero) none λz=>(match i.bP with
  | .struct cV=>b2 (DT E cV) (Io (Av (places E cV) z vs)) none| .array _ e=>bu (E e) none λaF=>Io (Av (λj=>some (j*aF.size,aF.size)) z vs)
  |_=>none)
 |_,_=>none
def ZG(f:Fn)(cV cs:Option (List ap)):Option ap:=match f,cV,cs with
 | .func g,some cV,some cs=>some (.f g cV cs)| _,_,_=>none
def Ro(aF:ea)(x:ap)(lo hi:Option Nat):Option ap:=match lo,hi with
 |none,none=>(match x with
  | .sn | .sl .. | .sx .. | .so=>some x| _=>none)
 |lo,hi=>Rk x aF.size (lo.getD 0) hi
def Rp(l:List UInt8)(lo hi:Option Nat):Option ap:=match lo,hi with
 |none,none=>some (.s l)| lo,hi=>b2 (Nat.ble (lo.getD 0) (hi.getD l.length)&&Nat.ble (hi.getD l.length) l.length) (some (.s (Rl l (lo.getD 0) (hi.getD l.length)))) none
def Ip(E:Env)(t:Nat)(x:Option ap)(lo hi:Option (Option Nat)):Option ap:=match E t,x,lo,hi with
 |some { bP:=.slice e,.. },some x,some lo,some hi=>bu (E e) none λaF=>Ro aF x lo hi
 |some { bP:=.string,.. },some (.s l),some lo,some hi=>Rp l lo hi| _,_,_,_=>none
def ZH(x:Option ap)(i:Nat):Option ap:=match x with
 |some (.t vs)=>wU vs i| _=>none
def ZI(E:Env)(s d:Nat)(x:Option ap):Option ap:=match E s,E d,x with
 |some _,some { bP:=.int k,.. },some (.i _ n)=>some (.i k (wT k n))| _,_,_=>none
def Mb(o:Option Nat):Option ap:=bu o none λn=>some (.i .i64 (.ofNat n))
def ZJ(E:Env)(dC:List Nat)(l:Option (List ap)):Option ap:=match dC,l with
 |[t],some [v]=>(match E t,v with
  |some { bP:=.slice _,.. },v=>Mb (wV v)| some { bP:=.string,.. },.s l=>Mb (some l.length)| some { bP:=.array n _,.. },_=>Mb (some n)| _,_=>none)
 |_,_=>none
def ZK(l:Option (List ap)):Option ap:=match l with
 |some [.i k a,.i _ b]=>some (.i k (b2 (CL a b) b a))| _=>none
def ZL(l:Option (List ap)):Option ap:=match l with
 |some [.i k a,.i _ b]=>some (.i k (b2 (CL a b) a b))| _=>none
def ZM(E:Env)(dC:List Nat)(l:Option (List ap)):Option ap:=match dC,l with
 |[t],some [.sl _ _ _ c]=>(match E t with
  |some { bP:=.slice _,.. }=>some (.i .i64 (.ofNat c))| _=>none)
 |_,_=>none
def ZN(l:Option (List ap)):Option ap:=match l with
 |some [.sn]=>some .pn| some [.sl id off n c]=>b2 (Nat.beq c 0) none (some (.p id off))| some [.sx id off e n]=>b2 (Nat.beq n 0) none (some (.p id off))| _=>none
def Rq(E:Env)(b:Builtin)(dC:List Nat)(l:Option (List ap)):Option ap:=match b with
 | .len=>ZJ E dC l| .max=>ZK l| .min=>ZL l| .cap=>ZM E dC l| .unsafeSliceData=>ZN l| _=>none
def Rr(P:Program)(E:Env)(G:GT)(m:bh fw)(op:Op)(an:bh ap):Option ap:=
 match op with
 | .move x=>dw an x| .assign x=>dw an x| .pick c a b=>Zw (dw an c) (dw an a) (dw an b)| .unOp op _ x=>Zx op (dw an x)| .binOp op t x y _=>Zy P E op t (dw an x) (dw an y)| .load t x=>Zz G m (E t) (dw an x)| .nilCheck x=>ZA (dw an x)| .fieldAddr t x i=>ZB (L' E t i) (dw an x)| .field t x i=>ZC (L' E t i) (dw an x)| .indexAddr t x i=>ZD (Rm E t) (dw an x) (dw an i)| .index t x i=>Im E t (dw an x) (dw an i)| .build t parts=>ZF E t (E7 an parts.toList)| .makeFunc f first captured=>ZG f (oe an first.toList) (oe an captured.toList)
 | .slice t x lo hi none=>Ip E t (dw an x) (CP (lo.map (dw an))) (CP (hi.map (dw an)))| .extract x i=>ZH (dw an x) i| .convert s d x=>ZI E s d (dw an x)| .call { callee:=.builtin b,args,argTypes }=>Rq E b argTypes.toList (oe an args.toList)| _=>none
def Rs(E:Env)(t:Nat)(x hi mx:Option ap):Option ap:=match E t,x,hi,mx with
 |some { bP:=.slice e,.. },some (.sl id off n c),some (.i _ (.ofNat h)),some (.i _ (.ofNat k))=>bu (E e) none λaF=>
  b2 (Nat.ble h k&&(Nat.ble k c&&Nat.blt 0 k)) (some (.sl id off h k)) none
 |some { bP:=.slice e,.. },some (.sx id off a6 n),some (.i _ (.ofNat h)),some (.i _ (.ofNat k))=>bu (E e) none λaF=>
  b2 (Nat.ble h k&&(Nat.ble k n&&Nat.blt 0 k)) (some (.sl id off h k)) none
 |_,_,_,_=>none
def Rt(E:Env)(t:Nat)(x lo hi mx:Option ap):Option ap:=match E t,x,lo,hi,mx with
 |some { bP:=.slice e,.. },some (.sl id off n c),some (.i _ (.ofNat l)),some (.i _ (.ofNat h)),some (.i _ (.ofNat k))=>bu (E e) none λaF=>
  b2 (Nat.ble l h&&(Nat.ble h k&&(Nat.ble k c&&Nat.blt l k))) (some (.sl id (Nat.add off (Nat.mul l aF.size)) (Nat.sub h l) (Nat.sub k l))) none
 |_,_,_,_,_=>none
def Ru(x:Option ap):Option ap:=match x with
 |some (.i .u64 n)=>some (.i .u64 (jI n))| _=>none
def vh(P:Program)(E:Env)(G:GT)(m:bh fw)(op:Op)(an:bh ap):Option ap:=
 match op with
 | .unOp .xor t x=>Ru (dw an x)| .slice t x (some lo) (some hi) (some mx)=>Rt E t (dw an x) (dw an lo) (dw an hi) (dw an mx)| .slice t x none (some hi) (some mx)=>Rs E t (dw an x) (dw an hi) (dw an mx)| op=>Rr P E G m op an
def rX{R:Type}(n:Nat)(K:Nat->R):R:=Nat.casesOn (Nat.add n 1) (K 0) K
def ZO{R:Type}(n:Int)(K:Int->R):R:=match n with
 | .ofNat n=>rX n λn=>K (.ofNat n)
 | .negSucc n=>rX n λn=>K (.negSucc n)
def ZP{R:Type}(b:Bool)(K:Bool->R):R:=b2 b (K true) (K false)
def Rv{R:Type}(v:ap)(K:ap->R):R:=match v with
 | .b x=>ZP x λx=>K (.b x)
 | .i k n=>ZO n λn=>K (.i k n)
 | .p id off=>rX off λoff=>K (.p id off)
 | .g id off=>rX off λoff=>K (.g id off)
 | .sl id off n c=>rX off λoff=>rX n λn=>rX c λc=>K (.sl id off n c)
 | .sx id off e n=>rX off λoff=>rX e λe=>rX n λn=>K (.sx id off e n)
 |v=>K v
def CQ{R:Type}(m:bw)(e:fw)(K:Nat->bw->R):R:=rX m.n λn=>m.t.nV (some e) n λt=>K n ⟨t,Nat.add n 1⟩
def vi{R:Type}(m:bw)(l:List ap)(T:Nat)(K:Nat->bw->R):R:=bh.yB l .nil 0 λcs=>CQ m (.cells cs T l.length) K
def yF{R:Type}(m:bw)(x:ap)(l:List ap)(K:bw->Option R):Option R:=match x with
 | .p id off=>(match m.t.get id with
  |some (.cells cs T fQ)=>bif Nat.ble (Nat.add off l.length) fQ&&l.all ap.one then bh.yB l cs off λcs=>m.t.nV (some (.cells cs T fQ)) id λt=>K ⟨t,m.n⟩else none
  |_=>none)
 |_=>none
def CR:Nat->List ap->List ap
 |0,_=>[]| n+1,z=>z++CR n z
def E8(i:Option ea):Bool:=match i with
 |some { bP:=.int .u8,.. }=>true| _=>false
def wW(u:Option ea)(aF:ea)(x:ap):Bool:=match u,x with
 |some { bP:=.slice _,.. },.sn=>true| some { bP:=.slice _,.. },.so=>true| some { bP:=.slice _,.. },.sl ..=>true| some { bP:=.slice _,.. },.sx ..=>true| some { bP:=.string,.. },.s _=>Nat.beq aF.size 1| _,_=>false
def E9(G:GT)(m:bh fw)(x:ap)(sz:Nat){R:Type}(K:List ap->Option R):Option R:=match x with
 | .sn | .so=>K []| .sl id off n _ | .sx id off _ n=>tW G m (.p id off) (Nat.mul n sz) K| .s l=>K (l.map λb=>.i .u8 (.ofNat b.toNat))| _=>none
def Rw(G:GT)(m:bw)(id off n c:Nat)(l:List ap)(k sz T:Nat):Option (ap×bw):=
 b2 (Nat.ble (Nat.add n k) c) (yF m (.p id (Nat.add off (Nat.mul n sz))) l λm=>some (.sl id off (Nat.add n k) c,m)) (tW G m.t (.p id off) (Nat.mul n sz) λdO=>vi m (dO++l) T λid m=>some (.sx id 0 0 (Nat.add n k),m))
def Rx(m:bw)(id:Nat)(n:Nat)(cs:bh ap)(fQ:Nat)(l:List ap)(k sz T:Nat):Option (ap×bw):=
 b2 (Nat.ble (Nat.mul n sz) fQ) (m.t.nV none id λt=>bh.yB l cs (Nat.mul n sz) λcs=>CQ ⟨t,m.n⟩ (.cells cs T (Nat.mul (Nat.add n k) sz)) λid m=>some (.sx id 0 0 (Nat.add n k),m)) none
def Iq(G:GT)(m:bw)(s:ap)(l:List ap)(k sz bytes T:Nat):Option (ap×bw):=match s with
 | .sn=>b2 (Nat.ble (Nat.mul k bytes) 140737488355328&&Nat.ble k 9223372036854775807) (vi m l T λid m=>some (.sx id 0 0 k,m)) none| .sl id off n c=>b2 (Nat.ble (Nat.mul (Nat.add n k) bytes) 140737488355328&&Nat.ble (Nat.add n k) 9223372036854775807) (Rw G m id off n c l k sz T) none
 | .sx id off e n=>(match m.t.get id with
  |some (.cells cs mq fQ)=>b2 ((Nat.beq off 0&&Nat.beq e 0)&&(Nat.beq mq T&&(Nat.ble (Nat.mul (Nat.add n k) bytes) 140737488355328&&Nat.ble (Nat.add n k) 9223372036854775807))) (Rx m id n cs fQ l k sz T) none| _=>none)
 |_=>none
def Ir:List ap->List UInt8->Option (List UInt8)
 |[],a2=>some a2.reverse| .i .u8 (.ofNat n)::l,a2=>bif Nat.ble n 255 then Ir l (UInt8.ofNat n::a2)else none| _,_=>none
def Ry(l:List ap):Option (List UInt8):=Ir l []
def Is:ap->List (ap×ap)->Option (Option ap)
 |_,[]=>some none
 |k,(x,v)::l=>match E5 k x with
  |some true=>some (some v)| some false=>Is k l| none=>none
def It(k v:ap):List (ap×ap)->Option (List (ap×ap))
 |[]=>some [(k,v)]
 |(x,u)::l=>match E5 k x with
  |some true=>some ((k,v)::l)
  |some false=>(match It k v l with
   |some r=>some ((x,u)::r)| none=>none)
  |none=>none
abbrev mb:=Nat->List ap->bw->Option (ap×bw)
structure gS where
 P:Program
 E:Env
 G:GT
 pr:mb
def ZQ(i:Option ea)(t:Nat)(x:Option ap):Option (List ap×Nat×Nat×(Nat->ap)):=bu i none λi=>bu x none λv=>b2 (Nat.beq v.cells.length i.size) (some (v.cells,t,1,λid=>.p id 0)) none
def ZR(i:Option ea)(t:Nat):Option (List ap×Nat×Nat×(Nat->ap)):=bu i none λi=>bu (yC i.zero) none λz=>some (z,t,1,λid=>.p id 0)
def ZS(E:Env)(t len:Nat)(ps:Option (List (Nat×ap))):Option (List ap×Nat×Nat×(Nat->ap)):=match E t,ps with
 |some { bP:=.slice e,.. },some vs=>bu (E e) none λaF=>bu (yC aF.zero) none λz=>
  b2 (Nat.ble (Nat.mul len aF.size) 16777216&&Nat.blt 0 (Nat.mul len aF.size)) (bu (Av (λj=>some (j*aF.size,aF.size)) (CR len z) vs) none λcs=>some (cs,e,len,λid=>.sl id 0 len len)) (b2 (Nat.beq len 0&&vs.isEmpty) (some ([],e,0,λid=>.sl id 0 0 0)) none)
 |_,_=>none
def ZT(E:Env)(t:Nat)(l c:Option ap):Option (List ap×Nat×Nat×(Nat->ap)):=match E t,l,c with
 |some { bP:=.slice e,.. },some l,some c=>bu (E e) none λaF=>bu l.nat none λn=>bu c.nat none λk=>bu (yC aF.zero) none λz=>
  b2 (Nat.ble n k&&(Nat.ble (Nat.mul aF.bytes k) 140737488355328&&Nat.ble k 9223372036854775807)) (some (CR k z,e,k,λid=>.sl id 0 n k)) none
 |_,_,_=>none
def CS(E:Env)(o:Oper)(an:bh ap):Option (List ap×Nat×Nat×(Nat->ap)):=
 match o.op with
 | .box t x=>ZQ (E t) t (dw an x)| .alloc t=>ZR (E t) t| .buildSlice t len parts=>ZS E t len (E7 an parts.toList)| .makeSlice t l c=>ZT E t (dw an l) (dw an c)| _=>none
def Mc(i:Option ea)(m:bw)(x y:Option ap):Option (ap×bw):=bu i none λi=>bu x none λx=>bu y none λv=>b2 (Nat.beq v.cells.length i.size) (yF m x v.cells λm=>some (.t [],m)) none
def Md(i:Option ea)(m:bw):Option (ap×bw):=match i with
 |some { bP:=.map k e,.. }=>CQ m (.map []) λid m=>some (.m id,m)
 |_=>none
def Me(i:Option ea)(v:ap):Bool:=match i,v with
 |some { bP:=.int k,.. },.i fL _=>IntKind.lS k fL| some { bP:=.string,.. },.s _=>true| _,_=>false
def ZU(ok:Bool)(z:ap)(r:Option ap):ap:=b2 ok (bu r (.t [z,.b false]) λv=>.t [v,.b true]) (bu r z λv=>v)
def Rz(P:Program)(E:Env)(t:Nat)(m:bw)(x y:Option ap)(ok:Bool):Option (ap×bw):=match E t,x,y with
 |some { bP:=.map k e,.. },some (.m id),some y=>b2 (Me (E k) y) (match m.t.get id with
  |some (.map es)=>bu (Is y es) none λr=>bu (P.info? e) none λinf=>bu inf.zero none λz=>bu (E3 z) none λz=>some (ZU ok z r,m)
  |_=>none) none
 |_,_,_=>none
def Iu(E:Env)(t:Nat)(m:bw)(x y z:Option ap):Option (ap×bw):=match E t,x,y,z with
 |some { bP:=.map k e,.. },some (.m id),some y,some v=>b2 (Me (E k) y) (match m.t.get id with
  |some (.map es)=>bu (It y v es) none λes=>m.t.nV (some (.map es)) id λt=>some (.t [],⟨t,m.n⟩)
  |_=>none) none
 |_,_,_,_=>none
def Mf(G:GT)(m:bw)(id off n:Nat):Option (ap×bw):=tW G m.t (.p id off) n λl=>bu (Ry l) none λl=>some (.s l,m)
def Mg(Y:gS)(m:bw)(s d:Nat)(x:Option ap):Option (ap×bw):=match Y.E s,Y.E d,x with
 |some { bP:=.slice e,.. },some { bP:=.string,.. },some (.sl id off n _)=>b2 (E8 (Y.E e)) (Mf Y.G m id off n) none| some { bP:=.slice e,.. },some { bP:=.string,.. },some (.sx id off _ n)=>b2 (E8 (Y.E e)) (Mf Y.G m id off n) none| some { bP:=.slice e,.. },some { bP:=.string,.. },some .sn=>b2 (E8 (Y.E e)) (some (.s [],m)) none| _,_,_=>none
def E':ap->Bool
 | .sn | .so | .sx ..=>true| .sl _ _ n c=>Nat.ble n c| _=>false
def RA(Y:gS)(m:bw)(dC:List Nat)(l:Option (List ap)):Option (ap×bw):=match dC,l with
 |[t,u],some [s,x]=>(match Y.E t with
  |some { bP:=.slice e,.. }=>bu (Y.E e) none λaF=>b2 (wW (Y.E u) aF x) (E9 Y.G m.t x aF.size λl=>bu (sV x) none λk=>
    b2 (Nat.beq k 0) (b2 (E' s) (some (s,m)) none) (b2 (l.all ap.one) (Iq Y.G m s l k aF.size aF.bytes e) none)) none
  |_=>none)
 |_,_=>none
def RB(Y:gS)(m:bw)(dC:List Nat)(l:Option (List ap)):Option (ap×bw):=match dC,l with
 |[t,u],some [.sl id off n c,.s q]=>(match Y.E t with
  |some { bP:=.slice e,.. }=>bu (Y.E e) none λaF=>b2 (Nat.beq aF.size 1&&Nat.ble q.length n) (yF m (.p id off) (q.map λb=>.i .u8 (.ofNat b.toNat)) λm=>some (.i .i64 (.ofNat q.length),m)) none
  |_=>none)
 |_,_=>none
def RC(Y:gS)(m:bw)(dC:List Nat)(l:Option (List ap)):Option (ap×bw):=match dC,l with
 |[uN,it],some [.pn,.i .i64 (.ofNat 0)]=>some (.s [],m)
 |[uN,it],some [.p id 0,.i .i64 (.ofNat n)]=>(match Y.E uN,m.t.get id with
  |some { bP:=.pointer e,.. },some (.cells cs T fQ)=>bu (Y.E e) none λaF=>
   b2 (Nat.beq aF.size 1&&(Nat.beq T e&&Nat.blt 0 n)) (tW Y.G m.t (.p id 0) n λl=>bu (Ry l) none λl=>b2 (Nat.ble n 9223372036854775807) (m.t.nV none id λt=>some (.s l,⟨t,m.n⟩)) none) none
  |_,_=>none)
 |_,_=>none
def ZV(Y:gS)(m:bw)(b:Builtin)(dC:List Nat)(l:Option (List ap)):Option (ap×bw):=match b with
 | .append=>RA Y m dC l| .copy=>RB Y m dC l| .unsafeString=>RC Y m dC l| _=>none
def RD(Y:gS)(m:bw)(o:Oper)(an:bh ap):Option (ap×bw):=
 match o.op with
 | .store t x y=>bu o.dst (Mc (Y.E t) m (dw an x) (dw an y)) λ_=>none
 | .makeMap t none=>Md (Y.E t) m
 | .makeMap t (some x)=>(match dw an x with
  |some (.i _ _)=>Md (Y.E t) m| _=>none)
 | .lookup t x y ok=>Rz Y.P Y.E t m (dw an x) (dw an y) ok| .mapUpdate t x y z=>bu o.dst (Iu Y.E t m (dw an x) (dw an y) (dw an z)) λ_=>none
 | .insert t x y z=>bu o.dst (Iu Y.E t m (dw an x) (dw an y) (dw an z)) λ_=>none
 | .convert s d x=>Mg Y m s d (dw an x)| .call { callee:=.builtin b,args,argTypes }=>ZV Y m b argTypes.toList (oe an args.toList)| _=>none
def lD(E:Env)(op:Op):Nat:=match op with
 | .move _ | .assign _ | .pick .. | .binOp .. | .load .. | .nilCheck _ | .fieldAddr .. | .field .. | .indexAddr .. | .index .. | .build .. | .makeFunc .. | .extract .. | .unOp .. | .slice ..=>0| .alloc _ | .box .. | .buildSlice .. | .makeSlice ..=>1
 | .convert s d _=>(match E d with
  |some { bP:=.int _,.. }=>0| _=>2)
 | .call { callee:=.builtin .len,argTypes,.. }=>(match argTypes.toList with
  |[t]=>(match E t with
   |some { bP:=.map ..,.. }=>2| _=>0)
  |_=>2)
 | .call { callee:=.builtin .cap,.. }=>0| .call { callee:=.builtin .max,.. }=>0| .call { callee:=.builtin .min,.. }=>0| .call { callee:=.builtin .unsafeSliceData,.. }=>0| _=>2
def p1{R:Type}(dst:Option Nat)(an:bh ap)(v:ap)(K:bh ap->Option R):Option R:=bu dst (K an) λd=>Rv v λv=>an.nV (some v) d K
def ZW{R:Type}(call:ap->List ap->bw->Option (ap×bw))(dst:Option Nat)(f:Option ap)(l:Option (List ap))(an:bh ap)(m:bw)(K:bh ap->bw->Option R):Option R:=
 bu f none λf=>bu l none λl=>bu (call f l m) none λr=>b2 (Nat.ble m.n r.2.n) (p1 dst an r.1 λan=>K an r.2) none
def ZX{R:Type}(dst:Option Nat)(r:Option (List ap×Nat×Nat×(Nat->ap)))(an:bh ap)(m:bw)(K:bh ap->bw->Option R):Option R:=
 bu dst none λd=>bu r none λr=>vi m r.1 r.2.1 λid m=>p1 (some d) an (r.2.2.2 id) λan=>K an m
def ZY{R:Type}(dst:Option Nat)(v:Option ap)(an:bh ap)(m:bw)(K:bh ap->bw->Option R):Option R:=
 bu v none λv=>p1 dst an v λan=>K an m
def ZZ{R:Type}(dst:Option Nat)(n:Nat)(r:Option (ap×bw))(an:bh ap)(K:bh ap->bw->Option R):Option R:=
 bu r none λr=>b2 (Nat.ble n r.2.n) (p1 dst an r.1 λan=>K an r.2) none
def Z0{R:Type}(Y:gS)(k:Nat)(o:Oper)(an:bh ap)(m:bw)(K:bh ap->bw->Option R):Option R:=match k with
 |0=>ZY o.dst (vh Y.P Y.E Y.G m.t o.op an) an m K| 1=>ZX o.dst (CS Y.E o an) an m K| _=>ZZ o.dst m.n (RD Y m o an) an K
def Aw{R:Type}(Y:gS)(call:ap->List ap->bw->Option (ap×bw))(o:Oper)(an:bh ap)(m:bw)(K:bh ap->bw->Option R):Option R:=
 match o.op with
 | .call { callee:=.value f,args,.. }=>ZW call o.dst (dw an f) (oe an args.toList) an m K| op=>Z0 Y (lD Y.E op) o an m K
def CT{R:Type}(o:Oper)(an:bh ap)(K:bh ap->Option R):Option R:=match o.dst with
 |none=>K an| some d=>an.nV (some (.t [])) d K
def vj(ops:List Oper)(o:Oper)(an:bh ap):Option Bool:=match o.guard with
 |none=>some true
 |some (j,b)=>match(wU ops j).bind (·.dst)with
  |none=>none
  |some d=>match an.get d with
   |some (.b c)=>some (c == b)| some (.t _)=>some false| _=>none
def Fa(Y:gS)(call:ap->List ap->bw->Option (ap×bw))(ops:List Oper)(l:List Oper):bh ap->bw->Option (bh ap×bw):=
 @List.rec Oper (λ_=>bh ap->bw->Option (bh ap×bw)) (λan m=>some (an,m)) (λo _ aQ an m=>bu (vj ops o an) none λw=>b2 w (Aw Y call o an m aQ) (CT o an λan=>aQ an m)) l
def CU(E:Env)(ops:List Oper)(i:Nat):Nat:=bu (wU ops i) 2 λo=>lD E o.op
def yG(E:Env)(ops:List Oper):List Nat:=(List.range ops.length).filter λi=>Nat.beq (CU E ops i) 2
def Fb(es g1:List Nat)(i:Nat):Nat:=(es.filter λe=>(g1.getD i 0).testBit e).length
def lE(es g1:List Nat)(i:Nat):Nat:=(es.filter λe=>!(g1.getD e 0).testBit i).length
def Z1(E:Env)(ops:List Oper)(es g1:List Nat)(j:Nat):List (Nat×Nat):=((List.range ops.length).filter λi=>!Nat.beq (CU E ops i) 2&&Nat.beq (Fb es g1 i) j).map λi=>(i,CU E ops i)
def Z2(E:Env)(ops:List Oper)(es g1:List Nat):List Nat->Nat->List (Nat×Nat)
 |[],j=>Z1 E ops es g1 j| e::l,j=>Z1 E ops es g1 j++(e,2)::Z2 E ops es g1 l (j+1)
def Iv(E:Env)(ops:List Oper):List (Nat×Nat):=Z2 E ops (yG E ops) (lq ops) (yG E ops) 0
def wX(ops:List Oper):List (Nat×Nat)->Nat->Bool
 |[],k=>Nat.beq k (2^ops.length-1)
 |(i,_)::l,k=>!k.testBit i&&(match ops[i]? with
  |some o=>G5 o k&&wX ops l (k ||| 2^i)| none=>false)
def Mh(g1:List Nat):List Nat->Bool
 |[]=>true| x::l=>l.all (λy=>(g1.getD y 0).testBit x)&&Mh g1 l
def Z3(E:Env)(ops:List Oper):Bool:=B0 ops&&(wX ops (Iv E ops) 0&&(Mh (lq ops) (yG E ops)&&(((Iv E ops).filter λr=>Nat.beq r.2 2).map (·.1) == yG E ops)))
mutual
def Fc:ap->ap->Bool
 | .b x,.b w=>x == w| .i k x,.i l w=>IntKind.lS k l&&sU x w| .s x,.s w=>vg x w| .pn,.pn=>true| .p i x,.p j w=>Nat.beq i j&&Nat.beq x w| .g i x,.g j w=>Nat.beq i j&&Nat.beq x w| .sn,.sn=>true| .sl i x n c,.sl j w m d=>Nat.beq i j&&(Nat.beq x w&&(Nat.beq n m&&Nat.beq c d))| .sx i x n c,.sx j w m d=>Nat.beq i j&&(Nat.beq x w&&(Nat.beq n m&&Nat.beq c d))| .gs i x n c,.gs j w m d=>Nat.beq i j&&(Nat.beq x w&&(Nat.beq n m&&Nat.beq c d))| .mn,.mn=>true| .m i,.m j=>Nat.beq i j| .f g l r,.f h m s=>Nat.beq g h&&(wY l m&&wY r s)| .y i,.y j=>Nat.beq i j| .fn,.fn=>true| .ni,.ni=>true| .t l,.t m=>wY l m| .a l,.a m=>wY l m| _,_=>false
def wY:List ap->List ap->Bool
 |[],[]=>true| x::l,w::m=>Fc x w&&wY l m| _,_=>false
end
inductive qN where
 |made(i id:Nat)(l:List ap)(T:Nat)| load (i:Nat) (o:Oper) (an:bh ap) (v:ap)
def o6(Y:gS)(call:ap->List ap->bw->Option (ap×bw))(ops:List Oper):List (Nat×Nat)->bh ap->bw->List bw->List qN->Option (bh ap×bw×List bw×List qN)
 |[],an,m,S,A=>some (an,m,m::S,A)|(i,k)::bl,an,m,S,A=>bu (wU ops i) none λo=>bu (vj ops o an) none λw=>b2 (Nat.beq (lD Y.E o.op) k) (b2 w (b2 (Nat.beq k 0) (bu (vh Y.P Y.E Y.G m.t o.op an) none λv=>p1 o.dst an v λdf=>o6 Y call ops bl df m S (b2 (qq o.op) (.load i o an v::A) A)) (b2 (Nat.beq k 1) (bu o.dst none λd=>bu (CS Y.E o an) none λr=>vi m r.1 r.2.1 λid m=>p1 (some d) an (r.2.2.2 id) λan=>o6 Y call ops bl an m S (.made i id r.1 r.2.1::A)) (Aw Y call o an m λan m'=>o6 Y call ops bl an m' (m::S) A))) (CT o an λan=>o6 Y call ops bl an m (b2 (Nat.beq k 2) (m::S) S) A)) none
def Fe(S:List bw)(lo hi:Nat)(p:bw->Bool):Bool:=((S.drop lo).take (hi+1-lo)).all p
def RE(Y:gS)(o:Oper)(an:bh ap)(v:ap)(m:bw):Bool:=match vh Y.P Y.E Y.G m.t o.op an with
 |some u=>Fc u v| none=>false
def RF(id:Nat)(l:List ap)(T:Nat)(m:bw):Bool:=Nat.blt id m.n&&(match m.t.get id with
 |some (.cells cs mq fQ)=>Nat.beq mq T&&(Nat.beq fQ l.length&&(match cs.E2 0 l.length (λeu=>some eu)with
  |some eu=>wY l eu| none=>false))
 |_=>false)
def RG(Y:gS)(es g1:List Nat)(S:List bw):qN->Bool
 | .made i id l T=>Fe S (Fb es g1 i) (lE es g1 i) (RF id l T)| .load i o an v=>Fe S (Fb es g1 i) (lE es g1 i) (RE Y o an v)
def RH(Y:gS)(call:ap->List ap->bw->Option (ap×bw))(ops:List Oper)(an:bh ap)(m:bw):Option (bh ap×bw):=
 b2 (Z3 Y.E ops) (match o6 Y call ops (Iv Y.E ops) an m [] []with
  |none=>none| some (an,m,S,A)=>b2 (A.all (RG Y (yG Y.E ops) (lq ops) S.reverse)) (some (an,m)) none) none
def Ff{R:Type}:List Nat->List ap->bh ap->(bh ap->Option R)->Option R
 |[],[],an,K=>K an| t::ps,v::vs,an,K=>an.nV (some v) t λan=>Ff ps vs an K
 |_,_,_,_=>none
def Ax(Y:gS)(an:bh ap)(m:bh fw):List ResultVar->Option (List ap)
 |[]=>some []
 | .tmp t::l=>(match an.get t,Ax Y an m l with
  |some v,some vs=>some (v::vs)| _,_=>none)
 | .cell t ty::l=>(match an.get t,Y.E ty,Ax Y an m l with
  |some x,some i,some vs=>(match tW Y.G m x i.size λl=>E6 i.bP.agg l with
   |some v=>some (v::vs)| none=>none)
  |_,_,_=>none)
abbrev p2:=to×bh ap×bw
abbrev tX:=Bool->Nat->Code->bh ap->bw->Option p2
def Z4:List ap->ap
 |[v]=>v| vs=>.t vs
def Mi(Y:gS)(an:bh ap)(m:bw)(a':List ResultVar):Option (ap×bw):=bu (Ax Y an m.t a') none λvs=>some (Z4 vs,m)
def Z5(Y:gS)(r:Option p2)(a':List ResultVar):Option (ap×bw):=match r with
 |some (.normal,an,m)=>Mi Y an m a'| some (.ret,an,m)=>Mi Y an m a'| _=>none
def Mj(Y:gS)(rec:tX)(g:Nat)(args:List ap)(m:bw):Option (ap×bw):=
 bu (Y.P.funcs[g]?) none λfn=>bu fn.body none λc=>b2 (Nat.ble args.length fn.ntmps) (bh.yB args (bh.bare 12) 0 λan=>Z5 Y (rec true fn.ntmps c an m) fn.results.toList) none
def yH(Y:gS)(rec:tX)(g:Nat)(args:List ap)(m:bw):Option (ap×bw):=bu (Y.pr g args m) (Mj Y rec g args m) some
def RI(l:Nat)(e:Option fw)(jump:Option Code)(m:bw):Option (ap×bw):=match e with
 |some (.loop true n nd ps fk body)=>m.t.nV (some (bu jump (.loop false n nd ps fk body) λc=>.done c n nd ps fk body)) l λt=>some (.b jump.isNone,⟨t,m.n⟩)
 |_=>none
def Z6(l:Nat)(r:Option p2):Option (ap×bw):=bu r none λr=>RI l (r.2.2.t.get l) (Eb r.1) r.2.2
def RJ(rec:tX)(l n:Nat)(body:Code)(e:Option fw)(an:bh ap)(m:bw):Option (ap×bw):=match e with
 |some (.loop false gw nd ps fk RK)=>m.t.nV (some (.loop true gw nd ps fk RK)) l λt=>Z6 l (rec false n body an ⟨t,m.n⟩)
 |_=>none
def Z7(rec:tX)(l n:Nat)(body:Code)(r:Option p2):Option (ap×bw):=match r with
 |some (.normal,an,m)=>RJ rec l n body (m.t.get l) an m| _=>none
def RL(rec:tX)(l:Nat)(args:List ap)(m:bw):Option (ap×bw):=match m.t.get l with
 |some (.loop false n nd ps fk body)=>Ff ps args nd λan=>Z7 rec l n body (rec false n fk an m)
 |_=>none
def Mk(Y:gS)(rec:tX)(f:ap)(args:List ap)(m:bw):Option (ap×bw):=match f with
 | .f g l r=>yH Y rec g (l++(args++r)) m| .y l=>RL rec l args m| _=>none
def RM:Code->Option to
 | .exit id=>some (.exit id)| .goto l=>some (.goto l)| .ret=>some .ret| _=>none
def Iw(r:Option p2)(k:bh ap->bw->Option p2):Option p2:=match r with
 |some (.normal,an,m)=>k an m| r=>r
def Z8(id:Nat)(r:Option p2):Option p2:=match r with
 |some (.exit j,an,m)=>b2 (Nat.beq j id) (some (.normal,an,m)) (some (.exit j,an,m))| r=>r
def Ml(r:Option (bh ap×bw)):Option p2:=bu r none λr=>some (.normal,r.1,r.2)
def Z9(v:Option ap)(x y:Option p2):Option p2:=match v with
 |some (.b b)=>b2 b x y| _=>none
def Ix(rec:tX)(gT:Bool)(n:Nat)(c:Code)(k:Nat):Code->bh ap->bw->Option p2:=@Nat.rec (λ_=>Code->bh ap->bw->Option p2) (λ_ _ _=>none)
 (λ_ aQ x an m=>match rec gT n x an m with
  |some (.goto l,an,m)=>bu (findLabel c l) none λbl=>aQ bl an m
  |r=>r) k
def Z'(l:Nat)(an:bh ap)(r:Option (ap×bw)):Option p2:=bu r none λr=>match r.2.t.get l with
 |some (.loop false ..)=>r.2.t.nV none l λt=>some (.normal,an,⟨t,r.2.n⟩)
 |some (.done c ..)=>bu (RM c) none λex=>r.2.t.nV none l λt=>some (ex,an,⟨t,r.2.n⟩)
 |_=>none
def RN(Y:gS)(rec:tX)(gT:Bool)(n:Nat)(v:Option ap)(ps:List Nat)(fk body:Code)(an:bh ap)(m:bw):Option p2:=match gT,v with
 |true,some (.f g [] r)=>CQ m (.loop false n an ps fk body) λl m=>Z' l an (Mj Y rec g (.y l::r) m)
 |_,_=>none
def RO(Y:gS)(f:Nat)(rec:tX):tX:=λgT n c an m=>match c with
 | .skip=>some (.normal,an,m)| .label _=>some (.normal,an,m)| .ret=>some (.ret,an,m)| .exit id=>some (.exit id,an,m)| .goto l=>some (.goto l,an,m)| .seq x y=>Iw (rec gT n x an m) (rec gT n y)| .block id c=>Z8 id (rec gT n c an m)| .cond c x y=>Z9 (dw an c) (rec gT n x an m) (rec gT n y an m)| .loop c=>Iw (rec gT n c an m) (rec gT n (.loop c))| .region _ ops false=>Ml (Fa Y (Mk Y rec) ops.toList ops.toList an m)| .region _ ops true=>Ml (RH Y (Mk Y rec) ops.toList an m)| .scope c=>Ix rec gT n c f c an m| .rangeFunc x ps fk body=>RN Y rec gT n (dw an x) ps.toList fk body an m| .refuse _=>none
def lF(Y:gS)(f:Nat):tX:=@Nat.rec (λ_=>tX) (λ_ _ _ _ _=>none) (λf aQ=>RO Y f aQ) f
end
section
variable{α R:Type}
def kA{α:Type}(b:Bool)(x y:α):b2 b x y=bif b then x else y:=by cases b<;>rfl
def ct{α R:Type}{o:Option α}{f:α->Option R}{r:R}(h:bu o none f=some r):∃ v,o=some v/\f v=some r:=by
 cases o with
 |none=>cases h| some v=>exact⟨v,rfl,h⟩
def fY{α:Type}{x:Option α}{r:α}(h:b2 b x none=some r):b=true/\x=some r:=by
 cases b with
 |true=>exact⟨rfl,h⟩| false=>cases h
def Ay{α:Type}{x:Option α}{r:α}(h:b2 b none x=some r):b=false/\x=some r:=by
 cases b with
 |false=>exact⟨rfl,h⟩| true=>cases h
def bh.Iy(x:Option α)(l r:bh α)(k:Nat):(bh.node x l r).get k=bif Nat.beq k 0 then x else bif Nat.beq (k%2) 1 then l.get (k/2)else r.get (k/2-1):=by show b2 _ _ (b2 _ _ _)=_;rw[kA,kA];rfl
def bh.o7(v:Option α):∀ (t:bh α) (k:Nat),∃ bn:bh α,(∀ {R:Type} (K:bh α->R),t.nV v k K=K bn)/\∀ j x,bn.get j=some x->(j=k/\v=some x)\/(j≠k/\t.get j=some x)
 | .nil,k=>by
  cases ae:Nat.beq k 0 with
  |true=>
   have:=ed ae;subst this;refine⟨.node v .nil .nil,λK=>rfl,λj x h=>?_⟩;rw[bh.Iy]at h;cases ai:Nat.beq j 0 with
   |true=>rw[ai]at h;exact .inl ⟨ed ai,h⟩
   |false=>
    rw[ai]at h;cases hm:Nat.beq (j%2) 1<;>(rw[hm]at h;cases h)
  |false=>refine⟨.nil,λK=>?_,λj x h=>by cases h⟩;show b2 _ _ _=_;rw[kA,ae];rfl
 | .node x l r,k=>by
  cases ae:Nat.beq k 0 with
  |true=>
   have:=ed ae;subst this;refine⟨.node v l r,λK=>rfl,λj y h=>?_⟩;rw[bh.Iy]at h |-;cases ai:Nat.beq j 0 with
   |true=>rw[ai]at h;exact .inl ⟨ed ai,h⟩| false=>rw[ai]at h;exact .inr ⟨(λe=>by subst e;cases ai),h⟩
  |false=>
   have lx:k≠0:=λe=>by subst e;cases ae
   cases hm:Nat.beq (k%2) 1 with
   |true=>
    have sv:=ed hm;obtain⟨eu,aa,ad⟩:=bh.o7 v l (k/2);refine⟨.node x eu r,λK=>?_,λj y h=>?_⟩;·show b2 _ _ (b2 _ _ _)=_;rw[kA,kA,ae];show(bif Nat.beq (k%2) 1 then _ else _)=_;rw[hm];exact aa _
    ·rw[bh.Iy]at h |-;cases ai:Nat.beq j 0 with
     |true=>rw[ai]at h;exact .inr ⟨λe=>by have:=ed ai;omega,h⟩
     |false=>
      rw[ai]at h;have akZ:j≠0:=λe=>by subst e;cases ai
      cases tY:Nat.beq (j%2) 1 with
      |true=>
       have ak0:=ed tY;rw[tY]at h;rcases ad _ _ h with⟨e,aj⟩ | ⟨e,aj⟩;·exact .inl ⟨by omega,aj⟩
       ·exact .inr ⟨λcZ=>e (by rw[cZ]),aj⟩
      |false=>rw[tY]at h;exact .inr ⟨(λe=>by subst e;rw[hm]at tY;cases tY),h⟩
   |false=>
    have sv:k%2≠1:=λe=>by rw[e]at hm;cases hm
    obtain⟨r',aa,ad⟩:=bh.o7 v r (k/2-1);refine⟨.node x l r',λK=>?_,λj y h=>?_⟩;·show b2 _ _ (b2 _ _ _)=_;rw[kA,kA,ae];show(bif Nat.beq (k%2) 1 then _ else _)=_;rw[hm];exact aa _
    ·rw[bh.Iy]at h |-;cases ai:Nat.beq j 0 with
     |true=>rw[ai]at h;exact .inr ⟨λe=>by have:=ed ai;omega,h⟩
     |false=>
      rw[ai]at h;have akZ:j≠0:=λe=>by subst e;cases ai
      cases tY:Nat.beq (j%2) 1 with
      |true=>rw[tY]at h;exact .inr ⟨(λe=>by subst e;rw[hm]at tY;cases tY),h⟩
      |false=>
       have ak0:j%2≠1:=λe=>by rw[e]at tY;cases tY
       rw[tY]at h;rcases ad _ _ h with⟨e,aj⟩ | ⟨e,aj⟩;·exact .inl ⟨by omega,aj⟩
       ·exact .inr ⟨λcZ=>e (by rw[cZ]),aj⟩
def bh.Fg(t:bh α):∀ (n off:Nat) (K:List α->Option R) (r:R),t.E2 off n K=some r->∃ l,l.length=n/\(∀ i,i<n->t.get (off+i)=l[i]?)/\K l=some r
 |0,off,K,r,h=>⟨[],rfl,λi hi=>by omega,h⟩
 |n+1,off,K,r,h=>by
  have bq:bu (t.get off) none (λv=>t.E2 (off+1) n λl=>K (v::l))=some r:=h;obtain⟨v,aj,bq⟩:=ct bq;obtain⟨l,aa,ad,ak⟩:=bh.Fg t n (off+1) _ r bq;refine⟨v::l,by simp[aa],λi hi=>?_,ak⟩;cases i with
  |zero=>simpa using aj| succ i=>have:=ad i (by omega);rw[show off+(i+1)=off+1+i by omega,this];simp
def bh.yI:∀ (l:List α) (t:bh α) (off:Nat),∃ bn:bh α,(∀ {R:Type} (K:bh α->R),bh.yB l t off K=K bn) /\ ∀ j x,bn.get j=some x->(off<=j/\l[j-off]?=some x)\/((j<off\/off+l.length<=j)/\t.get j=some x)
 |[],t,off=>⟨t,λK=>rfl,λj x h=>.inr ⟨by simp;omega,h⟩⟩
 |v::l,t,off=>by
  obtain⟨t1,aa,ad⟩:=bh.o7 (some v) t off;obtain⟨t2,ak,aK⟩:=bh.yI l t1 (off+1);refine⟨t2,λK=>(aa _).trans (ak K),λj x h=>?_⟩;rcases aK j x h with⟨bc,bi⟩ | ⟨bc,bi⟩;·exact .inl ⟨by omega,by rw[show j-off=(j-(off+1))+1 by omega];simpa using bi⟩
  ·rcases ad j x bi with⟨rfl,e⟩ | ⟨e,ca⟩
   ·exact .inl ⟨b' _,by simp at e;simp[e]⟩
   ·exact .inr ⟨by simp only[et];omega,ca⟩
end
def RP(n:Nat)(K:Nat->R):rX n K=K n:=rfl
def ak1(n:Int)(K:Int->R):ZO n K=K n:=by cases n<;>rfl
def ak2(b:Bool)(K:Bool->R):ZP b K=K b:=by cases b<;>rfl
def ak3(v:ap)(K:ap->R):Rv v K=K v:=by
 cases v with
 |b x=>exact ak2 x λx=>K (.b x)
 |i k n=>exact ak1 n λn=>K (.i k n)
 |_=>rfl
def RQ(a b:Nat):Nat.beq a b=decide (a=b):=by
 by_cases h:a=b
 ·subst h;simp
 ·rw[hI h];simp[h]
def Mm(a b:Nat):Nat.ble a b=decide (a<=b):=by
 by_cases h:a<=b
 ·rw[EY h];simp[h]
 ·cases ag:Nat.ble a b with
  |false=>simp[h]| true=>exact absurd (bK ag) h
def CV(a b:Int):sU a b=decide (a=b):=by
 cases a<;>cases b<;>simp only[sU,RQ]<;>simp
 omega
def Mn(a b:Int):CL a b=decide (a<=b):=by
 cases a<;>cases b<;>simp only[CL]
 ·rw[Mm];simp only[L6];exact Int.ofNat_le.symm
 ·symm;simp only[st];rename_i a b;have:=Int.negSucc_lt_zero b;have:(0:Int)<=Int.ofNat a:=Ih a;omega
 ·symm;simp only[h6];rename_i a b;have:=Int.negSucc_lt_zero a;have:(0:Int)<=Int.ofNat b:=Ih b;omega
 ·rw[Mm];simp only[L6,Int.negSucc_eq];omega
def ak4(a b:Int):DV a b=decide (a<b):=by
 unfold DV;rw[Mn];by_cases h:a<b
 ·simp[h]
 ·simp[h];omega
def ak5(op:BinOp)(x y:Int):Rb op x y=xC op x y:=by cases op<;>simp only[Rb,xC,CV,ak4,Mn]
def Az(k:IntKind)(n:Int):wT k n=k.wrap n:=by
 cases n with
 |negSucc n=>rfl
 |ofNat n=>
  simp only[wT];cases h:Nat.ble n (L7 k)with
  |false=>rfl
  |true=>
   have bq:=bK h;simp only[cF];cases k<;>simp only[L7]at bq<;>simp only[IntKind.wrap,IntKind.signed,IntKind.bits]<;>simp<;>omega
def ak6(a b:Int):Zo a b=a+b:=by cases a<;>cases b<;>rfl
def ak7(a b:Int):Rc a b=a-b:=by
 cases a<;>cases b<;>try rfl
 rename_i a b;simp only[Rc];cases h:Nat.ble b a with
 |false=>rfl| true=>have:=bK h;show((a-b:Nat):Int)=(a:Int)-b;omega
def ak8(a b:Int):Zp a b=a*b:=by cases a<;>cases b<;>rfl
def ak9(a b:Int):Zq a b=a.tdiv b:=by cases a<;>cases b<;>rfl
def ala(a b:Int):Zr a b=a.tmod b:=by cases a<;>cases b<;>rfl
def alb(a:Int)(j:Nat):Zs a j=a*2^j:=by
 cases a with
 |negSucc a=>rfl| ofNat a=>show((a*2^j:Nat):Int)=(a:Int)*2^j;simp
def alc(a:Int)(j:Nat):Zt a j=a.fdiv (2^j):=by
 cases a with
 |negSucc a=>rfl| ofNat a=>show((a/2^j:Nat):Int)=(a:Int).fdiv (2^j);rw[show(2:Int)^j=((2^j:Nat):Int) by simp];rw[K' _ (Ih _)];simp
def aaa(j b:Nat):(bif Nat.ble j b then j else b)=min j b:=by
 rw[Mm];by_cases h:j<=b
 ·simp[h,pA h]
 ·simp[h];omega
def AA{a:Nat}(h:a<=18446744073709551615):(BitVec.ofInt IntKind.u64.bits (Int.ofNat a)).toNat=a:=by show(BitVec.ofInt 64 (a:Int)).toNat=a;rw[BitVec.ofInt_natCast,EA];omega
def wrap64{a:Nat}(h:a<=18446744073709551615):IntKind.u64.wrap (a:Int)=Int.ofNat a:=by show IntKind.u64.wrap (.ofNat a)=_;rw[<-Az];simp only[wT,L7,EY h,cF]
def Mo{op:BinOp}{k:IntKind}{x y r:Int}(h:E4 op k x y=some r):uC op k x y=some r:=by
 unfold E4 at h;split at h
 ·rename_i a b;cases ao:(Nat.ble a 18446744073709551615&&Nat.ble b 18446744073709551615)with
  |false=>rw[ao]at h;cases h
  |true=>
   rw[ao]at h;rw[cB]at ao;have a7:=bK ao.1;have ag:=bK ao.2;have yA:a<2^64:=by omega
   have Mp:b<2^64:=by omega
   simp only[cF]at h;split at h;·rw[<-h];simp only[uC,Lc,AA a7,AA ag];rw[wrap64 (by have:=Nat.and_lt_two_pow a Mp;omega)];rfl
   ·rw[<-h];simp only[uC,BitVec.toNat_or,AA a7,AA ag];rw[wrap64 (by have:=Nat.or_lt_two_pow yA Mp;omega)];rfl
   ·rw[<-h];simp only[uC,BitVec.toNat_xor,AA a7,AA ag];rw[wrap64 (by have:=Nat.xor_lt_two_pow yA Mp;omega)];rfl
   ·rw[<-h];have aD:(~~~(BitVec.ofInt IntKind.u64.bits (Int.ofNat b))).toNat=18446744073709551615-b:=by rw[BitVec.toNat_not,AA ag];rfl
    simp only[uC,Lc,AA a7,aD];rw[wrap64 (by have:=Nat.and_lt_two_pow a (show 18446744073709551615-b<2^64 by omega);omega)];rfl
   ·cases h
 ·exact h
def ald(a b:UInt8):Rd a b=decide (a=b):=by unfold Rd;rw[RQ];simp only[L6];exact UInt8.toNat_inj
def Fh:∀ (l m:List UInt8),vg l m=decide (l=m)
 |[],[]=>by simp[vg]
 |[],_::_=>by simp[vg]
 |_::_,[]=>by simp[vg]
 |a::l,b::m=>by
  simp only[vg,ald,Fh l m];by_cases h:a=b;·subst h;simp
  ·simp[h]
def AB{α:Type}:∀ (l:List α) (n:Nat),wU l n=l[n]?
 |[],n=>by simp[wU]
 |v::l,n=>by
  unfold wU;cases n with
  |zero=>rfl| succ n=>exact(AB l n).trans (by simp)
def Iz{α:Type}:∀ (l:List α) (n:Nat),CN l n=l.drop n
 |[],n=>by simp[CN]
 |v::l,n=>by
  unfold CN;cases n with
  |zero=>rfl| succ n=>exact(Iz l n).trans (by simp)
def aab{n:Nat}{l r:List ap}(h:CM n l=some r):r=l.take n/\r.length=n:=by
 induction n generalizing l r with
 |zero=>simp[CM]at h;subst h;simp
 |succ n aQ=>
  cases l with
  |nil=>simp[CM]at h
  |cons v l=>
   simp only[CM]at h;split at h;·rename_i q aL;obtain⟨rfl,ad⟩:=aQ aL;cases h;simp at ad |-;omega
   ·cases h
structure Loc where
 b:Nat
 o:Nat
 c:Nat
abbrev bR:=Nat->Option Loc
def bR.le(D bG:bR):Prop:=∀ i a,D i=some a->bG i=some a
mutual
def aU(D:bR):ap->Value->Prop
 | .b x,u=>u=.bool x| .i k n,u=>u=.int k n| .s l,u=>u=.string ⟨l.toArray⟩| .pn,u=>u=.pointer none| .p id off,u=>∃ a,D id=some a/\u=.pointer (some ⟨a.b,a.o+off,none⟩)| .g n off,u=>u=.pointer (some ⟨n,off,none⟩)| .sn,u=>u=.slice none 0 0| .sl id off n c,u=>∃ a,D id=some a/\u=.slice (some ⟨a.b,a.o+off,none⟩) n c| .sx id off e n,u=>∃ a,D id=some a/\e+n<=a.c/\u=.slice (some ⟨a.b,a.o+off,none⟩) n (a.c-e)| .gs n off k c,u=>u=.slice (some ⟨n,off,none⟩) k c| .so,u=>∃ a c,u=.slice (some a) 0 c| .mn,u=>u=.map none| .m id,u=>∃ a,D id=some a/\u=.map (some a.b)| .f g l r,u=>∃ vs ws,bO D l vs/\bO D r ws/\u=.func (.func g) vs.toArray ws.toArray| .y id,u=>∃ a,D id=some a/\u=.func (.yield a.b) #[] #[]| .fn,u=>u=.nilFunc| .ni,u=>u=.nilIface| .Ii t v,u=>∃ x,aU D v x/\u=.iface t x| .t l,u=>∃ vs,bO D l vs/\u=.tuple vs.toArray| .a l,u=>∃ vs,bO D l vs/\u=.agg vs.toArray
def bO(D:bR):List ap->List Value->Prop
 |[],us=>us=[]| v::l,us=>∃ x xs,aU D v x/\bO D l xs/\us=x::xs
end
section
variable{D bG:bR}
mutual
def aU.mono(h:D.le bG):∀ {v:ap} {u:Value},aU D v u->aU bG v u
 | .b _,_,aj | .i _ _,_,aj | .s _,_,aj | .pn,_,aj | .g _ _,_,aj | .sn,_,aj | .gs ..,_,aj | .so,_,aj | .mn,_,aj | .fn,_,aj | .ni,_,aj=>by simpa only[aU]using aj
 | .p ..,_,aj | .sl ..,_,aj | .m _,_,aj | .y _,_,aj=>by simp only[aU]at aj |-;obtain⟨a,aa,ad⟩:=aj;exact⟨a,h _ _ aa,ad⟩
 | .sx ..,_,aj=>by simp only[aU]at aj |-;obtain⟨a,aa,ad⟩:=aj;exact⟨a,h _ _ aa,ad⟩
 | .f _ l r,_,aj=>by simp only[aU]at aj |-;obtain⟨vs,ws,aa,ad,ak⟩:=aj;exact⟨vs,ws,bO.mono h aa,bO.mono h ad,ak⟩
 | .Ii _ v,_,aj=>by simp only[aU]at aj |-;obtain⟨x,aa,ad⟩:=aj;exact⟨x,aU.mono h aa,ad⟩
 | .t l,_,aj=>by simp only[aU]at aj |-;obtain⟨x,aa,ad⟩:=aj;exact⟨x,bO.mono h aa,ad⟩
 | .a l,_,aj=>by simp only[aU]at aj |-;obtain⟨x,aa,ad⟩:=aj;exact⟨x,bO.mono h aa,ad⟩
def bO.mono(h:D.le bG):∀ {l:List ap} {us:List Value},bO D l us->bO bG l us
 |[],_,aj=>by simpa only[bO]using aj
 |v::l,_,aj=>by simp only[bO]at aj |-;obtain⟨x,xs,aa,ad,ak⟩:=aj;exact⟨x,xs,aU.mono h aa,bO.mono h ad,ak⟩
end
def bO.nil:bO D [] []:=by simp[bO]
def bO.cons{v:ap}{l:List ap}{x:Value}{xs:List Value}(h:aU D v x)(k:bO D l xs):bO D (v::l) (x::xs):=by simp only[bO];exact⟨x,xs,h,k,rfl⟩
def bO.kB{v:ap}{l:List ap}{us:List Value}(h:bO D (v::l) us):∃ x xs,aU D v x/\bO D l xs/\us=x::xs:=by simpa only[bO]using h
def bO.nW{us:List Value}(h:bO D [] us):us=[]:=by simpa only[bO]using h
def bO.len:∀ {l:List ap} {us:List Value},bO D l us->us.length=l.length
 |[],_,h=>by rw[h.nW];rfl
 |v::l,_,h=>by obtain⟨x,xs,aa,ad,rfl⟩:=h.kB;simp[bO.len ad]
def bO.get:∀ {l:List ap} {us:List Value} {i:Nat} {v:ap},bO D l us->l[i]?=some v->∃ x,us[i]?=some x/\aU D v x
 |[],_,i,v,h,hi=>by simp at hi
 |w::l,_,i,v,h,hi=>by
  obtain⟨x,xs,aa,ad,rfl⟩:=h.kB;cases i with
  |zero=>simp at hi;subst hi;exact⟨x,rfl,aa⟩| succ i=>simpa using bO.get ad (by simpa using hi)
def bO.IA:∀ {l:List ap} {us:List Value},us.length=l.length->(∀ (i:Nat) (v:ap),l[i]?=some v->∃ x,us[i]?=some x/\aU D v x)->bO D l us
 |[],us,ax,h=>by have:us=[]:=jl (by simpa using ax);subst this;exact .nil
 |w::l,us,ax,h=>by
  cases us with
  |nil=>simp at ax| cons x xs=>obtain⟨y,aC,aa⟩:=h 0 w rfl;simp at aC;subst aC;exact .cons aa (bO.IA (by simpa using ax) λi v hi=>by simpa using h (i+1) v (by simpa using hi))
def bO.append:∀ {l:List ap} {us:List Value} {m:List ap} {ws:List Value},bO D l us->bO D m ws->bO D (l++m) (us++ws)
 |[],_,m,ws,h,k=>by rw[h.nW];exact k
 |w::l,_,m,ws,h,k=>by obtain⟨x,xs,aa,ad,rfl⟩:=h.kB;exact .cons aa (bO.append ad k)
def bO.take:∀ {l:List ap} {us:List Value} (n:Nat),bO D l us->bO D (l.take n) (us.take n)
 |[],_,n,h=>by rw[h.nW];simpa using bO.nil
 |w::l,_,n,h=>by
  obtain⟨x,xs,aa,ad,rfl⟩:=h.kB;cases n with
  |zero=>simpa using bO.nil| succ n=>simpa using bO.cons aa (bO.take n ad)
def bO.drop:∀ {l:List ap} {us:List Value} (n:Nat),bO D l us->bO D (l.drop n) (us.drop n)
 |[],_,n,h=>by rw[h.nW];simpa using bO.nil
 |w::l,us,n,h=>by
  cases n with
  |zero=>simpa using h| succ n=>obtain⟨x,xs,aa,ad,rfl⟩:=h.kB;simpa using bO.drop n ad
def bO.HC{l:List ap}{us:List Value}(h:bO D l us):∀ n,bO D (CR n l) ((List.replicate n us).flatten)
 |0=>by simpa[CR]using bO.nil
 |n+1=>by rw[Qd,Qg];exact h.append (bO.HC h n)
def aU.bool{x:Bool}{u:Value}(h:aU D (.b x) u):u=.bool x:=by simpa only[aU]using h
def aU.int{k:IntKind}{n:Int}{u:Value}(h:aU D (.i k n) u):u=.int k n:=by simpa only[aU]using h
def aU.str{l:List UInt8}{u:Value}(h:aU D (.s l) u):u=.string ⟨l.toArray⟩:=by simpa only[aU]using h
def aU.ptr{id off:Nat}{u:Value}(h:aU D (.p id off) u):∃ a,D id=some a/\u=.pointer (some ⟨a.b,a.o+off,none⟩):=by simpa only[aU]using h
def aU.qO{id off:Nat}{u:Value}(h:aU D (.g id off) u):u=.pointer (some ⟨id,off,none⟩):=by simpa only[aU]using h
def aU.sW{id off n c:Nat}{u:Value}(h:aU D (.sl id off n c) u):∃ a,D id=some a/\u=.slice (some ⟨a.b,a.o+off,none⟩) n c:=by simpa only[aU]using h
def aU.vk{id off e n:Nat}{u:Value}(h:aU D (.sx id off e n) u):∃ a,D id=some a/\e+n<=a.c/\u=.slice (some ⟨a.b,a.o+off,none⟩) n (a.c-e):=by simpa only[aU]using h
def aU.RR{id off n c:Nat}{u:Value}(h:aU D (.gs id off n c) u):u=.slice (some ⟨id,off,none⟩) n c:=by simpa only[aU]using h
def aU.Mq{u:Value}(h:aU D .so u):∃ a c,u=.slice (some a) 0 c:=by simpa only[aU]using h
def aU.CW{u:Value}(h:aU D .sn u):u=.slice none 0 0:=by simpa only[aU]using h
def aU.agg{l:List ap}{u:Value}(h:aU D (.a l) u):∃ vs,bO D l vs/\u=.agg vs.toArray:=by simpa only[aU]using h
def aU.RS{l:List ap}{u:Value}(h:aU D (.t l) u):∃ vs,bO D l vs/\u=.tuple vs.toArray:=by simpa only[aU]using h
def aU.Ms{l:List ap}(h:bO D l vs):aU D (.a l) (.agg vs.toArray):=by simp only[aU];exact⟨vs,h,rfl⟩
def aU.Mt{l:List ap}(h:bO D l vs):aU D (.t l) (.tuple vs.toArray):=by simp only[aU];exact⟨vs,h,rfl⟩
def aU.undef:aU D (.t []) undef:=by simp only[aU];exact⟨[],.nil,rfl⟩
def aU.cells{v:ap}{u:Value}(h:aU D v u):bO D v.cells u.cells.toList:=by
 cases v<;>simp only[ap.cells]
 case a l=>obtain⟨vs,aa,rfl⟩:=h.agg;simpa[Value.cells]using aa
 all_goals
  have key:∀ w:Value,(∀ cs,w≠.agg cs)->w.cells.toList=[w]:=λw hw=>by cases w<;>first | rfl | exact(hw _ rfl).elim
  rw[key u ?_];·exact .cons h .nil
  ·rintro cs rfl;simp[aU]at h
def aU.one{v:ap}{u:Value}(h:aU D v u)(aA:v.one=true):u.oneCell'=true:=by
 cases v<;>simp only[ap.one,ld]at aA<;>simp only[aU]at h
 all_goals first
  |(subst h;rfl)|(obtain⟨_,_,rfl⟩:=h;rfl)|(obtain⟨_,_,_,rfl⟩:=h;rfl)|(obtain⟨_,_,_,_,rfl⟩:=h;rfl)
def bO.one{l:List ap}{us:List Value}(h:bO D l us)(aA:l.all ap.one=true):fK us=true:=by refine fS.2 λx ab=>?_;obtain⟨i,hi⟩:=L5 ab;have aZ:=(hG.1 hi).1;rw[h.len]at aZ;obtain⟨y,aC,aj⟩:=h.get (dg aZ);rw[hi]at aC;cases aC;exact aj.one (fS.1 aA _ (bJ aZ))
def aU.aac{u:Value}{v:ap}(h:Ij u=some v):aU D v u:=by
 unfold Ij at h;split at h<;>cases h<;>simp[aU]
def bO.Fi:∀ {us:List Value} {l:List ap},yC us=some l->bO D l us
 |[],l,h=>by simp only[yC]at h;cases h;exact .nil
 |u::us,l,h=>by
  simp only[yC]at h;split at h;·rename_i x m aa ad;cases h;exact .cons (.aac aa) (bO.Fi ad)
  ·cases h
def aU.of{u:Value}{v:ap}(h:E3 u=some v):aU D v u:=by
 unfold E3 at h;split at h
 ·split at h
  ·rename_i l ax;cases h;have:=bO.Fi (D:=D) ax;simpa using aU.Ms this
  ·cases h
 ·exact .aac h
def Mu{agg:Bool}{l:List ap}{v:ap}(h:E6 agg l=some v)(ax:bO D l vs):aU D v (pack agg vs):=by
 unfold E6 at h;cases agg with
 |true=>simp only[cF]at h;cases h;exact .Ms ax
 |false=>
  simp only[cE]at h;split at h;·cases h;obtain⟨x,xs,aa,ad,rfl⟩:=ax.kB;rw[ad.nW];exact aa
  ·cases h
def RT:∀ {cs:List ap} {off:Nat} {vs r:List ap} {us xs:List Value},yE cs off vs=some r->bO D cs us->bO D vs xs->bO D r (cj us off xs)/\off+xs.length<=us.length
 |cs,0,[],r,us,xs,h,ao,aj=>by simp[yE]at h;subst h;rw[aj.nW];exact⟨by simpa[cj]using ao,by simp⟩
 |[],0,_::_,r,us,xs,h,ao,aj=>by simp[yE]at h
 |[],_+1,_,r,us,xs,h,ao,aj=>by simp[yE]at h
 |c::cs,0,v::vs,r,us,xs,h,ao,aj=>by
  simp only[yE]at h;split at h
  ·rename_i q aL;cases h;obtain⟨x,us,aa,ad,rfl⟩:=ao.kB;obtain⟨y,xs,ak,aK,rfl⟩:=aj.kB;obtain⟨bz,cu⟩:=RT aL ad aK;refine⟨?_,by simp at cu |-;omega⟩;have e:cj (x::us) 0 (y::xs)=y::cj us 0 xs:=by simp[cj]
   rw[e];exact .cons ak bz
  ·cases h
 |c::cs,n+1,vs,r,us,xs,h,ao,aj=>by
  simp only[yE]at h;split at h
  ·rename_i q aL;cases h;obtain⟨x,us,aa,ad,rfl⟩:=ao.kB;obtain⟨bz,cu⟩:=RT aL ad aj;refine⟨?_,by simp;omega⟩;have e:cj (x::us) (n+1) xs=x::cj us n xs:=by simp only[cj,rl,pN,zV,true_and];rw[show n+1+xs.length=(n+xs.length)+1 by omega,Ig]
   rw[e];exact .cons aa bz
  ·cases h
inductive IB(D:bR):List (Nat×ap)->List (Nat×Value)->Prop
 |nil:IB D [] []| cons {i v u l us} (h:aU D v u) (k:IB D l us):IB D ((i,v)::l) ((i,u)::us)
def Mv{place:Nat->Option (Nat×Nat)}:∀ {vs:List (Nat×ap)} {cells r:List ap} {us:List Value} {xs:List (Nat×Value)},Av place cells vs=some r->bO D cells us->IB D vs xs -> ∃ a',tg place us xs=some a'/\bO D r a'
 |[],cells,r,us,_,h,ao,.nil=>by simp only[Av]at h;cases h;exact⟨us,rfl,ao⟩
 |(i,v)::vs,cells,r,us,_,h,ao,.cons (u:=u) (us:=xs) aj iO=>by
  simp only[Av]at h;split at h;·cases h
  ·rename_i off size aJ;cases ag:Nat.beq v.cells.length size with
   |false=>rw[ag]at h;cases h
   |true=>
    rw[ag]at h;simp only[cF]at h;split at h
    ·rename_i cs kr;obtain⟨aa,ad⟩:=RT kr ao aj.cells;obtain⟨a',ak,aK⟩:=Mv h aa iO;refine⟨a',?_,aK⟩;have ax:u.cells.size=v.cells.length:=by simpa using aj.cells.len
     simp only[tg,aJ,ax,ag];rw[show Nat.ble (off+size) us.length=true by rw[Mm,h6];have:=ed ag;simp at ad;omega];exact ak
    ·cases h
end
def gx(D:bR)(x:dH)(v:ap):Prop:=(∃ u,x=.val u/\aU D v u)\/∃ q,v=.b q/\x=.lit q
def gx.val{D:bR}{u:Value}{v:ap}(h:aU D v u):gx D (.val u) v:=.inl ⟨u,rfl,h⟩
def gx.mono{D bG:bR}(dx:D.le bG){x:dH}{v:ap}(h:gx D x v):gx bG x v:=by
 rcases h with⟨u,rfl,h⟩ | ⟨q,rfl,rfl⟩
 ·exact .val (h.mono dx)
 ·exact .inr ⟨q,rfl,rfl⟩
def qP(D:bR)(F:Fr)(an:bh ap):Prop:=∀ t v,an.get t=some v->gx D (F t) v
def jx(D:bR)(F:Fr)(an:bh ap)(xs:List Operand):Prop:=∀ x∈xs,∀ v,dw an x=some v->gx D (dq F x) v
def qP.op{D:bR}{F:Fr}{an:bh ap}(h:qP D F an)(xs:List Operand):jx D F an xs:=λx _ v aj=>by
 cases x with
 |tmp t=>exact h t v aj
 |const c=>
  have lk:E3 c=some v:=aj;cases c with
  |bool q=>
   have:v=.b q:=by simp[E3,Ij]at lk;exact lk.symm
   exact .inr ⟨q,this,rfl⟩
  |_=>exact .val (.of lk)
 |global g=>
  have:v=.g g 0:=by simpa[dw]using aj.symm
  subst this;exact .val (by simp[aU])
 |func f=>
  have:v=.f f [] []:=by simpa[dw]using aj.symm
  subst this;exact .val (by simp only[aU];exact⟨[],[],.nil,.nil,rfl⟩)
section
variable{D:bR}{F:Fr}{an:bh ap}{xs:List Operand}
def gx.dE{v:ap}(h:gx D (dq F x) v):∃ u,bH F x=.val u/\aU D v u:=by
 unfold bH Go.V.dE;rcases h with⟨u,h,aj⟩ | ⟨q,rfl,h⟩
 ·rw[h];exact⟨u,rfl,aj⟩
 ·rw[h];exact⟨.bool q,rfl,by simp[aU]⟩
def gx.wZ{x:dH}{v:ap}(h:gx D x v)(aj:∀ q,v≠.b q):∃ u,x=.val u/\aU D v u:=by
 rcases h with h | ⟨q,h,_⟩
 ·exact h
 ·exact(aj q h).elim
def jx.bH(h:jx D F an xs)(ab:x∈xs){v:ap}(aj:dw an x=some v):∃ u,bH F x=.val u/\aU D v u:=(h x ab v aj).dE
def jx.mQ(h:jx D F an xs):∀ {l:List Operand} {vs:List ap},(∀ x∈l,x∈xs)->oe an l=some vs->∃ us,mQ F l=some us/\bO D vs us
 |[],vs,_,aj=>by simp only[oe]at aj;cases aj;exact⟨[],rfl,.nil⟩
 |x::l,vs,ax,aj=>by
  simp only[oe]at aj;split at aj;·rename_i v vs aa ad;cases aj;obtain⟨u,aI,bc⟩:=h.bH (ax x (by simp)) aa;obtain⟨us,a6,bi⟩:=jx.mQ h (λy aC=>ax y (by simp[aC])) ad;refine⟨u::us,?_,.cons bc bi⟩;show ka (dq F) (x::l)=_;rw[ka];have ez:dE (dq F) x=.val u:=aI;have ra:ka (dq F) l=some us:=a6;rw[ez,ra]
  ·cases aj
def jx.parts(h:jx D F an xs):∀ {l:List (Nat×Operand)} {vs:List (Nat×ap)},(∀ x∈l.map (·.2),x∈xs)->E7 an l=some vs->∃ us,BF F l=some us/\IB D vs us
 |[],vs,_,aj=>by simp only[E7]at aj;cases aj;exact⟨[],rfl,.nil⟩
 |(i,x)::l,vs,ax,aj=>by
  simp only[E7]at aj;split at aj;·rename_i v vs aa ad;cases aj;obtain⟨u,aI,bc⟩:=h.bH (ax x (by simp)) aa;obtain⟨us,a6,bi⟩:=jx.parts h (λy aC=>ax y (by simp only[b5,eI];exact .inr aC)) ad;refine⟨(i,u)::us,?_,.cons bc bi⟩;show th (dq F) ((i,x)::l)=_;rw[th];have ez:dE (dq F) x=.val u:=aI;have ra:th (dq F) l=some us:=a6;rw[ez,ra]
  ·cases aj
end
inductive qQ(D:bR):List (ap×ap)->List MapEntry->Prop
 |nil:qQ D [] []| cons {k v es e l} (ae:aU D k e.key) (aj:aU D v e.val) (t:qQ D es l):qQ D ((k,v)::es) (e::l)
def ib(n:Nat):Code->Bool
 | .seq x y=>ib n x&&ib n y| .block _ c=>ib n c| .cond _ x y=>ib n x&&ib n y| .loop c=>ib n c| .scope c=>ib n c| .region _ ops _=>xN n ops| .rangeFunc _ ps fk body=>ib n fk&&(ib n body&&ps.toList.all λt=>Nat.blt t n)| _=>true
structure aad(D:bR)(busy:Bool)(n:Nat)(an:bh ap)(ps:List Nat)(fk body:Code)(L:Loop):Prop where
 a0:L.state=bif busy then .busy else .ready
 qu:L.pending=none
 sz:L.tmps.size=n
 an:∀ t v,an.get t=some v->aU D v (L.tmps.getD t undef)
 ps:L.params.toList=ps
 fk:L.assign=fk
 body:L.body=body
 Ch:ib n L.assign=true
 nF:ib n L.body=true
 op:∀ t∈L.params.toList,t<n
inductive lG(D:bR)(E:Env)(M:List aE)(a:Loc):fw->Prop
 |cells{cs:bh ap}{T fQ:Nat}(arr:Array Value)(aA:a.o=0)(ba:(⟨a.b,.cells arr T (0,0)⟩:aE)∈M)(ax:a.o+fQ<=arr.size)(ao:∀ i v,i<fQ->cs.get i=some v->∃ x,arr[a.o+i]?=some x/\aU D v x)(ae:∀ i,E T=some i->arr.size=a.o+a.c*i.size)(hm:a.c<=maxLen):lG D E M a (.cells cs T fQ)| map {es:List (ap×ap)} (l:List MapEntry) (clock:Nat) (ba:(⟨a.b,.map l.toArray clock⟩:aE)∈M) (he:qQ D es l):lG D E M a (.map es)| loop {busy n an ps fk body} (L:Loop) (ba:(⟨a.b,.loop L⟩:aE)∈M) (bY:aad D busy n an ps fk body L):lG D E M a (.loop busy n an ps fk body)| done {c n an ps fk body} (L:Loop) (ba:(⟨a.b,.loop L⟩:aE)∈M) (av:L.state=.done) (aJ:L.pending=some c):lG D E M a (.done c n an ps fk body)
def qQ.mono{D bG:bR}(dx:D.le bG){es:List (ap×ap)}{l:List MapEntry}(h:qQ D es l):qQ bG es l:=by
 induction h with
 |nil=>exact .nil| cons ae aj t aQ=>exact .cons (ae.mono dx) (aj.mono dx) aQ
def lG.mono{D bG:bR}{M':List aE}{a:Loc}(dx:D.le bG)(ba:∀ x∈M,x.num=a.b->x∈M'){e:fw}(h:lG D E M a e):lG bG E M' a e:=by
 cases h with
 |cells arr ay aa ad ak aK bz=>exact .cells arr ay (ba _ aa rfl) ad (λi v hi aw=>by obtain⟨x,bc,bi⟩:=ak i v hi aw;exact⟨x,bc,bi.mono dx⟩) aK bz| map l clock aa ad=>exact .map l clock (ba _ aa rfl) (ad.mono dx)| loop L aa ad=>exact .loop L (ba _ aa rfl) { ad with an:=λt v aq=>(ad.an t v aq).mono dx }| done L aa ad ak=>exact .done L (ba _ aa rfl) ad ak
def IC(G:GT)(I:aH):Prop:=∀ g cs,G g=some cs->∃ (arr:Array Value) (T:Nat) (f:Nat×Nat),I g=some (.cells arr T f)/\∀ i v,cs.get i=some v->∃ x,arr[i]?=some x/\∀ D,aU D v x
structure dh(Y:gS)(D:bR)(m:bw)(I:aH)(M:List aE):Prop where
 ja:∀ id e a,m.t.get id=some e->D id=some a->lG D Y.E M a e
 inj:∀ id jb e cZ a bL,m.t.get id=some e->m.t.get jb=some cZ->D id=some a->D jb=some bL->a.b=bL.b->id=jb
 j4:∀ id a,D id=some a->id<m.n
 qO:IC Y.G I
section
variable{Y:gS}{D:bR}{m:bw}{I:aH}{M:List aE}{R:Type}
def w0(h:dh Y D m I M){x:ap}{u:Value}(ab:aU D x u){n:Nat}{K:List ap->Option R}{r:R}(af:tW Y.G m.t x n K=some r) :
  ∃ aM l vs,u=.pointer (some aM)/\cR I M aM n vs/\bO D l vs/\K l=some r:=by
 have key:∀ (arr:Array Value) (cX off:Nat) (l:List ap),l.length=n->cX+off+n<=arr.size->(∀ i,i<n->∀ v,l[i]?=some v->∃ x,arr[cX+off+i]?=some x/\aU D v x) ->
   ((arr.toList.drop (cX+off)).take n).length=n/\bO D l ((arr.toList.drop (cX+off)).take n):=by
  intro arr cX off l ax dn aw;have cS:((arr.toList.drop (cX+off)).take n).length=n:=by simp;omega
  refine⟨cS,bO.IA (by rw[cS,ax]) λi v hi=>?_⟩;have ei:i<n:=by rw[<-ax];exact(hG.1 hi).1
  obtain⟨x,aa,ad⟩:=aw i ei v hi;refine⟨x,?_,ad⟩;rw[lb,bT ei,mO];simpa using aa
 unfold tW at af;split at af
 ·rename_i id off;split at af
  ·rename_i cs T fQ aw;cases ag:Nat.ble (Nat.add off n) fQ with
   |false=>rw[ag]at af;cases af
   |true=>
    rw[ag]at af;have hd:off+n<=fQ:=bK ag;simp only[cF]at af;obtain⟨l,aa,ad,ak⟩:=bh.Fg cs n off K r af;obtain⟨a,a7,hu⟩:=ab.ptr;have he:=h.ja _ _ _ aw a7;obtain⟨arr,-,ba,ax,ao,-,-⟩:=he;obtain⟨eT,c4⟩:=key arr a.o off l aa (by omega) λi hi v aj=>by have:=ao (off+i) v (by omega) (by rw[ad i hi,aj]);rw[<-te]at this;exact this
    exact⟨_,l,_,hu,⟨rfl,arr,T,(0,0),.inr ⟨_,ba,rfl,rfl⟩,rfl,eT⟩,c4,ak⟩
  ·cases af
 ·rename_i g off;split at af
  ·rename_i cs aw;obtain⟨l,aa,ad,ak⟩:=bh.Fg cs n off K r af;obtain⟨arr,T,f,bA,ao⟩:=h.qO _ _ aw;have hu:=ab.qO;have eO:∀ i,i<n->∀ v,l[i]?=some v->∃ x,arr[0+off+i]?=some x/\aU D v x:=λi hi v aj=>by obtain⟨x,bc,bi⟩:=ao (off+i) v (by rw[ad i hi,aj]);exact⟨x,by simpa using bc,bi D⟩
   by_cases aD:n=0;·subst aD;have:l=[]:=jl aa;subst this;exact⟨_,[],[],hu,⟨rfl,arr,T,f,.inl bA,by simp,rfl⟩,.nil,ak⟩
   ·have dn:0+off+n<=arr.size:=by
     have aZ:n-1<l.length:=by omega
     obtain⟨x,bc,_⟩:=eO (n-1) (by omega) l[n-1] (dg aZ);have:=(lR.1 bc).1;omega
    obtain⟨eT,c4⟩:=key arr 0 off l aa dn eO;simp only[du]at eT c4;exact⟨_,l,_,hu,⟨rfl,arr,T,f,.inl bA,rfl,eT⟩,c4,ak⟩
  ·cases af
 ·cases af
end
def ale{k:IntKind}(h:IntKind.lS k fL=true):k=fL:=IntKind.DW h
def Mw(l m:List UInt8):decide ((⟨l.toArray⟩:ByteArray)=⟨m.toArray⟩)=decide (l=m):=by
 simp only[L6];constructor
 ·intro h;simpa using h
 ·rintro rfl;rfl
def alf(a b:ByteArray):(a == b)=decide (a=b):=by
 rw[tc];simp only[h6];constructor
 ·intro h
  first | exact eq_of_beq h | exact v3 (eq_of_beq (a:=a.data) (b:=b.data) h)
 ·rintro rfl
  first | exact G2 _ | exact G2 a.data
section
variable{P:Program}{E:Env}{D:bR}
def Mx(aN:cW P E){o:Nat}{l:List ap}{x:ap}(h:Au E t o l=some x){us:List Value}(ax:bO D l us):∃ u,aU D x u/\∀ w,(part t us.toArray o).run P w=.ok u w:=by
 unfold Au at h;obtain⟨i,aa,h⟩:=ct h;obtain⟨ay,h⟩:=Ay h;have hg:i.size≠0:=λe=>by rw[e]at ay;cases ay
 obtain⟨r,ad,h⟩:=ct h;obtain⟨aI,a6⟩:=aab ad;rw[Iz]at aI;have cS:=ax.len;subst aI;refine⟨_,Mu h ((ax.drop o).take _),λw=>?_⟩;have:=OW (aN _ _ aa) (cs:=us.toArray) (off:=o) (by rw[fO,pF]at a6;simp;omega) w;simpa using this
def RU{F:Nat->ap->ap->Option Bool}{l m:List ap}{α β:Type}{pl:α->Nat×Nat}{g:α->β->Sem (ForInStep β)}{cx s1:β}{w:World}:∀ (L:List α) {b:Bool},CO F E l m (L.map pl)=some b -> (∀ a∈L,∀ x y c,Au E (pl a).1 (pl a).2 l=some x->Au E (pl a).1 (pl a).2 m=some y->F (pl a).1 x y=some c->(g a cx).run P w=.ok (if c then .yield cx else .done s1) w) -> (forIn L cx g).run P w=.ok (if b then cx else s1) w
 |[],b,h,_=>by cases h;simp[da]
 |a::L,b,h,aw=>by
  simp only[b5]at h;unfold CO at h;obtain⟨x,aa,h⟩:=ct h;obtain⟨y,ad,h⟩:=ct h;obtain⟨c,ak,h⟩:=ct h;simp only[List.forIn_cons,cp];rw[aw a (by simp) x y c aa ad ak];rw[kA]at h;cases c with
  |true=>simp only[sj,bZ];exact RU L h λbL a7=>aw bL (by simp[a7])
  |false=>cases h;simp[bZ,da]
def RV(aN:cW P E):∀ (d:Nat) {t:Nat} {x y:ap} {b:Bool} {u v:Value},yD P E d t x y=some b->aU D x u->aU D y v->∀ n,d<=n->∀ w,(Op.equalIn n t u v).run P w=.ok b w
 |0,t,x,y,b,u,v,h,ab,aC,n,aD,w=>by cases h
 |d+1,t,x,y,b,u,v,h,ab,aC,0,aD,w=>by omega
 |d+1,t,x,y,b,u,v,h,ab,aC,n+1,aD,w=>by
  unfold yD at h;obtain⟨i,hi,h⟩:=ct h;obtain⟨qA,fP,n3⟩:=(aN _ _ hi).fs;rw[Op.equalIn];simp only[cp,run_underlying fP,bZ];split at h
  ·rename_i a bL av _;cases h;have bc:qA=.bool:=by cases qA<;>simp_all[fr]
   subst bc;rw[ab.bool,aC.bool];rfl
  ·rename_i fL k a c4 bL av _;obtain⟨aI,h⟩:=fY h;cases h;have bc:qA=.int fL:=by cases qA<;>simp_all[fr]
   subst bc;rw[ab.int,aC.int];rw[ale aI];have ag:(a == bL)=sU a bL:=by
    rw[CV];by_cases e:a=bL;·subst e;simp
    ·simp[e]
   simp[ag]
  ·rename_i a bL av _;cases h;have bc:qA=.string:=by cases qA<;>simp_all[fr]
   subst bc;rw[ab.str,aC.str];show Result.ok _ _=_;rw[Fh,<-Mw];congr 1;exact alf _ _
  ·rename_i cV l m av _;obtain⟨aI,h⟩:=fY h;unfold Zv at aI;rw[fP]at aI;cases qA with
   |struct fields=>
    simp only[cB,tq,fS,h6]at aI;obtain⟨aI,a6⟩:=aI;rw[av]at n3;simp only[fr,GC.struct.injEq]at n3;subst n3;obtain⟨us,aa,rfl⟩:=ab.agg;obtain⟨ws,ad,rfl⟩:=aC.agg;simp only[cp,run_program,bZ,aI,ld,mj];rw[<-Array.forIn_toList];rw[RU (P:=P) (s1:=⟨some false,⟨⟩⟩) fields.toList h (λf aB x y c rY h3 ao=>by
     obtain⟨p,eT,c4⟩:=Mx aN rY aa;obtain⟨q,hM,nJ⟩:=Mx aN h3 ad;have aL:=RV aN d ao eT hM n (by omega) w;simp only[a6 f aB,sj,ne_eq,not_false_eq_true,cp,c4,nJ,bZ,aL];cases c<;>simp[da])]
    cases b<;>simp[bZ,da]
   |_=>cases aI
  ·rename_i len e l m av _;obtain⟨aF,hJ,h⟩:=ct h;have bc:qA=.array len e:=by cases qA<;>simp_all[fr]
   subst bc;obtain⟨us,aa,rfl⟩:=ab.agg;obtain⟨ws,ad,rfl⟩:=aC.agg;simp only[cp,(aN _ _ hJ).run_sizeOf,bZ,V7];have af:List.range' 0 ([:len]:Std.Legacy.Range).size=List.range len:=by simp[Std.Legacy.Range.size,DS]
   rw[af];rw[RU (P:=P) (s1:=⟨some false,⟨⟩⟩) (List.range len) h (λf aB x y c rY h3 ao=>by
    obtain⟨p,eT,c4⟩:=Mx aN rY aa;obtain⟨q,hM,nJ⟩:=Mx aN h3 ad;have aL:=RV aN d ao eT hM n (by omega) w;simp only[cp,c4,nJ,bZ,aL];cases c<;>simp[da])]
   cases b<;>simp[bZ,da]
  ·cases h
end
section
variable{X:c3}{D:bR}
def aae(aN:cW X.P X.E){op:BinOp}{l m:List ap}{v:ap}{us ws:List Value}{O:Prop}(h:Ik X.P X.E op t l m=some v)(ax:bO D l us)(hm:bO D m ws)(ae:∀ u,aU D v u->K u) :
  fT X.P op t x y (.val (.agg us.toArray)) (.val (.agg ws.toArray)) K O:=by
 unfold Ik at h;obtain⟨aw,h⟩:=Ay h;obtain⟨b,aa,h⟩:=ct h;have aL:=RV (D:=D) aN 8 aa (u:=.agg us.toArray) (v:=.agg ws.toArray) (by simp only[aU];exact⟨us,ax,rfl⟩) (by simp only[aU];exact⟨ws,hm,rfl⟩) Op.maxDepth (by decide);split at h
 ·cases h;refine .mk _ _ _ rfl rfl (λw=>?_) (ae _ (by simp only[aU];rfl));simp only[cp,run_eqGuard_agg (hm:=aw),bZ,binOp,Op.equal,aL,da]
 ·cases h;refine .mk _ _ _ rfl rfl (λw=>?_) (ae _ (by simp only[aU];rfl));simp only[cp,run_eqGuard_agg (hm:=aw),bZ,binOp,Op.equal,aL,da]
 ·cases h
end
open Go Go.Proofs
def k6(x y:Int):Int:=IntKind.u64.wrap ((BitVec.ofInt 64 x ||| BitVec.ofInt 64 y).toNat:Int)
def tZ(x y:BitVec 64):k6 x.toNat y.toNat=((x ||| y).toNat:Int):=by unfold k6;rw[CJ,CJ,QZ]
def alg(x y:bj):Nat->List Value
 |0=>[.int .u64 x.a.toNat,.int .u64 x.b.toNat,.int .u64 x.c.toNat,.int .u64 x.d.toNat]| 1=>[.int .u64 (k6 x.a.toNat y.a.toNat),.int .u64 x.b.toNat,.int .u64 x.c.toNat,.int .u64 x.d.toNat]| 2=>[.int .u64 (k6 x.a.toNat y.a.toNat),.int .u64 (k6 x.b.toNat y.b.toNat),.int .u64 x.c.toNat,.int .u64 x.d.toNat]| 3=>[.int .u64 (k6 x.a.toNat y.a.toNat),.int .u64 (k6 x.b.toNat y.b.toNat),.int .u64 (k6 x.c.toNat y.c.toNat),.int .u64 x.d.toNat]| _=>[.int .u64 (k6 x.a.toNat y.a.toNat),.int .u64 (k6 x.b.toNat y.b.toNat),.int .u64 (k6 x.c.toNat y.c.toNat),.int .u64 (k6 x.d.toNat y.d.toNat)]
def alh(x y:bj):Spec Tryz.prog 150 [x.val,y.val] I M λr I' M'=>r=(x.or y).val/\I'=I/\M'=M:=by
 refine bV [] aY Tryz.func150 rfl rfl rfl ?_;intro B ay;refine dt.inv (ι:=Nat) (λi=>{ bo:=[(2,.ref 2 0),(4,.ref 4 0),(7,.val y.val),(8,.val (.int .i64 i))],cl:=[(2,alg x y i),(4,bj.zero.cells)],cH:=I,dd:=M }) (λi=>i<=4) (λi=>4-i) ?_ ?_
 ·exact⟨0,by simp,.refl,ee,.cons rfl (.cons rfl .nil)⟩
 ·intro i hi
  match i,hi with
  |0,_=>refine aX.mk (λ_=>?_) (λh=>by simp at h);refine cw.mk 0 rfl (by decide) ?_;refine cw.mk 0 rfl (by decide) ?_;refine cw.mk 0 rfl (by decide) ?_;refine bd.mk 1 (by decide) ?_;exact⟨1,⟨by simp,by simp⟩,.refl,ee,.cons rfl (.cons rfl .nil)⟩| 1,_=>refine aX.mk (λ_=>?_) (λh=>by simp at h);refine cw.mk 1 rfl (by decide) ?_;refine cw.mk 1 rfl (by decide) ?_;refine cw.mk 1 rfl (by decide) ?_;refine bd.mk 2 (by decide) ?_;exact⟨2,⟨by simp,by simp⟩,.refl,ee,.cons rfl (.cons rfl .nil)⟩| 2,_=>refine aX.mk (λ_=>?_) (λh=>by simp at h);refine cw.mk 2 rfl (by decide) ?_;refine cw.mk 2 rfl (by decide) ?_;refine cw.mk 2 rfl (by decide) ?_;refine bd.mk 3 (by decide) ?_;exact⟨3,⟨by simp,by simp⟩,.refl,ee,.cons rfl (.cons rfl .nil)⟩| 3,_=>refine aX.mk (λ_=>?_) (λh=>by simp at h);refine cw.mk 3 rfl (by decide) ?_;refine cw.mk 3 rfl (by decide) ?_;refine cw.mk 3 rfl (by decide) ?_;refine bd.mk 4 (by decide) ?_;exact⟨4,⟨by simp,by simp⟩,.refl,ee,.cons rfl (.cons rfl .nil)⟩| 4,_=>refine aX.mk (λh=>by simp at h) (λ_=>?_);refine⟨_,_,.refl,?_,rfl,rfl⟩;show Value.agg #[.int .u64 (k6 x.a.toNat y.a.toNat),.int .u64 (k6 x.b.toNat y.b.toNat),.int .u64 (k6 x.c.toNat y.c.toNat),.int .u64 (k6 x.d.toNat y.d.toNat)]=_;rw[tZ,tZ,tZ,tZ];rfl
def o8(x y:Int):Int:=IntKind.u64.wrap ((BitVec.ofInt 64 x &&& BitVec.ofInt 64 y).toNat:Int)
def ID(x y:BitVec 64):o8 x.toNat y.toNat=((x &&& y).toNat:Int):=by unfold o8;rw[CJ,CJ,QZ]
def ali(x y:bj):Nat->List Value
 |0=>[.int .u64 x.a.toNat,.int .u64 x.b.toNat,.int .u64 x.c.toNat,.int .u64 x.d.toNat]| 1=>[.int .u64 (o8 x.a.toNat y.a.toNat),.int .u64 x.b.toNat,.int .u64 x.c.toNat,.int .u64 x.d.toNat]| 2=>[.int .u64 (o8 x.a.toNat y.a.toNat),.int .u64 (o8 x.b.toNat y.b.toNat),.int .u64 x.c.toNat,.int .u64 x.d.toNat]| 3=>[.int .u64 (o8 x.a.toNat y.a.toNat),.int .u64 (o8 x.b.toNat y.b.toNat),.int .u64 (o8 x.c.toNat y.c.toNat),.int .u64 x.d.toNat]| _=>[.int .u64 (o8 x.a.toNat y.a.toNat),.int .u64 (o8 x.b.toNat y.b.toNat),.int .u64 (o8 x.c.toNat y.c.toNat),.int .u64 (o8 x.d.toNat y.d.toNat)]
def alj(x y:bj):Spec Tryz.prog 156 [x.val,y.val] I M λr I' M'=>r=(x.and y).val/\I'=I/\M'=M:=by
 refine bV [] aY Tryz.func156 rfl rfl rfl ?_;intro B ay;refine dt.inv (ι:=Nat) (λi=>{ bo:=[(2,.ref 2 0),(4,.ref 4 0),(7,.val y.val),(8,.val (.int .i64 i))],cl:=[(2,ali x y i),(4,bj.zero.cells)],cH:=I,dd:=M }) (λi=>i<=4) (λi=>4-i) ?_ ?_
 ·exact⟨0,by simp,.refl,ee,.cons rfl (.cons rfl .nil)⟩
 ·intro i hi
  match i,hi with
  |0,_=>refine aX.mk (λ_=>?_) (λh=>by simp at h);refine cw.mk 0 rfl (by decide) ?_;refine cw.mk 0 rfl (by decide) ?_;refine cw.mk 0 rfl (by decide) ?_;refine bd.mk 1 (by decide) ?_;exact⟨1,⟨by simp,by simp⟩,.refl,ee,.cons rfl (.cons rfl .nil)⟩| 1,_=>refine aX.mk (λ_=>?_) (λh=>by simp at h);refine cw.mk 1 rfl (by decide) ?_;refine cw.mk 1 rfl (by decide) ?_;refine cw.mk 1 rfl (by decide) ?_;refine bd.mk 2 (by decide) ?_;exact⟨2,⟨by simp,by simp⟩,.refl,ee,.cons rfl (.cons rfl .nil)⟩| 2,_=>refine aX.mk (λ_=>?_) (λh=>by simp at h);refine cw.mk 2 rfl (by decide) ?_;refine cw.mk 2 rfl (by decide) ?_;refine cw.mk 2 rfl (by decide) ?_;refine bd.mk 3 (by decide) ?_;exact⟨3,⟨by simp,by simp⟩,.refl,ee,.cons rfl (.cons rfl .nil)⟩| 3,_=>refine aX.mk (λ_=>?_) (λh=>by simp at h);refine cw.mk 3 rfl (by decide) ?_;refine cw.mk 3 rfl (by decide) ?_;refine cw.mk 3 rfl (by decide) ?_;refine bd.mk 4 (by decide) ?_;exact⟨4,⟨by simp,by simp⟩,.refl,ee,.cons rfl (.cons rfl .nil)⟩| 4,_=>refine aX.mk (λh=>by simp at h) (λ_=>?_);refine⟨_,_,.refl,?_,rfl,rfl⟩;show Value.agg #[.int .u64 (o8 x.a.toNat y.a.toNat),.int .u64 (o8 x.b.toNat y.b.toNat),.int .u64 (o8 x.c.toNat y.c.toNat),.int .u64 (o8 x.d.toNat y.d.toNat)]=_;rw[ID,ID,ID,ID];rfl
def fT.aaf{p q:bj}{V:Value->Prop}(h:V (.bool (decide (p=q)))) :
  fT Tryz.prog .eql 62 x y (.val (.agg #[.int .u64 p.a.toNat,.int .u64 p.b.toNat,.int .u64 p.c.toNat,.int .u64 p.d.toNat])) (.val (.agg #[.int .u64 q.a.toNat,.int .u64 q.b.toNat,.int .u64 q.c.toNat,.int .u64 q.d.toNat])) V other:=by
 refine fT.Pq aY (e:=60) rfl rfl rfl rfl (by kernel_rfl) ?_;rw[bj.lS];exact h
def alk(x y:BitVec 64):sU (x.toNat:Int) (y.toNat:Int)=decide (x=y):=by rw[CV,<-EW,tc];simp
def Fj(v:α)(x:R)(f:α->R):bu (some v) x f=f v:=rfl
def aag(a9 mid post:List Value)(k:Nat)(vs:List Value)(h:k+vs.length<=mid.length):cj (a9++(mid++post)) (a9.length+k) vs=a9++(cj mid k vs++post):=by
 unfold cj;have aa:(a9++(mid++post)).take (a9.length+k)=a9++mid.take k:=by rw[HO,Nat.add_sub_cancel_left,fC (by omega),BV (by omega)]
 have ad:(a9++(mid++post)).drop (a9.length+k+vs.length)=mid.drop (k+vs.length)++post:=by rw[te,V8,Q9 h]
 rw[aa,ad];simp
def alm(f:α->List Value)(size:Nat)(aB:∀ x,(f x).length=size)(l:List α)(i:Nat)(hi:i<l.length)(k:Nat)(vs:List Value)(ae:k+vs.length<=size)(lj:α)(ab:cj (f l[i]) k vs=f lj) :
  cj (l.flatMap f) (i*size+k) vs=(l.set i lj).flatMap f:=by
 have e:l=l.take i++l[i]::l.drop (i+1):=by rw[<-fg hi,pM]
 have aI:l.flatMap f=(l.take i).flatMap f++(f l[i]++(l.drop (i+1)).flatMap f):=by
  calc l.flatMap f=(l.take i++l[i]::l.drop (i+1)).flatMap f:=congrArg _ e
   _=_:=by rw[fI,iS]
 have a6:((l.take i).flatMap f).length=i*size:=by rw[gO f size aB,L4 (by omega)]
 rw[aI,<-a6,aag _ _ _ _ _ (by rw[aB];exact ae),GX,bT hi,fI,iS,ab]
def aln{m:Nat}(h:j+vs.length<=m)(hm:m<=aS.length):(cj aS j vs).take m=cj (aS.take m) j vs:=by
 unfold cj;have aa:(aS.take m).take j=aS.take j:=by rw[zB,pA (by omega)]
 have ad:(aS.take m).drop (j+vs.length)=(aS.drop (j+vs.length)).take (m-(j+vs.length)):=by rw[D5]
 have ak:(aS.take j).length=j:=by rw[fO];omega
 rw[aa,ad,dW,dW,HO,ak,fC (by omega),HO,fC (by omega:vs.length<=m-j)];congr 3;omega
def aR.put(f:α->List Value)(size:Nat)(aB:∀ x,(f x).length=size){l:List α}{e:Nat}(h:os.ok size (l.flatMap f)){i:Nat}(hi:i<l.length)(k:Nat)(ae:k+vs.length<=size)(aa:fK vs=true)(lj:α)(ab:cj (f l[i]) k vs=f lj)(a9 post:List aE)(ba:M=a9++(os.ar e++post))(aw:os.a=some g)(alo:off=i*size+k){K:List aE->Prop}
  (gk:∀ (br:aR),br.val=os.val->br.a=os.a->br.n=os.n->br.ok size ((l.set i lj).flatMap f)->K (a9++(br.ar e++post))):ck M ⟨g,off,none⟩ vs K:=by
 have BM:=h.len;rw[gO f size aB]at BM;obtain⟨a,n,c,aS⟩:=os;have ax:l.length*size=n*size:=BM;simp only at aw;subst aw;obtain⟨ew,e',fe,jZ⟩:=h.cap g rfl;simp only at ew e' fe jZ;have ag:n*size<=c*size:=qg _ e';have hW:i*size+size<=l.length*size:=by have:=qg size (show i+1<=l.length from hi);rwa [lX,oI]at this
 subst ba;subst alo;refine ck.mk a9 post aS.toArray e rfl rfl ?_ aa ?_
 ·simp only[tr];omega
 ·have:=gk ⟨some g,n,c,cj aS (i*size+k) vs⟩ rfl rfl rfl ⟨?_,(λh=>by cases h),λeg aw=>?_⟩
  ·simpa[aR.ar]using this
  ·rw[gO f size aB,rO];exact ax
  ·cases aw;refine⟨?_,e',fe,?_⟩
   ·simp only[cj,cr,fO,pF];omega
   ·simp only;rw[aln (by omega) (by omega),jZ,alm f size aB l i hi k vs ae lj ab]
def alp(l:List Value)(k:Nat)(v:Value)(h:k<l.length):cj l k [v]=l.set k v:=by rw[GX,bT h];simp[cj]
def aR.IE(f:α->List Value)(size:Nat)(aB:∀ x,(f x).length=size){l:List α}{e:Nat}(h:os.ok size (l.flatMap f)){i:Nat}(hi:i<l.length)(lj:α)(aa:fK (f lj)=true)(a9 post:List aE)(ba:M=a9++(os.ar e++post))(bB:(os.a.map λg=>(⟨g,0,none⟩:Addr))=some aM){K:List aE->Prop}
  (gk:∀ (br:aR),br.val=os.val->br.a=os.a->br.n=os.n->br.ok size ((l.set i lj).flatMap f)->K (a9++(br.ar e++post))):ck M (aM.add (i*size)) (f lj) K:=by
 obtain⟨g,aw,rfl⟩:∃ g,os.a=some g/\aM=⟨g,0,none⟩:=by
  cases a7:os.a with
  |none=>rw[a7]at bB;cases bB| some g=>rw[a7]at bB;cases bB;exact⟨g,rfl,rfl⟩
 rw[eS (⟨g,0,none⟩:Addr) rfl];refine aR.put f size aB h hi 0 (vs:=f lj) (by rw[aB];omega) aa lj ?_ a9 post ba aw (by simp) gk;unfold cj;simp[aB]
def aR.Fk(f:α->List Value)(size:Nat)(aB:∀ x,(f x).length=size){l:List α}{e:Nat}(h:os.ok size (l.flatMap f)){i:Nat}(hi:i<l.length)(k:Nat)(ae:k+vs.length<=size)(aa:fK vs=true)(lj:α)(ab:cj (f l[i]) k vs=f lj)(a9 post:List aE)(ba:M=a9++(os.ar e++post))(bB:(os.a.map λg=>(⟨g,0,none⟩:Addr))=some aM){K:List aE->Prop}
  (gk:∀ (br:aR),br.val=os.val->br.a=os.a->br.n=os.n->br.ok size ((l.set i lj).flatMap f)->K (a9++(br.ar e++post))):ck M ((aM.add (i*size)).add k) vs K:=by
 obtain⟨g,aw,rfl⟩:∃ g,os.a=some g/\aM=⟨g,0,none⟩:=by
  cases a7:os.a with
  |none=>rw[a7]at bB;cases bB| some g=>rw[a7]at bB;cases bB;exact⟨g,rfl,rfl⟩
 rw[eS (⟨g,0,none⟩:Addr) rfl,eS _ rfl];exact aR.put f size aB h hi k ae aa lj ab a9 post ba aw (by simp) gk
def aah(w:dY){k:Nat}(ae:k<64):IntKind.u64.wrap ((BitVec.ofInt 64 ((w.toNat:Int).fdiv (2^(min k 64))) &&& BitVec.ofInt 64 1).toNat:Int)=bif w.getLsbD k then 1 else 0:=by
 have aD:w.toNat<18446744073709551616:=w.isLt;have dy:min k 64=k:=by omega
 have aI:(w.toNat:Int).fdiv (2^k)=((w.toNat/2^k:Nat):Int):=by rw[K' _ (by exact Int.le_of_lt (Int.pow_pos (by decide)))];simp
 rw[dy,aI];have a6:(BitVec.ofInt 64 ((w.toNat/2^k:Nat):Int) &&& BitVec.ofInt 64 1).toNat=w.toNat/2^k%2:=by
  have aa:BitVec.ofInt 64 ((w.toNat/2^k:Nat):Int)=BitVec.ofNat 64 (w.toNat/2^k):=(show ∀ m:Nat,BitVec.ofInt 64 (m:Int)=BitVec.ofNat 64 m from λm=>by simp) _;have ad:BitVec.ofInt 64 1=BitVec.ofNat 64 1:=by decide
  rw[aa,ad,Lc,EA,EA];have ak:w.toNat/2^k%2^64=w.toNat/2^k:=EC (Nat.lt_of_le_of_lt (Nat.div_le_self _ _) aD);rw[ak,show 1%2^64=1 by decide,Nat.and_one_is_mod]
 rw[a6];have cq:IntKind.u64.wrap ((w.toNat/2^k%2:Nat):Int)=((w.toNat/2^k%2:Nat):Int):=by have:w.toNat/2^k%2<2:=Nat.mod_lt _ (by decide);unfold IntKind.wrap;simp only[IntKind.bits,IntKind.signed];simp;omega
 rw[cq];have dS:w.getLsbD k=w.toNat.testBit k:=rfl;rw[dS,Nat.testBit_eq_decide_div_mod_eq];have:w.toNat/2^k%2<2:=Nat.mod_lt _ (by decide);by_cases h:w.toNat/2^k%2=1
 ·rw[h];rfl
 ·have ay:w.toNat/2^k%2=0:=by omega
  rw[ay];rfl
def RW{k:Nat}(ae:k<64):IntKind.u64.wrap (1*2^(min k 64))=((lC k).toNat:Int):=by
 have dy:min k 64=k:=by omega
 have aa:(2:Nat)^k<2^64:=Q' (by decide) ae;have e:(lC k).toNat=2^k:=by unfold lC;rw[BitVec.toNat_shiftLeft];simp only[EA];rw[Nat.shiftLeft_eq,show 1%2^64=1 by decide,oI,EC aa]
 rw[dy,e,Int.one_mul];have a6:((2:Int)^k)=((2^k:Nat):Int):=by simp
 rw[a6];unfold IntKind.wrap;simp only[IntKind.bits,IntKind.signed];simp;omega
def o9(w:dY):Value:=.int .u64 w.toNat
def aai{w:dY}{i:Nat}(aZ:i<64)(ad:¬ IntKind.u64.wrap ((BitVec.ofInt 64 ((w.toNat:Int).fdiv (2^(min i 64))) &&& BitVec.ofInt 64 1).toNat:Int)=0):w.getLsbD i=true:=by
 have ag:=aah w aZ;cases aw:w.getLsbD i with
 |true=>rfl| false=>rw[aw]at ag;exact absurd ag ad
def aaj{w:dY}{i:Nat}(aZ:i<64)(ad:IntKind.u64.wrap ((BitVec.ofInt 64 ((w.toNat:Int).fdiv (2^(min i 64))) &&& BitVec.ofInt 64 1).toNat:Int)=0):w.getLsbD i=false:=by
 have ag:=aah w aZ;cases aw:w.getLsbD i with
 |false=>rfl| true=>rw[aw,ad]at ag;cases ag
def aak{b:Int}(h:(!decide (a=b))=true):¬ a=b:=by simpa using h
def aal{b:Int}(h:(!decide (a=b))=false):a=b:=by simpa using h
def aam(w:dY):Spec Tryz.prog 167 [.int .u64 w.toNat] I M0 λv I' M'=>I'=I/\∃ os:aR,os.ok 1 ((bitsOf w 64).map λn:Nat=>Value.int .i64 n)/\v=os.val/\M'=os.ar 3++M0:=by
 refine bV [] aY Tryz.func167 rfl rfl rfl ?_;intro B ay;refine dt.inv (ι:=Nat×aR) (λx=>{ bo:=[(0,.val (.int .u64 w.toNat)),(3,.val x.2.val),(5,.val (.int .i64 x.1))],cH:=I,dd:=x.2.ar 3++M0 }) (λx=>x.1<=64/\x.2.ok 1 ((bitsOf w x.1).map λn:Nat=>Value.int .i64 n)) (λx=>64-x.1) ?_ ?_
 ·exact⟨(0,h2),⟨by simp,k1 1⟩,.refl,fG,.nil⟩
 rintro⟨i,os⟩⟨hi,b4⟩;simp only at hi b4;have ic:os.n<=64:=by have aa:=b4.len;rw[bx]at aa;have:=akU w i;omega
 refine aX.mk (λh=>?_) (λh=>?_)
 rotate_left
 ·have c0:i=64:=by have:¬ (i:Int)<64:=dv h;omega
  rw[c0]at b4;exact⟨_,_,.refl,rfl,os,b4,rfl,rfl⟩
 have aZ:i<64:=by have:(i:Int)<64:=cJ h;omega
 refine sm.mk i rfl ?_;refine aX.mk (λad=>?_) (λad=>?_)
 ·have hw:=aai (w:=w) aZ (aak ad);refine bW.mk λb9 m8 Cq=>?_;refine bD.k5 aY rfl (by simp) (e:=3) rfl rfl rfl os b4 rfl (cs:=[.int .i64 i]) rfl rfl rfl [] M0 rfl (by omega) (by show(os.n+1)*8<=_;omega) ?_;intro ix jy gq iE;refine bd.mk _ (c8 (i:=i) (by omega)) ?_;refine⟨(i+1,ix),⟨⟨aZ,?_⟩,by simp only;omega⟩,.refl,fG,.nil⟩;simp only;rw[Zn,hw,cM];exact iE
 ·have hw:=aaj (w:=w) aZ (aal ad);refine bd.mk _ (c8 (i:=i) (by omega)) ?_;refine⟨(i+1,os),⟨⟨aZ,?_⟩,by simp only;omega⟩,.refl,fG,.nil⟩;simp only;rw[Zn,hw,cE,dF];exact b4
def AD(w:dY):ap:=.i .u64 w.toNat
def aan{e:Nat}(he:E e=some aF)(av:aF.size=1)(a7:aF.bP.agg=false)(P:List ap)(x:ap)(r:List ap):Au E e (P.length*aF.size) (P++x::r)=some x:=by unfold Au;rw[he,Fj,av,gM,Iz,Ra,a7];rfl
def aao{F:Nat->ap->ap->Option Bool}{E:Env}{e:Nat}{aF:ea}(he:E e=some aF)(av:aF.size=1)(a7:aF.bP.agg=false)(bE:∀ a b,F e (.i .u64 a) (.i .u64 b)=some (sU a b)):∀ (l m:List dY) (Fl Fm:List ap),l.length=m.length->Fl.length=Fm.length -> CO F E (Fl++l.map AD) (Fm++m.map AD) ((List.range' Fl.length l.length).map λi=>(e,i*aF.size))=some (decide (l=m))
 |[],[],Fl,Fm,_,_=>rfl| [],_::_,_,_,h,_=>by simp at h
 |_::_,[],_,_,h,_=>by simp at h
 |a::l,b::m,Fl,Fm,h,aJ=>by
  have aQ:=aao he av a7 bE l m (Fl++[AD a]) (Fm++[AD b]) (by simpa using h) (by simpa using aJ);rw[cr,od,dW,dW,qG,qG]at aQ;rw[et,OL,b5,b5,b5,CO,aan he av a7,Fj,aJ,aan he av a7,Fj,<-aJ];rw[show F e (AD a) (AD b)=some (decide (a=b)) by rw[<-alk];exact bE _ _,Fj,kA];by_cases aI:a=b;·subst aI;simp only[Ly,sj];rw[aQ];simp
  ·simp[aI]
def k7(m:List dY):List Value:=(List.range 64).map λi=>o9 (m.getD i 0)
def My(h:m.length=64):k7 m=m.map o9:=by
 unfold k7;apply oH
 ·simp[h]
 ·intro i aa ad;have:i<m.length:=by simpa using ad
  simp[bS,this]
def t'(m:List dY):(k7 m).length=64:=by simp[k7]
def alq{p q:List dY}(aJ:p.length=64)(aL:q.length=64){V:Value->Prop}(h:V (.bool (decide (p=q)))) :
  fT Tryz.prog .eql 203 x y (.val (.agg (k7 p).toArray)) (.val (.agg (k7 q).toArray)) V other:=by
 rw[My aJ,My aL];have aj:∀ l:List dY,bO (λ_=>none) (l.map AD) (l.map o9):=λl=>by
  induction l with
  |nil=>exact .nil| cons a l aQ=>exact .cons (by simp only[AD,o9,aU]) aQ
 refine aae (X:=⟨Tryz.prog,sy,[],0,0,default,λ_=>none,[],none⟩) (D:=λ_=>none) (v:=.b (decide (p=q))) aY ?_ (aj p) (aj q) (λu hu=>by simp only[aU]at hu;rw[hu];exact h);show Ik Tryz.prog sy .eql 203 _ _=_;obtain⟨i1,aa,gg⟩:∃ i,sy 203=some i/\i.bP=.array 64 60:=⟨_,rfl,rfl⟩;obtain⟨i2,ad,oG,alr⟩:∃ i,sy 60=some i/\i.bP=.int .u64/\i.size=1:=⟨_,rfl,rfl,rfl⟩;have bE:∀ a b,yD Tryz.prog sy 7 60 (.i .u64 a) (.i .u64 b)=some (sU a b):=λa b=>by simp only[yD,ad,Fj,oG];rfl
 have ae:=aao (F:=yD Tryz.prog sy 7) ad alr (by rw[oG];rfl) bE p q [] [] (by omega) rfl;unfold Ik;rw[yD];simp only[aa,Fj,gg,ad];rw[hX,hX,hB,aJ]at ae;rw[DS,ae,show Tryz.prog.eqGuardType Tryz.prog.depth 203=false by kernel_rfl];rfl
structure dV where
 n:Nat
 m:List dY
 w:dY
def dV.cells(s:dV):List Value:=.int .i64 s.n::(k7 s.m++[o9 s.w])
def dV.val(s:dV):Value:=.agg s.cells.toArray
def dV.als(s:dV):Prop:=s.m.length=64/\s.n<=64
def w1(b:Nat)(m:List dY):aE:=⟨b,.cells (k7 m).toArray 203 (0,0)⟩
def IF{b:Nat}(ba:w1 b m∈M):cR I M (⟨b,0,none⟩:Addr) 64 (k7 m):=
 ⟨rfl,_,_,_,.inr ⟨_,ba,rfl,rfl⟩,by simp only[qp];exact fC (by simp[t']),t' m⟩
def aap{b:Nat}(ba:w1 b m∈M)(ai:j<64):cR I M ((⟨b,0,none⟩:Addr).add (j*1)) 1 [o9 (m.getD j 0)]:=by rw[eS _ rfl];refine⟨rfl,_,_,_,.inr ⟨_,ba,rfl,rfl⟩,?_,rfl⟩;simp only[du,gM];rw[fg (by simpa[k7]using ai),rl,qo];simp[k7]
def aaq(m:List dY)(hm:m.length=64)(j:Nat)(ai:j<64)(w:dY):cj (k7 m) (0+j*1) [o9 w]=k7 (m.set j w):=by rw[My hm,My (by simpa using hm),du,gM,alp _ _ _ (by simp[hm];exact ai),rn]
def og(m:List dY)(i:Nat):List dY:=(List.range i).map (λq=>nc m 0 64 (m.getD q 0))++m.drop i
def aar(hm:m.length=64){i:Nat}(hi:i<=64):(og m i).length=64:=by simp[og,hm];omega
def alt(hm:m.length=64){i:Nat}(hi:i<64):(og m i).set i (m.getD i 0)=og m i:=by
 unfold og;have h:i<m.length:=by omega
 rw[Ct _ _ (by simp)];simp only[bx,wR,mC];rw[fg h,Cu];simp[bS,h]
def alu(hm:m.length=64){i:Nat}(hi:i<64):(og m i).set i (nc m 0 64 (m.getD i 0))=og m (i+1):=by
 unfold og;have h:i<m.length:=by omega
 rw[Ct _ _ (by simp)];simp only[bx,wR,mC];rw[fg h,Cu,ED,cM,dW];rfl
def aas(hm:m.length=64):og m 64=rW m:=by unfold og rW;rw[sT (by omega),dF]
def AE(m:List dY)(k:Nat):dY:=(List.range k).foldl (λw i=>w ||| ((m.getD i 0) &&& lC i)) 0
def alv(m:List dY)(k:Nat):AE m (k+1)=AE m k ||| (m.getD k 0 &&& lC k):=by unfold AE;rw[ED,tL];rfl
def alw{b:Int}(h:a=b):zu (.val (.int .u64 a)) (.val (.int .u64 b)):=by subst h;exact .refl
def alx(m:List dY)(k:Nat):k6 (AE m k).toNat (o8 (m.getD k 0).toNat (lC k).toNat)=((AE m (k+1)).toNat:Int):=by rw[ID,tZ,alv]
def aly{k:Nat}{w:dY}(ae:k<64)(h:w.getLsbD k=true):nc m k (64-k) w=nc m (k+1) (64-(k+1)) (w ||| m.getD k 0):=by rw[show 64-k=(64-(k+1))+1 by omega,nc,h];rfl
def alz{k:Nat}{w:dY}(ae:k<64)(h:w.getLsbD k=false):nc m k (64-k) w=nc m (k+1) (64-(k+1)) w:=by rw[show 64-k=(64-(k+1))+1 by omega,nc,h];rfl
def RX{i:Nat}(hi:i<m.length)(w:dY):(m.set i w).getD i 0=w:=by simp[bS,hi]
def alA(s:dV)(av:s.als):Spec Tryz.prog 168 [s.val] I M0 λv I' M'=>I'=I/\M'=M0/\∃ b:dY,v=.int .u64 b.toNat/\∀ i,i<64->(b.getLsbD i=true ↔ qM s.m i i):=by
 refine bV [1,3,4] aY Tryz.func168 rfl rfl rfl ?_;intro B ay;obtain⟨gg,oG⟩:=av;refine bW.mk λb1 jF QN=>?_;refine aO.mk (k7 s.m) ?_ ?_
 ·refine⟨rfl,_,_,_,.inr ⟨_,.head _,rfl,rfl⟩,?_,t' _⟩;show((s.cells).drop 1).take 64=_;rw[dV.cells,Ig,qp];exact sB (t' _)
 refine bW.mk λev CX avP=>?_;refine ck.rS [] _ _ _ rfl rfl rfl rfl (k7 s.m) rfl ?_;refine dt.inv (ι:=List dY) (λm=>{ bo:=[(3,.val (ptr ev))],cH:=I,dd:=w1 ev m::M0 }) (Ar s.m) As ?_ ?_
 ·exact⟨s.m,.start gg,.sub (.cons_cons _ (.cons _ (.refl _))) .refl,.cons .refl (.nil),.nil⟩
 intro m hm;have hh:=hm.len;refine aO.mk _ (IF (.head _)) ?_;refine bW.mk λgR Fo alB=>?_;refine ck.rS [] _ _ _ rfl rfl rfl rfl (k7 m) rfl ?_;refine dt.inv (ι:=Nat) (λi=>{ bo:=[(3,.val (ptr ev)),(4,.val (ptr gR)),(13,.val (.int .i64 i))],cH:=I,dd:=w1 gR (og m i)::(w1 ev m::M0) }) (λi=>i<=64) (λi=>64-i) ?_ ?_
 ·refine⟨0,dp _,.refl,fG,.nil⟩
 intro i hi;refine aX.mk (λh=>?_) (λh=>?_)
 rotate_left
 ·have c0:i=64:=by have:¬ (i:Int)<64:=dv h;omega
  subst c0;refine aO.mk _ (IF (.head _)) ?_;refine aO.mk _ (IF (.tail _ (.head _))) ?_;refine alq (aar hh (b' _)) hh ?_;rw[aas hh];refine aX.mk (λhe=>?_) (λhe=>?_)
  ·have rq:rW m=m:=cJ he;refine aO.mk _ (IF (.tail _ (.head _))) ?_;refine dt.inv (ι:=Nat) (λk=>{ bo:=[(7,.val (.int .u64 (AE m k).toNat)),(40,.val (.agg (k7 m).toArray)),(41,.val (.int .i64 k))],cH:=I,dd:=M0 }) (λk=>k<=64) (λk=>64-k) ?_ ?_
   ·exact⟨0,dp _,.sub (.cons _ (.cons _ (.refl _))) .refl,fG,.nil⟩
   intro k ae;refine aX.mk (λh=>?_) (λh=>?_)
   rotate_left
   ·have c0:k=64:=by have:¬ (k:Int)<64:=dv h;omega
    subst c0;exact⟨_,_,.refl,rfl,rfl,AE m 64,rfl,λi hi=>by rw[show AE m 64=Q6 m from rfl,akT m hi,hm.done rq hi hi]⟩
   have e1:k<64:=by have:(k:Int)<64:=cJ h;omega
   clear h ae;have ao:k=0\/k=1\/k=2\/k=3\/k=4\/k=5\/k=6\/k=7\/k=8\/k=9\/k=10\/k=11\/k=12\/k=13\/k=14\/k=15\/k=16\/k=17\/k=18\/k=19\/k=20\/k=21\/k=22\/k=23\/k=24\/k=25\/k=26\/k=27\/k=28\/k=29\/k=30\/k=31\/k=32\/k=33\/k=34\/k=35\/k=36\/k=37\/k=38\/k=39\/k=40\/k=41\/k=42\/k=43\/k=44\/k=45\/k=46\/k=47\/k=48\/k=49\/k=50\/k=51\/k=52\/k=53\/k=54\/k=55\/k=56\/k=57\/k=58\/k=59\/k=60\/k=61\/k=62\/k=63:=by omega
   rcases ao with rfl | rfl | rfl | rfl | rfl | rfl | rfl | rfl | rfl | rfl | rfl | rfl | rfl | rfl | rfl | rfl | rfl | rfl | rfl | rfl | rfl | rfl | rfl | rfl | rfl | rfl | rfl | rfl | rfl | rfl | rfl | rfl | rfl | rfl | rfl | rfl | rfl | rfl | rfl | rfl | rfl | rfl | rfl | rfl | rfl | rfl | rfl | rfl | rfl | rfl | rfl | rfl | rfl | rfl | rfl | rfl | rfl | rfl | rfl | rfl | rfl | rfl | rfl | rfl
   all_goals
    refine cw.mk _ rfl e1 ?_;refine sm.mk _ rfl ?_;refine bd.mk _ (RW e1) ?_;refine bd.mk _ (c8 (by omega)) ?_;exact⟨_,⟨e1,by omega⟩,.refl,.cons (alw (alx m _)) (xR),.nil⟩
  ·have rq:rW m≠m:=dv he;refine aO.mk _ (IF (.head _)) ?_;refine ck.rS [_] _ _ _ rfl rfl rfl rfl (k7 (og m 64)) rfl ?_;refine⟨rW m,⟨hm.next,akS hh rq⟩,.sub (.cons _ (.refl _)) (.ma ?_),.cons .refl (.nil),.nil⟩;rw[aas hh];rfl
 have aZ:i<64:=by have:(i:Int)<64:=cJ h;omega
 have oL:=aar hh hi;refine dt.inv (ι:=Nat×dY) (λs=>{ bo:=[(3,.val (ptr ev)),(4,.val (ptr gR)),(5,.val (.int .i64 i)),(13,.val (.int .i64 i)),(16,.val (.int .i64 s.1))],cH:=I,dd:=w1 gR ((og m i).set i s.2)::(w1 ev m::M0) }) (λs=>s.1<=64/\nc m 0 64 (m.getD i 0)=nc m s.1 (64-s.1) s.2) (λs=>64-s.1) ?_ ?_
 ·refine⟨(0,m.getD i 0),⟨dp _,rfl⟩,.ma ?_,hx,.nil⟩;simp only;rw[alt hh aZ]
 rintro⟨k,w⟩⟨ae,fv⟩;simp only at ae fv;refine aX.mk (λh=>?_) (λh=>?_)
 rotate_left
 ·have c0:k=64:=by have:¬ (k:Int)<64:=dv h;omega
  subst c0;have yz:nc m 0 64 (m.getD i 0)=w:=fv;refine bd.mk _ (c8 (i:=i) (by omega)) ?_;refine⟨i+1,⟨aZ,by omega⟩,.ma ?_,fG,.nil⟩;rw[<-alu hh aZ,yz]
 have e1:k<64:=by have:(k:Int)<64:=cJ h;omega
 have gG:((og m i).set i w).length=64:=by rw[rO,oL]
 have aat:∀ {M:List aE},w1 gR ((og m i).set i w)∈M->cR I M ((⟨gR,0,none⟩:Addr).add (i*1)) 1 [.int .u64 w.toNat]:=λba=>by have:=aap (I:=I) ba aZ;rwa [RX (by omega) w]at this
 have sw:∀ {M:List aE},w1 ev m∈M->cR I M ((⟨ev,0,none⟩:Addr).add (k*1)) 1 [.int .u64 (m.getD k 0).toNat]:=λba=>aap (I:=I) ba e1;refine cw.mk i rfl aZ ?_;refine aO.mk _ (aat (.head _)) ?_;refine sm.mk k rfl ?_;refine aX.mk (λad=>?_) (λad=>?_)
 ·have hw:=aai (w:=w) e1 (aak ad);refine cT.draw aY rfl rfl rfl ?_;refine cw.mk i rfl aZ ?_;refine aO.mk _ (aat (.head _)) ?_;refine cw.mk k rfl e1 ?_;refine aO.mk _ (sw (.tail _ (.head _))) ?_;refine cw.mk i rfl aZ ?_;refine ck.iV [] (w1 ev m::M0) (k7 ((og m i).set i w)) _ rfl ?_ rfl (k7 ((og m i).set i (w ||| m.getD k 0))) ?_ ?_
  ·rw[nR,t'];show 0+i*1+1<=64;omega
  ·show cj _ _ [Value.int .u64 (k6 w.toNat (m.getD k 0).toNat)]=_;rw[tZ];have:=aaq ((og m i).set i w) gG i aZ (w ||| m.getD k 0);rw[Hq]at this;exact this
  refine bd.mk _ (c8 (i:=k) (by omega)) ?_;exact⟨(k+1,w ||| m.getD k 0),⟨⟨e1,by rw[fv,aly e1 hw]⟩,by simp only;omega⟩,.refl,hx,.nil⟩
 ·have hw:=aaj (w:=w) e1 (aal ad);refine bd.mk _ (c8 (i:=k) (by omega)) ?_;exact⟨(k+1,w),⟨⟨e1,by rw[fv,alz e1 hw]⟩,by simp only;omega⟩,.refl,hx,.nil⟩
def Mz{k:Nat}(ae:k<64):IntKind.u64.wrap (1*2^(min k IntKind.u64.bits))=((1#64 <<< k).toNat:Int):=by
 have aa:(1#64 <<< k).toNat=2^k:=by rw[BitVec.toNat_shiftLeft,Nat.shiftLeft_eq];have:2^k<2^64:=Q' (by decide) ae;simp only[EA];rw[EC (by decide:1<2^64),oI];exact EC this
 have ad:min k IntKind.u64.bits=k:=by simp only[IntKind.bits];omega
 have ak:2^k<2^64:=Q' (by decide) ae;rw[aa,ad,Int.one_mul];have e:((2:Int)^k)=((2^k:Nat):Int):=by simp
 rw[e];generalize 2^k=q at ak;unfold IntKind.wrap;simp only[IntKind.bits,IntKind.signed];simp;omega
def alC(l:List UInt8)(b:UInt8):o5 (l++[b])=(o5 l).or (ve b):=by simp[o5]
def aau(n:Nat)(h:n<256):IntKind.u8.wrap (n:Int)=(n:Int):=by unfold IntKind.wrap;simp only[IntKind.bits,IntKind.signed];simp;omega
def aav(s:ByteArray)(av:s.size<=140737488355328):Spec Tryz.prog 97 [.string s] I M λr I' M'=>r=(o5 s.data.toList).val/\I'=I/\M'=M:=by
 refine bV [] aY Tryz.func97 rfl rfl rfl ?_;intro B ay;have dn:s.data.toList.length=s.size:=xS;refine dt.inv (ι:=Nat) (λi=>{ bo:=[(0,.val (.string s)),(2,.ref 2 0),(3,.ref 3 0),(4,.val (.int .i64 i))],cl:=[(2,bj.zero.cells),(3,(o5 (s.data.toList.take i)).cells)],cH:=I,dd:=M }) (λi=>i<=s.size) (λi=>s.size-i) ?_ ?_
 ·exact⟨0,dp _,.refl,ee,.cons rfl (.cons rfl (.nil))⟩
 intro i hi;refine aX.mk (λh=>?_) (λh=>?_)
 rotate_left
 ·have c0:s.size<=i:=by have:¬ (i:Int)<(s.size:Int):=dv h;omega
  have hw:s.data.toList.take i=s.data.toList:=fC (by omega);refine⟨_,_,.refl,?_,rfl,rfl⟩;show(o5 (s.data.toList.take i)).val=_;rw[hw]
 have aZ:i<s.size:=by have:(i:Int)<(s.size:Int):=cJ h;omega
 have GK:s.data.toList[i]'(by omega)=s[i]:=by rw[Array.getElem_toList];rfl
 have IG:o5 (s.data.toList.take (i+1))=(o5 (s.data.toList.take i)).or (ve s[i]):=by rw[gj (by omega),alC,GK]
 generalize o5 (s.data.toList.take i)=w at IG;have ag:=s[i].toNat_lt;have em:((s[i].toNat:Int)).tmod 64=((s[i].toNat%64:Nat):Int):=rfl;have kO:((s[i].toNat:Int)).tdiv 64=((s[i].toNat/64:Nat):Int):=rfl;refine cT.draw aY rfl rfl rfl ?_;refine tf.mk i rfl aZ ?_;refine uD.mk (by decide) ?_;rcases(by omega:s[i].toNat/64=0\/s[i].toNat/64=1\/s[i].toNat/64=2\/s[i].toNat/64=3)with ai | ai | ai | ai
 ·refine bd.mk 0 (by rw[kO,ai];decide) ?_;refine cw.mk 0 rfl (by decide) ?_;refine tf.mk i rfl aZ ?_;refine uD.mk (by decide) ?_;refine sm.mk (s[i].toNat%64) em ?_;refine bd.mk _ (Mz (by omega)) ?_;refine cw.mk 0 rfl (by decide) ?_;refine bd.mk _ (c8 (i:=i) (by omega)) ?_;refine⟨i+1,⟨aZ,by omega⟩,.refl,ee,.cons rfl (.cons ?_ .nil)⟩;rw[IG,show ve s[i]=bj.one 0 (1#64 <<< (s[i].toNat%64)) by rw[ve,ai]];refine congrArg some ?_;show([.int .u64 (k6 w.a.toNat (1#64 <<< (s[i].toNat%64)).toNat),.int .u64 w.b.toNat,.int .u64 w.c.toNat,.int .u64 w.d.toNat]:List Value)=_;rw[tZ];simp[bj.cells,bj.or,bj.one]
 ·refine bd.mk 1 (by rw[kO,ai];decide) ?_;refine cw.mk 1 rfl (by decide) ?_;refine tf.mk i rfl aZ ?_;refine uD.mk (by decide) ?_;refine sm.mk (s[i].toNat%64) em ?_;refine bd.mk _ (Mz (by omega)) ?_;refine cw.mk 1 rfl (by decide) ?_;refine bd.mk _ (c8 (i:=i) (by omega)) ?_;refine⟨i+1,⟨aZ,by omega⟩,.refl,ee,.cons rfl (.cons ?_ .nil)⟩;rw[IG,show ve s[i]=bj.one 1 (1#64 <<< (s[i].toNat%64)) by rw[ve,ai]];refine congrArg some ?_;show([.int .u64 w.a.toNat,.int .u64 (k6 w.b.toNat (1#64 <<< (s[i].toNat%64)).toNat),.int .u64 w.c.toNat,.int .u64 w.d.toNat]:List Value)=_;rw[tZ];simp[bj.cells,bj.or,bj.one]
 ·refine bd.mk 2 (by rw[kO,ai];decide) ?_;refine cw.mk 2 rfl (by decide) ?_;refine tf.mk i rfl aZ ?_;refine uD.mk (by decide) ?_;refine sm.mk (s[i].toNat%64) em ?_;refine bd.mk _ (Mz (by omega)) ?_;refine cw.mk 2 rfl (by decide) ?_;refine bd.mk _ (c8 (i:=i) (by omega)) ?_;refine⟨i+1,⟨aZ,by omega⟩,.refl,ee,.cons rfl (.cons ?_ .nil)⟩;rw[IG,show ve s[i]=bj.one 2 (1#64 <<< (s[i].toNat%64)) by rw[ve,ai]];refine congrArg some ?_;show([.int .u64 w.a.toNat,.int .u64 w.b.toNat,.int .u64 (k6 w.c.toNat (1#64 <<< (s[i].toNat%64)).toNat),.int .u64 w.d.toNat]:List Value)=_;rw[tZ];simp[bj.cells,bj.or,bj.one]
 ·refine bd.mk 3 (by rw[kO,ai];decide) ?_;refine cw.mk 3 rfl (by decide) ?_;refine tf.mk i rfl aZ ?_;refine uD.mk (by decide) ?_;refine sm.mk (s[i].toNat%64) em ?_;refine bd.mk _ (Mz (by omega)) ?_;refine cw.mk 3 rfl (by decide) ?_;refine bd.mk _ (c8 (i:=i) (by omega)) ?_;refine⟨i+1,⟨aZ,by omega⟩,.refl,ee,.cons rfl (.cons ?_ .nil)⟩;rw[IG,show ve s[i]=bj.one 3 (1#64 <<< (s[i].toNat%64)) by rw[ve,ai]];refine congrArg some ?_;show([.int .u64 w.a.toNat,.int .u64 w.b.toNat,.int .u64 w.c.toNat,.int .u64 (k6 w.d.toNat (1#64 <<< (s[i].toNat%64)).toNat)]:List Value)=_;rw[tZ];simp[bj.cells,bj.or,bj.one]
section
variable{I:aH}{M:List aE}{d:al}{x:aW}{a:Option Addr}{n c:Nat}{ks:List k4}
def MA{z:Int}(h:fm z):((BitVec.ofInt 64 z).toNat:Int)=z:=by obtain⟨w,rfl⟩:=akO h;rw[CJ]
end
def vl(t:bk):Prop:=∀ n∈t.ns,n.aG<=3000000000000
abbrev dZ(X:c3)(G:GT)(pr:mb):gS:=⟨X.P,X.E,G,pr⟩
section
variable{X:c3}{G:GT}{pr:mb}{D:bR}{m:bw}{F:Fr}{an:bh ap}{C:dN}{I:aH}{M:List aE}{V:dH->Prop}{O:Prop}
def pb{a b:α}(h:some a=some b):a=b:=by cases h;rfl
def alD{op:BinOp}{k:IntKind}{b:Int}{v:ap}{O:Prop}(h:Re op k fL a b=some v)(ae:∀ u,aU D v u->K u):lT op db (.val (.int k a)) (.val (.int fL b)) K O:=by
 have mk:∀ {q:ap} {u:Value},some q=some v->aU D q u->K u:=λe hu=>ae _ (pb e ▸ hu);unfold Re at h;split at h
 ·split at h
  ·rename_i j;refine⟨j,rfl,⟨_,rfl,mk h ?_⟩⟩;simp only[aU];rw[Az,alb,kA,aaa]
  ·cases h
 ·split at h
  ·rename_i j;refine⟨j,rfl,mk h ?_⟩;simp only[aU];rw[alc,kA,aaa]
  ·cases h
 all_goals obtain⟨aL,h⟩:=fY h
 all_goals simp only[lT,aL,cF]
 ·exact⟨_,rfl,mk h (by simp only[aU];rw[Az,ak6])⟩
 ·exact⟨_,rfl,mk h (by simp only[aU];rw[Az,ak7])⟩
 ·exact⟨_,rfl,mk h (by simp only[aU];rw[Az,ak8])⟩
 ·obtain⟨ay,h⟩:=Ay h;refine⟨λe=>?_,_,rfl,mk h (by simp only[aU];rw[Az,ak9])⟩;rw[CV,e]at ay;simp at ay
 ·obtain⟨ay,h⟩:=Ay h;refine⟨λe=>?_,mk h (by simp only[aU];rw[ala])⟩;rw[CV,e]at ay;simp at ay
 ·obtain⟨r,af,h⟩:=ct h;rw[Mo af];exact mk h (by simp only[aU])
 ·obtain⟨r,af,h⟩:=ct h;rw[Mo af];exact mk h (by simp only[aU])
 ·obtain⟨r,af,h⟩:=ct h;rw[Mo af];exact mk h (by simp only[aU])
 ·obtain⟨r,af,h⟩:=ct h;rw[Mo af];exact mk h (by simp only[aU])
 ·obtain⟨r,af,h⟩:=ct h;rw[ak5]at af;have aj:v=.b r:=(pb h).symm;subst aj;have hR:K (.bool r):=ae _ (by simp only[aU]);cases op<;>first
   |contradiction|(rw[af];exact hR)
def RY(b:Bool):b2 b false true=!b:=by cases b<;>rfl
def alE{op:BinOp}{a b:List UInt8}{v:ap}{O:Prop}(h:Rf op a b=some v)(ae:∀ u,aU D v u->K u) :
  lT op db (.val (.string ⟨a.toArray⟩)) (.val (.string ⟨b.toArray⟩)) K (fT P op t x y (.val (.string ⟨a.toArray⟩)) (.val (.string ⟨b.toArray⟩)) K O):=by
 unfold Rf at h;split at h
 ·cases h;refine ae _ ?_;simp only[aU];rw[Mw,Fh]
 ·cases h;refine ae _ ?_;simp only[aU];rw[Mw,Fh,RY]
 ·obtain⟨ax,h⟩:=fY h;cases h;have ql:=bK ax;refine fT.concat (by simpa[ByteArray.size]using ql) (ae _ ?_);simp only[aU];congr 1
 ·cases h
def alF{op:BinOp}{a:Bool}{v:ap}{O:Prop}(h:Rg op db a b=some v)(ae:∀ u,aU D v u->K u):lT op db (.val (.bool a)) (.val (.bool b)) K O:=by
 unfold Rg at h;split at h
 ·split at h
  ·cases h;exact ae _ (by simp only[aU])
  ·cases h;exact ae _ (by simp only[aU])
  ·cases h
 ·cases h
def alG{x:ap}(h:Rh x=some b){u:Value}(hu:aU D x u):∃ a n c,u=.slice a n c/\b=a.isNone:=by
 cases x<;>simp only[Rh,kK,reduceCtorEq]at h<;>subst h<;>simp only[aU]at hu
 ·exact⟨_,_,_,hu,rfl⟩
 ·obtain⟨a,-,hu⟩:=hu;exact⟨_,_,_,hu,rfl⟩
 ·obtain⟨a,-,-,hu⟩:=hu;exact⟨_,_,_,hu,rfl⟩
 ·exact⟨_,_,_,hu,rfl⟩
 ·obtain⟨a,c,hu⟩:=hu;exact⟨_,_,_,hu,rfl⟩
def alH{x:ap}(h:Ri x=some b){u:Value}(hu:aU D x u):∃ p,u=.pointer p/\b=p.isNone:=by
 cases x<;>simp only[Ri,kK,reduceCtorEq]at h<;>subst h<;>simp only[aU]at hu
 ·exact⟨_,hu,rfl⟩
 ·obtain⟨a,-,hu⟩:=hu;exact⟨_,hu,rfl⟩
 ·exact⟨_,hu,rfl⟩
def alI{e:Nat}(h:P.underlying t=some (.slice e))(a:Option Addr)(n c:Nat)(w:World):(Op.equal t (.slice a n c) (.slice none 0 0)).run P w=.ok a.isNone w:=by
 have key:∀ d,(Op.equalIn (d+1) t (.slice a n c) (.slice none 0 0)).run P w=.ok a.isNone w:=λd=>by cases a<;>simp[Op.equalIn,run_underlying h]
 exact key 9999
def alJ{e:Nat}(h:P.underlying t=some (.pointer e))(p:Option Addr)(w:World):(Op.equal t (.pointer p) (.pointer none)).run P w=.ok p.isNone w:=by
 have key:∀ d,(Op.equalIn (d+1) t (.pointer p) (.pointer none)).run P w=.ok p.isNone w:=λd=>by cases p<;>simp[Op.equalIn,run_underlying h]
 exact key 9999
def aaw{op:BinOp}{v:ap}{p q:Value}(aw:∀ w,op=.eql\/op=.neq->(eqGuard op t x y p q).run P w=.ok () w)(he:∀ w,(Op.equal t p q).run P w=.ok b w)(ag:∀ w,(binOp .eql t p q).run P w=.ok (.bool b) w)(aD:∀ w,(binOp .neq t p q).run P w=.ok (.bool (!b)) w)(h:L8 op b=some v){O:Prop}(ae:∀ u,aU D v u->K u):fT P op t x y (.val p) (.val q) K O:=by
 unfold L8 at h;split at h
 ·cases h;refine .mk p q (.bool b) rfl rfl (λw=>?_) (ae _ (by simp only[aU]));simp only[cp,aw w (.inl rfl),bZ,ag w]
 ·cases h;refine .mk p q (.bool (!b)) rfl rfl (λw=>?_) (ae _ (by simp only[aU]));simp only[cp,aw w (.inr rfl),bZ,aD w]
 ·cases h
def alK(aN:cW X.P X.E){op:BinOp}{x y v:ap}{alL:Operand}{u:Value}{O:Prop}(h:Rj X.P X.E op t x y=some v)(ab:aU D x u)(aC:aU D y w)(ae:∀ u,aU D v u->K u) :
  lT op (X.E t) (.val u) (.val w) K (fT X.P op t p0 alL (.val u) (.val w) K O):=by
 unfold Rj at h;split at h
 ·rw[ab.int,aC.int];exact alD h ae
 ·rw[ab.str,aC.str];exact alE h ae
 ·rw[ab.bool,aC.bool];exact alF h ae
 ·obtain⟨us,aa,rfl⟩:=ab.agg;obtain⟨ws,ad,rfl⟩:=aC.agg;exact aae aN h aa ad ae
 ·obtain⟨i,hi,h⟩:=ct h;split at h
  ·rename_i e n3;obtain⟨b,aa,h⟩:=ct h;obtain⟨a,n,c,rfl,rfl⟩:=alG aa ab;simp only[aU]at aC;subst aC;obtain⟨d,fP,fl⟩:=(aN _ _ hi).fs;have ad:d=.slice e:=by rw[n3]at fl;cases d<;>simp_all[fr]
   subst ad;have he:=alI fP a n c;exact aaw (λw aA=>by rcases aA with rfl | rfl<;>(unfold eqGuard;rfl)) he (λw=>by simp only[binOp];simp[he w]) (λw=>by simp only[binOp];simp[he w]) h ae
  ·cases h
 ·obtain⟨i,hi,h⟩:=ct h;split at h
  ·rename_i e n3;obtain⟨b,aa,h⟩:=ct h;obtain⟨p,rfl,rfl⟩:=alH aa ab;simp only[aU]at aC;subst aC;obtain⟨d,fP,fl⟩:=(aN _ _ hi).fs;have ad:d=.pointer e:=by rw[n3]at fl;cases d<;>simp_all[fr]
   subst ad;have he:=alJ fP p;exact aaw (λw aA=>by rcases aA with rfl | rfl<;>(unfold eqGuard;rfl)) he (λw=>by simp only[binOp];simp[he w]) (λw=>by simp only[binOp];simp[he w]) h ae
  ·cases h
 ·cases h
variable(aN:cW X.P X.E)(hm:dh (dZ X G pr) D m I M)
theorem Fp{v:ap}{n:Nat}(h:v.nat=some n):∃ k,v=.i k (.ofNat n):=by
 unfold ap.nat at h;split at h
 ·cases h;exact⟨_,rfl⟩
 ·cases h
theorem aax{x v:ap}{n:Nat}{u:Value}(h:Il x n=some v)(ab:aU D x u):∃ a,u=.pointer (some a)/\a.spot=none/\aU D v (.pointer (some (a.add n))):=by
 unfold Il at h;split at h
 ·cases h;obtain⟨a,a7,rfl⟩:=ab.ptr;refine⟨_,rfl,rfl,?_⟩;rw[eS _ rfl];simp only[aU];exact⟨a,a7,by simp only[At,te]⟩
 ·cases h;refine⟨_,ab.qO,rfl,?_⟩;rw[eS _ rfl];simp only[aU];rfl
 ·cases h
theorem alM{x v:ap}{u:Value}(h:L9 x j sz=some v)(ab:aU D x u):∃ a n c,u=.slice (some a) n c/\j<n/\aU D v (.pointer (some (a.add (j*sz)))):=by
 unfold L9 at h;split at h
 ·cases ag:Nat.blt j _ with
  |false=>rw[ag]at h;cases h| true=>rw[ag]at h;cases h;obtain⟨a,a7,rfl⟩:=ab.sW;refine⟨_,_,_,rfl,bK ag,?_⟩;rw[eS _ rfl];simp only[aU];exact⟨a,a7,by simp only[At,EZ,te]⟩
 ·cases ag:Nat.blt j _ with
  |false=>rw[ag]at h;cases h| true=>rw[ag]at h;cases h;obtain⟨a,a7,_,rfl⟩:=ab.vk;refine⟨_,_,_,rfl,bK ag,?_⟩;rw[eS _ rfl];simp only[aU];exact⟨a,a7,by simp only[At,EZ,te]⟩
 ·cases ag:Nat.blt j _ with
  |false=>rw[ag]at h;cases h| true=>rw[ag]at h;cases h;refine⟨_,_,_,ab.RR,bK ag,?_⟩;rw[eS _ rfl];simp only[aU];rfl
 ·cases h
theorem aay{cs:List ap}{v:ap}{us:List Value}(h:Ma aF cs off=some v)(ao:bO D cs us) :
  off+aF.size<=us.length/\aU D v (pack aF.bP.agg ((us.drop off).take aF.size)):=by
 unfold Ma at h;obtain⟨ay,h⟩:=Ay h;obtain⟨l,aa,ad⟩:=ct h;have hg:aF.size≠0:=λe=>by rw[e]at ay;cases ay
 obtain⟨rfl,ax⟩:=aab aa;rw[Iz]at ad ax;refine⟨?_,Mu ad ((ao.drop off).take _)⟩;have:=ao.len;simp at ax;omega
theorem aaz{i:Nat}{hv:ea}(h:L' E t i=some (off,hv)):∃ a b z cV fx,E t=some ⟨a,b,z,.struct cV⟩/\cV[i]?=some (fx,off)/\E fx=some hv:=by
 unfold L' at h;split at h
 ·rename_i a b z cV aq;split at h
  ·rename_i fx o aB;rw[AB]at aB;split at h
   ·rename_i f tN;cases h;exact⟨_,_,_,_,fx,aq,aB,tN⟩
   ·cases h
  ·cases h
 ·cases h
theorem alN(h:Rm E t=some (r,aF)):(∃ a b z e,E t=some ⟨a,b,z,.slice e⟩/\E e=some aF/\r=none)\/∃ a b z n e,E t=some ⟨a,b,z,.array n e⟩/\E e=some aF/\r=some n:=by
 unfold Rm at h;split at h
 ·rename_i a b z e aq;split at h
  ·cases h;exact .inl ⟨_,_,_,_,aq,by assumption,rfl⟩
  ·cases h
 ·rename_i a b z n e aq;split at h
  ·cases h;exact .inr ⟨_,_,_,_,_,aq,by assumption,rfl⟩
  ·cases h
 ·cases h
theorem alO{x i v:ap}{u:Value}(h:Im X.E t (some x) (some i)=some v)(ab:aU D x u)(hi:aU D i w){ρ:Operand->dH}{gD:Operand}(RZ:dE ρ p0=.val u)(iq:dE ρ gD=.val w)
  (k:∀ x,gx D x v->V x):cK X (.index t p0 gD) ρ C I M V O:=by
 unfold Im at h;split at h
 ·rename_i l gU aq aa ad;cases aa;cases ad;obtain⟨j,ai,h⟩:=ct h;obtain⟨gk,rfl⟩:=Fp ai;have fa:Rn l j=some v:=h;unfold Rn at fa;obtain⟨b,ag,dR⟩:=ct fa;cases dR;rw[AB]at ag;rw[ab.str]at RZ;rw[hi.int]at iq;have aZ:=(hG.1 ag).1;simp only[cK,aq,RZ,iq];refine⟨j,rfl,by simpa[ByteArray.size]using aZ,k _ (.val ?_)⟩;simp only[aU];have:(⟨l.toArray⟩:ByteArray)[j]'(by simpa[ByteArray.size]using aZ)=b:=by have:=(hG.1 ag).2;show l.toArray[j]'_=b;simpa using this
  rw[this];rfl
 ·rename_i n e cs gU aq aa ad;cases aa;cases ad;obtain⟨aF,he,h⟩:=ct h;obtain⟨j,ai,h⟩:=ct h;obtain⟨gk,rfl⟩:=Fp ai;obtain⟨us,fN,rfl⟩:=ab.agg;unfold ZE at h;obtain⟨ag,h⟩:=fY h;rw[cB]at ag;obtain⟨ak,aK⟩:=aay h fN;rw[hi.int]at iq;simp only[cK,aq,RZ,iq,he];have dn:Nat.beq (n*aF.size) us.toArray.size=true:=by have bz:=ed ag.1;rw[tr,fN.len,<-bz];exact q6 _
  rw[dn];simp only[cF];exact⟨j,rfl,bK ag.2,k _ (.val aK)⟩
 ·cases h
theorem alP{x v:ap}{l:Nat}{h:Option Nat}{u:Value}(av:Rk x sz l h=some v)(ab:aU D x u):∃ a n c,u=.slice a n c/\l<=h.getD n/\h.getD n<=c/\(h=none->l<=n) /\
  aU D v (.slice (if c=l then a else a.map (·.add (l*sz))) (h.getD n-l) (c-l)):=by
 unfold Rk at av;split at av
 ·cases ag:(Nat.beq l 0&&Nat.beq (h.getD 0) 0)with
  |false=>rw[ag]at av;cases av| true=>rw[ag]at av;cases av;rw[cB]at ag;have aa:=ed ag.1;have ad:=ed ag.2;subst aa;refine⟨none,0,0,ab.CW,by omega,by omega,λ_=>by omega,?_⟩;rw[ad];simp[aU]
 ·rename_i id off n c;obtain⟨a,a7,rfl⟩:=ab.sW;simp only at av;cases ag:(Nat.ble l (h.getD n)&&Nat.ble (h.getD n) c)with
  |false=>rw[ag]at av;cases av
  |true=>
   rw[ag]at av;simp only[cF]at av;rw[cB]at ag;have aa:=bK ag.1;have ad:=bK ag.2;refine⟨_,n,c,rfl,aa,ad,λe=>by subst e;exact aa,?_⟩;rw[RQ]at av;by_cases e:c=l;·subst e;simp only[Ly,cF]at av;cases av;simp only[sj,aU];exact⟨a,a7,by simp only[E0,mC]⟩
   ·simp only[e,decide_false,cE]at av;cases av;simp only[e,mj,aU,lg];refine⟨a,a7,?_⟩;rw[eS _ rfl];simp only[At,EZ,E0,te]
 ·rename_i id off e n;obtain⟨a,a7,bf,rfl⟩:=ab.vk;simp only at av;cases ag:(Nat.ble l (h.getD n)&&Nat.ble (h.getD n) n)with
  |false=>rw[ag]at av;cases av
  |true=>
   rw[ag]at av;simp only[cF]at av;rw[cB]at ag;have aa:=bK ag.1;have ad:=bK ag.2;refine⟨_,n,a.c-e,rfl,aa,by omega,λe=>by subst e;exact aa,?_⟩;cases ao:(Nat.beq l 0||Nat.blt l n)with
   |true=>
    rw[ao]at av;simp only[cF]at av;cases av;rw[lp]at ao;simp only[aU];refine⟨a,a7,by simp only[At,E0];omega,?_⟩;have ak:a.c-e-l=a.c-(e+l):=by omega
    by_cases ay:l=0
    ·subst ay;simp only[zC,Ab,lg,At,EZ,E0,oz];split
     ·rfl
     ·rw[eS _ rfl];simp
    ·have aK:l<n:=by
      rcases ao with ao | ao;·exact absurd (ed ao) ay
      ·exact bK ao
     rw[bN (by omega)];simp only[lg];rw[eS _ rfl];simp only[At,EZ,E0,te,ak]
   |false=>
    rw[ao]at av;simp only[cE]at av;cases av;rw[tB]at ao;have aK:¬ l<n:=λaZ=>by have:=EY (show l.succ<=n from aZ);rw[show Nat.blt l n=Nat.ble l.succ n from rfl,this]at ao;cases ao.2
    have bz:h.getD n-l=0:=by omega
    simp only[aU,bz];split;·exact⟨_,_,rfl⟩
    ·exact⟨_,_,rfl⟩
 ·cases av
end
section
variable{X:c3}{G:GT}{pr:mb}{D:bR}{m:bw}{F:Fr}{an:bh ap}{C:dN}{I:aH}{M:List aE}{V:dH->Prop}{O:Prop}
def alQ(c:Bool)(a b:Value):KA c (.val a) (.val b)=.val (bif c then a else b):=by cases a<;>cases b<;>cases c<;>rfl
def aaA{o:Option Operand}{xs:List Operand}(H:jx D F an xs)(ab:∀ y,o=some y->y∈xs)(h:CP (o.map (dw an))=some r) :
  (o.map (dE (dq F))=none/\r=none)\/∃ k n,o.map (dE (dq F))=some (.val (.int k (Int.ofNat n)))/\r=some n:=by
 cases o with
 |none=>simp[CP]at h;exact .inl ⟨rfl,h.symm⟩
 |some y=>
  simp only[lg,CP]at h;cases aj:dw an y with
  |none=>rw[aj]at h;cases h
  |some v=>
   rw[aj]at h;simp only at h;split at h;·rename_i n aD;cases h;obtain⟨k,rfl⟩:=Fp aD;obtain⟨u,hu,af⟩:=H.bH (ab y rfl) aj;rw[af.int]at hu;exact .inr ⟨k,n,by simp only[lg];exact congrArg some hu,rfl⟩
   ·cases h
def R0(l:List UInt8)(lo hi:Nat):(⟨(Rl l lo hi).toArray⟩:ByteArray)=(⟨l.toArray⟩:ByteArray).extract lo hi:=by apply v3;apply gX;unfold Rl;rw[Iz];simp[Kv,List.extract_eq_take_drop]
def alR{v:ap}{n:Nat}{u:Value}(h:wV v=some n)(aj:aU D v u):∃ a c,u=.slice a n c:=by
 unfold wV at h;split at h
 ·cases h;exact⟨_,_,aj.CW⟩
 ·cases h;obtain⟨a,c,rfl⟩:=aj.Mq;exact⟨_,_,rfl⟩
 ·cases h;obtain⟨a,_,rfl⟩:=aj.sW;exact⟨_,_,rfl⟩
 ·cases h;obtain⟨a,_,_,rfl⟩:=aj.vk;exact⟨_,_,rfl⟩
 ·cases h;exact⟨_,_,aj.RR⟩
 ·cases h
def alS(aN:cW X.P X.E){b:Builtin}{dC:Array TypeId}{v:ap}(h:Rq X.E b dC.toList (oe an args.toList)=some v)(H:jx D F an args.toList)(k:∀ x,gx D x v->V x) :
  cK X (.call { callee:=.builtin b,args:=args,argTypes:=dC }) (dq F) C I M V O:=by
 unfold Rq at h;split at h
 ·
  unfold ZJ at h;split at h
  ·rename_i t w aq ax;obtain⟨us,aI,bc⟩:=H.mQ (λ_ h=>h) ax;obtain⟨u,xs,bi,ca,rfl⟩:=bc.kB;have:=ca.nW;subst this;have ez:ka (dq F) args.toList=some [u]:=aI;simp only[cK,aq,ez];split at h
   ·rename_i a b z e vm oK;unfold Mb at h;obtain⟨n,aD,h⟩:=ct h;have dR:some (ap.i .i64 (.ofNat n))=some v:=h;cases dR;obtain⟨bL,c,rfl⟩:=alR aD bi;simp only[oK];exact k _ (.val (by simp only[aU];rfl))
   ·rename_i a b z l oK;cases h;rw[bi.str];simp only[oK];refine k _ (.val ?_);simp only[aU];simp[ByteArray.size]
   ·rename_i a b z n e vm oK;cases h;cases u<;>(simp only[oK];exact k _ (.val (by simp only[aU];rfl)))
   ·cases h
  ·cases h
 ·unfold ZK at h;split at h
  ·rename_i eT a c4 b ax;obtain⟨us,aI,bc⟩:=H.mQ (λ_ h=>h) ax;obtain⟨u,xs,bi,ca,rfl⟩:=bc.kB;obtain⟨w,ys,gf,n6,rfl⟩:=ca.kB;have:=n6.nW;subst this;have ez:ka (dq F) args.toList=some [u,w]:=aI;rw[bi.int,gf.int]at ez;simp only[cK,ez];cases h;refine k _ (.val ?_);simp only[aU];rw[kA,Mn];by_cases j0:a<=b
   ·simp[j0];omega
   ·simp[j0];omega
  ·cases h
 ·unfold ZL at h;split at h
  ·rename_i eT a c4 b ax;obtain⟨us,aI,bc⟩:=H.mQ (λ_ h=>h) ax;obtain⟨u,xs,bi,ca,rfl⟩:=bc.kB;obtain⟨w,ys,gf,n6,rfl⟩:=ca.kB;have:=n6.nW;subst this;have ez:ka (dq F) args.toList=some [u,w]:=aI;rw[bi.int,gf.int]at ez;simp only[cK,ez];cases h;refine k _ (.val ?_);simp only[aU];rw[kA,Mn];by_cases j0:a<=b
   ·simp[j0];omega
   ·simp[j0];omega
  ·cases h
 ·unfold ZM at h;split at h
  ·rename_i t id off n c aq ax;split at h
   ·rename_i a b z e oK;cases h;obtain⟨us,aI,bc⟩:=H.mQ (λ_ h=>h) ax;obtain⟨u,xs,bi,ca,rfl⟩:=bc.kB;have:=ca.nW;subst this;obtain⟨bL,a7,rfl⟩:=bi.sW;have ez:ka (dq F) args.toList=some [_]:=aI;simp only[cK,aq,ez,oK];exact k _ (.val (by simp only[aU];rfl))
   ·cases h
  ·cases h
 ·unfold ZN at h;split at h
  ·rename_i ax;cases h;obtain⟨us,aI,bc⟩:=H.mQ (λ_ h=>h) ax;obtain⟨u,xs,bi,ca,rfl⟩:=bc.kB;have:=ca.nW;subst this;rw[bi.CW]at aI;have ez:ka (dq F) args.toList=some [_]:=aI;simp only[cK,ez];exact k _ (.val (by simp only[aU]))
  ·rename_i id off n c ax;obtain⟨ay,h⟩:=Ay h;cases h;obtain⟨us,aI,bc⟩:=H.mQ (λ_ h=>h) ax;obtain⟨u,xs,bi,ca,rfl⟩:=bc.kB;have:=ca.nW;subst this;obtain⟨bL,a7,rfl⟩:=bi.sW;have ez:ka (dq F) args.toList=some [_]:=aI;simp only[cK,ez];refine⟨λe=>?_,k _ (.val ?_)⟩
   ·have:c=0:=by omega
    subst this;cases ay
   ·simp only[aU];exact⟨bL,a7,rfl⟩
  ·rename_i id off e n ax;obtain⟨ay,h⟩:=Ay h;cases h;obtain⟨us,aI,bc⟩:=H.mQ (λ_ h=>h) ax;obtain⟨u,xs,bi,ca,rfl⟩:=bc.kB;have:=ca.nW;subst this;obtain⟨bL,a7,bf,rfl⟩:=bi.vk;have ez:ka (dq F) args.toList=some [_]:=aI;simp only[cK,ez];refine⟨λcZ=>?_,k _ (.val ?_)⟩
   ·have:n=0:=by omega
    subst this;cases ay
   ·simp only[aU];exact⟨bL,a7,rfl⟩
  ·cases h
 ·cases h
def alT(aN:cW X.P X.E){op:Op}{v:ap}(h:Rr X.P X.E G m.t op an=some v)(H:jx D F an op.operands.toList)(hm:dh (dZ X G pr) D m I M)(k:∀ x,gx D x v->V x):cK X op (dq F) C I M V O:=by
 unfold Rr at h;split at h
 ·
  exact k _ (H _ (by simp[Op.operands]) _ h)
 ·exact k _ (H _ (by simp[Op.operands]) _ h)
 ·
  rename_i c a b;unfold Zw at h;split at h
  ·rename_i q u w aa ad ak;cases h;have ao:=H c (by simp[Op.operands]) _ aa;have a7:=H a (by simp[Op.operands]) _ ad;have ag:=H b (by simp[Op.operands]) _ ak;simp only[cK];rcases ao with⟨avQ,MB,ao⟩ | ⟨gb,cZ,MB⟩
   ·rw[ao.bool]at MB;simp only[MB];obtain⟨R1,QQ,alU⟩:=a7.dE;obtain⟨R2,L0,c5⟩:=ag.dE;have alV:dE (dq F) a=.val R1:=QQ;have alW:dE (dq F) b=.val R2:=L0;rw[alV,alW];refine k _ (.inl ⟨bif q then R1 else R2,?_,?_⟩)
    ·exact alQ q R1 R2
    ·cases q
     ·exact c5
     ·exact alU
   ·cases cZ;simp only[MB];cases q
    ·exact k _ ag
    ·exact k _ a7
  ·cases h
 ·
  rename_i avR t x;unfold Zx at h;split at h
  ·rename_i b aa;cases h;have ab:=H x (by simp[Op.operands]) _ aa;simp only[cK];rcases ab with⟨u,e,hu⟩ | ⟨q,aI,e⟩
   ·rw[hu.bool]at e;simp only[e];exact k _ (.val (by simp only[aU];rw[RY]))
   ·cases aI;simp only[e];exact k _ (.inr ⟨!b,by rw[RY],rfl⟩)
  ·rename_i gk n aa;cases h;have ab:=H x (by simp[Op.operands]) _ aa;obtain⟨u,e,hu⟩:=ab.wZ (by simp);rw[hu.int]at e;simp only[cK,e];exact⟨_,rfl,k _ (.val (by simp only[aU];rw[Az]))⟩
  ·cases h
 ·
  rename_i avS t x y bn;unfold Zy at h;obtain⟨a,aa,h⟩:=ct h;obtain⟨b,ad,h⟩:=ct h;obtain⟨u,aI,bc⟩:=H.bH (x:=x) (by simp[Op.operands]) aa;obtain⟨w,a6,bi⟩:=H.bH (x:=y) (by simp[Op.operands]) ad;have ez:dE (dq F) x=.val u:=aI;have ra:dE (dq F) y=.val w:=a6;simp only[cK,ez,ra];exact alK aN h bc bi λr af=>k _ (.val af)
 ·
  rename_i t x;unfold Zz at h;obtain⟨i,hi,h⟩:=ct h;obtain⟨a,aa,h⟩:=ct h;have ab:=H x (by simp[Op.operands]) _ aa;have yJ:∀ q,a≠.b q:=λq e=>by subst e;cases h
  obtain⟨u,aI,bc⟩:=ab.wZ yJ;obtain⟨aM,l,vs,rfl,bp,ax,aJ⟩:=w0 hm bc h;simp only[cK,hi,aI];exact⟨vs,bp,k _ (.val (Mu aJ ax))⟩
 ·
  rename_i x;unfold ZA at h;split at h;·rename_i id off aa;cases h;obtain⟨u,aI,bc⟩:=(H x (by simp[Op.operands]) _ aa).wZ (by simp);obtain⟨a,a7,rfl⟩:=bc.ptr;simp only[cK,aI];exact k _ (.val bc)
  ·rename_i id off aa;cases h;obtain⟨u,aI,bc⟩:=(H x (by simp[Op.operands]) _ aa).wZ (by simp);have:=bc.qO;subst this;simp only[cK,aI];exact k _ (.val bc)
  ·cases h
 ·
  rename_i t x i;unfold ZB at h;obtain⟨r,af,h⟩:=ct h;obtain⟨a,aa,h⟩:=ct h;obtain⟨off,hv⟩:=r;obtain⟨bb,h⟩:=Ay h;obtain⟨sa,sX,sz,cV,fx,aq,aB,tN⟩:=aaz af;have ab:=H x (by simp[Op.operands]) _ aa;have yJ:∀ q,a≠.b q:=λq e=>by subst e;cases h
  obtain⟨u,aI,bc⟩:=ab.wZ yJ;obtain⟨aM,rfl,av,aj⟩:=aax h bc;have gK:Nat.beq hv.size 0=false:=bb;simp only[cK,aq,aB,tN,aI,gK,cE];exact k _ (.val aj)
 ·
  rename_i t x i;unfold ZC at h;split at h;·rename_i off hv cs ay aa;obtain⟨sa,sX,sz,cV,fx,aq,aB,tN⟩:=aaz ay;obtain⟨u,aI,bc⟩:=H.bH (x:=x) (by simp[Op.operands]) aa;obtain⟨us,fN,rfl⟩:=bc.agg;obtain⟨ad,ak⟩:=aay h fN;have ez:dE (dq F) x=.val (.agg us.toArray):=aI;simp only[cK,aq,ez,aB,tN];rw[show Nat.ble (off+hv.size) us.toArray.size=true from EY (by simpa using ad)];exact k _ (.val ak)
  ·cases h
 ·
  rename_i t x i;unfold ZD at h;obtain⟨r,af,h⟩:=ct h;obtain⟨a,aa,h⟩:=ct h;obtain⟨b,ad,h⟩:=ct h;obtain⟨j,ai,h⟩:=ct h;obtain⟨gk,rfl⟩:=Fp ai;obtain⟨u,a6,bi⟩:=H.bH (x:=i) (by simp[Op.operands]) ad;rw[bi.int]at a6;have ra:dE (dq F) i=.val (.int gk (.ofNat j)):=a6;obtain⟨IH,aF⟩:=r;rcases alN af with⟨sa,sX,sz,e,aq,he,rfl⟩ | ⟨sa,sX,sz,n,e,aq,he,rfl⟩;·have bq:L9 a j aF.size=some v:=h;obtain⟨w,aI,bc⟩:=H.bH (x:=x) (by simp[Op.operands]) aa;obtain⟨aM,n,c,rfl,aZ,aj⟩:=alM bq bc;have ez:dE (dq F) x=.val (.slice (some aM) n c):=aI;simp only[cK,aq,ra,he,ez];exact⟨aM,j,rfl,rfl,aZ,k _ (.val aj)⟩
  ·have bq:b2 (Nat.blt j n) (Il a (Nat.mul j aF.size)) none=some v:=h;obtain⟨ag,bq⟩:=fY bq;have ab:=H x (by simp[Op.operands]) _ aa;have yJ:∀ q,a≠.b q:=λq e=>by subst e;cases bq
   obtain⟨w,aI,bc⟩:=ab.wZ yJ;obtain⟨aM,rfl,av,aj⟩:=aax bq bc;simp only[cK,aq,ra,he,aI];exact⟨j,rfl,bK ag,k _ (.val aj)⟩
 ·
  rename_i t x i;cases aa:dw an x with
  |none=>rw[aa]at h;unfold Im at h;split at h<;>first | cases h | (rename_i e _;cases e)
  |some a=>
   cases ad:dw an i with
   |none=>rw[ad]at h;unfold Im at h;split at h<;>first | cases h | (rename_i e;cases e)
   |some b=>rw[aa,ad]at h;obtain⟨u,aI,bc⟩:=H.bH (x:=x) (by simp[Op.operands]) aa;obtain⟨w,a6,bi⟩:=H.bH (x:=i) (by simp[Op.operands]) ad;exact alO h bc bi aI a6 k
 ·
  rename_i t parts;unfold ZF at h;split at h
  ·rename_i i vs aq aJ;obtain⟨z,bb,h⟩:=ct h;have gK:=bO.Fi (D:=D) bb;obtain⟨us,aI,bc⟩:=H.parts (l:=parts.toList) (by intro y aC;simpa[Op.operands]using aC) aJ;have ez:th (dq F) parts.toList=some us:=aI
   try simp only at h
   split at h;·rename_i cV n3;obtain⟨rI,h⟩:=fY h;unfold Io at h;obtain⟨cs,ak,aK⟩:=ct h;have dR:some (ap.a cs)=some v:=aK;cases dR;obtain⟨a',bz,cu⟩:=Mv ak gK bc;simp only[cK,aq,ez,n3,rI,cF,bz];exact k _ (.val (.Ms cu))
   ·rename_i n e n3;obtain⟨aF,he,h⟩:=ct h;have bq:Io (Av (λj=>some (j*aF.size,aF.size)) z vs)=some v:=h;unfold Io at bq;obtain⟨cs,ak,aK⟩:=ct bq;have dR:some (ap.a cs)=some v:=aK;cases dR;obtain⟨a',bz,cu⟩:=Mv ak gK bc;simp only[cK,aq,ez,n3,he,bz];exact k _ (.val (.Ms cu))
   ·cases h
  ·cases h
 ·
  rename_i f first captured
  unfold ZG at h;split at h
  ·rename_i g cV cs aa ad;cases h;obtain⟨us,aI,bc⟩:=H.mQ (l:=first.toList) (by intro y aC;simp[Op.operands];exact .inl (by simpa using aC)) aa;obtain⟨ws,a6,bi⟩:=H.mQ (l:=captured.toList) (by intro y aC;simp[Op.operands];exact .inr (by simpa using aC)) ad;have ez:ka (dq F) first.toList=some us:=aI
   have ra:ka (dq F) captured.toList=some ws:=a6;simp only[cK,ez,ra];exact k _ (.val (by simp only[aU];exact⟨us,ws,bc,bi,rfl⟩))
  ·cases h
 ·
  rename_i t x lo hi;cases aa:dw an x with
  |none=>rw[aa]at h;unfold Ip at h;split at h<;>first | cases h | (rename_i e _ _;cases e)
  |some a=>
   rw[aa]at h;cases ad:CP (lo.map (dw an))with
   |none=>rw[ad]at h;unfold Ip at h;split at h<;>first | cases h | (rename_i e _;cases e)
   |some l=>
    rw[ad]at h;cases ak:CP (hi.map (dw an))with
    |none=>rw[ak]at h;unfold Ip at h;split at h<;>first | cases h | (rename_i e;cases e)
    |some cG=>
     rw[ak]at h;obtain⟨u,aI,bc⟩:=H.bH (x:=x) (by simp[Op.operands]) aa;have ez:dE (dq F) x=.val u:=aI;have e6:=aaA H (λy aC=>by subst aC;simp[Op.operands]) ad;have gB:=aaA H (λy aC=>by subst aC;simp[Op.operands]) ak;unfold Ip at h;split at h
     ·rename_i sa sX sz e lj R3 cC aq cq dS l5;cases cq;cases dS;cases l5;obtain⟨aF,he,h⟩:=ct h;have bq:Ro aF a l cG=some v:=h;unfold Ro at bq;split at bq
      ·have el:lo.map (dE (dq F))=none:=by
        rcases e6 with⟨el,_⟩ | ⟨_,_,_,el⟩;·exact el
        ·cases el
       have pd:hi.map (dE (dq F))=none:=by
        rcases gB with⟨pd,_⟩ | ⟨_,_,_,pd⟩;·exact pd
        ·cases pd
       have gG:∃ q n c,u=.slice q n c/\aU D v u:=by
        split at bq;·cases bq;exact⟨_,_,_,bc.CW,bc⟩
        ·cases bq;obtain⟨q,_,rfl⟩:=bc.sW;exact⟨_,_,_,rfl,bc⟩
        ·cases bq;obtain⟨q,_,_,rfl⟩:=bc.vk;exact⟨_,_,_,rfl,bc⟩
        ·cases bq;obtain⟨q,c,rfl⟩:=bc.Mq;exact⟨_,_,_,rfl,bc⟩
        ·cases bq
       obtain⟨q,n,c,rfl,aj⟩:=gG;simp only[cK,aq,ez,he,el,pd,uA];exact k _ (.val aj)
      ·obtain⟨q,n,c,rfl,fF,fz,l6,aj⟩:=alP bq bc;simp only[cK,aq,ez,he,uA];rcases e6 with⟨el,rfl⟩ | ⟨fy,II,el,rfl⟩<;>rcases gB with⟨pd,rfl⟩ | ⟨alX,IJ,pd,rfl⟩<;>simp only[el,pd]
       ·rename_i bt;exact(bt rfl rfl).elim
       ·simp only[uz,kL]at fF fz aj;refine⟨0,IJ,rfl,rfl,dp _,fz,k _ (.val ?_)⟩;simp only[zC,Ab]at aj;have dy:(if c=0 then q else q.map λx=>x.add 0)=q:=by
         split;·rfl
         ·cases q with
          |none=>rfl| some q=>simp[Addr.add]
        rw[dy]at aj;exact aj
       ·simp only[uz,kL]at fF fz aj;exact⟨II,n,rfl,rfl,fF,b' _,k _ (.val aj)⟩
       ·simp only[uz,kL]at fF fz aj;exact⟨II,IJ,rfl,rfl,fF,fz,k _ (.val aj)⟩
     ·rename_i sa sX sz str R3 cC aq cq dS l5;cases cq;cases dS;cases l5;rw[bc.str]at ez;have bq:Rp str l cG=some v:=h;unfold Rp at bq;split at bq
      ·have el:lo.map (dE (dq F))=none:=by
        rcases e6 with⟨el,_⟩ | ⟨_,_,_,el⟩;·exact el
        ·cases el
       have pd:hi.map (dE (dq F))=none:=by
        rcases gB with⟨pd,_⟩ | ⟨_,_,_,pd⟩;·exact pd
        ·cases pd
       cases bq;simp only[cK,aq,ez,el,pd];exact k _ (.val (by simp only[aU]))
      ·obtain⟨ag,bq⟩:=fY bq;cases bq;rw[cB]at ag;have b1:=bK ag.1;have b8:=bK ag.2;have dn:(⟨str.toArray⟩:ByteArray).size=str.length:=by simp[ByteArray.size]
       simp only[cK,aq,ez];rcases e6 with⟨el,rfl⟩ | ⟨fy,II,el,rfl⟩<;>rcases gB with⟨pd,rfl⟩ | ⟨alX,IJ,pd,rfl⟩<;>simp only[el,pd]
       ·rename_i bt;exact(bt rfl rfl).elim
       ·simp only[uz,kL]at b1 b8;exact⟨0,IJ,rfl,rfl,dp _,by rw[dn];exact b8,k _ (.val (by simp only[aU,uz,kL,R0]))⟩
       ·simp only[uz,kL]at b1 b8;exact⟨II,str.length,rfl,by rw[dn];rfl,b1,by rw[dn];exact b' _,k _ (.val (by simp only[aU,uz,kL,R0,dn]))⟩
       ·simp only[uz,kL]at b1 b8;exact⟨II,IJ,rfl,rfl,b1,by rw[dn];exact b8,k _ (.val (by simp only[aU,uz,kL,R0]))⟩
     ·cases h
 ·
  rename_i x i;unfold ZH at h;split at h;·rename_i vs aa;obtain⟨u,aI,bc⟩:=H.bH (x:=x) (by simp[Op.operands]) aa;obtain⟨us,fN,rfl⟩:=bc.RS;rw[AB]at h;obtain⟨w,hw,aj⟩:=fN.get h;have ez:dE (dq F) x=.val (.tuple us.toArray):=aI;simp only[cK,ez,hw];exact k _ (.val aj)
  ·cases h
 ·
  rename_i s d x;unfold ZI at h;split at h;·rename_i gk eT n av ah aa;cases h;obtain⟨u,aI,bc⟩:=H.bH (x:=x) (by simp[Op.operands]) aa;rw[bc.int]at aI;have ez:dE (dq F) x=.val (.int eT n):=aI;simp only[cK,av,ah,ez];exact⟨_,rfl,k _ (.val (by simp only[aU];rw[Az]))⟩
  ·cases h
 ·
  rename_i b args dC;exact alS aN h (by simpa[Op.operands,Call.operands]using H) k
 ·cases h
end
def bR.set(D:bR)(id:Nat)(a:Loc):bR:=λi=>if i=id then some a else D i
def bR.p3(D:bR)(id:Nat)(a:Loc):(D.set id a) id=some a:=by simp[bR.set]
def bR.le_refl(D:bR):D.le D:=λ_ _ h=>h
def bR.le_trans{D bG IK:bR}(h:D.le bG)(k:bG.le IK):D.le IK:=λi a e=>k _ _ (h _ _ e)
def bR.AF{D:bR}{id:Nat}(a:Loc)(h:D id=none):D.le (D.set id a):=λi b ag=>by
 unfold bR.set;split
 ·rename_i e;subst e;rw[h]at ag;cases ag
 ·exact ag
def bR.ext(D bG:bR)(n:Nat):Prop:=∀ i,i<n->bG i=D i
def bR.pe{D:bR}{n:Nat}:D.ext D n:=λ_ _=>rfl
def bR.Fq{D:bR}{n:Nat}{a:Loc}:D.ext (D.set n a) n:=λi hi=>by unfold bR.set;rw[bN (by omega)]
section
variable{Y:gS}{D bG:bR}{m:bw}{I I':aH}{M M':List aE}{R:Type}
def IC.mono{G:GT}(h:IC G I)(bA:∀ b o,I b=some o->I' b=some o):IC G I':=λg cs aw=>by obtain⟨arr,T,f,aa,ad⟩:=h g cs aw;exact⟨arr,T,f,bA _ _ aa,ad⟩
def dh.le(h:dh Y D m I M)(dx:D.ext bG m.n):D.le bG:=λi a a7=>by rw[dx i (h.j4 _ _ a7)];exact a7
def dh.step(h:dh Y D m I M){bn:bh fw}{gw:Nat}{dy:fw}{a:Loc}(aq:∀ id e,bn.get id=some e->(id=j/\dy=e)\/(id≠j/\m.t.get id=some e))(ai:bG j=some a)(bf:D.le bG)(dx:∀ i,i≠j->bG i=D i)(alY:∀ id a,bG id=some a->id<gw)(bA:∀ b o,I b=some o->I' b=some o)(rp:∀ id e bL,id≠j->m.t.get id=some e->D id=some bL->∀ x∈M,x.num=bL.b->x∈M')
  (he:lG bG Y.E M' a dy) (Cr:∀ id e bL,id≠j->m.t.get id=some e->D id=some bL->bL.b≠a.b):dh Y bG ⟨bn,gw⟩ I' M' where
 ja id e cQ aw aa:=by
  rcases aq id e aw with⟨aI,a6⟩ | ⟨bt,aw⟩;·subst aI;subst a6;rw[ai]at aa;cases aa;exact he
  ·rw[dx id bt]at aa;exact(h.ja id e cQ aw aa).mono bf λx ab aD=>rp id e cQ bt aw aa x ab aD
 inj id jb e cZ cQ ef aw jU aa ad ag:=by
  rcases aq id e aw with⟨aI,a6⟩ | ⟨bt,aw⟩
  ·rcases aq jb cZ jU with⟨cq,dS⟩ | ⟨BH,jU⟩
   ·rw[aI,cq]
   ·rw[dx jb BH]at ad;subst aI;rw[ai]at aa;cases aa;exact(Cr jb cZ ef BH jU ad ag.symm).elim
  ·rw[dx id bt]at aa;rcases aq jb cZ jU with⟨cq,dS⟩ | ⟨BH,jU⟩
   ·subst cq;rw[ai]at ad;cases ad;exact(Cr id e cQ bt aw aa ag).elim
   ·rw[dx jb BH]at ad;exact h.inj id jb e cZ cQ ef aw jU aa ad ag
 j4:=alY
 qO:=h.qO.mono bA
def dh.fresh(h:dh Y D m I M):D m.n=none:=by
 cases dx:D m.n with
 |none=>rfl| some a=>exact absurd (h.j4 _ _ dx) (Nat.lt_irrefl _)
def dh.ar(h:dh Y D m I M){id:Nat}{e:fw}{a:Loc}(aw:m.t.get id=some e)(a7:D id=some a):∃ x∈M,x.num=a.b:=by
 cases h.ja id e a aw a7 with
 |cells arr ay aa=>exact⟨_,aa,rfl⟩| map l c aa=>exact⟨_,aa,rfl⟩| loop L aa=>exact⟨_,aa,rfl⟩| done L aa=>exact⟨_,aa,rfl⟩
def dh.new(h:dh Y D m I M){bn:bh fw}{dy:fw}{a:Loc}{o:Obj}(aq:∀ id e,bn.get id=some e->(id=m.n/\some dy=some e)\/(id≠m.n/\m.t.get id=some e))(aB:∀ x∈M,x.num≠a.b)
  (he:lG (D.set m.n a) Y.E (⟨a.b,o⟩::M) a dy):dh Y (D.set m.n a) ⟨bn,m.n+1⟩ I (⟨a.b,o⟩::M):=
 h.step (λid e aw=>(aq id e aw).imp (λh=>⟨h.1,pb h.2⟩) λh=>h) (D.p3 _ _) (bR.AF a h.fresh) (λi hi=>by unfold bR.set;rw[bN hi])
  (λid b ag=>by
   unfold bR.set at ag;split at ag;·omega
   ·have:=h.j4 _ _ ag;omega)
  (λ_ _ h=>h) (λ_ _ _ _ _ _ x ab _=>nU _ ab) he
  (λid e bL _ aw sS ag=>by
   obtain⟨x,ab,aD⟩:=h.ar aw sS;exact aB x ab (aD.trans ag))
def lG.new{l:List ap}{c:Nat}{b:Nat}{cs:bh ap}(kr:∀ j x,cs.get j=some x->(0<=j/\l[j-0]?=some x)\/((j<0\/0+l.length<=j)/\(bh.nil:bh ap).get j=some x))(ax:bO D l vs)
  (ae:∀ i,Y.E T=some i->(vs++aS).length=c*i.size) (ao:c<=maxLen):lG D Y.E (⟨b,.cells (vs++aS).toArray T (0,0)⟩::M) ⟨b,0,c⟩ (.cells cs T l.length):=by
 refine .cells (vs++aS).toArray rfl (by simp) (by simp[ax.len]) (λi v hi aw=>?_) (λi hi=>by simpa using ae i hi) ao;rcases kr i v aw with⟨_,aa⟩ | ⟨_,aa⟩
 ·obtain⟨x,ad,ak⟩:=ax.get (i:=i) (by simpa using aa);have aZ:=(hG.1 ad).1;exact⟨x,by simp only[du,BW];rw[ri aZ];exact ad,ak⟩
 ·cases aa
def IL{e:fw}{K:Nat->bw->Option R}{r:R}(h:CQ m e K=some r):∃ bn,(∀ id cZ,bn.get id=some cZ->(id=m.n/\some e=some cZ)\/(id≠m.n/\m.t.get id=some cZ))/\K m.n ⟨bn,m.n+1⟩=some r:=by unfold CQ at h;rw[RP]at h;obtain⟨bn,aa,ad⟩:=bh.o7 (some e) m.t m.n;rw[aa]at h;exact⟨bn,ad,h⟩
def R4{l:List ap}{K:Nat->bw->Option R}{r:R}(h:vi m l T K=some r):∃ m',K m.n m'=some r/\m'.n=m.n+1 /\
  ∀ {D:bR} {I:aH} {M:List aE} {vs:List Value} (aS:List Value) {b c:Nat},dh Y D m I M->(∀ x∈M,x.num≠b)->bO D l vs->(∀ i,Y.E T=some i->(vs++aS).length=c*i.size)->c<=maxLen ->
   dh Y (D.set m.n ⟨b,0,c⟩) m' I (⟨b,.cells (vs++aS).toArray T (0,0)⟩::M):=by
 unfold vi at h;obtain⟨cs,aa,ad⟩:=bh.yI l (.nil:bh ap) 0;rw[aa]at h;obtain⟨bn,ak,aK⟩:=IL h;refine⟨_,aK,rfl,fun {D I M vs} aS {b c} hm aB ax ae ao=>?_⟩;exact hm.new (a:=⟨b,0,c⟩) ak aB (.new ad (ax.mono (bR.AF _ hm.fresh)) ae ao)
end
def alZ(z:List Value)(n:Nat):rowOf z (z.length+n)=rowOf z z.length++rowOf z n:=by unfold rowOf;rw[List.range_add,cM,gu];congr 1;apply fV;intro i _;simp[Nat.add_mod_left]
def al0(z:List Value):rowOf z z.length=z:=by
 unfold rowOf;apply oH
 ·simp
 ·intro i aa ad;simp only[fW,wE,EC ad];simp[ad]
def R5(z:List Value):∀ n,rowOf z (n*z.length)=(List.replicate n z).flatten
 |0=>by simp[rowOf]
 |n+1=>by rw[Ky,GA,alZ,al0,R5 z n,Qd,Qg]
def aaB(place:Nat->Option (Nat×Nat)):∀ (vs:List (Nat×Value)) (cs r:List Value),tg place cs vs=some r->r.length=cs.length
 |[],cs,r,h=>by simp only[tg]at h;cases h;rfl
 |(i,v)::vs,cs,r,h=>by
  simp only[tg]at h;split at h;·cases h
  ·rename_i off size aJ;cases ag:(Nat.beq v.cells.size size&&Nat.ble (off+size) cs.length)with
   |false=>rw[ag]at h;cases h| true=>rw[ag]at h;simp only[cF]at h;rw[aaB place vs _ _ h];rw[cB]at ag;have aa:=ed ag.1;have ad:=bK ag.2;simp[cj];omega
def AG(dst:Option Nat)(u:Value)(F dc:Fr):Prop:=(∀ d,dst=some d->dc d=.val u)/\∀ (D:bR) t v,dst≠some t->gx D (F t) v->gx D (dc t) v
def AG.put(dst:Option Nat)(u:Value)(F:Fr):AG dst u F (put dst (.val u) F):=by
 constructor
 ·rintro d rfl;simp[Go.V.put,gY]
 ·intro D t v bt h;cases dst with
  |none=>exact h| some d=>have:t≠d:=λe=>bt (by rw[e]);simp only[Go.V.put,gY,hI this,cE];exact h
def AG.qi(d:Nat)(u:Value)(F:Fr):AG (some d) u F (gY (qi F d) d (.val u)):=by
 constructor
 ·rintro _⟨⟩;simp[gY]
 ·intro D t v bt h;have:t≠d:=λe=>bt (by rw[e]);simp only[gY,hI this,cE];unfold Go.V.qi;rcases h with⟨al1,e,h⟩ | ⟨q,e,h⟩
  ·rw[e];exact .inl ⟨al1,rfl,h⟩
  ·rw[h];exact .inr ⟨q,e,rfl⟩
section
variable{X:c3}{G:GT}{pr:mb}{D:bR}{m:bw}{F:Fr}{an:bh ap}{C:dN}{I:aH}{M:List aE}{K:gl}{o:Oper}
def aaC(aN:cW X.P X.E)(kp:∀ d,d<X.n->X.gC.contains d=true)(ah:∀ d,o.dst=some d->d<X.n){l:List ap}{c:Nat}{mk:Nat->ap}(h:CS X.E o an=some (l,T,c,mk))(IM:o.dst.isSome=true)(H:jx D F an o.op.operands.toList)
  (k:∀ b vs u dc C',I b=none->(∀ x∈M,x.num≠b)->bO D l vs->(∀ i,X.E T=some i->vs.length=c*i.size)->c<=maxLen->(∀ (bG:bR) id,bG id=some ⟨b,0,c⟩->aU bG (mk id) u)->AG o.dst u F dc ->
   K dc C' I (⟨b,.cells vs.toArray T (0,0)⟩::M)):gZ X o F C I M K:=by
 obtain⟨dst,op,ty,pos,after,guard⟩:=o;cases dst with
 |none=>cases IM
 |some d=>
  have rs:X.gC.contains d=true:=kp d (ah d rfl);have aaD:∀ (b c:Nat) (bG:bR) id,bG id=some ⟨b,0,c⟩->aU bG (.p id 0) (.pointer (some ⟨b,0,none⟩)):=λb c bG id kj=>by simp only[aU];exact⟨_,kj,rfl⟩
  unfold CS at h;simp only at h H;split at h
  ·rename_i t x;unfold ZQ at h;obtain⟨i,hi,h⟩:=ct h;obtain⟨v,aj,h⟩:=ct h;obtain⟨ag,h⟩:=fY h;cases h;obtain⟨u,aI,bc⟩:=H.bH (x:=x) (by simp[Op.operands]) aj;have ao:=bc.cells;simp only[gZ,aI,rs,cF];refine⟨λb aa ad=>?_⟩;have:=k b u.cells.toList (.pointer (some ⟨b,0,none⟩)) _ (jB C d none) aa ad ao (λgU cC=>?_) (by decide) (aaD b 1) (.qi d _ F)
   ·simpa using this
   ·rw[hi]at cC;cases cC;rw[ao.len,oI];exact ed ag
  ·rename_i t;unfold ZR at h;obtain⟨i,hi,h⟩:=ct h;obtain⟨z,bb,h⟩:=ct h;cases h;simp only[gZ,hi,rs,cF];refine⟨λb aa ad=>?_⟩;exact k b i.zero (.pointer (some ⟨b,0,none⟩)) _ (jB C d none) aa ad (.Fi bb) (λgU cC=>by rw[hi]at cC;cases cC;rw[(aN _ _ hi).len,oI]) (by decide) (aaD b 1) (.qi d _ F)
  ·rename_i t len parts;unfold ZS at h;split at h
   ·rename_i sa sX sz e vs aq aJ;obtain⟨aF,he,h⟩:=ct h;obtain⟨z,bb,h⟩:=ct h;obtain⟨us,aI,bc⟩:=H.parts (l:=parts.toList) (by intro y aC;simpa[Op.operands]using aC) aJ;simp only[gZ,aq,aI,he];have x8:=(aN _ _ he).len;cases ag:(Nat.ble (len*aF.size) 16777216&&Nat.blt 0 (len*aF.size))with
    |true=>
     have hd:(Nat.ble (Nat.mul len aF.size) 16777216&&Nat.blt 0 (Nat.mul len aF.size))=true:=ag;rw[kA,hd]at h;simp only[cF]at h |-;obtain⟨cs,ak,aK⟩:=ct h;have dR:some (cs,e,len,λid=>ap.sl id 0 len len)=some (l,T,c,mk):=aK;cases dR;have R6:bO D (CR c z) (rowOf aF.zero (c*aF.size)):=by rw[<-x8,R5];exact(bO.Fi bb).HC c
     obtain⟨a',bz,cu⟩:=Mv ak R6 bc;rw[bz];refine⟨λb aa ad=>?_⟩;have cS:a'.length=c*aF.size:=by rw[aaB _ _ _ _ bz];simp[rowOf]
     rw[cB]at ag;have jF:=bK ag.1;have iQ:0<c*aF.size:=bK ag.2;exact k b a' (.slice (some ⟨b,0,none⟩) c c) _ C aa ad cu (λgU cC=>by rw[he]at cC;cases cC;exact cS)
      (by
       have ep:0<aF.size:=Nat.pos_of_mul_pos_left iQ;have:c<=c*aF.size:=Nat.le_mul_of_pos_right _ ep;simp only[maxLen];omega)
      (λbG id kj=>by simp only[aU];exact⟨_,kj,rfl⟩) (.put _ _ F)
    |false=>
     have hd:(Nat.ble (Nat.mul len aF.size) 16777216&&Nat.blt 0 (Nat.mul len aF.size))=false:=ag;rw[kA,hd]at h;simp only[cE]at h |-;obtain⟨ao,h⟩:=fY h;cases h;rw[cB]at ao;have ak:=ed ao.1;subst ak;have aK:vs=[]:=by simpa using ao.2
     subst aK;cases bc;simp only;refine⟨λb aa ad=>?_⟩;exact k b [] (.slice (some ⟨b,0,none⟩) 0 0) _ C aa ad .nil (λgU cC=>by simp) (by decide) (λbG id kj=>by simp only[aU];exact⟨_,kj,rfl⟩) (.put _ _ F)
   ·cases h
  ·rename_i t eu c';unfold ZT at h;split at h
   ·rename_i sa sX sz e hf avT aq aa ad;obtain⟨aF,he,h⟩:=ct h;obtain⟨n,aD,h⟩:=ct h;obtain⟨q,aL,h⟩:=ct h;obtain⟨z,bb,h⟩:=ct h;obtain⟨ag,h⟩:=fY h;cases h;obtain⟨eT,rfl⟩:=Fp aD;obtain⟨c4,rfl⟩:=Fp aL;obtain⟨nf,aI,bc⟩:=H.bH (x:=eu) (by simp[Op.operands]) aa;obtain⟨kC,a6,bi⟩:=H.bH (x:=c') (by simp[Op.operands]) ad;rw[bc.int]at aI;rw[bi.int]at a6;simp only[cB]at ag;simp only[gZ,aq,aI,a6,he];refine⟨n,c,rfl,rfl,bK ag.1,bK ag.2.1,bK ag.2.2,⟨λb ak aK=>?_⟩⟩;have x8:=(aN _ _ he).len;have R6:bO D (CR c z) (rowOf aF.zero (c*aF.size)):=by rw[<-x8,R5];exact(bO.Fi bb).HC c
    exact k b _ (.slice (some ⟨b,0,none⟩) n c) _ C ak aK R6 (λgU cC=>by rw[he]at cC;cases cC;simp[rowOf]) (bK ag.2.2) (λbG id kj=>by simp only[aU];exact⟨_,kj,rfl⟩) (.put _ _ F)
   ·cases h
  ·cases h
end
def aaE{i:Nat}(h:off+vs.length<=cs.length):(cj cs off vs)[i]?=if off<=i/\i<off+vs.length then vs[i-off]? else cs[i]?:=by
 unfold cj;by_cases aa:i<off
 ·rw[bN (by omega),ri (by simp;omega),ri (by simp;omega),lb,bT aa]
 ·by_cases ad:i<off+vs.length
  ·rw[bT ⟨by omega,ad⟩,ri (by simp;omega),l3 (by simp;omega)];simp;congr 1;omega
  ·rw[bN (by omega),l3 (by simp;omega),mO];congr 1;simp;omega
def R7(h:off+vs.length<=cs.length):(cj cs off vs).length=cs.length:=by simp[cj];omega
section
variable{Y:gS}{D:bR}{m:bw}{I:aH}{M:List aE}{R:Type}
def R8{x:ap}{l:List ap}{K:bw->Option R}{r:R}(h:yF m x l K=some r):∃ m',K m'=some r/\m'.n=m.n/\(∀ id,m'.t.get id≠none->m.t.get id≠none\/True) /\
  ∀ {D:bR} {I:aH} {M:List aE} {u:Value} {vs:List Value},dh Y D m I M->aU D x u->bO D l vs ->
   ∃ (g off:Nat) (a9 post:List aE) (arr:Array Value) (T:Nat),u=.pointer (some ⟨g,off,none⟩)/\M=a9++⟨g,.cells arr T (0,0)⟩::post/\off+vs.length<=arr.size/\fK vs=true /\ (∃ id e a,m.t.get id=some e/\D id=some a/\a.b=g) /\
    dh Y D m' I (a9++⟨g,.cells (cj arr.toList off vs).toArray T (0,0)⟩::post):=by
 unfold yF at h;split at h
 ·rename_i id off;split at h
  ·rename_i cs T fQ aw;cases ag:(Nat.ble (Nat.add off l.length) fQ&&l.all ap.one)with
   |false=>rw[ag]at h;cases h
   |true=>
    rw[ag]at h;simp only[cF]at h;rw[cB]at ag;have AH:off+l.length<=fQ:=bK ag.1;obtain⟨cs',aa,ad⟩:=bh.yI l cs off;rw[aa]at h;obtain⟨bn,ak,aK⟩:=bh.o7 (some (fw.cells cs' T fQ)) m.t id;rw[ak]at h;refine⟨_,h,rfl,λ_ _=>.inr trivial,fun {D I M u vs} hm ab ax=>?_⟩;obtain⟨a,a7,rfl⟩:=ab.ptr;have he:=hm.ja _ _ _ aw a7;obtain⟨arr,aA,ba,dn,ao,ae,iC⟩:=he;have cS:=ax.len;obtain⟨a9,post,c9⟩:=vf ba;have iu:off+vs.length<=arr.size:=by omega
    refine⟨a.b,off,a9,post,arr,T,by rw[aA,du],c9,iu,ax.one ag.2,⟨id,_,a,aw,a7,rfl⟩,?_⟩;have e8:∀ x∈M,x.num≠a.b->x∈a9++⟨a.b,.cells (cj arr.toList off vs).toArray T (0,0)⟩::post:=λx ab aD=>by
     rw[c9]at ab;rcases cv.1 ab with ab | ab;·exact cv.2 (.inl ab)
     ·rcases eI.1 ab with rfl | ab
      ·exact(aD rfl).elim
      ·exact cv.2 (.inr (nU _ ab))
    refine hm.step (λi e hi=>(aK i e hi).imp (λq=>⟨q.1,pb q.2⟩) λq=>q) a7 (bR.le_refl D) (λ_ _=>rfl) hm.j4 (λ_ _ h=>h) (λi e bL bt hi qR x ab aD=>e8 x ab ?_) ?_ ?_;·rw[aD];exact λag=>bt (hm.inj _ _ _ _ _ _ hi aw qR a7 ag)
    ·have AI:(cj arr.toList off vs).length=arr.size:=by rw[R7 (by simpa using iu)];simp
     refine .cells (cj arr.toList off vs).toArray aA (by simp) (by simp[AI];exact dn) (λi v hi IN=>?_) (λi hi=>by simp[AI];exact ae i hi) iC;rw[aA,du];simp only[BW];rw[aaE (by simpa using iu)];rcases ad i v IN with⟨bc,bi⟩ | ⟨bc,bi⟩;·have aZ:=(hG.1 bi).1;rw[bT ⟨bc,by omega⟩];exact ax.get bi
     ·rw[bN (by omega)];have:=ao i v hi bi;rw[aA,du]at this;simpa using this
    ·intro i e bL bt hi qR ag;exact bt (hm.inj _ _ _ _ _ _ hi aw qR a7 ag)
  ·cases h
 ·cases h
def aaF:∀ {l:List ap} {a2 cz:List UInt8} {vs:List Value},Ir l a2=some cz->bO D l vs->∃ cs,cz=a2.reverse++cs/\vs=cs.map (λb=>.int .u8 b.toNat)
 |[],a2,cz,vs,h,ax=>by simp only[Ir]at h;cases h;exact⟨[],(dF _).symm,ax.nW⟩
 |v::l,a2,cz,vs,h,ax=>by
  unfold Ir at h;split at h;·rename_i e;cases e
  ·rename_i EN n eu e;cases e;cases ag:Nat.ble n 255 with
   |false=>rw[ag]at h;cases h| true=>rw[ag]at h;simp only[cF]at h;obtain⟨x,xs,aa,ad,rfl⟩:=ax.kB;have aD:=bK ag;obtain⟨cs,rfl,rfl⟩:=aaF h ad;refine⟨UInt8.ofNat n::cs,by simp,?_⟩;rw[aa.int];simp only[b5,zV,and_true,Value.int.injEq,true_and];rw[UInt8.toNat_ofNat_of_lt' (show n<256 by omega)];rfl
  ·cases h
def aaG{l:List ap}{cz:List UInt8}(h:Ry l=some cz)(ax:bO D l vs):vs=cz.map (λb=>.int .u8 b.toNat):=by obtain⟨cs,rfl,rfl⟩:=aaF h ax;rfl
inductive AJ:TypeDesc->ap->Prop
 |int{k n}:AJ (.int k) (.i k n)| str {l}:AJ .string (.s l)
def aaH(aN:cW P E){k:Nat}{y:ap}(h:Me (E k) y=true):∃ d,P.underlying k=some d/\AJ d y:=by
 unfold Me at h;split at h
 ·rename_i gk fL n ae;have:=IntKind.DW h;subst this;obtain⟨d,hu,ah⟩:=(aN _ _ ae).fs;refine⟨d,hu,?_⟩;have:d=.int gk:=by cases d<;>simp_all[fr]
  subst this;exact .int
 ·rename_i l ae;obtain⟨d,hu,ah⟩:=(aN _ _ ae).fs;refine⟨d,hu,?_⟩;have:d=.string:=by cases d<;>simp_all[fr]
  subst this;exact .str
 ·cases h
def AJ.isKey{d:TypeDesc}{y:ap}{u:Value}(h:AJ d y)(aC:aU D y u):MapKept.IsKey d u:=by
 cases h with
 |int=>rw[aC.int];rfl| str=>rw[aC.str];trivial
def aaI(a b:ByteArray):(a == b)=decide (a=b):=by rw[tc,MapKept.bytes_beq];simp
def Fs{d:TypeDesc}{y x:ap}{u:Value}{r:Bool}(h:AJ d y)(aC:aU D y u)(ab:aU D x w)(he:E5 y x=some r):Instr.sameNow d u w=some r:=by
 cases h with
 | @int k n=>
  rw[aC.int];unfold E5 at he;split at he;·rename_i e;cases e
  ·rename_i eT a c4 b e;cases e;obtain⟨aa,ad⟩:=fY he;have:=IntKind.DW aa;subst this;cases ad;rw[ab.int];simp only[Instr.sameNow,sj,CV];congr 1
  ·rename_i e;cases e
  ·cases he
 | @str l=>
  rw[aC.str];unfold E5 at he;split at he;·rename_i e;cases e
  ·rename_i e;cases e
  ·rename_i a b e;cases e;cases he;rw[ab.str];simp only[Instr.sameNow];rw[aaI,Mw,Fh]
  ·cases he
def aaJ{d:TypeDesc}{y:ap}{u:Value}(h:AJ d y)(aC:aU D y u):∀ {es:List (ap×ap)} {l:List MapEntry} {r:Option ap} (i:Nat),qQ D es l->Is y es=some r ->
  match r with
  |none=>Instr.findNow d u l i=some none| some v=>∃ j w,Instr.findNow d u l i=some (some (j,w))/\aU D v w
 |[],_,r,i,.nil,ax=>by simp only[Is]at ax;cases ax;rfl
 |(x,v)::es,_,r,i,.cons (e:=e) (l:=l) ae aj t,ax=>by
  simp only[Is]at ax;split at ax;·rename_i he;cases ax;refine⟨i,e.val,?_,aj⟩;simp only[Instr.findNow,Fs h aC ae he]
  ·rename_i he;have aQ:=aaJ h aC (i+1) t ax;simp only[Instr.findNow,Fs h aC ae he];exact aQ
  ·cases ax
def aaK{d:TypeDesc}{y v:ap}{u w:Value}(h:AJ d y)(aC:aU D y u)(aj:aU D v w):∀ {es vn:List (ap×ap)} {l:List MapEntry} (i:Nat),qQ D es l->It y v es=some vn -> (Instr.findNow d u l i=some none/\∀ b,qQ D vn (l++[{ key:=u,val:=w,born:=b }])) \/ ∃ j e,Instr.findNow d u l i=some (some (i+j,e.val))/\l[j]?=some e/\Instr.sameNow d u e.key=some true/\qQ D vn (l.modify j λe=>{ e with key:=u,val:=w })
 |[],vn,_,i,.nil,ax=>by simp only[It]at ax;cases ax;exact .inl ⟨rfl,λb=>.cons aC aj .nil⟩
 |(x,vm)::es,vn,_,i,.cons (e:=e) (l:=l) ae lk t,ax=>by
  simp only[It]at ax;split at ax
  ·rename_i he;cases ax;refine .inr ⟨0,e,?_,rfl,Fs h aC ae he,?_⟩
   ·simp only[Instr.findNow,Fs h aC ae he,oz]
   ·simp only[List.modify_zero_cons];exact .cons aC aj t
  ·rename_i he;split at ax
   ·rename_i r af;cases ax;rcases aaK h aC aj (i+1) t af with⟨aa,ad⟩ | ⟨j,cZ,aa,ad,ak,aK⟩
    ·refine .inl ⟨?_,λb=>.cons ae lk (ad b)⟩;simp only[Instr.findNow,Fs h aC ae he];exact aa
    ·refine .inr ⟨j+1,cZ,?_,by simpa using ad,ak,?_⟩
     ·simp only[Instr.findNow,Fs h aC ae he];rw[aa];congr 3;omega
     ·simp only[List.modify_succ_cons];exact .cons ae lk aK
   ·cases ax
  ·cases ax
end
section
variable{P:Program}{w:World}
def al2{k e:Nat}(aq:P.underlying t=some (.map k e)){d:TypeDesc}(ae:P.underlying k=some d){u:Value}(w2:MapKept.IsKey d u){l:List MapEntry}(aw:w.heap[g]?=some (.map l.toArray clock))
  {q:Option (Nat×Value)} (aB:Instr.findNow d u l 0=some q) {inf:TypeInfo} {z:Value} (hi:P.info? e=some inf) (bb:inf.zero=some z) (ok:Bool) :
  (Instr.lookup t (.map (some g)) u ok).run P w=.ok (bif ok then .tuple #[(q.map (·.2)).getD z,.bool q.isSome]else(q.map (·.2)).getD z) w:=by
 have ao:(Instr.checkKey l.toArray.isEmpty 10000 k u).run P w=.ok () w:=Ei ae w2 _ 9999;have vb:(Instr.findKey k u l).run P w=.ok q w:=Ek ae aB;have MC:(zeroValue e).run P w=.ok z w:=by simp[zeroValue,typeInfo,hi,bb]
 unfold Instr.lookup;simp only[cp,run_underlying aq,bZ,Eg aw,da,ao,vb];cases q with
 |none=>cases ok<;>simp[MC]
 |some p=>cases ok<;>simp
def al3{k e:Nat}(aq:P.underlying t=some (.map k e)){d:TypeDesc}(ae:P.underlying k=some d){u v:Value}(w2:MapKept.IsKey d u){l:List MapEntry}(aw:w.heap[g]?=some (.map l.toArray clock))
  (aB:Instr.findNow d u l 0=some none):(Instr.mapUpdate t (.map (some g)) u v).run P w=.ok () { w with heap:=w.heap.setIfInBounds g (.map (l++[({ key:=u,val:=v,born:=clock }:MapEntry)]).toArray (clock+1)) }:=by
 have ao:(Instr.checkKey false 10000 k u).run P w=.ok () w:=Ei ae w2 _ 9999;have vb:(Instr.findKey k u l).run P w=.ok none w:=Ek ae aB;unfold Instr.mapUpdate;simp only[cp,run_underlying aq,bZ,Eg aw,ao,vb,PE _ aw];congr 3;simp
def al4{k e:Nat}(aq:P.underlying t=some (.map k e)){d:TypeDesc}(ae:P.underlying k=some d){u v:Value}(w2:MapKept.IsKey d u){l:List MapEntry}(aw:w.heap[g]?=some (.map l.toArray clock))
 {cZ:MapEntry} (aB:Instr.findNow d u l 0=some (some (j,cZ.val))) (ai:l[j]?=some cZ) (av:cZ.key=u) :
  (Instr.mapUpdate t (.map (some g)) u v).run P w=.ok () { w with heap:=w.heap.setIfInBounds g (.map (l.modify j λe=>{ e with key:=u,val:=v }).toArray clock) }:=by
 have ao:(Instr.checkKey false 10000 k u).run P w=.ok () w:=Ei ae w2 _ 9999;have vb:(Instr.findKey k u l).run P w=.ok (some (j,cZ.val)) w:=Ek ae aB;have fu:(Instr.keyThatStays u u).run P w=.ok u w:=MapKept.run_keyThatStays w2;unfold Instr.mapUpdate;simp only[cp,run_underlying aq,bZ,Eg aw,ao,vb];simp only[BW,ai,lg,kL,av,fu,bZ,PE _ aw];congr 3;show Obj.map _ _=Obj.map _ _;congr 1;apply gX;simp
end
section
variable{X:c3}{G:GT}{pr:mb}{D:bR}{m m':bw}{F:Fr}{an:bh ap}{C:dN}{I:aH}{M:List aE}{K:gl}{o:Oper}{v:ap}
def rZ(X:c3)(G:GT)(pr:mb)(D:bR)(m:bw)(I:aH)(M:List aE)(v:ap)(m':bw)(dst:Option Nat)(F:Fr)(C:dN)(K:gl):Prop:=
 ∀ bG u M',D.ext bG m.n->aU bG v u->dh (dZ X G pr) bG m' I M'->K (put dst (.val u) F) C I M'
def al5(aA:o.op=.store t x y)(h:bu o.dst (Mc (X.E t) m (dw an x) (dw an y)) (λ_=>none)=some (v,m'))(H:jx D F an o.op.operands.toList)(hm:dh (dZ X G pr) D m I M)
  (k:rZ X G pr D m I M v m' o.dst F C K):gZ X o F C I M K:=by
 obtain⟨dst,op,ty,pos,after,guard⟩:=o;simp only at aA;subst aA;cases dst with
 |some d=>cases h
 |none=>
  have aa:Mc (X.E t) m (dw an x) (dw an y)=some (v,m'):=h;unfold Mc at aa;obtain⟨i,hi,aa⟩:=ct aa;obtain⟨a,ab,aa⟩:=ct aa;obtain⟨b,aC,aa⟩:=ct aa;obtain⟨ag,aa⟩:=fY aa;obtain⟨m2,ad,-,-,ak⟩:=R8 (Y:=dZ X G pr) aa;cases ad;simp only at H;have j5:=H x (by simp[Op.operands]) _ ab;have yJ:∀ q,a≠.b q:=λq e=>by subst e;cases aa
  obtain⟨u,aI,bc⟩:=j5.wZ yJ;obtain⟨w,a6,bi⟩:=H.bH (x:=y) (by simp[Op.operands]) aC;obtain⟨g,off,a9,post,arr,T,rfl,ba,iu,qk,⟨id,e,ju,kj,Ex,aw⟩,mD⟩:=ak hm bc bi.cells;simp only[gZ,hi,a6,aI];have dn:Nat.beq w.cells.size i.size=true:=by have:=bi.cells.len;rw[xS]at this;rw[this];exact ag
  rw[dn];simp only[cF];refine⟨a9,post,arr,T,ba,rfl,iu,qk,?_⟩;exact k D (.tuple #[]) _ bR.pe (by simp only[aU];exact⟨[],.nil,rfl⟩) mD
def aaL(ah:∀ d,o.dst=some d->d<X.n)(bU:∀ c,o.op≠.defer c)
  (h:∀ (β:Nat->Nat) (a:Act) (w:World),cN X β a w F C I M->∃ u w' I' M',(execOp a.eval o).run X.P w=.ok (.value u) w'/\cN X β a w' F C I' M'/\K (put o.dst (.val u) F) C I' M'):bD X o F C I M K:=by
 refine⟨λa w Q ⟨β,aV⟩=>?_⟩;obtain⟨u,w',I',M',aa,ad,ak⟩:=h β a w aV;exact iN bU aa ⟨_,_,_,_,⟨β,ad.put (x:=.val u) ah rfl⟩,ak⟩
def al6(ah:o.dst=none)(bU:∀ c,o.op≠.defer c)
  (h:∀ (β:Nat->Nat) (a:Act) (w:World),cN X β a w F C I M->∃ w' I' M',(execOp a.eval o).run X.P w=.ok .skip w'/\cN X β a w' F C I' M'/\K F C I' M'):bD X o F C I M K:=by
 refine⟨λa w Q ⟨β,aV⟩=>?_⟩;obtain⟨w',I',M',aa,ad,ak⟩:=h β a w aV;refine DU bU aa ⟨_,_,_,_,⟨β,?_⟩,ak⟩;rw[ah];exact ad
def aaM(aN:cW X.P X.E)(ah:∀ d,o.dst=some d->d<X.n){r:Option Operand}(aA:o.op=.makeMap t r)(h:Md (X.E t) m=some (v,m'))(af:∀ x,r=some x->∃ k n,bH F x=.val (.int k n))(hm:dh (dZ X G pr) D m I M)
  (k:rZ X G pr D m I M v m' o.dst F C K):bD X o F C I M K:=by
 unfold Md at h;split at h
 ·rename_i sa sX sz gk e aq;obtain⟨d,fP,fl⟩:=(aN _ _ aq).fs;have aa:d=.map gk e:=by cases d<;>simp_all[fr]
  subst aa;obtain⟨bn,ad,ak⟩:=IL h;cases ak;refine aaL ah (by rw[aA];simp) fun β a w aV=>?_;refine⟨.map (some w.heap.size),w.alloc (.map #[] 0),I,⟨w.heap.size,.map #[] 0⟩::M,?_,aV.n2 _,?_⟩
  ·unfold execOp;cases r with
   |none=>simp[aA,Instr.makeMap]| some x=>obtain⟨eT,sD,ab⟩:=af x rfl;have P9:=dj aV.an ab;simp[aA,P9,Instr.makeMap,run_underlying fP,asInt,oE]
  ·have aB:∀ x∈M,x.num≠w.heap.size:=aV.holds.q7;refine k _ _ _ bR.Fq (by simp only[aU];exact⟨_,bR.p3 _ _ ⟨w.heap.size,0,0⟩,rfl⟩) (hm.new (a:=⟨w.heap.size,0,0⟩) ad aB ?_);exact .map [] 0 (by simp) .nil
 ·cases h
def lG.aaN{D:bR}{M:List aE}{a:Loc}{es:List (ap×ap)}(h:lG D E M a (.map es)):∃ l clock,(⟨a.b,.map l.toArray clock⟩:aE)∈M/\qQ D es l:=by
 cases h with
 |map l clock aa ad=>exact⟨l,clock,aa,ad⟩
def aU.map'{id:Nat}{u:Value}(h:aU D (.m id) u):∃ a,D id=some a/\u=.map (some a.b):=by simpa only[aU]using h
def al7(aN:cW X.P X.E)(ah:∀ d,o.dst=some d->d<X.n){ok:Bool}(aA:o.op=.lookup t x y ok)(h:Rz X.P X.E t m (dw an x) (dw an y) ok=some (v,m'))(H:jx D F an o.op.operands.toList)
  (hm:dh (dZ X G pr) D m I M) (k:rZ X G pr D m I M v m' o.dst F C K):bD X o F C I M K:=by
 unfold Rz at h;split at h
 ·rename_i sa sX sz gk e id al8 aq aa ad;obtain⟨w2,h⟩:=fY h;split at h
  ·rename_i es aw;obtain⟨r,af,h⟩:=ct h;obtain⟨inf,hi,h⟩:=ct h;obtain⟨z,bb,h⟩:=ct h;obtain⟨tn,BR,h⟩:=ct h;cases h;obtain⟨d,fP,fl⟩:=(aN _ _ aq).fs;have fE:d=.map gk e:=by cases d<;>simp_all[fr]
   subst fE;obtain⟨dK,sM,CY⟩:=aaH aN w2;rw[aA]at H;obtain⟨nf,aI,bc⟩:=H.bH (x:=x) (by simp[Op.operands]) aa;obtain⟨kC,a6,bi⟩:=H.bH (x:=y) (by simp[Op.operands]) ad;obtain⟨a,a7,rfl⟩:=bc.map';have he:=hm.ja _ _ _ aw a7;obtain⟨l,clock,ba,R9⟩:=he.aaN;have l0:=aaJ CY bi 0 R9 af;have MC:aU D tn z:=.of BR;have fin:∀ {q:Option (Nat×Value)},Instr.findNow dK kC l 0=some q->(r=none/\q=none\/∃ IP j w,r=some IP/\q=some (j,w)/\aU D IP w)->bD X o F C I M K:=fun {q} aB aL=>by
    refine aaL ah (by rw[aA];simp) fun β ac w aV=>?_;have fb:=al2 (P:=X.P) (w:=w) fP sM (CY.isKey bi) (aV.holds.m _ ba) aB hi bb ok;have ex:=dj aV.an aI;have oP:=dj aV.an a6;refine⟨bif ok then .tuple #[(q.map (·.2)).getD z,.bool q.isSome]else(q.map (·.2)).getD z,w,I,M,?_,aV,k D _ M bR.pe ?_ hm⟩;·unfold execOp;simp only[aA,ex,oP,cp,fb,bZ,da]
    ·unfold ZU;rcases aL with⟨rfl,rfl⟩ | ⟨IP,j,w',rfl,rfl,aj⟩
     ·cases ok
      ·exact MC
      ·exact .Mt (.cons MC (.cons (by simp only[aU];rfl) .nil))
     ·cases ok
      ·exact aj
      ·exact .Mt (.cons aj (.cons (by simp only[aU];rfl) .nil))
   cases r with
   |none=>exact fin l0 (.inl ⟨rfl,rfl⟩)| some IP=>obtain⟨j,w,aB,aj⟩:=l0;exact fin aB (.inr ⟨IP,j,w,rfl,rfl,aj⟩)
  ·cases h
 ·cases h
def aaO(aN:cW X.P X.E){z:Operand}(aA:o.op=.mapUpdate t x y z\/o.op=.insert t x y z)(h:bu o.dst (Iu X.E t m (dw an x) (dw an y) (dw an z)) (λ_=>none)=some (v,m'))(H:jx D F an o.op.operands.toList)
  (hm:dh (dZ X G pr) D m I M) (k:rZ X G pr D m I M v m' o.dst F C K):bD X o F C I M K:=by
 cases IM:o.dst with
 |some d=>rw[IM]at h;cases h
 |none=>
  rw[IM]at h k;have ay:Iu X.E t m (dw an x) (dw an y) (dw an z)=some (v,m'):=h;have wj:∀ q,q=x\/q=y\/q=z->q∈o.op.operands.toList:=λq aL=>by
   rcases aA with aA | aA<;>rw[aA]<;>simp[Op.operands]<;>exact aL
  unfold Iu at ay;split at ay
  ·rename_i sa sX sz gk e id al8 tn aq aa ad ak;obtain⟨w2,ay⟩:=fY ay;split at ay
   ·rename_i es aw;obtain⟨vn,kt,ay⟩:=ct ay;obtain⟨bn,aK,bz⟩:=bh.o7 (some (fw.map vn)) m.t id;have hg:(m.t.nV (some (fw.map vn)) id λt=>some (ap.t [],(⟨t,m.n⟩:bw)))=some (v,m'):=ay;rw[aK]at hg;cases hg;obtain⟨d,fP,fl⟩:=(aN _ _ aq).fs;have fE:d=.map gk e:=by cases d<;>simp_all[fr]
    subst fE;obtain⟨dK,sM,CY⟩:=aaH aN w2;obtain⟨nf,aI,bc⟩:=H.bH (x:=x) (wj x (.inl rfl)) aa;obtain⟨kC,a6,bi⟩:=H.bH (x:=y) (wj y (.inr (.inl rfl))) ad;obtain⟨Ft,cq,ca⟩:=H.bH (x:=z) (wj z (.inr (.inr rfl))) ak;obtain⟨a,a7,rfl⟩:=bc.map';have he:=hm.ja _ _ _ aw a7;obtain⟨l,clock,ba,R9⟩:=he.aaN;have fin:∀ (eu:List MapEntry) (CZ:Nat),qQ D vn eu->(∀ w:World,w.heap[a.b]?=some (.map l.toArray clock)->(Instr.mapUpdate t (.map (some a.b)) kC Ft).run X.P w=.ok () { w with heap:=w.heap.setIfInBounds a.b (.map eu.toArray CZ) }) ->
      bD X o F C I M K:=λeu CZ ql fb=>by
     obtain⟨a9,post,c9⟩:=vf ba;have mE:M.Perm (⟨a.b,.map l.toArray clock⟩::(a9++post)):=by rw[c9];exact na
     refine al6 IM (by rcases aA with aA | aA<;>rw[aA]<;>simp) fun β ac w iT=>?_;have aV:cN X β ac w F C I (⟨a.b,.map l.toArray clock⟩::(a9++post)):=iT.h7 (.perm mE .refl);have w3:=iT.holds.m _ ba;have ex:=dj aV.an aI;have oP:=dj aV.an a6;have P':=dj aV.an cq;have g2:=MapKept.heap_set (o':=Obj.map eu.toArray CZ) w3;refine⟨_,I,⟨a.b,.map eu.toArray CZ⟩::(a9++post),?_,aV.swap (w':={ w with heap:=w.heap.setIfInBounds a.b (.map eu.toArray CZ) }) (by simp) g2.1 g2.2 ⟨rfl,rfl⟩,?_⟩
     ·unfold execOp;rcases aA with aA | aA<;>simp only[aA,ex,oP,P',cp,fb w w3,bZ,da]
     ·have nE:∀ q∈M,q.num≠a.b->q∈(⟨a.b,.map eu.toArray CZ⟩:aE)::(a9++post):=λq aL aD=>by
       rcases eI.1 (mE.mem_iff.1 aL)with rfl | aL;·exact(aD rfl).elim
       ·exact nU _ aL
      refine k D (.tuple #[]) _ bR.pe (by simp only[aU];exact⟨[],.nil,rfl⟩) ?_;refine hm.step (λi e hi=>(bz i e hi).imp (λq=>⟨q.1,pb q.2⟩) λq=>q) a7 (bR.le_refl D) (λ_ _=>rfl) hm.j4 (λ_ _ h=>h) (λi e bL bt hi qR q aL aD=>nE q aL ?_) (.map eu CZ (by simp) ql) ?_;·rw[aD];exact λag=>bt (hm.inj _ _ _ _ _ _ hi aw qR a7 ag)
      ·exact λi e bL bt hi qR ag=>bt (hm.inj _ _ _ _ _ _ hi aw qR a7 ag)
    rcases aaK CY bi ca 0 R9 kt with⟨aB,e8⟩ | ⟨j,cZ,aB,ai,av,LL⟩;·exact fin _ (clock+1) (e8 clock) λw w3=>al3 fP sM (CY.isKey bi) w3 aB
    ·rw[du]at aB;have pQ:cZ.key=kC:=by
      cases CY with
      |int=>
       have:=bi.int;subst this;cases ae:cZ.key<;>rw[ae]at av<;>simp[Instr.sameNow]at av
       obtain⟨rfl,h⟩:=av;rw[h]
      |str=>
       have:=bi.str;subst this;cases ae:cZ.key<;>rw[ae]at av<;>simp[Instr.sameNow,aaI]at av
       rw[av]
     exact fin _ clock LL λw w3=>al4 fP sM (CY.isKey bi) w3 aB ai pQ
   ·cases ay
  ·cases ay
end
section
variable{X:c3}{G:GT}{pr:mb}{D:bR}{m m':bw}{F:Fr}{an:bh ap}{C:dN}{I:aH}{M:List aE}{K:gl}{o:Oper}{v:ap}
def aaP(aN:cW X.P X.E)(ah:∀ d,o.dst=some d->d<X.n){s d e:Nat}(aA:o.op=.convert s d x){cQ b1 ef b8:Nat}{yK R':List Value}(av:X.E s=some ⟨cQ,b1,yK,.slice e⟩)(fE:X.E d=some ⟨ef,b8,R',.string⟩)(ag:E8 (X.E e)=true)
  {id off n:Nat} (h:Mf G m id off n=some (v,m')) (ab:∃ a c,D id=some a/\bH F x=.val (.slice (some ⟨a.b,a.o+off,none⟩) n c)) (hm:dh (dZ X G pr) D m I M)
  (k:rZ X G pr D m I M v m' o.dst F C K):bD X o F C I M K:=by
 unfold Mf at h;obtain⟨a,c,a7,ex⟩:=ab;obtain⟨aM,l,vs,aI,bp,ax,h⟩:=w0 (u:=.pointer (some ⟨a.b,a.o+off,none⟩)) hm (by simp only[aU];exact⟨a,a7,rfl⟩) h;cases aI;obtain⟨cz,Eo,h⟩:=ct h;cases h;have iO:=aaG Eo ax;have cS:cz.length=n:=by have:=bp.2;obtain⟨_,_,_,_,_,ad⟩:=this;rw[<-ad,iO];simp
 subst iO;obtain⟨aF,he,kt⟩:∃ aF,X.E e=some aF/\aF.bP=.int .u8:=by
  unfold E8 at ag;split at ag;·rename_i h;exact⟨_,h,rfl⟩
  ·cases ag
 refine bD.akV aN aA ah av rfl he kt fE rfl ex cS bp ?_;exact k D _ M bR.pe (by simp only[aU]) hm
def al9(aN:cW X.P X.E)(ah:∀ d,o.dst=some d->d<X.n){s d:Nat}(aA:o.op=.convert s d x)(h:Mg (dZ X G pr) m s d (dw an x)=some (v,m'))(H:jx D F an o.op.operands.toList)(hm:dh (dZ X G pr) D m I M)
  (k:rZ X G pr D m I M v m' o.dst F C K):bD X o F C I M K:=by
 unfold Mg at h;rw[aA]at H;split at h
 ·rename_i aa ad ak;obtain⟨ag,h⟩:=fY h;obtain⟨u,aI,bc⟩:=H.bH (x:=x) (by simp[Op.operands]) ak;obtain⟨a,a7,rfl⟩:=bc.sW;exact aaP aN ah aA aa ad ag h ⟨a,_,a7,aI⟩ hm k
 ·rename_i aa ad ak;obtain⟨ag,h⟩:=fY h;obtain⟨u,aI,bc⟩:=H.bH (x:=x) (by simp[Op.operands]) ak;obtain⟨a,a7,_,rfl⟩:=bc.vk;exact aaP aN ah aA aa ad ag h ⟨a,_,a7,aI⟩ hm k
 ·rename_i aa ad ak;obtain⟨ag,h⟩:=fY h;obtain⟨u,aI,bc⟩:=H.bH (x:=x) (by simp[Op.operands]) ak;cases h;simp only[aU]at bc;subst bc;obtain⟨aF,he,kt⟩:∃ aF,X.E _=some aF/\aF.bP=.int .u8:=by
   unfold E8 at ag;split at ag;·rename_i h;exact⟨_,h,rfl⟩
   ·cases ag
  refine bD.akW aN aA ah aa rfl he kt ad rfl aI ?_;exact k D _ M bR.pe (by simp only[aU]) hm
 ·cases h
def aaQ(q:List UInt8):bO D (q.map λb=>ap.i .u8 (.ofNat b.toNat)) (lv ⟨q.toArray⟩):=by
 unfold lv;simp only
 induction q with
 |nil=>exact .nil| cons b q aQ=>exact .cons (by simp only[aU];rfl) aQ
def MD{l:List Operand}{a b:ap}(h:oe an l=some [a,b]):∃ x y,l=[x,y]/\dw an x=some a/\dw an y=some b:=by
 match l,h with
 |[],h=>simp[oe]at h
 |[x],h=>
  simp only[oe]at h;split at h;·rename_i aI a6;cases a6;cases h
  ·cases h
 |[x,y],h=>
  simp only[oe]at h;split at h
  ·rename_i aI a6;split at a6
   ·rename_i cq dS;cases dS;cases a6;cases h;exact⟨x,y,rfl,aI,cq⟩
   ·cases a6
  ·cases h
 |x::y::z::l,h=>
  simp only[oe]at h;split at h
  ·rename_i aI a6;split at a6
   ·rename_i cq dS;split at dS
    ·cases dS;cases a6;cases h
    ·cases dS
   ·cases a6
  ·cases h
def dh.sub{M':List aE}(h:dh (dZ X G pr) D m I M)(av:∀ x∈M,x∈M'):dh (dZ X G pr) D m I M':=
 ⟨λid e a hi a7=>(h.ja id e a hi a7).mono (bR.le_refl D) (λx ab _=>av x ab),h.inj,h.j4,h.qO⟩
def ama(aN:cW X.P X.E)(ah:∀ d,o.dst=some d->d<X.n){dC:Array Nat}(aA:o.op=.call { callee:=.builtin .copy,args:=args,argTypes:=dC })(h:RB (dZ X G pr) m dC.toList (oe an args.toList)=some (v,m'))
  (H:jx D F an args.toList) (hm:dh (dZ X G pr) D m I M) (k:rZ X G pr D m I M v m' o.dst F C K):bD X o F C I M K:=by
 unfold RB at h;split at h
 ·rename_i t u id off n c q aq ax;split at h
  ·rename_i sa sX sz e oK;obtain⟨aF,he,h⟩:=ct h;obtain⟨ag,h⟩:=fY h;rw[cB]at ag;obtain⟨m2,ad,-,-,ak⟩:=R8 (Y:=dZ X G pr) h;cases ad;obtain⟨x,y,nb,C0,amb⟩:=MD ax;obtain⟨nf,ab,bi⟩:=H.bH (x:=x) (by rw[nb];simp) C0;obtain⟨kC,aC,gf⟩:=H.bH (x:=y) (by rw[nb];simp) amb;obtain⟨a,a7,rfl⟩:=bi.sW;have amc:=gf.str;subst amc;obtain⟨g,KE,a9,post,arr,T,cq,ba,iu,qk,⟨jb,cZ,ju,kj,Ex,aw⟩,mD⟩:=ak hm (u:=.pointer (some ⟨a.b,a.o+off,none⟩)) (by simp only[aU];exact⟨a,a7,rfl⟩) (aaQ q);cases cq;have mE:M.Perm (⟨a.b,.cells arr T (0,0)⟩::(a9++post)):=by rw[ba];exact na
   have C1:args=#[x,y]:=by apply gX;simpa using nb
   have C2:dC=#[t,u]:=by apply gX;simpa using aq
   have dn:(⟨q.toArray⟩:ByteArray).size=q.length:=by simp[ByteArray.size]
   have kR:(lv ⟨q.toArray⟩).length=q.length:=by simp[lv]
   refine bD.WM aN (by rw[aA,C1,C2]) ah oK rfl he (ed ag.1) ab aC (by rw[dn];exact bK ag.2) (by rw[dn,<-kR];exact iu) mE ?_;rw[dn];have Sa:(a9++(⟨a.b,.cells (cj arr.toList (a.o+off) (lv ⟨q.toArray⟩)).toArray T (0,0)⟩:aE)::post).Perm (⟨a.b,.cells (cj arr.toList (a.o+off) (lv ⟨q.toArray⟩)).toArray T (0,0)⟩::(a9++post)):=na;exact k D (.int .i64 q.length) _ bR.pe (by simp only[aU];rfl) (mD.sub λx ab=>Sa.mem_iff.1 ab)
  ·cases h
 ·cases h
end
end Go.V
