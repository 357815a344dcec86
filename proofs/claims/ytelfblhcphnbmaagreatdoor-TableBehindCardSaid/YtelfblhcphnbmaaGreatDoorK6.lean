/- Part 6 of what the proofs of this seat share: the executor, data in memory, walks.
-/
import Derived.Test.YtelfblhcphnbmaaGreatDoorK5
import Derived.Test.YtelfblhcphnbmaaGreatDoorK3
import Derived.Test.YtelfblhcphnbmaaGreatDoorK4
set_option linter.all false
namespace Go.V
open Go
def lr:=@List.mem_cons_of_mem
def rB:=@List.append_of_mem
def Gd:=@List.getElem?_of_mem
def wb:=@Nat.add_eq
def Ge:=@decide_eq_decide
def KX:=@Int.natCast_nonneg
def KY:=@List.filter_append
def z9:=@Nat.mul_eq
def z':=@Nat.sub_eq
variable{α R:Type}{b:Bool}{x y nt os lo hi mx:Operand}{r dst:Option Nat}{F de:Fr}{E:Env}{M:List aC}{cb:IntKind}{t j sz off fq g clock cf cU:Nat}{K:Value->Prop}{O:Prop}{cP ut:Option dw}{P:Program}{w jA:Value}{aE k3:dw}{cs xs qd news:List Value}{args:Array Operand}{dN:Array Nat}{dU:a0 ew}{bT:ew}{lE:TypeDesc}{base:Option Addr}{ops:List Oper}{β:Nat->Nat}{row:List (Nat×Nat)}
section
variable{α R:Type}
def iw(b:Bool)(x y:α):bB b x y=bif b then x else y:=by cases b<;>rfl
def bX{o:Option α}{f:α->Option R}{r:R}(h:bz o none f=some r):∃ v,o=some v/\f v=some r:=by
 cases o with
 |none=>cases h| some v=>exact⟨v,rfl,h⟩
def e3{x:Option α}{r:α}(h:bB b x none=some r):b=true/\x=some r:=by
 cases b with
 |true=>exact⟨rfl,h⟩| false=>cases h
def wc{x:Option α}{r:α}(h:bB b none x=some r):b=false/\x=some r:=by
 cases b with
 |false=>exact⟨rfl,h⟩| true=>cases h
def a0.CP(x:Option α)(l r:a0 α)(k:Nat):(a0.node x l r).get k=bif Nat.beq k 0 then x else bif Nat.beq (k%2) 1 then l.get (k/2)else r.get (k/2-1):=by show bB _ _ (bB _ _ _)=_;rw[iw,iw];rfl
def a0.l4(v:Option α):∀ (t:a0 α) (k:Nat),∃ dU:a0 α,(∀ {R:Type} (K:a0 α->R),t.kT v k K=K dU)/\∀ j x,dU.get j=some x->(j=k/\v=some x)\/(j≠k/\t.get j=some x)
 | .nil,k=>by
  cases af:Nat.beq k 0 with
  |true=>
   have:=bV af;subst this;refine⟨.node v .nil .nil,λK=>rfl,λj x h=>?_⟩;rw[a0.CP]at h;cases ar:Nat.beq j 0 with
   |true=>rw[ar]at h;exact .inl ⟨bV ar,h⟩
   |false=>
    rw[ar]at h;cases hm:Nat.beq (j%2) 1<;>(rw[hm]at h;cases h)
  |false=>refine⟨.nil,λK=>?_,λj x h=>by cases h⟩;show bB _ _ _=_;rw[iw,af];rfl
 | .node x l r,k=>by
  cases af:Nat.beq k 0 with
  |true=>
   have:=bV af;subst this;refine⟨.node v l r,λK=>rfl,λj y h=>?_⟩;rw[a0.CP]at h |-;cases ar:Nat.beq j 0 with
   |true=>rw[ar]at h;exact .inl ⟨bV ar,h⟩| false=>rw[ar]at h;exact .inr ⟨(λe=>by subst e;cases ar),h⟩
  |false=>
   have ei:k≠0:=λe=>by subst e;cases af
   cases hm:Nat.beq (k%2) 1 with
   |true=>
    have oN:=bV hm;obtain⟨cd,aa,ab⟩:=a0.l4 v l (k/2);refine⟨.node x cd r,λK=>?_,λj y h=>?_⟩;·show bB _ _ (bB _ _ _)=_;rw[iw,iw,af];show(bif Nat.beq (k%2) 1 then _ else _)=_;rw[hm];exact aa _
    ·rw[a0.CP]at h |-;cases ar:Nat.beq j 0 with
     |true=>rw[ar]at h;exact .inr ⟨λe=>by have:=bV ar;omega,h⟩
     |false=>
      rw[ar]at h;have abg:j≠0:=λe=>by subst e;cases ar
      cases qu:Nat.beq (j%2) 1 with
      |true=>
       have abh:=bV qu;rw[qu]at h;rcases ab _ _ h with⟨e,ah⟩ | ⟨e,ah⟩;·exact .inl ⟨by omega,ah⟩
       ·exact .inr ⟨λbc=>e (by rw[bc]),ah⟩
      |false=>rw[qu]at h;exact .inr ⟨(λe=>by subst e;rw[hm]at qu;cases qu),h⟩
   |false=>
    have oN:k%2≠1:=λe=>by rw[e]at hm;cases hm
    obtain⟨pP,aa,ab⟩:=a0.l4 v r (k/2-1);refine⟨.node x l pP,λK=>?_,λj y h=>?_⟩;·show bB _ _ (bB _ _ _)=_;rw[iw,iw,af];show(bif Nat.beq (k%2) 1 then _ else _)=_;rw[hm];exact aa _
    ·rw[a0.CP]at h |-;cases ar:Nat.beq j 0 with
     |true=>rw[ar]at h;exact .inr ⟨λe=>by have:=bV ar;omega,h⟩
     |false=>
      rw[ar]at h;have abg:j≠0:=λe=>by subst e;cases ar
      cases qu:Nat.beq (j%2) 1 with
      |true=>rw[qu]at h;exact .inr ⟨(λe=>by subst e;rw[hm]at qu;cases qu),h⟩
      |false=>
       have abh:j%2≠1:=λe=>by rw[e]at qu;cases qu
       rw[qu]at h;rcases ab _ _ h with⟨e,ah⟩ | ⟨e,ah⟩;·exact .inl ⟨by omega,ah⟩
       ·exact .inr ⟨λbc=>e (by rw[bc]),ah⟩
def a0.Aa(t:a0 α):∀ (n off:Nat) (K:List α->Option R) (r:R),t.zT off n K=some r->∃ l,l.length=n/\(∀ i,i<n->t.get (off+i)=l[i]?)/\K l=some r
 |0,off,K,r,h=>⟨[],rfl,λi hi=>by omega,h⟩
 |n+1,off,K,r,h=>by
  have bf:bz (t.get off) none (λv=>t.zT (off+1) n λl=>K (v::l))=some r:=h;obtain⟨v,ah,bf⟩:=bX bf;obtain⟨l,aa,ab,ai⟩:=a0.Aa t n (off+1) _ r bf;refine⟨v::l,by simp[aa],λi hi=>?_,ai⟩;cases i with
  |zero=>simpa using ah| succ i=>have:=ab i (by omega);rw[show off+(i+1)=off+1+i by omega,this];simp
def a0.uP:∀ (l:List α) (t:a0 α) (off:Nat),∃ dU:a0 α,(∀ {R:Type} (K:a0 α->R),a0.uJ l t off K=K dU) /\ ∀ j x,dU.get j=some x->(off<=j/\l[j-off]?=some x)\/((j<off\/off+l.length<=j)/\t.get j=some x)
 |[],t,off=>⟨t,λK=>rfl,λj x h=>.inr ⟨by simp;omega,h⟩⟩
 |v::l,t,off=>by
  obtain⟨t1,aa,ab⟩:=a0.l4 (some v) t off;obtain⟨t2,ai,aQ⟩:=a0.uP l t1 (off+1);refine⟨t2,λK=>(aa _).trans (ai K),λj x h=>?_⟩;rcases aQ j x h with⟨aO,aP⟩ | ⟨aO,aP⟩;·exact .inl ⟨by omega,by rw[show j-off=(j-(off+1))+1 by omega];simpa using aP⟩
  ·rcases ab j x aP with⟨rfl,e⟩ | ⟨e,br⟩
   ·exact .inl ⟨bS _,by simp at e;simp[e]⟩
   ·exact .inr ⟨by simp only[du];omega,br⟩
end
def KZ(n:Nat)(K:Nat->R):ox n K=K n:=rfl
def abi(n:Int)(K:Int->R):Se n K=K n:=by cases n<;>rfl
def abj(b:Bool)(K:Bool->R):Sf b K=K b:=by cases b<;>rfl
def abk(v:al)(K:al->R):KE v K=K v:=by
 cases v with
 |b x=>exact abj x λx=>K (.b x)
 |i k n=>exact abi n λn=>K (.i k n)
 |_=>rfl
def K0(a b:Nat):Nat.beq a b=decide (a=b):=by
 by_cases h:a=b
 ·subst h;simp
 ·rw[fv h];simp[h]
def Gf(a b:Nat):Nat.ble a b=decide (a<=b):=by
 by_cases h:a<=b
 ·rw[ud h];simp[h]
 ·cases ag:Nat.ble a b with
  |false=>simp[h]| true=>exact absurd (bq ag) h
def we(a b:Int):l2 a b=decide (a=b):=by
 cases a<;>cases b<;>simp only[l2,K0]<;>simp
 omega
def Gg(a b:Int):x9 a b=decide (a<=b):=by
 cases a<;>cases b<;>simp only[x9]
 ·rw[Gf];simp only[Ge];exact Int.ofNat_le.symm
 ·symm;simp only[oP];rename_i a b;have:=Int.negSucc_lt_zero b;have:(0:Int)<=Int.ofNat a:=KX a;omega
 ·symm;simp only[eC];rename_i a b;have:=Int.negSucc_lt_zero a;have:(0:Int)<=Int.ofNat b:=KX b;omega
 ·rw[Gf];simp only[Ge,Int.negSucc_eq];omega
def abl(a b:Int):yK a b=decide (a<b):=by
 unfold yK;rw[Gg];by_cases h:a<b
 ·simp[h]
 ·simp[h];omega
def abm(op:BinOp)(x y:Int):Ki op x y=tp op x y:=by cases op<;>simp only[Ki,tp,we,abl,Gg]
def wg(k:IntKind)(n:Int):s6 k n=k.wrap n:=by
 cases n with
 |negSucc n=>rfl
 |ofNat n=>
  simp only[s6];cases h:Nat.ble n (FY k)with
  |false=>rfl
  |true=>
   have bf:=bq h;simp only[aZ];cases k<;>simp only[FY]at bf<;>simp only[IntKind.wrap,IntKind.signed,IntKind.bits]<;>simp<;>omega
def abn(a b:Int):RQ a b=a+b:=by cases a<;>cases b<;>rfl
def abo(a b:Int):Kj a b=a-b:=by
 cases a<;>cases b<;>try rfl
 rename_i a b;simp only[Kj];cases h:Nat.ble b a with
 |false=>rfl| true=>have:=bq h;show((a-b:Nat):Int)=(a:Int)-b;omega
def abp(a b:Int):RR a b=a*b:=by cases a<;>cases b<;>rfl
def abq(a b:Int):RS a b=a.tdiv b:=by cases a<;>cases b<;>rfl
def abr(a b:Int):RT a b=a.tmod b:=by cases a<;>cases b<;>rfl
def abt(a:Int)(j:Nat):RU a j=a*2^j:=by
 cases a with
 |negSucc a=>rfl| ofNat a=>show((a*2^j:Nat):Int)=(a:Int)*2^j;simp
def abu(a:Int)(j:Nat):RV a j=a.fdiv (2^j):=by
 cases a with
 |negSucc a=>rfl| ofNat a=>show((a/2^j:Nat):Int)=(a:Int).fdiv (2^j);rw[show(2:Int)^j=((2^j:Nat):Int) by simp];rw[D7 _ (KX _)];simp
def SB(j b:Nat):(bif Nat.ble j b then j else b)=min j b:=by
 rw[Gf];by_cases h:j<=b
 ·simp[h,yG h]
 ·simp[h];omega
def wh{a:Nat}(h:a<=18446744073709551615):(BitVec.ofInt IntKind.u64.bits (Int.ofNat a)).toNat=a:=by show(BitVec.ofInt 64 (a:Int)).toNat=a;rw[BitVec.ofInt_natCast,I2];omega
def wrap64{a:Nat}(h:a<=18446744073709551615):IntKind.u64.wrap (a:Int)=Int.ofNat a:=by show IntKind.u64.wrap (.ofNat a)=_;rw[<-wg];simp only[s6,FY,ud h,aZ]
def Gh{op:BinOp}{k:IntKind}{x y r:Int}(h:zV op k x y=some r):qD op k x y=some r:=by
 unfold zV at h;split at h
 ·rename_i a b;cases aF:(Nat.ble a 18446744073709551615&&Nat.ble b 18446744073709551615)with
  |false=>rw[aF]at h;cases h
  |true=>
   rw[aF]at h;rw[bG]at aF;have av:=bq aF.1;have ag:=bq aF.2;have SC:a<2^64:=by omega
   have Gi:b<2^64:=by omega
   simp only[aZ]at h;split at h;·rw[<-h];simp only[qD,Ec,wh av,wh ag];rw[wrap64 (by have:=Nat.and_lt_two_pow a Gi;omega)];rfl
   ·rw[<-h];simp only[qD,BitVec.toNat_or,wh av,wh ag];rw[wrap64 (by have:=Nat.or_lt_two_pow SC Gi;omega)];rfl
   ·rw[<-h];simp only[qD,BitVec.toNat_xor,wh av,wh ag];rw[wrap64 (by have:=Nat.xor_lt_two_pow SC Gi;omega)];rfl
   ·rw[<-h];have aw:(~~~(BitVec.ofInt IntKind.u64.bits (Int.ofNat b))).toNat=18446744073709551615-b:=by rw[BitVec.toNat_not,wh ag];rfl
    simp only[qD,Ec,wh av,aw];rw[wrap64 (by have:=Nat.and_lt_two_pow a (show 18446744073709551615-b<2^64 by omega);omega)];rfl
   ·cases h
 ·exact h
def abv(a b:UInt8):Kk a b=decide (a=b):=by unfold Kk;rw[K0];simp only[Ge];exact UInt8.toNat_inj
def yh:∀ (l m:List UInt8),nq l m=decide (l=m)
 |[],[]=>by simp[nq]
 |[],_::_=>by simp[nq]
 |_::_,[]=>by simp[nq]
 |a::l,b::m=>by
  simp only[nq,abv,yh l m];by_cases h:a=b;·subst h;simp
  ·simp[h]
def wi{α:Type}:∀ (l:List α) (n:Nat),s7 l n=l[n]?
 |[],n=>by simp[s7]
 |v::l,n=>by
  unfold s7;cases n with
  |zero=>rfl| succ n=>exact(wi l n).trans (by simp)
def Gj{α:Type}:∀ (l:List α) (n:Nat),ya l n=l.drop n
 |[],n=>by simp[ya]
 |v::l,n=>by
  unfold ya;cases n with
  |zero=>rfl| succ n=>exact(Gj l n).trans (by simp)
def SD{n:Nat}{l r:List al}(h:x' n l=some r):r=l.take n/\r.length=n:=by
 induction n generalizing l r with
 |zero=>simp[x']at h;subst h;simp
 |succ n a8=>
  cases l with
  |nil=>simp[x']at h
  |cons v l=>
   simp only[x']at h;split at h;·rename_i q aK;obtain⟨rfl,ab⟩:=a8 aK;cases h;simp at ab |-;omega
   ·cases h
structure Loc where
 b:Nat
 o:Nat
 c:Nat
abbrev bh:=Nat->Option Loc
def bh.le(D ba:bh):Prop:=∀ i a,D i=some a->ba i=some a
mutual
def aJ(D:bh):al->Value->Prop
 | .b x,u=>u=.bool x| .i k n,u=>u=.int k n| .s l,u=>u=.string ⟨l.toArray⟩| .pn,u=>u=.pointer none| .p id off,u=>∃ a,D id=some a/\u=.pointer (some ⟨a.b,a.o+off,none⟩)| .g n off,u=>u=.pointer (some ⟨n,off,none⟩)| .sn,u=>u=.slice none 0 0| .sl id off n c,u=>∃ a,D id=some a/\u=.slice (some ⟨a.b,a.o+off,none⟩) n c| .sx id off e n,u=>∃ a,D id=some a/\e+n<=a.c/\u=.slice (some ⟨a.b,a.o+off,none⟩) n (a.c-e)| .gs n off k c,u=>u=.slice (some ⟨n,off,none⟩) k c| .so,u=>∃ a c,u=.slice (some a) 0 c| .mn,u=>u=.map none| .m id,u=>∃ a,D id=some a/\u=.map (some a.b)| .f g l r,u=>∃ vs ws,bm D l vs/\bm D r ws/\u=.func (.func g) vs.toArray ws.toArray| .y id,u=>∃ a,D id=some a/\u=.func (.yield a.b) #[] #[]| .fn,u=>u=.nilFunc| .ni,u=>u=.nilIface| .CB t v,u=>∃ x,aJ D v x/\u=.iface t x| .t l,u=>∃ vs,bm D l vs/\u=.tuple vs.toArray| .a l,u=>∃ vs,bm D l vs/\u=.agg vs.toArray
def bm(D:bh):List al->List Value->Prop
 |[],us=>us=[]| v::l,us=>∃ x xs,aJ D v x/\bm D l xs/\us=x::xs
end
section
variable{D ba:bh}
mutual
def aJ.mono(h:D.le ba):∀ {v:al} {u:Value},aJ D v u->aJ ba v u
 | .b _,_,ah | .i _ _,_,ah | .s _,_,ah | .pn,_,ah | .g _ _,_,ah | .sn,_,ah | .gs ..,_,ah | .so,_,ah | .mn,_,ah | .fn,_,ah | .ni,_,ah=>by simpa only[aJ]using ah
 | .p ..,_,ah | .sl ..,_,ah | .m _,_,ah | .y _,_,ah=>by simp only[aJ]at ah |-;obtain⟨a,aa,ab⟩:=ah;exact⟨a,h _ _ aa,ab⟩
 | .sx ..,_,ah=>by simp only[aJ]at ah |-;obtain⟨a,aa,ab⟩:=ah;exact⟨a,h _ _ aa,ab⟩
 | .f _ l r,_,ah=>by simp only[aJ]at ah |-;obtain⟨vs,ws,aa,ab,ai⟩:=ah;exact⟨vs,ws,bm.mono h aa,bm.mono h ab,ai⟩
 | .CB _ v,_,ah=>by simp only[aJ]at ah |-;obtain⟨x,aa,ab⟩:=ah;exact⟨x,aJ.mono h aa,ab⟩
 | .t l,_,ah=>by simp only[aJ]at ah |-;obtain⟨x,aa,ab⟩:=ah;exact⟨x,bm.mono h aa,ab⟩
 | .a l,_,ah=>by simp only[aJ]at ah |-;obtain⟨x,aa,ab⟩:=ah;exact⟨x,bm.mono h aa,ab⟩
def bm.mono(h:D.le ba):∀ {l:List al} {us:List Value},bm D l us->bm ba l us
 |[],_,ah=>by simpa only[bm]using ah
 |v::l,_,ah=>by simp only[bm]at ah |-;obtain⟨x,xs,aa,ab,ai⟩:=ah;exact⟨x,xs,aJ.mono h aa,bm.mono h ab,ai⟩
end
def bm.nil:bm D [] []:=by simp[bm]
def bm.cons{v:al}{l:List al}{x:Value}{xs:List Value}(h:aJ D v x)(k:bm D l xs):bm D (v::l) (x::xs):=by simp only[bm];exact⟨x,xs,h,k,rfl⟩
def bm.ix{v:al}{l:List al}{us:List Value}(h:bm D (v::l) us):∃ x xs,aJ D v x/\bm D l xs/\us=x::xs:=by simpa only[bm]using h
def bm.kU{us:List Value}(h:bm D [] us):us=[]:=by simpa only[bm]using h
def bm.len:∀ {l:List al} {us:List Value},bm D l us->us.length=l.length
 |[],_,h=>by rw[h.kU];rfl
 |v::l,_,h=>by obtain⟨x,xs,aa,ab,rfl⟩:=h.ix;simp[bm.len ab]
def bm.get:∀ {l:List al} {us:List Value} {i:Nat} {v:al},bm D l us->l[i]?=some v->∃ x,us[i]?=some x/\aJ D v x
 |[],_,i,v,h,hi=>by simp at hi
 |w::l,_,i,v,h,hi=>by
  obtain⟨x,xs,aa,ab,rfl⟩:=h.ix;cases i with
  |zero=>simp at hi;subst hi;exact⟨x,rfl,aa⟩| succ i=>simpa using bm.get ab (by simpa using hi)
def bm.K1:∀ {l:List al} {us:List Value},us.length=l.length->(∀ (i:Nat) (v:al),l[i]?=some v->∃ x,us[i]?=some x/\aJ D v x)->bm D l us
 |[],us,ay,h=>by have:us=[]:=lD (by simpa using ay);subst this;exact .nil
 |w::l,us,ay,h=>by
  cases us with
  |nil=>simp at ay| cons x xs=>obtain⟨y,aL,aa⟩:=h 0 w rfl;simp at aL;subst aL;exact .cons aa (bm.K1 (by simpa using ay) λi v hi=>by simpa using h (i+1) v (by simpa using hi))
def bm.append:∀ {l:List al} {us:List Value} {m:List al} {ws:List Value},bm D l us->bm D m ws->bm D (l++m) (us++ws)
 |[],_,m,ws,h,k=>by rw[h.kU];exact k
 |w::l,_,m,ws,h,k=>by obtain⟨x,xs,aa,ab,rfl⟩:=h.ix;exact .cons aa (bm.append ab k)
def bm.take:∀ {l:List al} {us:List Value} (n:Nat),bm D l us->bm D (l.take n) (us.take n)
 |[],_,n,h=>by rw[h.kU];simpa using bm.nil
 |w::l,_,n,h=>by
  obtain⟨x,xs,aa,ab,rfl⟩:=h.ix;cases n with
  |zero=>simpa using bm.nil| succ n=>simpa using bm.cons aa (bm.take n ab)
def bm.drop:∀ {l:List al} {us:List Value} (n:Nat),bm D l us->bm D (l.drop n) (us.drop n)
 |[],_,n,h=>by rw[h.kU];simpa using bm.nil
 |w::l,us,n,h=>by
  cases n with
  |zero=>simpa using h| succ n=>obtain⟨x,xs,aa,ab,rfl⟩:=h.ix;simpa using bm.drop n ab
def bm.la{l:List al}{us:List Value}(h:bm D l us):∀ n,bm D (yd n l) ((List.replicate n us).flatten)
 |0=>by simpa[yd]using bm.nil
 |n+1=>by rw[zr,Ib];exact h.append (bm.la h n)
def aJ.bool{x:Bool}{u:Value}(h:aJ D (.b x) u):u=.bool x:=by simpa only[aJ]using h
def aJ.int{k:IntKind}{n:Int}{u:Value}(h:aJ D (.i k n) u):u=.int k n:=by simpa only[aJ]using h
def aJ.str{l:List UInt8}{u:Value}(h:aJ D (.s l) u):u=.string ⟨l.toArray⟩:=by simpa only[aJ]using h
def aJ.ptr{id off:Nat}{u:Value}(h:aJ D (.p id off) u):∃ a,D id=some a/\u=.pointer (some ⟨a.b,a.o+off,none⟩):=by simpa only[aJ]using h
def aJ.nu{id off:Nat}{u:Value}(h:aJ D (.g id off) u):u=.pointer (some ⟨id,off,none⟩):=by simpa only[aJ]using h
def aJ.pq{id off n c:Nat}{u:Value}(h:aJ D (.sl id off n c) u):∃ a,D id=some a/\u=.slice (some ⟨a.b,a.o+off,none⟩) n c:=by simpa only[aJ]using h
def aJ.rC{id off e n:Nat}{u:Value}(h:aJ D (.sx id off e n) u):∃ a,D id=some a/\e+n<=a.c/\u=.slice (some ⟨a.b,a.o+off,none⟩) n (a.c-e):=by simpa only[aJ]using h
def aJ.K2{id off n c:Nat}{u:Value}(h:aJ D (.gs id off n c) u):u=.slice (some ⟨id,off,none⟩) n c:=by simpa only[aJ]using h
def aJ.Gk{u:Value}(h:aJ D .so u):∃ a c,u=.slice (some a) 0 c:=by simpa only[aJ]using h
def aJ.yi{u:Value}(h:aJ D .sn u):u=.slice none 0 0:=by simpa only[aJ]using h
def aJ.agg{l:List al}{u:Value}(h:aJ D (.a l) u):∃ vs,bm D l vs/\u=.agg vs.toArray:=by simpa only[aJ]using h
def aJ.K3{l:List al}{u:Value}(h:aJ D (.t l) u):∃ vs,bm D l vs/\u=.tuple vs.toArray:=by simpa only[aJ]using h
def aJ.Gl{l:List al}{vs:List Value}(h:bm D l vs):aJ D (.a l) (.agg vs.toArray):=by simp only[aJ];exact⟨vs,h,rfl⟩
def aJ.Gm{l:List al}{vs:List Value}(h:bm D l vs):aJ D (.t l) (.tuple vs.toArray):=by simp only[aJ];exact⟨vs,h,rfl⟩
def aJ.undef:aJ D (.t []) undef:=by simp only[aJ];exact⟨[],.nil,rfl⟩
def aJ.cells{v:al}{u:Value}(h:aJ D v u):bm D v.cells u.cells.toList:=by
 cases v<;>simp only[al.cells]
 case a l=>obtain⟨vs,aa,rfl⟩:=h.agg;simpa[Value.cells]using aa
 all_goals
  have key:∀ w:Value,(∀ cs,w≠.agg cs)->w.cells.toList=[w]:=λw hw=>by cases w<;>first | rfl | exact(hw _ rfl).elim
  rw[key u ?_];·exact .cons h .nil
  ·rintro cs rfl;simp[aJ]at h
def aJ.one{v:al}{u:Value}(h:aJ D v u)(an:v.one=true):u.oneCell'=true:=by
 cases v<;>simp only[al.one,iL]at an<;>simp only[aJ]at h
 all_goals first
  |(subst h;rfl)|(obtain⟨_,_,rfl⟩:=h;rfl)|(obtain⟨_,_,_,rfl⟩:=h;rfl)|(obtain⟨_,_,_,_,rfl⟩:=h;rfl)
def bm.one{l:List al}{us:List Value}(h:bm D l us)(an:l.all al.one=true):ga us=true:=by refine gR.2 λx ae=>?_;obtain⟨i,hi⟩:=Gd ae;have aU:=(h3.1 hi).1;rw[h.len]at aU;obtain⟨y,aL,ah⟩:=h.get (iT aU);rw[hi]at aL;cases aL;exact ah.one (gR.1 an _ (dR aU))
def aJ.SE{u:Value}{v:al}(h:CC u=some v):aJ D v u:=by
 unfold CC at h;split at h<;>cases h<;>simp[aJ]
def bm.x7:∀ {us:List Value} {l:List al},uK us=some l->bm D l us
 |[],l,h=>by simp only[uK]at h;cases h;exact .nil
 |u::us,l,h=>by
  simp only[uK]at h;split at h;·rename_i x m aa ab;cases h;exact .cons (.SE aa) (bm.x7 ab)
  ·cases h
def aJ.of{u:Value}{v:al}(h:zU u=some v):aJ D v u:=by
 unfold zU at h;split at h
 ·split at h
  ·rename_i l ay;cases h;have:=bm.x7 (D:=D) ay;simpa using aJ.Gl this
  ·cases h
 ·exact .SE h
def Gn{agg:Bool}{l:List al}{v:al}{vs:List Value}(h:zX agg l=some v)(ay:bm D l vs):aJ D v (pack agg vs):=by
 unfold zX at h;cases agg with
 |true=>simp only[aZ]at h;cases h;exact .Gl ay
 |false=>
  simp only[aY]at h;split at h;·cases h;obtain⟨x,xs,aa,ab,rfl⟩:=ay.ix;rw[ab.kU];exact aa
  ·cases h
def K4:∀ {cs:List al} {off:Nat} {vs r:List al} {us xs:List Value},uM cs off vs=some r->bm D cs us->bm D vs xs->bm D r (bo us off xs)/\off+xs.length<=us.length
 |cs,0,[],r,us,xs,h,aF,ah=>by simp[uM]at h;subst h;rw[ah.kU];exact⟨by simpa[bo]using aF,by simp⟩
 |[],0,_::_,r,us,xs,h,aF,ah=>by simp[uM]at h
 |[],_+1,_,r,us,xs,h,aF,ah=>by simp[uM]at h
 |c::cs,0,v::vs,r,us,xs,h,aF,ah=>by
  simp only[uM]at h;split at h
  ·rename_i q aK;cases h;obtain⟨x,us,aa,ab,rfl⟩:=aF.ix;obtain⟨y,xs,ai,aQ,rfl⟩:=ah.ix;obtain⟨bp,bM⟩:=K4 aK ab aQ;refine⟨?_,by simp at bM |-;omega⟩;have e:bo (x::us) 0 (y::xs)=y::bo us 0 xs:=by simp[bo]
   rw[e];exact .cons ai bp
  ·cases h
 |c::cs,n+1,vs,r,us,xs,h,aF,ah=>by
  simp only[uM]at h;split at h
  ·rename_i q aK;cases h;obtain⟨x,us,aa,ab,rfl⟩:=aF.ix;obtain⟨bp,bM⟩:=K4 aK ab ah;refine⟨?_,by simp;omega⟩;have e:bo (x::us) (n+1) xs=x::bo us n xs:=by simp only[bo,qN,sb,sw,true_and];rw[show n+1+xs.length=(n+xs.length)+1 by omega,List.drop_succ_cons]
   rw[e];exact .cons aa bp
  ·cases h
inductive CQ(D:bh):List (Nat×al)->List (Nat×Value)->Prop
 |nil:CQ D [] []| cons {i v u l us} (h:aJ D v u) (k:CQ D l us):CQ D ((i,v)::l) ((i,u)::us)
def Gp{place:Nat->Option (Nat×Nat)}:∀ {vs:List (Nat×al)} {cells r:List al} {us:List Value} {xs:List (Nat×Value)},v9 place cells vs=some r->bm D cells us->CQ D vs xs -> ∃ a3,pG place us xs=some a3/\bm D r a3
 |[],cells,r,us,_,h,aF,.nil=>by simp only[v9]at h;cases h;exact⟨us,rfl,aF⟩
 |(i,v)::vs,cells,r,us,_,h,aF,.cons (u:=u) (us:=xs) ah gG=>by
  simp only[v9]at h;split at h;·cases h
  ·rename_i off size aH;cases ag:Nat.beq v.cells.length size with
   |false=>rw[ag]at h;cases h
   |true=>
    rw[ag]at h;simp only[aZ]at h;split at h
    ·rename_i cs jF;obtain⟨aa,ab⟩:=K4 jF aF ah.cells;obtain⟨a3,ai,aQ⟩:=Gp h aa gG;refine⟨a3,?_,aQ⟩;have ay:u.cells.size=v.cells.length:=by simpa using ah.cells.len
     simp only[pG,aH,ay,ag];rw[show Nat.ble (off+size) us.length=true by rw[Gf,eC];have:=bV ag;simp at ab;omega];exact ai
    ·cases h
end
def eB(D:bh)(x:cF)(v:al):Prop:=(∃ u,x=.val u/\aJ D v u)\/∃ q,v=.b q/\x=.lit q
def eB.val{D:bh}{u:Value}{v:al}(h:aJ D v u):eB D (.val u) v:=.inl ⟨u,rfl,h⟩
def eB.mono{D ba:bh}(cn:D.le ba){x:cF}{v:al}(h:eB D x v):eB ba x v:=by
 rcases h with⟨u,rfl,h⟩ | ⟨q,rfl,rfl⟩
 ·exact .val (h.mono cn)
 ·exact .inr ⟨q,rfl,rfl⟩
def nw(D:bh)(F:Fr)(aj:a0 al):Prop:=∀ t v,aj.get t=some v->eB D (F t) v
def g4(D:bh)(F:Fr)(aj:a0 al)(xs:List Operand):Prop:=∀ x∈xs,∀ v,cq aj x=some v->eB D (cB F x) v
def nw.op{D:bh}{aj:a0 al}(h:nw D F aj)(xs:List Operand):g4 D F aj xs:=λx _ v ah=>by
 cases x with
 |tmp t=>exact h t v ah
 |const c=>
  have j5:zU c=some v:=ah;cases c with
  |bool q=>
   have:v=.b q:=by simp[zU,CC]at j5;exact j5.symm
   exact .inr ⟨q,this,rfl⟩
  |_=>exact .val (.of j5)
 |global g=>
  have:v=.g g 0:=by simpa[cq]using ah.symm
  subst this;exact .val (by simp[aJ])
 |func f=>
  have:v=.f f [] []:=by simpa[cq]using ah.symm
  subst this;exact .val (by simp only[aJ];exact⟨[],[],.nil,.nil,rfl⟩)
section
variable{D:bh}{F:Fr}{aj:a0 al}{xs:List Operand}
def eB.cR{v:al}(h:eB D (cB F x) v):∃ u,bi F x=.val u/\aJ D v u:=by
 unfold bi Go.V.cR;rcases h with⟨u,h,ah⟩ | ⟨q,rfl,h⟩
 ·rw[h];exact⟨u,rfl,ah⟩
 ·rw[h];exact⟨.bool q,rfl,by simp[aJ]⟩
def eB.tc{x:cF}{v:al}(h:eB D x v)(ah:∀ q,v≠.b q):∃ u,x=.val u/\aJ D v u:=by
 rcases h with h | ⟨q,h,_⟩
 ·exact h
 ·exact(ah q h).elim
def g4.bi(h:g4 D F aj xs)(ae:x∈xs){v:al}(ah:cq aj x=some v):∃ u,bi F x=.val u/\aJ D v u:=(h x ae v ah).cR
def g4.j2(h:g4 D F aj xs):∀ {l:List Operand} {vs:List al},(∀ x∈l,x∈xs)->lq aj l=some vs->∃ us,j2 F l=some us/\bm D vs us
 |[],vs,_,ah=>by simp only[lq]at ah;cases ah;exact⟨[],rfl,.nil⟩
 |x::l,vs,ay,ah=>by
  simp only[lq]at ah;split at ah;·rename_i v vs aa ab;cases ah;obtain⟨u,ax,aO⟩:=h.bi (ay x (by simp)) aa;obtain⟨us,aA,aP⟩:=g4.j2 h (λy aL=>ay y (by simp[aL])) ab;refine⟨u::us,?_,.cons aO aP⟩;show hI (cB F) (x::l)=_;rw[hI];have cL:cR (cB F) x=.val u:=ax;have dy:hI (cB F) l=some us:=aA;rw[cL,dy]
  ·cases ah
def g4.parts(h:g4 D F aj xs):∀ {l:List (Nat×Operand)} {vs:List (Nat×al)},(∀ x∈l.map (·.2),x∈xs)->zZ aj l=some vs->∃ us,wL F l=some us/\CQ D vs us
 |[],vs,_,ah=>by simp only[zZ]at ah;cases ah;exact⟨[],rfl,.nil⟩
 |(i,x)::l,vs,ay,ah=>by
  simp only[zZ]at ah;split at ah;·rename_i v vs aa ab;cases ah;obtain⟨u,ax,aO⟩:=h.bi (ay x (by simp)) aa;obtain⟨us,aA,aP⟩:=g4.parts h (λy aL=>ay y (by simp only[eh,dv];exact .inr aL)) ab;refine⟨(i,u)::us,?_,.cons aO aP⟩;show pH (cB F) ((i,x)::l)=_;rw[pH];have cL:cR (cB F) x=.val u:=ax;have dy:pH (cB F) l=some us:=aA;rw[cL,dy]
  ·cases ah
end
inductive nx(D:bh):List (al×al)->List MapEntry->Prop
 |nil:nx D [] []| cons {k v es e l} (af:aJ D k e.key) (ah:aJ D v e.val) (t:nx D es l):nx D ((k,v)::es) (e::l)
def fZ(n:Nat):Code->Bool
 | .seq x y=>fZ n x&&fZ n y| .block _ c=>fZ n c| .cond _ x y=>fZ n x&&fZ n y| .loop c=>fZ n c| .scope c=>fZ n c| .region _ ops _=>yP n ops| .rangeFunc _ ps dV body=>fZ n dV&&(fZ n body&&ps.toList.all λt=>Nat.blt t n)| _=>true
structure CR(D:bh)(busy:Bool)(n:Nat)(aj:a0 al)(ps:List Nat)(dV body:Code)(L:Loop):Prop where
 ap:L.state=bif busy then .busy else .ready
 mS:L.pending=none
 sz:L.tmps.size=n
 aj:∀ t v,aj.get t=some v->aJ D v (L.tmps.getD t undef)
 ps:L.params.toList=ps
 dV:L.assign=dV
 body:L.body=body
 xk:fZ n L.assign=true
 lH:fZ n L.body=true
 op:∀ t∈L.params.toList,t<n
inductive je(D:bh)(E:Env)(M:List aC)(a:Loc):ew->Prop
 |cells{cs:a0 al}{T d':Nat}(arr:Array Value)(an:a.o=0)(a5:(⟨a.b,.cells arr T (0,0)⟩:aC)∈M)(ay:a.o+d'<=arr.size)(aF:∀ i v,i<d'->cs.get i=some v->∃ x,arr[a.o+i]?=some x/\aJ D v x)(af:∀ i,E T=some i->arr.size=a.o+a.c*i.size)(hm:a.c<=maxLen):je D E M a (.cells cs T d')| map {es:List (al×al)} (l:List MapEntry) (clock:Nat) (a5:(⟨a.b,.map l.toArray clock⟩:aC)∈M) (he:nx D es l):je D E M a (.map es)| loop {busy n aj ps dV body} (L:Loop) (a5:(⟨a.b,.loop L⟩:aC)∈M) (cI:CR D busy n aj ps dV body L):je D E M a (.loop busy n aj ps dV body)| done {c n aj ps dV body} (L:Loop) (a5:(⟨a.b,.loop L⟩:aC)∈M) (aq:L.state=.done) (aH:L.pending=some c):je D E M a (.done c n aj ps dV body)
def nx.mono{D ba:bh}(cn:D.le ba){es:List (al×al)}{l:List MapEntry}(h:nx D es l):nx ba es l:=by
 induction h with
 |nil=>exact .nil| cons af ah t a8=>exact .cons (af.mono cn) (ah.mono cn) a8
def je.mono{D ba:bh}{M':List aC}{a:Loc}(cn:D.le ba)(a5:∀ x∈M,x.num=a.b->x∈M'){e:ew}(h:je D E M a e):je ba E M' a e:=by
 cases h with
 |cells arr au aa ab ai aQ bp=>exact .cells arr au (a5 _ aa rfl) ab (λi v hi aG=>by obtain⟨x,aO,aP⟩:=ai i v hi aG;exact⟨x,aO,aP.mono cn⟩) aQ bp| map l clock aa ab=>exact .map l clock (a5 _ aa rfl) (ab.mono cn)| loop L aa ab=>exact .loop L (a5 _ aa rfl) { ab with aj:=λt v az=>(ab.aj t v az).mono cn }| done L aa ab ai=>exact .done L (a5 _ aa rfl) ab ai
def CS(G:GT)(I:aN):Prop:=∀ g cs,G g=some cs->∃ (arr:Array Value) (T:Nat) (f:Nat×Nat),I g=some (.cells arr T f)/\∀ i v,cs.get i=some v->∃ x,arr[i]?=some x/\∀ D,aJ D v x
structure cm(Y:e2)(D:bh)(m:a9)(I:aN)(M:List aC):Prop where
 gQ:∀ id e a,m.t.get id=some e->D id=some a->je D Y.E M a e
 inj:∀ id gC e bc a bw,m.t.get id=some e->m.t.get gC=some bc->D id=some a->D gC=some bw->a.b=bw.b->id=gC
 hD:∀ id a,D id=some a->id<m.n
 nu:CS Y.G I
section
variable{Y:e2}{D:bh}{m:a9}{I:aN}{M:List aC}{R:Type}
def wj(h:cm Y D m I M){x:al}{u:Value}(ae:aJ D x u){n:Nat}{K:List al->Option R}{r:R}(ao:s8 Y.G m.t x n K=some r) :
  ∃ ad l vs,u=.pointer (some ad)/\ck I M ad n vs/\bm D l vs/\K l=some r:=by
 have key:∀ (arr:Array Value) (base off:Nat) (l:List al),l.length=n->base+off+n<=arr.size->(∀ i,i<n->∀ v,l[i]?=some v->∃ x,arr[base+off+i]?=some x/\aJ D v x) ->
   ((arr.toList.drop (base+off)).take n).length=n/\bm D l ((arr.toList.drop (base+off)).take n):=by
  intro arr base off l ay cc aG;have hlen:((arr.toList.drop (base+off)).take n).length=n:=by simp;omega
  refine⟨hlen,bm.K1 (by rw[hlen,ay]) λi v hi=>?_⟩;have gi:i<n:=by rw[<-ay];exact(h3.1 hi).1
  obtain⟨x,aa,ab⟩:=aG i gi v hi;refine⟨x,?_,ab⟩;rw[jY,cv gi,oE];simpa using aa
 unfold s8 at ao;split at ao
 ·rename_i id off;split at ao
  ·rename_i cs T d' aG;cases ag:Nat.ble (Nat.add off n) d' with
   |false=>rw[ag]at ao;cases ao
   |true=>
    rw[ag]at ao;have gF:off+n<=d':=bq ag;simp only[aZ]at ao;obtain⟨l,aa,ab,ai⟩:=a0.Aa cs n off K r ao;obtain⟨a,av,hu⟩:=ae.ptr;have he:=h.gQ _ _ _ aG av;obtain⟨arr,-,a5,ay,aF,-,-⟩:=he;obtain⟨dr,c4⟩:=key arr a.o off l aa (by omega) λi hi v ah=>by have:=aF (off+i) v (by omega) (by rw[ab i hi,ah]);rw[<-oF]at this;exact this
    exact⟨_,l,_,hu,⟨rfl,arr,T,(0,0),.inr ⟨_,a5,rfl,rfl⟩,rfl,dr⟩,c4,ai⟩
  ·cases ao
 ·rename_i g off;split at ao
  ·rename_i cs aG;obtain⟨l,aa,ab,ai⟩:=a0.Aa cs n off K r ao;obtain⟨arr,T,f,a',aF⟩:=h.nu _ _ aG;have hu:=ae.nu;have gg:∀ i,i<n->∀ v,l[i]?=some v->∃ x,arr[0+off+i]?=some x/\aJ D v x:=λi hi v ah=>by obtain⟨x,aO,aP⟩:=aF (off+i) v (by rw[ab i hi,ah]);exact⟨x,by simpa using aO,aP D⟩
   by_cases aw:n=0;·subst aw;have:l=[]:=lD aa;subst this;exact⟨_,[],[],hu,⟨rfl,arr,T,f,.inl a',by simp,rfl⟩,.nil,ai⟩
   ·have cc:0+off+n<=arr.size:=by
     have aU:n-1<l.length:=by omega
     obtain⟨x,aO,_⟩:=gg (n-1) (by omega) l[n-1] (iT aU);have:=(jx.1 aO).1;omega
    obtain⟨dr,c4⟩:=key arr 0 off l aa cc gg;simp only[dG]at dr c4;exact⟨_,l,_,hu,⟨rfl,arr,T,f,.inl a',rfl,dr⟩,c4,ai⟩
  ·cases ao
 ·cases ao
end
def abw{k:IntKind}(h:IntKind.j4 k cb=true):k=cb:=IntKind.yL h
def Gq(l m:List UInt8):decide ((⟨l.toArray⟩:ByteArray)=⟨m.toArray⟩)=decide (l=m):=by
 simp only[Ge];constructor
 ·intro h;simpa using h
 ·rintro rfl;rfl
def abx(a b:ByteArray):(a == b)=decide (a=b):=by
 rw[rL];simp only[eC];constructor
 ·intro h
  first | exact eq_of_beq h | exact pA (eq_of_beq (a:=a.data) (b:=b.data) h)
 ·rintro rfl
  first | exact As _ | exact As a.data
section
variable{P:Program}{E:Env}{D:bh}
def Gr(aI:cj P E){o:Nat}{l:List al}{x:al}(h:uL E t o l=some x){us:List Value}(ay:bm D l us):∃ u,aJ D x u/\∀ w,(part t us.toArray o).run P w=.ok u w:=by
 unfold uL at h;obtain⟨i,aa,h⟩:=bX h;obtain⟨au,h⟩:=wc h;have kB:i.size≠0:=λe=>by rw[e]at au;cases au
 obtain⟨r,ab,h⟩:=bX h;obtain⟨ax,aA⟩:=SD ab;rw[Gj]at ax;have hlen:=ay.len;subst ax;refine⟨_,Gn h ((ay.drop o).take _),λw=>?_⟩;have:=Hf (aI _ _ aa) (cs:=us.toArray) (off:=o) (by rw[kz,r9]at aA;simp;omega) w;simpa using this
def K5{F:Nat->al->al->Option Bool}{l m:List al}{α β:Type}{pl:α->Nat×Nat}{g:α->β->Sem (ForInStep β)}{fT s1:β}{w:World}:∀ (L:List α) {b:Bool},zY F E l m (L.map pl)=some b -> (∀ a∈L,∀ x y c,uL E (pl a).1 (pl a).2 l=some x->uL E (pl a).1 (pl a).2 m=some y->F (pl a).1 x y=some c->(g a fT).run P w=.ok (if c then .yield fT else .done s1) w) -> (forIn L fT g).run P w=.ok (if b then fT else s1) w
 |[],b,h,_=>by cases h;simp[ch]
 |a::L,b,h,aG=>by
  simp only[eh]at h;unfold zY at h;obtain⟨x,aa,h⟩:=bX h;obtain⟨y,ab,h⟩:=bX h;obtain⟨c,ai,h⟩:=bX h;simp only[List.forIn_cons,bH];rw[aG a (by simp) x y c aa ab ai];rw[iw]at h;cases c with
  |true=>simp only[pE,bx];exact K5 L h λbw av=>aG bw (by simp[av])
  |false=>cases h;simp[bx,ch]
def K6(aI:cj P E):∀ (d:Nat) {t:Nat} {x y:al} {b:Bool} {u v:Value},ru P E d t x y=some b->aJ D x u->aJ D y v->∀ n,d<=n->∀ w,(Op.equalIn n t u v).run P w=.ok b w
 |0,t,x,y,b,u,v,h,ae,aL,n,aw,w=>by cases h
 |d+1,t,x,y,b,u,v,h,ae,aL,0,aw,w=>by omega
 |d+1,t,x,y,b,u,v,h,ae,aL,n+1,aw,w=>by
  unfold ru at h;obtain⟨i,hi,h⟩:=bX h;obtain⟨pW,ev,kY⟩:=(aI _ _ hi).ep;rw[Op.equalIn];simp only[bH,run_underlying ev,bx];split at h
  ·rename_i a bw aq _;cases h;have aO:pW=.bool:=by cases pW<;>simp_all[ek]
   subst aO;rw[ae.bool,aL.bool];rfl
  ·rename_i cb k a c4 bw aq _;obtain⟨ax,h⟩:=e3 h;cases h;have aO:pW=.int cb:=by cases pW<;>simp_all[ek]
   subst aO;rw[ae.int,aL.int];rw[abw ax];have ag:(a == bw)=l2 a bw:=by
    rw[we];by_cases e:a=bw;·subst e;simp
    ·simp[e]
   simp[ag]
  ·rename_i a bw aq _;cases h;have aO:pW=.string:=by cases pW<;>simp_all[ek]
   subst aO;rw[ae.str,aL.str];show Result.ok _ _=_;rw[yh,<-Gq];congr 1;exact abx _ _
  ·rename_i bK l m aq _;obtain⟨ax,h⟩:=e3 h;unfold Ko at ax;rw[ev]at ax;cases pW with
   |struct fields=>
    simp only[bG,mK,gR,eC]at ax;obtain⟨ax,aA⟩:=ax;rw[aq]at kY;simp only[ek,Ay.struct.injEq]at kY;subst kY;obtain⟨us,aa,rfl⟩:=ae.agg;obtain⟨ws,ab,rfl⟩:=aL.agg;simp only[bH,run_program,bx,ax,iL,jz];rw[<-Array.forIn_toList];rw[K5 (P:=P) (s1:=⟨some false,⟨⟩⟩) fields.toList h (λf aD x y c sT qj aF=>by
     obtain⟨p,dr,c4⟩:=Gr aI sT aa;obtain⟨q,fy,kF⟩:=Gr aI qj ab;have aK:=K6 aI d aF dr fy n (by omega) w;simp only[aA f aD,pE,ne_eq,not_false_eq_true,bH,c4,kF,bx,aK];cases c<;>simp[ch])]
    cases b<;>simp[bx,ch]
   |_=>cases ax
  ·rename_i len e l m aq _;obtain⟨aE,fS,h⟩:=bX h;have aO:pW=.array len e:=by cases pW<;>simp_all[ek]
   subst aO;obtain⟨us,aa,rfl⟩:=ae.agg;obtain⟨ws,ab,rfl⟩:=aL.agg;simp only[bH,(aI _ _ fS).run_sizeOf,bx,Nh];have ao:List.range' 0 ([:len]:Std.Legacy.Range).size=List.range len:=by simp[Std.Legacy.Range.size,G0]
   rw[ao];rw[K5 (P:=P) (s1:=⟨some false,⟨⟩⟩) (List.range len) h (λf aD x y c sT qj aF=>by
    obtain⟨p,dr,c4⟩:=Gr aI sT aa;obtain⟨q,fy,kF⟩:=Gr aI qj ab;have aK:=K6 aI d aF dr fy n (by omega) w;simp only[bH,c4,kF,bx,aK];cases c<;>simp[ch])]
   cases b<;>simp[bx,ch]
  ·cases h
end
section
variable{X:b'}{D:bh}
def SF(aI:cj X.P X.E){op:BinOp}{l m:List al}{v:al}{us ws:List Value}(h:CD X.P X.E op t l m=some v)(ay:bm D l us)(hm:bm D m ws)(af:∀ u,aJ D v u->K u) :
  fk X.P op t x y (.val (.agg us.toArray)) (.val (.agg ws.toArray)) K O:=by
 unfold CD at h;obtain⟨aG,h⟩:=wc h;obtain⟨b,aa,h⟩:=bX h;have aK:=K6 (D:=D) aI 8 aa (u:=.agg us.toArray) (v:=.agg ws.toArray) (by simp only[aJ];exact⟨us,ay,rfl⟩) (by simp only[aJ];exact⟨ws,hm,rfl⟩) Op.maxDepth (by decide);split at h
 ·cases h;refine .mk _ _ _ rfl rfl (λw=>?_) (af _ (by simp only[aJ];rfl));simp only[bH,run_eqGuard_agg (hm:=aG),bx,binOp,Op.equal,aK,ch]
 ·cases h;refine .mk _ _ _ rfl rfl (λw=>?_) (af _ (by simp only[aJ];rfl));simp only[bH,run_eqGuard_agg (hm:=aG),bx,binOp,Op.equal,aK,ch]
 ·cases h
end
abbrev cO(X:b')(G:GT)(pr:js):e2:=⟨X.P,X.E,G,pr⟩
section
variable{X:b'}{G:GT}{pr:js}{D:bh}{m:a9}{F:Fr}{aj:a0 al}{C:cG}{I:aN}{M:List aC}{V:cF->Prop}{O:Prop}
def l5{a b:α}(h:some a=some b):a=b:=by cases h;rfl
def aby{op:BinOp}{k:IntKind}{a b:Int}{v:al}(h:Kl op k cb a b=some v)(af:∀ u,aJ D v u->K u):jg op cP (.val (.int k a)) (.val (.int cb b)) K O:=by
 have mk:∀ {q:al} {u:Value},some q=some v->aJ D q u->K u:=λe hu=>af _ (l5 e ▸ hu);unfold Kl at h;split at h
 ·split at h
  ·rename_i j;refine⟨j,rfl,⟨_,rfl,mk h ?_⟩⟩;simp only[aJ];rw[wg,abt,iw,SB]
  ·cases h
 ·split at h
  ·rename_i j;refine⟨j,rfl,mk h ?_⟩;simp only[aJ];rw[abu,iw,SB]
  ·cases h
 all_goals obtain⟨aK,h⟩:=e3 h
 all_goals simp only[jg,aK,aZ]
 ·exact⟨_,rfl,mk h (by simp only[aJ];rw[wg,abn])⟩
 ·exact⟨_,rfl,mk h (by simp only[aJ];rw[wg,abo])⟩
 ·exact⟨_,rfl,mk h (by simp only[aJ];rw[wg,abp])⟩
 ·obtain⟨au,h⟩:=wc h;refine⟨λe=>?_,_,rfl,mk h (by simp only[aJ];rw[wg,abq])⟩;rw[we,e]at au;simp at au
 ·obtain⟨au,h⟩:=wc h;refine⟨λe=>?_,mk h (by simp only[aJ];rw[abr])⟩;rw[we,e]at au;simp at au
 ·obtain⟨r,ao,h⟩:=bX h;rw[Gh ao];exact mk h (by simp only[aJ])
 ·obtain⟨r,ao,h⟩:=bX h;rw[Gh ao];exact mk h (by simp only[aJ])
 ·obtain⟨r,ao,h⟩:=bX h;rw[Gh ao];exact mk h (by simp only[aJ])
 ·obtain⟨r,ao,h⟩:=bX h;rw[Gh ao];exact mk h (by simp only[aJ])
 ·obtain⟨r,ao,h⟩:=bX h;rw[abm]at ao;have ah:v=.b r:=(l5 h).symm;subst ah;have iJ:K (.bool r):=af _ (by simp only[aJ]);cases op<;>first
   |contradiction|(rw[ao];exact iJ)
def K7(b:Bool):bB b false true=!b:=by cases b<;>rfl
def abz{op:BinOp}{a b:List UInt8}{v:al}(h:Km op a b=some v)(af:∀ u,aJ D v u->K u) :
  jg op cP (.val (.string ⟨a.toArray⟩)) (.val (.string ⟨b.toArray⟩)) K (fk P op t x y (.val (.string ⟨a.toArray⟩)) (.val (.string ⟨b.toArray⟩)) K O):=by
 unfold Km at h;split at h
 ·cases h;refine af _ ?_;simp only[aJ];rw[Gq,yh]
 ·cases h;refine af _ ?_;simp only[aJ];rw[Gq,yh,K7]
 ·obtain⟨ay,h⟩:=e3 h;cases h;have nK:=bq ay;refine fk.concat (by simpa[ByteArray.size]using nK) (af _ ?_);simp only[aJ];congr 1
 ·cases h
def abA{op:BinOp}{a:Bool}{v:al}(h:Kn op cP a b=some v)(af:∀ u,aJ D v u->K u):jg op cP (.val (.bool a)) (.val (.bool b)) K O:=by
 unfold Kn at h;split at h
 ·split at h
  ·cases h;exact af _ (by simp only[aJ])
  ·cases h;exact af _ (by simp only[aJ])
  ·cases h
 ·cases h
def abB{x:al}(h:Kp x=some b){u:Value}(hu:aJ D x u):∃ a n c,u=.slice a n c/\b=a.isNone:=by
 cases x<;>simp only[Kp,g7,reduceCtorEq]at h<;>subst h<;>simp only[aJ]at hu
 ·exact⟨_,_,_,hu,rfl⟩
 ·obtain⟨a,-,hu⟩:=hu;exact⟨_,_,_,hu,rfl⟩
 ·obtain⟨a,-,-,hu⟩:=hu;exact⟨_,_,_,hu,rfl⟩
 ·exact⟨_,_,_,hu,rfl⟩
 ·obtain⟨a,c,hu⟩:=hu;exact⟨_,_,_,hu,rfl⟩
def abC{x:al}(h:Kq x=some b){u:Value}(hu:aJ D x u):∃ p,u=.pointer p/\b=p.isNone:=by
 cases x<;>simp only[Kq,g7,reduceCtorEq]at h<;>subst h<;>simp only[aJ]at hu
 ·exact⟨_,hu,rfl⟩
 ·obtain⟨a,-,hu⟩:=hu;exact⟨_,hu,rfl⟩
 ·exact⟨_,hu,rfl⟩
def abD{e:Nat}(h:P.underlying t=some (.slice e))(a:Option Addr)(n c:Nat)(w:World):(Op.equal t (.slice a n c) (.slice none 0 0)).run P w=.ok a.isNone w:=by
 have key:∀ d,(Op.equalIn (d+1) t (.slice a n c) (.slice none 0 0)).run P w=.ok a.isNone w:=λd=>by cases a<;>simp[Op.equalIn,run_underlying h]
 exact key 9999
def abE{e:Nat}(h:P.underlying t=some (.pointer e))(p:Option Addr)(w:World):(Op.equal t (.pointer p) (.pointer none)).run P w=.ok p.isNone w:=by
 have key:∀ d,(Op.equalIn (d+1) t (.pointer p) (.pointer none)).run P w=.ok p.isNone w:=λd=>by cases p<;>simp[Op.equalIn,run_underlying h]
 exact key 9999
def SG{op:BinOp}{v:al}{p q:Value}(aG:∀ w,op=.eql\/op=.neq->(eqGuard op t x y p q).run P w=.ok () w)(he:∀ w,(Op.equal t p q).run P w=.ok b w)(ag:∀ w,(binOp .eql t p q).run P w=.ok (.bool b) w)(aw:∀ w,(binOp .neq t p q).run P w=.ok (.bool (!b)) w)(h:FZ op b=some v)(af:∀ u,aJ D v u->K u):fk P op t x y (.val p) (.val q) K O:=by
 unfold FZ at h;split at h
 ·cases h;refine .mk p q (.bool b) rfl rfl (λw=>?_) (af _ (by simp only[aJ]));simp only[bH,aG w (.inl rfl),bx,ag w]
 ·cases h;refine .mk p q (.bool (!b)) rfl rfl (λw=>?_) (af _ (by simp only[aJ]));simp only[bH,aG w (.inr rfl),bx,aw w]
 ·cases h
def abF(aI:cj X.P X.E){op:BinOp}{x y v:al}{abG:Operand}{u:Value}(h:Kr X.P X.E op t x y=some v)(ae:aJ D x u)(aL:aJ D y w)(af:∀ u,aJ D v u->K u) :
  jg op (X.E t) (.val u) (.val w) K (fk X.P op t nt abG (.val u) (.val w) K O):=by
 unfold Kr at h;split at h
 ·rw[ae.int,aL.int];exact aby h af
 ·rw[ae.str,aL.str];exact abz h af
 ·rw[ae.bool,aL.bool];exact abA h af
 ·obtain⟨us,aa,rfl⟩:=ae.agg;obtain⟨ws,ab,rfl⟩:=aL.agg;exact SF aI h aa ab af
 ·obtain⟨i,hi,h⟩:=bX h;split at h
  ·rename_i e kY;obtain⟨b,aa,h⟩:=bX h;obtain⟨a,n,c,rfl,rfl⟩:=abB aa ae;simp only[aJ]at aL;subst aL;obtain⟨d,ev,eQ⟩:=(aI _ _ hi).ep;have ab:d=.slice e:=by rw[kY]at eQ;cases d<;>simp_all[ek]
   subst ab;have he:=abD ev a n c;exact SG (λw an=>by rcases an with rfl | rfl<;>(unfold eqGuard;rfl)) he (λw=>by simp only[binOp];simp[he w]) (λw=>by simp only[binOp];simp[he w]) h af
  ·cases h
 ·obtain⟨i,hi,h⟩:=bX h;split at h
  ·rename_i e kY;obtain⟨b,aa,h⟩:=bX h;obtain⟨p,rfl,rfl⟩:=abC aa ae;simp only[aJ]at aL;subst aL;obtain⟨d,ev,eQ⟩:=(aI _ _ hi).ep;have ab:d=.pointer e:=by rw[kY]at eQ;cases d<;>simp_all[ek]
   subst ab;have he:=abE ev p;exact SG (λw an=>by rcases an with rfl | rfl<;>(unfold eqGuard;rfl)) he (λw=>by simp only[binOp];simp[he w]) (λw=>by simp only[binOp];simp[he w]) h af
  ·cases h
 ·cases h
variable(aI:cj X.P X.E)(hm:cm (cO X G pr) D m I M)
def Ab{v:al}{n:Nat}(h:v.nat=some n):∃ k,v=.i k (.ofNat n):=by
 unfold al.nat at h;split at h
 ·cases h;exact⟨_,rfl⟩
 ·cases h
def SH{x v:al}{n:Nat}{u:Value}(h:CE x n=some v)(ae:aJ D x u):∃ a,u=.pointer (some a)/\a.spot=none/\aJ D v (.pointer (some (a.add n))):=by
 unfold CE at h;split at h
 ·cases h;obtain⟨a,av,rfl⟩:=ae.ptr;refine⟨_,rfl,rfl,?_⟩;rw[dx _ rfl];simp only[aJ];exact⟨a,av,by simp only[wb,oF]⟩
 ·cases h;refine⟨_,ae.nu,rfl,?_⟩;rw[dx _ rfl];simp only[aJ];rfl
 ·cases h
def abH{x v:al}{u:Value}(h:F0 x j sz=some v)(ae:aJ D x u):∃ a n c,u=.slice (some a) n c/\j<n/\aJ D v (.pointer (some (a.add (j*sz)))):=by
 unfold F0 at h;split at h
 ·cases ag:Nat.blt j _ with
  |false=>rw[ag]at h;cases h| true=>rw[ag]at h;cases h;obtain⟨a,av,rfl⟩:=ae.pq;refine⟨_,_,_,rfl,bq ag,?_⟩;rw[dx _ rfl];simp only[aJ];exact⟨a,av,by simp only[wb,z9,oF]⟩
 ·cases ag:Nat.blt j _ with
  |false=>rw[ag]at h;cases h| true=>rw[ag]at h;cases h;obtain⟨a,av,_,rfl⟩:=ae.rC;refine⟨_,_,_,rfl,bq ag,?_⟩;rw[dx _ rfl];simp only[aJ];exact⟨a,av,by simp only[wb,z9,oF]⟩
 ·cases ag:Nat.blt j _ with
  |false=>rw[ag]at h;cases h| true=>rw[ag]at h;cases h;refine⟨_,_,_,ae.K2,bq ag,?_⟩;rw[dx _ rfl];simp only[aJ];rfl
 ·cases h
def SI{cs:List al}{v:al}{us:List Value}(h:F2 aE cs off=some v)(aF:bm D cs us) :
  off+aE.size<=us.length/\aJ D v (pack aE.bn.agg ((us.drop off).take aE.size)):=by
 unfold F2 at h;obtain⟨au,h⟩:=wc h;obtain⟨l,aa,ab⟩:=bX h;have kB:aE.size≠0:=λe=>by rw[e]at au;cases au
 obtain⟨rfl,ay⟩:=SD aa;rw[Gj]at ab ay;refine⟨?_,Gn ab ((aF.drop off).take _)⟩;have:=aF.len;simp at ay;omega
def SJ{i:Nat}{ft:dw}(h:F1 E t i=some (off,ft)):∃ a b z bK j3,E t=some ⟨a,b,z,.struct bK⟩/\bK[i]?=some (j3,off)/\E j3=some ft:=by
 unfold F1 at h;split at h
 ·rename_i a b z bK az;split at h
  ·rename_i j3 o aD;rw[wi]at aD;split at h
   ·rename_i f CT;cases h;exact⟨_,_,_,_,j3,az,aD,CT⟩
   ·cases h
  ·cases h
 ·cases h
def abI(h:Ku E t=some (r,aE)):(∃ a b z e,E t=some ⟨a,b,z,.slice e⟩/\E e=some aE/\r=none)\/∃ a b z n e,E t=some ⟨a,b,z,.array n e⟩/\E e=some aE/\r=some n:=by
 unfold Ku at h;split at h
 ·rename_i a b z e az;split at h
  ·cases h;exact .inl ⟨_,_,_,_,az,by assumption,rfl⟩
  ·cases h
 ·rename_i a b z n e az;split at h
  ·cases h;exact .inr ⟨_,_,_,_,_,az,by assumption,rfl⟩
  ·cases h
 ·cases h
def abJ{x i v:al}{u:Value}(h:CF X.E t (some x) (some i)=some v)(ae:aJ D x u)(hi:aJ D i w){ρ:Operand->cF}{eO:Operand}(K8:cR ρ nt=.val u)(gf:cR ρ eO=.val w)
  (k:∀ x,eB D x v->V x):bR X (.index t nt eO) ρ C I M V O:=by
 unfold CF at h;split at h
 ·rename_i l fj az aa ab;cases aa;cases ab;obtain⟨j,ar,h⟩:=bX h;obtain⟨eE,rfl⟩:=Ab ar;have eK:Kv l j=some v:=h;unfold Kv at eK;obtain⟨b,ag,c8⟩:=bX eK;cases c8;rw[wi]at ag;rw[ae.str]at K8;rw[hi.int]at gf;have aU:=(h3.1 ag).1;simp only[bR,az,K8,gf];refine⟨j,rfl,by simpa[ByteArray.size]using aU,k _ (.val ?_)⟩;simp only[aJ];have:(⟨l.toArray⟩:ByteArray)[j]'(by simpa[ByteArray.size]using aU)=b:=by have:=(h3.1 ag).2;show l.toArray[j]'_=b;simpa using this
  rw[this];rfl
 ·rename_i n e cs fj az aa ab;cases aa;cases ab;obtain⟨aE,he,h⟩:=bX h;obtain⟨j,ar,h⟩:=bX h;obtain⟨eE,rfl⟩:=Ab ar;obtain⟨us,ey,rfl⟩:=ae.agg;unfold R5 at h;obtain⟨ag,h⟩:=e3 h;rw[bG]at ag;obtain⟨ai,aQ⟩:=SI h ey;rw[hi.int]at gf;simp only[bR,az,K8,gf,he];have cc:Nat.beq (n*aE.size) us.toArray.size=true:=by have bp:=bV ag.1;rw[qA,ey.len,<-bp];exact nG _
  rw[cc];simp only[aZ];exact⟨j,rfl,bq ag.2,k _ (.val aQ)⟩
 ·cases h
def abK{x v:al}{l:Nat}{h:Option Nat}{u:Value}(aq:Ks x sz l h=some v)(ae:aJ D x u):∃ a n c,u=.slice a n c/\l<=h.getD n/\h.getD n<=c/\(h=none->l<=n) /\
  aJ D v (.slice (if c=l then a else a.map (·.add (l*sz))) (h.getD n-l) (c-l)):=by
 unfold Ks at aq;split at aq
 ·cases ag:(Nat.beq l 0&&Nat.beq (h.getD 0) 0)with
  |false=>rw[ag]at aq;cases aq| true=>rw[ag]at aq;cases aq;rw[bG]at ag;have aa:=bV ag.1;have ab:=bV ag.2;subst aa;refine⟨none,0,0,ae.yi,by omega,by omega,λ_=>by omega,?_⟩;rw[ab];simp[aJ]
 ·rename_i id off n c;obtain⟨a,av,rfl⟩:=ae.pq;simp only at aq;cases ag:(Nat.ble l (h.getD n)&&Nat.ble (h.getD n) c)with
  |false=>rw[ag]at aq;cases aq
  |true=>
   rw[ag]at aq;simp only[aZ]at aq;rw[bG]at ag;have aa:=bq ag.1;have ab:=bq ag.2;refine⟨_,n,c,rfl,aa,ab,λe=>by subst e;exact aa,?_⟩;rw[K0]at aq;by_cases e:c=l;·subst e;simp only[decide_true,aZ]at aq;cases aq;simp only[pE,aJ];exact⟨a,av,by simp only[z',vX]⟩
   ·simp only[e,decide_false,aY]at aq;cases aq;simp only[e,jz,aJ,iz];refine⟨a,av,?_⟩;rw[dx _ rfl];simp only[wb,z9,z',oF]
 ·rename_i id off e n;obtain⟨a,av,hle,rfl⟩:=ae.rC;simp only at aq;cases ag:(Nat.ble l (h.getD n)&&Nat.ble (h.getD n) n)with
  |false=>rw[ag]at aq;cases aq
  |true=>
   rw[ag]at aq;simp only[aZ]at aq;rw[bG]at ag;have aa:=bq ag.1;have ab:=bq ag.2;refine⟨_,n,a.c-e,rfl,aa,by omega,λe=>by subst e;exact aa,?_⟩;cases aF:(Nat.beq l 0||Nat.blt l n)with
   |true=>
    rw[aF]at aq;simp only[aZ]at aq;cases aq;rw[ku]at aF;simp only[aJ];refine⟨a,av,by simp only[wb,z'];omega,?_⟩;have ai:a.c-e-l=a.c-(e+l):=by omega
    by_cases au:l=0
    ·subst au;simp only[A7,hn,iz,wb,z9,z',pC];split
     ·rfl
     ·rw[dx _ rfl];simp
    ·have aQ:l<n:=by
      rcases aF with aF | aF;·exact absurd (bV aF) au
      ·exact bq aF
     rw[b7 (by omega)];simp only[iz];rw[dx _ rfl];simp only[wb,z9,z',oF,ai]
   |false=>
    rw[aF]at aq;simp only[aY]at aq;cases aq;rw[nU]at aF;have aQ:¬ l<n:=λaU=>by have:=ud (show l.succ<=n from aU);rw[show Nat.blt l n=Nat.ble l.succ n from rfl,this]at aF;cases aF.2
    have bp:h.getD n-l=0:=by omega
    simp only[aJ,bp];split;·exact⟨_,_,rfl⟩
    ·exact⟨_,_,rfl⟩
 ·cases aq
end
section
variable{X:b'}{G:GT}{pr:js}{D:bh}{m:a9}{F:Fr}{aj:a0 al}{C:cG}{I:aN}{M:List aC}{V:cF->Prop}{O:Prop}
def abL(c:Bool)(a b:Value):Dz c (.val a) (.val b)=.val (bif c then a else b):=by cases a<;>cases b<;>cases c<;>rfl
def SK{o:Option Operand}{xs:List Operand}(H:g4 D F aj xs)(ae:∀ y,o=some y->y∈xs)(h:yb (o.map (cq aj))=some r) :
  (o.map (cR (cB F))=none/\r=none)\/∃ k n,o.map (cR (cB F))=some (.val (.int k (Int.ofNat n)))/\r=some n:=by
 cases o with
 |none=>simp[yb]at h;exact .inl ⟨rfl,h.symm⟩
 |some y=>
  simp only[iz,yb]at h;cases ah:cq aj y with
  |none=>rw[ah]at h;cases h
  |some v=>
   rw[ah]at h;simp only at h;split at h;·rename_i n aw;cases h;obtain⟨k,rfl⟩:=Ab aw;obtain⟨u,hu,ao⟩:=H.bi (ae y rfl) ah;rw[ao.int]at hu;exact .inr ⟨k,n,by simp only[iz];exact congrArg some hu,rfl⟩
   ·cases h
def K9(l:List UInt8)(lo hi:Nat):(⟨(Kt l lo hi).toArray⟩:ByteArray)=(⟨l.toArray⟩:ByteArray).extract lo hi:=by apply pA;apply fa;unfold Kt;rw[Gj];simp[uY,List.extract_eq_take_drop]
def abM{v:al}{n:Nat}{u:Value}(h:s9 v=some n)(ah:aJ D v u):∃ a c,u=.slice a n c:=by
 unfold s9 at h;split at h
 ·cases h;exact⟨_,_,ah.yi⟩
 ·cases h;obtain⟨a,c,rfl⟩:=ah.Gk;exact⟨_,_,rfl⟩
 ·cases h;obtain⟨a,_,rfl⟩:=ah.pq;exact⟨_,_,rfl⟩
 ·cases h;obtain⟨a,_,_,rfl⟩:=ah.rC;exact⟨_,_,rfl⟩
 ·cases h;exact⟨_,_,ah.K2⟩
 ·cases h
def abN(aI:cj X.P X.E){b:Builtin}{dN:Array TypeId}{v:al}(h:Ky X.E b dN.toList (lq aj args.toList)=some v)(H:g4 D F aj args.toList)(k:∀ x,eB D x v->V x) :
  bR X (.call { callee:=.builtin b,args:=args,argTypes:=dN }) (cB F) C I M V O:=by
 unfold Ky at h;split at h
 ·
  unfold R' at h;split at h
  ·rename_i t w az ay;obtain⟨us,ax,aO⟩:=H.j2 (λ_ h=>h) ay;obtain⟨u,xs,aP,br,rfl⟩:=aO.ix;have:=br.kU;subst this;have cL:hI (cB F) args.toList=some [u]:=ax;simp only[bR,az,cL];split at h
   ·rename_i a b z e ov lB;unfold F3 at h;obtain⟨n,aw,h⟩:=bX h;have c8:some (al.i .i64 (.ofNat n))=some v:=h;cases c8;obtain⟨bw,c,rfl⟩:=abM aw aP;simp only[lB];exact k _ (.val (by simp only[aJ];rfl))
   ·rename_i a b z l lB;cases h;rw[aP.str];simp only[lB];refine k _ (.val ?_);simp only[aJ];simp[ByteArray.size]
   ·rename_i a b z n e ov lB;cases h;cases u<;>(simp only[lB];exact k _ (.val (by simp only[aJ];rfl)))
   ·cases h
  ·cases h
 ·unfold Sa at h;split at h
  ·rename_i dr a c4 b ay;obtain⟨us,ax,aO⟩:=H.j2 (λ_ h=>h) ay;obtain⟨u,xs,aP,br,rfl⟩:=aO.ix;obtain⟨w,km,eW,mj,rfl⟩:=br.ix;have:=mj.kU;subst this;have cL:hI (cB F) args.toList=some [u,w]:=ax;rw[aP.int,eW.int]at cL;simp only[bR,cL];cases h;refine k _ (.val ?_);simp only[aJ];rw[iw,Gg];by_cases ij:a<=b
   ·simp[ij];omega
   ·simp[ij];omega
  ·cases h
 ·unfold Sb at h;split at h
  ·rename_i dr a c4 b ay;obtain⟨us,ax,aO⟩:=H.j2 (λ_ h=>h) ay;obtain⟨u,xs,aP,br,rfl⟩:=aO.ix;obtain⟨w,km,eW,mj,rfl⟩:=br.ix;have:=mj.kU;subst this;have cL:hI (cB F) args.toList=some [u,w]:=ax;rw[aP.int,eW.int]at cL;simp only[bR,cL];cases h;refine k _ (.val ?_);simp only[aJ];rw[iw,Gg];by_cases ij:a<=b
   ·simp[ij];omega
   ·simp[ij];omega
  ·cases h
 ·unfold Sc at h;split at h
  ·rename_i t id off n c az ay;split at h
   ·rename_i a b z e lB;cases h;obtain⟨us,ax,aO⟩:=H.j2 (λ_ h=>h) ay;obtain⟨u,xs,aP,br,rfl⟩:=aO.ix;have:=br.kU;subst this;obtain⟨bw,av,rfl⟩:=aP.pq;have cL:hI (cB F) args.toList=some [_]:=ax;simp only[bR,az,cL,lB];exact k _ (.val (by simp only[aJ];rfl))
   ·cases h
  ·cases h
 ·unfold Sd at h;split at h
  ·rename_i ay;cases h;obtain⟨us,ax,aO⟩:=H.j2 (λ_ h=>h) ay;obtain⟨u,xs,aP,br,rfl⟩:=aO.ix;have:=br.kU;subst this;rw[aP.yi]at ax;have cL:hI (cB F) args.toList=some [_]:=ax;simp only[bR,cL];exact k _ (.val (by simp only[aJ]))
  ·rename_i id off n c ay;obtain⟨au,h⟩:=wc h;cases h;obtain⟨us,ax,aO⟩:=H.j2 (λ_ h=>h) ay;obtain⟨u,xs,aP,br,rfl⟩:=aO.ix;have:=br.kU;subst this;obtain⟨bw,av,rfl⟩:=aP.pq;have cL:hI (cB F) args.toList=some [_]:=ax;simp only[bR,cL];refine⟨λe=>?_,k _ (.val ?_)⟩
   ·have:c=0:=by omega
    subst this;cases au
   ·simp only[aJ];exact⟨bw,av,rfl⟩
  ·rename_i id off e n ay;obtain⟨au,h⟩:=wc h;cases h;obtain⟨us,ax,aO⟩:=H.j2 (λ_ h=>h) ay;obtain⟨u,xs,aP,br,rfl⟩:=aO.ix;have:=br.kU;subst this;obtain⟨bw,av,hle,rfl⟩:=aP.rC;have cL:hI (cB F) args.toList=some [_]:=ax;simp only[bR,cL];refine⟨λbc=>?_,k _ (.val ?_)⟩
   ·have:n=0:=by omega
    subst this;cases au
   ·simp only[aJ];exact⟨bw,av,rfl⟩
  ·cases h
 ·cases h
def abO(aI:cj X.P X.E){op:Op}{v:al}(h:Kz X.P X.E G m.t op aj=some v)(H:g4 D F aj op.operands.toList)(hm:cm (cO X G pr) D m I M)(k:∀ x,eB D x v->V x):bR X op (cB F) C I M V O:=by
 unfold Kz at h;split at h
 ·
  exact k _ (H _ (by simp[Op.operands]) _ h)
 ·exact k _ (H _ (by simp[Op.operands]) _ h)
 ·
  rename_i c a b;unfold RX at h;split at h
  ·rename_i q u w aa ab ai;cases h;have aF:=H c (by simp[Op.operands]) _ aa;have av:=H a (by simp[Op.operands]) _ ab;have ag:=H b (by simp[Op.operands]) _ ai;simp only[bR];rcases aF with⟨agW,Gs,aF⟩ | ⟨c7,bc,Gs⟩
   ·rw[aF.bool]at Gs;simp only[Gs];obtain⟨K',qh,abP⟩:=av.cR;obtain⟨Cc,Ce,b1⟩:=ag.cR;have abQ:cR (cB F) a=.val K':=qh;have abR:cR (cB F) b=.val Cc:=Ce;rw[abQ,abR];refine k _ (.inl ⟨bif q then K' else Cc,?_,?_⟩)
    ·exact abL q K' Cc
    ·cases q
     ·exact b1
     ·exact abP
   ·cases bc;simp only[Gs];cases q
    ·exact k _ ag
    ·exact k _ av
  ·cases h
 ·
  rename_i agX t x;unfold RY at h;split at h
  ·rename_i b aa;cases h;have ae:=H x (by simp[Op.operands]) _ aa;simp only[bR];rcases ae with⟨u,e,hu⟩ | ⟨q,ax,e⟩
   ·rw[hu.bool]at e;simp only[e];exact k _ (.val (by simp only[aJ];rw[K7]))
   ·cases ax;simp only[e];exact k _ (.inr ⟨!b,by rw[K7],rfl⟩)
  ·rename_i eE n aa;cases h;have ae:=H x (by simp[Op.operands]) _ aa;obtain⟨u,e,hu⟩:=ae.tc (by simp);rw[hu.int]at e;simp only[bR,e];exact⟨_,rfl,k _ (.val (by simp only[aJ];rw[wg]))⟩
  ·cases h
 ·
  rename_i agY t x y dU;unfold RZ at h;obtain⟨a,aa,h⟩:=bX h;obtain⟨b,ab,h⟩:=bX h;obtain⟨u,ax,aO⟩:=H.bi (x:=x) (by simp[Op.operands]) aa;obtain⟨w,aA,aP⟩:=H.bi (x:=y) (by simp[Op.operands]) ab;have cL:cR (cB F) x=.val u:=ax;have dy:cR (cB F) y=.val w:=aA;simp only[bR,cL,dy];exact abF aI h aO aP λr ao=>k _ (.val ao)
 ·
  rename_i t x;unfold R0 at h;obtain⟨i,hi,h⟩:=bX h;obtain⟨a,aa,h⟩:=bX h;have ae:=H x (by simp[Op.operands]) _ aa;have uQ:∀ q,a≠.b q:=λq e=>by subst e;cases h
  obtain⟨u,ax,aO⟩:=ae.tc uQ;obtain⟨ad,l,vs,rfl,bD,ay,aH⟩:=wj hm aO h;simp only[bR,hi,ax];exact⟨vs,bD,k _ (.val (Gn aH ay))⟩
 ·
  rename_i x;unfold R1 at h;split at h;·rename_i id off aa;cases h;obtain⟨u,ax,aO⟩:=(H x (by simp[Op.operands]) _ aa).tc (by simp);obtain⟨a,av,rfl⟩:=aO.ptr;simp only[bR,ax];exact k _ (.val aO)
  ·rename_i id off aa;cases h;obtain⟨u,ax,aO⟩:=(H x (by simp[Op.operands]) _ aa).tc (by simp);have:=aO.nu;subst this;simp only[bR,ax];exact k _ (.val aO)
  ·cases h
 ·
  rename_i t x i;unfold R2 at h;obtain⟨r,ao,h⟩:=bX h;obtain⟨a,aa,h⟩:=bX h;obtain⟨off,ft⟩:=r;obtain⟨bd,h⟩:=wc h;obtain⟨sa,pt,sz,bK,j3,az,aD,CT⟩:=SJ ao;have ae:=H x (by simp[Op.operands]) _ aa;have uQ:∀ q,a≠.b q:=λq e=>by subst e;cases h
  obtain⟨u,ax,aO⟩:=ae.tc uQ;obtain⟨ad,rfl,aq,ah⟩:=SH h aO;have iC:Nat.beq ft.size 0=false:=bd;simp only[bR,az,aD,CT,ax,iC,aY];exact k _ (.val ah)
 ·
  rename_i t x i;unfold R3 at h;split at h;·rename_i off ft cs au aa;obtain⟨sa,pt,sz,bK,j3,az,aD,CT⟩:=SJ au;obtain⟨u,ax,aO⟩:=H.bi (x:=x) (by simp[Op.operands]) aa;obtain⟨us,ey,rfl⟩:=aO.agg;obtain⟨ab,ai⟩:=SI h ey;have cL:cR (cB F) x=.val (.agg us.toArray):=ax;simp only[bR,az,cL,aD,CT];rw[show Nat.ble (off+ft.size) us.toArray.size=true from ud (by simpa using ab)];exact k _ (.val ai)
  ·cases h
 ·
  rename_i t x i;unfold R4 at h;obtain⟨r,ao,h⟩:=bX h;obtain⟨a,aa,h⟩:=bX h;obtain⟨b,ab,h⟩:=bX h;obtain⟨j,ar,h⟩:=bX h;obtain⟨eE,rfl⟩:=Ab ar;obtain⟨u,aA,aP⟩:=H.bi (x:=i) (by simp[Op.operands]) ab;rw[aP.int]at aA;have dy:cR (cB F) i=.val (.int eE (.ofNat j)):=aA;obtain⟨Ju,aE⟩:=r;rcases abI ao with⟨sa,pt,sz,e,az,he,rfl⟩ | ⟨sa,pt,sz,n,e,az,he,rfl⟩;·have bf:F0 a j aE.size=some v:=h;obtain⟨w,ax,aO⟩:=H.bi (x:=x) (by simp[Op.operands]) aa;obtain⟨ad,n,c,rfl,aU,ah⟩:=abH bf aO;have cL:cR (cB F) x=.val (.slice (some ad) n c):=ax;simp only[bR,az,dy,he,cL];exact⟨ad,j,rfl,rfl,aU,k _ (.val ah)⟩
  ·have bf:bB (Nat.blt j n) (CE a (Nat.mul j aE.size)) none=some v:=h;obtain⟨ag,bf⟩:=e3 bf;have ae:=H x (by simp[Op.operands]) _ aa;have uQ:∀ q,a≠.b q:=λq e=>by subst e;cases bf
   obtain⟨w,ax,aO⟩:=ae.tc uQ;obtain⟨ad,rfl,aq,ah⟩:=SH bf aO;simp only[bR,az,dy,he,ax];exact⟨j,rfl,bq ag,k _ (.val ah)⟩
 ·
  rename_i t x i;cases aa:cq aj x with
  |none=>rw[aa]at h;unfold CF at h;split at h<;>first | cases h | (rename_i e _;cases e)
  |some a=>
   cases ab:cq aj i with
   |none=>rw[ab]at h;unfold CF at h;split at h<;>first | cases h | (rename_i e;cases e)
   |some b=>rw[aa,ab]at h;obtain⟨u,ax,aO⟩:=H.bi (x:=x) (by simp[Op.operands]) aa;obtain⟨w,aA,aP⟩:=H.bi (x:=i) (by simp[Op.operands]) ab;exact abJ h aO aP ax aA k
 ·
  rename_i t parts;unfold R6 at h;split at h
  ·rename_i i vs az aH;obtain⟨z,bd,h⟩:=bX h;have iC:=bm.x7 (D:=D) bd;obtain⟨us,ax,aO⟩:=H.parts (l:=parts.toList) (by intro y aL;simpa[Op.operands]using aL) aH;have cL:pH (cB F) parts.toList=some us:=ax
   try simp only at h
   split at h;·rename_i bK kY;obtain⟨ss,h⟩:=e3 h;unfold CG at h;obtain⟨cs,ai,aQ⟩:=bX h;have c8:some (al.a cs)=some v:=aQ;cases c8;obtain⟨a3,bp,bM⟩:=Gp ai iC aO;simp only[bR,az,cL,kY,ss,aZ,bp];exact k _ (.val (.Gl bM))
   ·rename_i n e kY;obtain⟨aE,he,h⟩:=bX h;have bf:CG (v9 (λj=>some (j*aE.size,aE.size)) z vs)=some v:=h;unfold CG at bf;obtain⟨cs,ai,aQ⟩:=bX bf;have c8:some (al.a cs)=some v:=aQ;cases c8;obtain⟨a3,bp,bM⟩:=Gp ai iC aO;simp only[bR,az,cL,kY,he,bp];exact k _ (.val (.Gl bM))
   ·cases h
  ·cases h
 ·
  rename_i f first captured
  unfold R7 at h;split at h
  ·rename_i g bK cs aa ab;cases h;obtain⟨us,ax,aO⟩:=H.j2 (l:=first.toList) (by intro y aL;simp[Op.operands];exact .inl (by simpa using aL)) aa;obtain⟨ws,aA,aP⟩:=H.j2 (l:=captured.toList) (by intro y aL;simp[Op.operands];exact .inr (by simpa using aL)) ab;have cL:hI (cB F) first.toList=some us:=ax
   have dy:hI (cB F) captured.toList=some ws:=aA;simp only[bR,cL,dy];exact k _ (.val (by simp only[aJ];exact⟨us,ws,aO,aP,rfl⟩))
  ·cases h
 ·
  rename_i t x lo hi;cases aa:cq aj x with
  |none=>rw[aa]at h;unfold CH at h;split at h<;>first | cases h | (rename_i e _ _;cases e)
  |some a=>
   rw[aa]at h;cases ab:yb (lo.map (cq aj))with
   |none=>rw[ab]at h;unfold CH at h;split at h<;>first | cases h | (rename_i e _;cases e)
   |some l=>
    rw[ab]at h;cases ai:yb (hi.map (cq aj))with
    |none=>rw[ai]at h;unfold CH at h;split at h<;>first | cases h | (rename_i e;cases e)
    |some a4=>
     rw[ai]at h;obtain⟨u,ax,aO⟩:=H.bi (x:=x) (by simp[Op.operands]) aa;have cL:cR (cB F) x=.val u:=ax;have dJ:=SK H (λy aL=>by subst aL;simp[Op.operands]) ab;have er:=SK H (λy aL=>by subst aL;simp[Op.operands]) ai;unfold CH at h;split at h
     ·rename_i sa pt sz e lA abS c6 az bj cp eX;cases bj;cases cp;cases eX;obtain⟨aE,he,h⟩:=bX h;have bf:Kw aE a l a4=some v:=h;unfold Kw at bf;split at bf
      ·have el:lo.map (cR (cB F))=none:=by
        rcases dJ with⟨el,_⟩ | ⟨_,_,_,el⟩;·exact el
        ·cases el
       have l6:hi.map (cR (cB F))=none:=by
        rcases er with⟨l6,_⟩ | ⟨_,_,_,l6⟩;·exact l6
        ·cases l6
       have ms:∃ q n c,u=.slice q n c/\aJ D v u:=by
        split at bf;·cases bf;exact⟨_,_,_,aO.yi,aO⟩
        ·cases bf;obtain⟨q,_,rfl⟩:=aO.pq;exact⟨_,_,_,rfl,aO⟩
        ·cases bf;obtain⟨q,_,_,rfl⟩:=aO.rC;exact⟨_,_,_,rfl,aO⟩
        ·cases bf;obtain⟨q,c,rfl⟩:=aO.Gk;exact⟨_,_,_,rfl,aO⟩
        ·cases bf
       obtain⟨q,n,c,rfl,ah⟩:=ms;simp only[bR,az,cL,he,el,l6];exact k _ (.val ah)
      ·obtain⟨q,n,c,rfl,ee,eH,kK,ah⟩:=abK bf aO;simp only[bR,az,cL,he];rcases dJ with⟨el,rfl⟩ | ⟨AH,CU,el,rfl⟩<;>rcases er with⟨l6,rfl⟩ | ⟨abT,CV,l6,rfl⟩<;>simp only[el,l6]
       ·rename_i bl;exact(bl rfl rfl).elim
       ·simp only[qB,jZ]at ee eH ah;refine⟨0,CV,rfl,rfl,bk _,eH,k _ (.val ?_)⟩;simp only[A7,hn]at ah;have bT:(if c=0 then q else q.map λx=>x.add 0)=q:=by
         split;·rfl
         ·cases q with
          |none=>rfl| some q=>simp[Addr.add]
        rw[bT]at ah;exact ah
       ·simp only[qB,jZ]at ee eH ah;exact⟨CU,n,rfl,rfl,ee,bS _,k _ (.val ah)⟩
       ·simp only[qB,jZ]at ee eH ah;exact⟨CU,CV,rfl,rfl,ee,eH,k _ (.val ah)⟩
     ·rename_i sa pt sz str abS c6 az bj cp eX;cases bj;cases cp;cases eX;rw[aO.str]at cL;have bf:Kx str l a4=some v:=h;unfold Kx at bf;split at bf
      ·have el:lo.map (cR (cB F))=none:=by
        rcases dJ with⟨el,_⟩ | ⟨_,_,_,el⟩;·exact el
        ·cases el
       have l6:hi.map (cR (cB F))=none:=by
        rcases er with⟨l6,_⟩ | ⟨_,_,_,l6⟩;·exact l6
        ·cases l6
       cases bf;simp only[bR,az,cL,el,l6];exact k _ (.val (by simp only[aJ]))
      ·obtain⟨ag,bf⟩:=e3 bf;cases bf;rw[bG]at ag;have cU:=bq ag.1;have b9:=bq ag.2;have cc:(⟨str.toArray⟩:ByteArray).size=str.length:=by simp[ByteArray.size]
       simp only[bR,az,cL];rcases dJ with⟨el,rfl⟩ | ⟨AH,CU,el,rfl⟩<;>rcases er with⟨l6,rfl⟩ | ⟨abT,CV,l6,rfl⟩<;>simp only[el,l6]
       ·rename_i bl;exact(bl rfl rfl).elim
       ·simp only[qB,jZ]at cU b9;exact⟨0,CV,rfl,rfl,bk _,by rw[cc];exact b9,k _ (.val (by simp only[aJ,qB,jZ,K9]))⟩
       ·simp only[qB,jZ]at cU b9;exact⟨CU,str.length,rfl,by rw[cc];rfl,cU,by rw[cc];exact bS _,k _ (.val (by simp only[aJ,qB,jZ,K9,cc]))⟩
       ·simp only[qB,jZ]at cU b9;exact⟨CU,CV,rfl,rfl,cU,by rw[cc];exact b9,k _ (.val (by simp only[aJ,qB,jZ,K9]))⟩
     ·cases h
 ·
  rename_i x i;unfold R8 at h;split at h;·rename_i vs aa;obtain⟨u,ax,aO⟩:=H.bi (x:=x) (by simp[Op.operands]) aa;obtain⟨us,ey,rfl⟩:=aO.K3;rw[wi]at h;obtain⟨w,hw,ah⟩:=ey.get h;have cL:cR (cB F) x=.val (.tuple us.toArray):=ax;simp only[bR,cL,hw];exact k _ (.val ah)
  ·cases h
 ·
  rename_i s d x;unfold R9 at h;split at h;·rename_i eE dr n aq ak aa;cases h;obtain⟨u,ax,aO⟩:=H.bi (x:=x) (by simp[Op.operands]) aa;rw[aO.int]at ax;have cL:cR (cB F) x=.val (.int dr n):=ax;simp only[bR,aq,ak,cL];exact⟨_,rfl,k _ (.val (by simp only[aJ];rw[wg]))⟩
  ·cases h
 ·
  rename_i b args dN;exact abN aI h (by simpa[Op.operands,Call.operands]using H) k
 ·cases h
end
def bh.set(D:bh)(id:Nat)(a:Loc):bh:=λi=>if i=id then some a else D i
def bh.oy(D:bh)(id:Nat)(a:Loc):(D.set id a) id=some a:=by simp[bh.set]
def bh.le_refl(D:bh):D.le D:=λ_ _ h=>h
def bh.le_trans{D ba CW:bh}(h:D.le ba)(k:ba.le CW):D.le CW:=λi a e=>k _ _ (h _ _ e)
def bh.wk{D:bh}{id:Nat}(a:Loc)(h:D id=none):D.le (D.set id a):=λi b ag=>by
 unfold bh.set;split
 ·rename_i e;subst e;rw[h]at ag;cases ag
 ·exact ag
def bh.ext(D ba:bh)(n:Nat):Prop:=∀ i,i<n->ba i=D i
def bh.l7{D:bh}{n:Nat}:D.ext D n:=λ_ _=>rfl
def bh.Ac{D:bh}{n:Nat}{a:Loc}:D.ext (D.set n a) n:=λi hi=>by unfold bh.set;rw[b7 (by omega)]
section
variable{Y:e2}{D ba:bh}{m:a9}{I I':aN}{M M':List aC}{R:Type}
def CS.mono{G:GT}(h:CS G I)(a':∀ b o,I b=some o->I' b=some o):CS G I':=λg cs aG=>by obtain⟨arr,T,f,aa,ab⟩:=h g cs aG;exact⟨arr,T,f,a' _ _ aa,ab⟩
def cm.le(h:cm Y D m I M)(cn:D.ext ba m.n):D.le ba:=λi a av=>by rw[cn i (h.hD _ _ av)];exact av
def cm.step(h:cm Y D m I M){a:Loc}(az:∀ id e,dU.get id=some e->(id=j/\bT=e)\/(id≠j/\m.t.get id=some e))(ar:ba j=some a)(hle:D.le ba)(cn:∀ i,i≠j->ba i=D i)(abU:∀ id a,ba id=some a->id<fq)(a':∀ b o,I b=some o->I' b=some o)(kx:∀ id e bw,id≠j->m.t.get id=some e->D id=some bw->∀ x∈M,x.num=bw.b->x∈M')
  (he:je ba Y.E M' a bT) (EJ:∀ id e bw,id≠j->m.t.get id=some e->D id=some bw->bw.b≠a.b):cm Y ba ⟨dU,fq⟩ I' M' where
 gQ id e cf aG aa:=by
  rcases az id e aG with⟨ax,aA⟩ | ⟨bl,aG⟩;·subst ax;subst aA;rw[ar]at aa;cases aa;exact he
  ·rw[cn id bl]at aa;exact(h.gQ id e cf aG aa).mono hle λx ae aw=>kx id e cf bl aG aa x ae aw
 inj id gC e bc cf dd aG kZ aa ab ag:=by
  rcases az id e aG with⟨ax,aA⟩ | ⟨bl,aG⟩
  ·rcases az gC bc kZ with⟨bj,cp⟩ | ⟨rR,kZ⟩
   ·rw[ax,bj]
   ·rw[cn gC rR]at ab;subst ax;rw[ar]at aa;cases aa;exact(EJ gC bc dd rR kZ ab ag.symm).elim
  ·rw[cn id bl]at aa;rcases az gC bc kZ with⟨bj,cp⟩ | ⟨rR,kZ⟩
   ·subst bj;rw[ar]at ab;cases ab;exact(EJ id e cf bl aG aa ag).elim
   ·rw[cn gC rR]at ab;exact h.inj id gC e bc cf dd aG kZ aa ab ag
 hD:=abU
 nu:=h.nu.mono a'
def cm.fresh(h:cm Y D m I M):D m.n=none:=by
 cases cn:D m.n with
 |none=>rfl| some a=>exact absurd (h.hD _ _ cn) (Nat.lt_irrefl _)
def cm.aV(h:cm Y D m I M){id:Nat}{e:ew}{a:Loc}(aG:m.t.get id=some e)(av:D id=some a):∃ x∈M,x.num=a.b:=by
 cases h.gQ id e a aG av with
 |cells arr au aa=>exact⟨_,aa,rfl⟩| map l c aa=>exact⟨_,aa,rfl⟩| loop L aa=>exact⟨_,aa,rfl⟩| done L aa=>exact⟨_,aa,rfl⟩
def cm.new(h:cm Y D m I M){a:Loc}{o:Obj}(az:∀ id e,dU.get id=some e->(id=m.n/\some bT=some e)\/(id≠m.n/\m.t.get id=some e))(aD:∀ x∈M,x.num≠a.b)
  (he:je (D.set m.n a) Y.E (⟨a.b,o⟩::M) a bT):cm Y (D.set m.n a) ⟨dU,m.n+1⟩ I (⟨a.b,o⟩::M):=
 h.step (λid e aG=>(az id e aG).imp (λh=>⟨h.1,l5 h.2⟩) λh=>h) (D.oy _ _) (bh.wk a h.fresh) (λi hi=>by unfold bh.set;rw[b7 hi])
  (λid b ag=>by
   unfold bh.set at ag;split at ag;·omega
   ·have:=h.hD _ _ ag;omega)
  (λ_ _ h=>h) (λ_ _ _ _ _ _ x ae _=>lr _ ae) he
  (λid e bw _ aG yj ag=>by
   obtain⟨x,ae,aw⟩:=h.aV aG yj;exact aD x ae (aw.trans ag))
def je.new{l:List al}{vs cur:List Value}{T c:Nat}{b:Nat}{cs:a0 al}(jF:∀ j x,cs.get j=some x->(0<=j/\l[j-0]?=some x)\/((j<0\/0+l.length<=j)/\(a0.nil:a0 al).get j=some x))(ay:bm D l vs)
  (af:∀ i,Y.E T=some i->(vs++cur).length=c*i.size) (aF:c<=maxLen):je D Y.E (⟨b,.cells (vs++cur).toArray T (0,0)⟩::M) ⟨b,0,c⟩ (.cells cs T l.length):=by
 refine .cells (vs++cur).toArray rfl (by simp) (by simp[ay.len]) (λi v hi aG=>?_) (λi hi=>by simpa using af i hi) aF;rcases jF i v aG with⟨_,aa⟩ | ⟨_,aa⟩
 ·obtain⟨x,ab,ai⟩:=ay.get (i:=i) (by simpa using aa);have aU:=(h3.1 ab).1;exact⟨x,by simp only[dG,wG];rw[tm aU];exact ab,ai⟩
 ·cases aa
def CX{e:ew}{K:Nat->a9->Option R}{r:R}(h:yc m e K=some r):∃ dU,(∀ id bc,dU.get id=some bc->(id=m.n/\some e=some bc)\/(id≠m.n/\m.t.get id=some bc))/\K m.n ⟨dU,m.n+1⟩=some r:=by unfold yc at h;rw[KZ]at h;obtain⟨dU,aa,ab⟩:=a0.l4 (some e) m.t m.n;rw[aa]at h;exact⟨dU,ab,h⟩
def La{l:List al}{T:Nat}{K:Nat->a9->Option R}{r:R}(h:rz m l T K=some r):∃ m',K m.n m'=some r/\m'.n=m.n+1 /\
  ∀ {D:bh} {I:aN} {M:List aC} {vs:List Value} (cur:List Value) {b c:Nat},cm Y D m I M->(∀ x∈M,x.num≠b)->bm D l vs->(∀ i,Y.E T=some i->(vs++cur).length=c*i.size)->c<=maxLen ->
   cm Y (D.set m.n ⟨b,0,c⟩) m' I (⟨b,.cells (vs++cur).toArray T (0,0)⟩::M):=by
 unfold rz at h;obtain⟨cs,aa,ab⟩:=a0.uP l (.nil:a0 al) 0;rw[aa]at h;obtain⟨dU,ai,aQ⟩:=CX h;refine⟨_,aQ,rfl,fun {D I M vs} cur {b c} hm aD ay af aF=>?_⟩;exact hm.new (a:=⟨b,0,c⟩) ai aD (.new ab (ay.mono (bh.wk _ hm.fresh)) af aF)
end
def abV(z:List Value)(n:Nat):rowOf z (z.length+n)=rowOf z z.length++rowOf z n:=by unfold rowOf;rw[List.range_add,hq,vD];congr 1;apply D';intro i _;simp[Nat.add_mod_left]
def abW(z:List Value):rowOf z z.length=z:=by
 unfold rowOf;apply yX
 ·simp
 ·intro i aa ab;simp only[nV,qe,Nat.mod_eq_of_lt ab];simp[ab]
def Lb(z:List Value):∀ n,rowOf z (n*z.length)=(List.replicate n z).flatten
 |0=>by simp[rowOf]
 |n+1=>by rw[Nat.succ_mul,Dy,abV,abW,Lb z n,zr,Ib]
def SL(place:Nat->Option (Nat×Nat)):∀ (vs:List (Nat×Value)) (cs r:List Value),pG place cs vs=some r->r.length=cs.length
 |[],cs,r,h=>by simp only[pG]at h;cases h;rfl
 |(i,v)::vs,cs,r,h=>by
  simp only[pG]at h;split at h;·cases h
  ·rename_i off size aH;cases ag:(Nat.beq v.cells.size size&&Nat.ble (off+size) cs.length)with
   |false=>rw[ag]at h;cases h| true=>rw[ag]at h;simp only[aZ]at h;rw[SL place vs _ _ h];rw[bG]at ag;have aa:=bV ag.1;have ab:=bq ag.2;simp[bo];omega
def wm(dst:Option Nat)(u:Value)(F de:Fr):Prop:=(∀ d,dst=some d->de d=.val u)/\∀ (D:bh) t v,dst≠some t->eB D (F t) v->eB D (de t) v
def wm.put(dst:Option Nat)(u:Value)(F:Fr):wm dst u F (put dst (.val u) F):=by
 constructor
 ·rintro d rfl;simp[Go.V.put,e5]
 ·intro D t v bl h;cases dst with
  |none=>exact h| some d=>have:t≠d:=λe=>bl (by rw[e]);simp only[Go.V.put,e5,fv this,aY];exact h
def wm.mM(d:Nat)(u:Value)(F:Fr):wm (some d) u F (e5 (mM F d) d (.val u)):=by
 constructor
 ·rintro _⟨⟩;simp[e5]
 ·intro D t v bl h;have:t≠d:=λe=>bl (by rw[e]);simp only[e5,fv this,aY];unfold Go.V.mM;rcases h with⟨abX,e,h⟩ | ⟨q,e,h⟩
  ·rw[e];exact .inl ⟨abX,rfl,h⟩
  ·rw[h];exact .inr ⟨q,e,rfl⟩
section
variable{X:b'}{G:GT}{pr:js}{D:bh}{m:a9}{F:Fr}{aj:a0 al}{C:cG}{I:aN}{M:List aC}{K:eF}{o:Oper}
def SM(aI:cj X.P X.E)(h7:∀ d,d<X.n->X.e6.contains d=true)(ak:∀ d,o.dst=some d->d<X.n){l:List al}{T c:Nat}{mk:Nat->al}(h:ye X.E o aj=some (l,T,c,mk))(CY:o.dst.isSome=true)(H:g4 D F aj o.op.operands.toList)
  (k:∀ b vs u de C',I b=none->(∀ x∈M,x.num≠b)->bm D l vs->(∀ i,X.E T=some i->vs.length=c*i.size)->c<=maxLen->(∀ (ba:bh) id,ba id=some ⟨b,0,c⟩->aJ ba (mk id) u)->wm o.dst u F de ->
   K de C' I (⟨b,.cells vs.toArray T (0,0)⟩::M)):fc X o F C I M K:=by
 obtain⟨dst,op,ty,pos,after,guard⟩:=o;cases dst with
 |none=>cases CY
 |some d=>
  have nQ:X.e6.contains d=true:=h7 d (ak d rfl);have SN:∀ (b c:Nat) (ba:bh) id,ba id=some ⟨b,0,c⟩->aJ ba (.p id 0) (.pointer (some ⟨b,0,none⟩)):=λb c ba id jt=>by simp only[aJ];exact⟨_,jt,rfl⟩
  unfold ye at h;simp only at h H;split at h
  ·rename_i t x;unfold Sg at h;obtain⟨i,hi,h⟩:=bX h;obtain⟨v,ah,h⟩:=bX h;obtain⟨ag,h⟩:=e3 h;cases h;obtain⟨u,ax,aO⟩:=H.bi (x:=x) (by simp[Op.operands]) ah;have aF:=aO.cells;simp only[fc,ax,nQ,aZ];refine⟨λb aa ab=>?_⟩;have:=k b u.cells.toList (.pointer (some ⟨b,0,none⟩)) _ (g8 C d none) aa ab aF (λfj c6=>?_) (by decide) (SN b 1) (.mM d _ F)
   ·simpa using this
   ·rw[hi]at c6;cases c6;rw[aF.len,oR];exact bV ag
  ·rename_i t;unfold Sh at h;obtain⟨i,hi,h⟩:=bX h;obtain⟨z,bd,h⟩:=bX h;cases h;simp only[fc,hi,nQ,aZ];refine⟨λb aa ab=>?_⟩;exact k b i.zero (.pointer (some ⟨b,0,none⟩)) _ (g8 C d none) aa ab (.x7 bd) (λfj c6=>by rw[hi]at c6;cases c6;rw[(aI _ _ hi).len,oR]) (by decide) (SN b 1) (.mM d _ F)
  ·rename_i t len parts;unfold Si at h;split at h
   ·rename_i sa pt sz e vs az aH;obtain⟨aE,he,h⟩:=bX h;obtain⟨z,bd,h⟩:=bX h;obtain⟨us,ax,aO⟩:=H.parts (l:=parts.toList) (by intro y aL;simpa[Op.operands]using aL) aH;simp only[fc,az,ax,he];have Ep:=(aI _ _ he).len;cases ag:(Nat.ble (len*aE.size) 16777216&&Nat.blt 0 (len*aE.size))with
    |true=>
     have gF:(Nat.ble (Nat.mul len aE.size) 16777216&&Nat.blt 0 (Nat.mul len aE.size))=true:=ag;rw[iw,gF]at h;simp only[aZ]at h |-;obtain⟨cs,ai,aQ⟩:=bX h;have c8:some (cs,e,len,λid=>al.sl id 0 len len)=some (l,T,c,mk):=aQ;cases c8;have ri:bm D (yd c z) (rowOf aE.zero (c*aE.size)):=by rw[<-Ep,Lb];exact(bm.x7 bd).la c
     obtain⟨a3,bp,bM⟩:=Gp ai ri aO;rw[bp];refine⟨λb aa ab=>?_⟩;have hlen:a3.length=c*aE.size:=by rw[SL _ _ _ _ bp];simp[rowOf]
     rw[bG]at ag;have mW:=bq ag.1;have jC:0<c*aE.size:=bq ag.2;exact k b a3 (.slice (some ⟨b,0,none⟩) c c) _ C aa ab bM (λfj c6=>by rw[he]at c6;cases c6;exact hlen)
      (by
       have dP:0<aE.size:=Nat.pos_of_mul_pos_left jC;have:c<=c*aE.size:=Nat.le_mul_of_pos_right _ dP;simp only[maxLen];omega)
      (λba id jt=>by simp only[aJ];exact⟨_,jt,rfl⟩) (.put _ _ F)
    |false=>
     have gF:(Nat.ble (Nat.mul len aE.size) 16777216&&Nat.blt 0 (Nat.mul len aE.size))=false:=ag;rw[iw,gF]at h;simp only[aY]at h |-;obtain⟨aF,h⟩:=e3 h;cases h;rw[bG]at aF;have ai:=bV aF.1;subst ai;have aQ:vs=[]:=by simpa using aF.2
     subst aQ;cases aO;simp only;refine⟨λb aa ab=>?_⟩;exact k b [] (.slice (some ⟨b,0,none⟩) 0 0) _ C aa ab .nil (λfj c6=>by simp) (by decide) (λba id jt=>by simp only[aJ];exact⟨_,jt,rfl⟩) (.put _ _ F)
   ·cases h
  ·rename_i t cd c';unfold Sj at h;split at h
   ·rename_i sa pt sz e DI agZ az aa ab;obtain⟨aE,he,h⟩:=bX h;obtain⟨n,aw,h⟩:=bX h;obtain⟨q,aK,h⟩:=bX h;obtain⟨z,bd,h⟩:=bX h;obtain⟨ag,h⟩:=e3 h;cases h;obtain⟨dr,rfl⟩:=Ab aw;obtain⟨c4,rfl⟩:=Ab aK;obtain⟨rs,ax,aO⟩:=H.bi (x:=cd) (by simp[Op.operands]) aa;obtain⟨ow,aA,aP⟩:=H.bi (x:=c') (by simp[Op.operands]) ab;rw[aO.int]at ax;rw[aP.int]at aA;simp only[bG]at ag;simp only[fc,az,ax,aA,he];refine⟨n,c,rfl,rfl,bq ag.1,bq ag.2.1,bq ag.2.2,⟨λb ai aQ=>?_⟩⟩;have Ep:=(aI _ _ he).len;have ri:bm D (yd c z) (rowOf aE.zero (c*aE.size)):=by rw[<-Ep,Lb];exact(bm.x7 bd).la c
    exact k b _ (.slice (some ⟨b,0,none⟩) n c) _ C ai aQ ri (λfj c6=>by rw[he]at c6;cases c6;simp[rowOf]) (bq ag.2.2) (λba id jt=>by simp only[aJ];exact⟨_,jt,rfl⟩) (.put _ _ F)
   ·cases h
  ·cases h
end
def SO{vs:List Value}{i:Nat}(h:off+vs.length<=cs.length):(bo cs off vs)[i]?=if off<=i/\i<off+vs.length then vs[i-off]? else cs[i]?:=by
 unfold bo;by_cases aa:i<off
 ·rw[b7 (by omega),tm (by simp;omega),tm (by simp;omega),jY,cv aa]
 ·by_cases ab:i<off+vs.length
  ·rw[cv ⟨by omega,ab⟩,tm (by simp;omega),oO (by simp;omega)];simp;congr 1;omega
  ·rw[b7 (by omega),oO (by simp;omega),oE];congr 1;simp;omega
def Lc{vs:List Value}(h:off+vs.length<=cs.length):(bo cs off vs).length=cs.length:=by simp[bo];omega
section
variable{Y:e2}{D:bh}{m:a9}{I:aN}{M:List aC}{R:Type}
def Ld{x:al}{l:List al}{K:a9->Option R}{r:R}(h:uN m x l K=some r):∃ m',K m'=some r/\m'.n=m.n/\(∀ id,m'.t.get id≠none->m.t.get id≠none\/True) /\
  ∀ {D:bh} {I:aN} {M:List aC} {u:Value} {vs:List Value},cm Y D m I M->aJ D x u->bm D l vs ->
   ∃ (g off:Nat) (pre post:List aC) (arr:Array Value) (T:Nat),u=.pointer (some ⟨g,off,none⟩)/\M=pre++⟨g,.cells arr T (0,0)⟩::post/\off+vs.length<=arr.size/\ga vs=true /\ (∃ id e a,m.t.get id=some e/\D id=some a/\a.b=g) /\
    cm Y D m' I (pre++⟨g,.cells (bo arr.toList off vs).toArray T (0,0)⟩::post):=by
 unfold uN at h;split at h
 ·rename_i id off;split at h
  ·rename_i cs T d' aG;cases ag:(Nat.ble (Nat.add off l.length) d'&&l.all al.one)with
   |false=>rw[ag]at h;cases h
   |true=>
    rw[ag]at h;simp only[aZ]at h;rw[bG]at ag;have wo:off+l.length<=d':=bq ag.1;obtain⟨cs',aa,ab⟩:=a0.uP l cs off;rw[aa]at h;obtain⟨dU,ai,aQ⟩:=a0.l4 (some (ew.cells cs' T d')) m.t id;rw[ai]at h;refine⟨_,h,rfl,λ_ _=>.inr trivial,fun {D I M u vs} hm ae ay=>?_⟩;obtain⟨a,av,rfl⟩:=ae.ptr;have he:=hm.gQ _ _ _ aG av;obtain⟨arr,an,a5,cc,aF,af,hl⟩:=he;have hlen:=ay.len;obtain⟨pre,post,bI⟩:=rB a5;have fm:off+vs.length<=arr.size:=by omega
    refine⟨a.b,off,pre,post,arr,T,by rw[an,dG],bI,fm,ay.one ag.2,⟨id,_,a,aG,av,rfl⟩,?_⟩;have fA:∀ x∈M,x.num≠a.b->x∈pre++⟨a.b,.cells (bo arr.toList off vs).toArray T (0,0)⟩::post:=λx ae aw=>by
     rw[bI]at ae;rcases dA.1 ae with ae | ae;·exact dA.2 (.inl ae)
     ·rcases dv.1 ae with rfl | ae
      ·exact(aw rfl).elim
      ·exact dA.2 (.inr (lr _ ae))
    refine hm.step (λi e hi=>(aQ i e hi).imp (λq=>⟨q.1,l5 q.2⟩) λq=>q) av (bh.le_refl D) (λ_ _=>rfl) hm.hD (λ_ _ h=>h) (λi e bw bl hi ny x ae aw=>fA x ae ?_) ?_ ?_;·rw[aw];exact λag=>bl (hm.inj _ _ _ _ _ _ hi aG ny av ag)
    ·have CZ:(bo arr.toList off vs).length=arr.size:=by rw[Lc (by simpa using fm)];simp
     refine .cells (bo arr.toList off vs).toArray an (by simp) (by simp[CZ];exact cc) (λi v hi C0=>?_) (λi hi=>by simp[CZ];exact af i hi) hl;rw[an,dG];simp only[wG];rw[SO (by simpa using fm)];rcases ab i v C0 with⟨aO,aP⟩ | ⟨aO,aP⟩;·have aU:=(h3.1 aP).1;rw[cv ⟨aO,by omega⟩];exact ay.get aP
     ·rw[b7 (by omega)];have:=aF i v hi aP;rw[an,dG]at this;simpa using this
    ·intro i e bw bl hi ny ag;exact bl (hm.inj _ _ _ _ _ _ hi aG ny av ag)
  ·cases h
 ·cases h
def Le:∀ {l:List al} {bU:List UInt8} {vs:List Value},z2 l=some bU->bm D l vs->vs=bU.map (λb=>.int .u8 b.toNat)
 |[],bU,vs,h,ay=>by simp only[z2]at h;cases h;exact ay.kU
 |v::l,bU,vs,h,ay=>by
  unfold z2 at h;split at h;·rename_i e;cases e
  ·rename_i n cd e;cases e;cases ag:Nat.ble n 255 with
   |false=>rw[ag]at h;cases h
   |true=>
    rw[ag]at h;simp only[aZ]at h;split at h;·rename_i r ao;cases h;obtain⟨x,xs,aa,ab,rfl⟩:=ay.ix;have aw:=bq ag;rw[Le ao ab,aa.int];simp only[eh,sw,and_true,Value.int.injEq,true_and];rw[UInt8.toNat_ofNat_of_lt' (show n<256 by omega)];rfl
    ·cases h
  ·cases h
inductive wq:TypeDesc->al->Prop
 |int{k n}:wq (.int k) (.i k n)| str {l}:wq .string (.s l)
def SP(aI:cj P E){k:Nat}{y:al}(h:F6 (E k) y=true):∃ d,P.underlying k=some d/\wq d y:=by
 unfold F6 at h;split at h
 ·rename_i eE cb n af;have:=IntKind.yL h;subst this;obtain⟨d,hu,ak⟩:=(aI _ _ af).ep;refine⟨d,hu,?_⟩;have:d=.int eE:=by cases d<;>simp_all[ek]
  subst this;exact .int
 ·rename_i l af;obtain⟨d,hu,ak⟩:=(aI _ _ af).ep;refine⟨d,hu,?_⟩;have:d=.string:=by cases d<;>simp_all[ek]
  subst this;exact .str
 ·cases h
def wq.isKey{d:TypeDesc}{y:al}{u:Value}(h:wq d y)(aL:aJ D y u):MapKept.IsKey d u:=by
 cases h with
 |int=>rw[aL.int];rfl| str=>rw[aL.str];trivial
def SQ(a b:ByteArray):(a == b)=decide (a=b):=by rw[rL,MapKept.bytes_beq];simp
def Ad{d:TypeDesc}{y x:al}{u:Value}{r:Bool}(h:wq d y)(aL:aJ D y u)(ae:aJ D x w)(he:zW y x=some r):Instr.sameNow d u w=some r:=by
 cases h with
 | @int k n=>
  rw[aL.int];unfold zW at he;split at he;·rename_i e;cases e
  ·rename_i dr a c4 b e;cases e;obtain⟨aa,ab⟩:=e3 he;have:=IntKind.yL aa;subst this;cases ab;rw[ae.int];simp only[Instr.sameNow,pE,we];congr 1
  ·rename_i e;cases e
  ·cases he
 | @str l=>
  rw[aL.str];unfold zW at he;split at he;·rename_i e;cases e
  ·rename_i e;cases e
  ·rename_i a b e;cases e;cases he;rw[ae.str];simp only[Instr.sameNow];rw[SQ,Gq,yh]
  ·cases he
def SR{d:TypeDesc}{y:al}{u:Value}(h:wq d y)(aL:aJ D y u):∀ {es:List (al×al)} {l:List MapEntry} {r:Option al} (i:Nat),nx D es l->CJ y es=some r ->
  match r with
  |none=>Instr.findNow d u l i=some none| some v=>∃ j w,Instr.findNow d u l i=some (some (j,w))/\aJ D v w
 |[],_,r,i,.nil,ay=>by simp only[CJ]at ay;cases ay;rfl
 |(x,v)::es,_,r,i,.cons (e:=e) (l:=l) af ah t,ay=>by
  simp only[CJ]at ay;split at ay;·rename_i he;cases ay;refine⟨i,e.val,?_,ah⟩;simp only[Instr.findNow,Ad h aL af he]
  ·rename_i he;have a8:=SR h aL (i+1) t ay;simp only[Instr.findNow,Ad h aL af he];exact a8
  ·cases ay
def SS{d:TypeDesc}{y v:al}{u w:Value}(h:wq d y)(aL:aJ D y u)(ah:aJ D v w):∀ {es rD:List (al×al)} {l:List MapEntry} (i:Nat),nx D es l->CK y v es=some rD -> (Instr.findNow d u l i=some none/\∀ b,nx D rD (l++[{ key:=u,val:=w,born:=b }])) \/ ∃ j e,Instr.findNow d u l i=some (some (i+j,e.val))/\l[j]?=some e/\Instr.sameNow d u e.key=some true/\nx D rD (l.modify j λe=>{ e with key:=u,val:=w })
 |[],rD,_,i,.nil,ay=>by simp only[CK]at ay;cases ay;exact .inl ⟨rfl,λb=>.cons aL ah .nil⟩
 |(x,ov)::es,rD,_,i,.cons (e:=e) (l:=l) af j5 t,ay=>by
  simp only[CK]at ay;split at ay
  ·rename_i he;cases ay;refine .inr ⟨0,e,?_,rfl,Ad h aL af he,?_⟩
   ·simp only[Instr.findNow,Ad h aL af he,pC]
   ·simp only[List.modify_zero_cons];exact .cons aL ah t
  ·rename_i he;split at ay
   ·rename_i r ao;cases ay;rcases SS h aL ah (i+1) t ao with⟨aa,ab⟩ | ⟨j,bc,aa,ab,ai,aQ⟩
    ·refine .inl ⟨?_,λb=>.cons af j5 (ab b)⟩;simp only[Instr.findNow,Ad h aL af he];exact aa
    ·refine .inr ⟨j+1,bc,?_,by simpa using ab,ai,?_⟩
     ·simp only[Instr.findNow,Ad h aL af he];rw[aa];congr 3;omega
     ·simp only[List.modify_succ_cons];exact .cons af j5 aQ
   ·cases ay
  ·cases ay
end
section
variable{P:Program}{w:World}
def abY{k e:Nat}(az:P.underlying t=some (.map k e)){d:TypeDesc}(af:P.underlying k=some d){u:Value}(td:MapKept.IsKey d u){l:List MapEntry}(aG:w.heap[g]?=some (.map l.toArray clock))
  {q:Option (Nat×Value)} (aD:Instr.findNow d u l 0=some q) {inf:TypeInfo} {z:Value} (hi:P.info? e=some inf) (bd:inf.zero=some z) (ok:Bool) :
  (Instr.lookup t (.map (some g)) u ok).run P w=.ok (bif ok then .tuple #[(q.map (·.2)).getD z,.bool q.isSome]else(q.map (·.2)).getD z) w:=by
 have aF:(Instr.checkKey l.toArray.isEmpty 10000 k u).run P w=.ok () w:=Bv af td _ 9999;have tV:(Instr.findKey k u l).run P w=.ok q w:=Bw af aD;have Gt:(zeroValue e).run P w=.ok z w:=by simp[zeroValue,typeInfo,hi,bd]
 unfold Instr.lookup;simp only[bH,run_underlying az,bx,Bt aG,ch,aF,tV];cases q with
 |none=>cases ok<;>simp[Gt]
 |some p=>cases ok<;>simp
def abZ{k e:Nat}(az:P.underlying t=some (.map k e)){d:TypeDesc}(af:P.underlying k=some d){u v:Value}(td:MapKept.IsKey d u){l:List MapEntry}(aG:w.heap[g]?=some (.map l.toArray clock))
  (aD:Instr.findNow d u l 0=some none):(Instr.mapUpdate t (.map (some g)) u v).run P w=.ok () { w with heap:=w.heap.setIfInBounds g (.map (l++[({ key:=u,val:=v,born:=clock }:MapEntry)]).toArray (clock+1)) }:=by
 have aF:(Instr.checkKey false 10000 k u).run P w=.ok () w:=Bv af td _ 9999;have tV:(Instr.findKey k u l).run P w=.ok none w:=Bw af aD;unfold Instr.mapUpdate;simp only[bH,run_underlying az,bx,Bt aG,aF,tV,H9 _ aG];congr 3;simp
def ab0{k e:Nat}(az:P.underlying t=some (.map k e)){d:TypeDesc}(af:P.underlying k=some d){u v:Value}(td:MapKept.IsKey d u){l:List MapEntry}(aG:w.heap[g]?=some (.map l.toArray clock))
 {bc:MapEntry} (aD:Instr.findNow d u l 0=some (some (j,bc.val))) (ar:l[j]?=some bc) (aq:bc.key=u) :
  (Instr.mapUpdate t (.map (some g)) u v).run P w=.ok () { w with heap:=w.heap.setIfInBounds g (.map (l.modify j λe=>{ e with key:=u,val:=v }).toArray clock) }:=by
 have aF:(Instr.checkKey false 10000 k u).run P w=.ok () w:=Bv af td _ 9999;have tV:(Instr.findKey k u l).run P w=.ok (some (j,bc.val)) w:=Bw af aD;have cx:(Instr.keyThatStays u u).run P w=.ok u w:=MapKept.run_keyThatStays td;unfold Instr.mapUpdate;simp only[bH,run_underlying az,bx,Bt aG,aF,tV];simp only[wG,ar,iz,jZ,aq,cx,bx,H9 _ aG];congr 3;show Obj.map _ _=Obj.map _ _;congr 1;apply fa;simp
end
section
variable{X:b'}{G:GT}{pr:js}{D:bh}{m m':a9}{F:Fr}{aj:a0 al}{C:cG}{I:aN}{M:List aC}{K:eF}{o:Oper}{v:al}
def oz(X:b')(G:GT)(pr:js)(D:bh)(m:a9)(I:aN)(M:List aC)(v:al)(m':a9)(dst:Option Nat)(F:Fr)(C:cG)(K:eF):Prop:=
 ∀ ba u M',D.ext ba m.n->aJ ba v u->cm (cO X G pr) ba m' I M'->K (put dst (.val u) F) C I M'
def ab1(an:o.op=.store t x y)(h:bz o.dst (F4 (X.E t) m (cq aj x) (cq aj y)) (λ_=>none)=some (v,m'))(H:g4 D F aj o.op.operands.toList)(hm:cm (cO X G pr) D m I M)
  (k:oz X G pr D m I M v m' o.dst F C K):fc X o F C I M K:=by
 obtain⟨dst,op,ty,pos,after,guard⟩:=o;simp only at an;subst an;cases dst with
 |some d=>cases h
 |none=>
  have aa:F4 (X.E t) m (cq aj x) (cq aj y)=some (v,m'):=h;unfold F4 at aa;obtain⟨i,hi,aa⟩:=bX aa;obtain⟨a,ae,aa⟩:=bX aa;obtain⟨b,aL,aa⟩:=bX aa;obtain⟨ag,aa⟩:=e3 aa;obtain⟨m2,ab,-,-,ai⟩:=Ld (Y:=cO X G pr) aa;cases ab;simp only at H;have Rx:=H x (by simp[Op.operands]) _ ae;have uQ:∀ q,a≠.b q:=λq e=>by subst e;cases aa
  obtain⟨u,ax,aO⟩:=Rx.tc uQ;obtain⟨w,aA,aP⟩:=H.bi (x:=y) (by simp[Op.operands]) aL;obtain⟨g,off,pre,post,arr,T,rfl,a5,fm,j6,⟨id,e,g5,jt,EE,aG⟩,jW⟩:=ai hm aO aP.cells;simp only[fc,hi,aA,ax];have cc:Nat.beq w.cells.size i.size=true:=by have:=aP.cells.len;rw[w4]at this;rw[this];exact ag
  rw[cc];simp only[aZ];refine⟨pre,post,arr,T,a5,rfl,fm,j6,?_⟩;exact k D (.tuple #[]) _ bh.l7 (by simp only[aJ];exact⟨[],.nil,rfl⟩) jW
def SU(ak:∀ d,o.dst=some d->d<X.n)(b3:∀ c,o.op≠.defer c)
  (h:∀ (β:Nat->Nat) (a:Act) (w:World),bY X β a w F C I M->∃ u w' I' M',(execOp a.eval o).run X.P w=.ok (.value u) w'/\bY X β a w' F C I' M'/\K (put o.dst (.val u) F) C I' M'):be X o F C I M K:=by
 refine⟨λa w Q ⟨β,aX⟩=>?_⟩;obtain⟨u,w',I',M',aa,ab,ai⟩:=h β a w aX;exact g9 b3 aa ⟨_,_,_,_,⟨β,ab.put (x:=.val u) ak rfl⟩,ai⟩
def ab2(ak:o.dst=none)(b3:∀ c,o.op≠.defer c)
  (h:∀ (β:Nat->Nat) (a:Act) (w:World),bY X β a w F C I M->∃ w' I' M',(execOp a.eval o).run X.P w=.ok .skip w'/\bY X β a w' F C I' M'/\K F C I' M'):be X o F C I M K:=by
 refine⟨λa w Q ⟨β,aX⟩=>?_⟩;obtain⟨w',I',M',aa,ab,ai⟩:=h β a w aX;refine yJ b3 aa ⟨_,_,_,_,⟨β,?_⟩,ai⟩;rw[ak];exact ab
def SV(aI:cj X.P X.E)(ak:∀ d,o.dst=some d->d<X.n){r:Option Operand}(an:o.op=.makeMap t r)(h:F5 (X.E t) m=some (v,m'))(ao:∀ x,r=some x->∃ k n,bi F x=.val (.int k n))(hm:cm (cO X G pr) D m I M)
  (k:oz X G pr D m I M v m' o.dst F C K):be X o F C I M K:=by
 unfold F5 at h;split at h
 ·rename_i sa pt sz eE e az;obtain⟨d,ev,eQ⟩:=(aI _ _ az).ep;have aa:d=.map eE e:=by cases d<;>simp_all[ek]
  subst aa;obtain⟨dU,ab,ai⟩:=CX h;cases ai;refine SU ak (by rw[an];simp) fun β a w aX=>?_;refine⟨.map (some w.heap.size),w.alloc (.map #[] 0),I,⟨w.heap.size,.map #[] 0⟩::M,?_,aX.l' _,?_⟩
  ·unfold execOp;cases r with
   |none=>simp[an,Instr.makeMap]| some x=>obtain⟨dr,fN,ae⟩:=ao x rfl;have IB:=cw aX.aj ae;simp[an,IB,Instr.makeMap,run_underlying ev,asInt,kX]
  ·have aD:∀ x∈M,x.num≠w.heap.size:=aX.holds.nH;refine k _ _ _ bh.Ac (by simp only[aJ];exact⟨_,bh.oy _ _ ⟨w.heap.size,0,0⟩,rfl⟩) (hm.new (a:=⟨w.heap.size,0,0⟩) ab aD ?_);exact .map [] 0 (by simp) .nil
 ·cases h
def je.SW{D:bh}{a:Loc}{es:List (al×al)}(h:je D E M a (.map es)):∃ l clock,(⟨a.b,.map l.toArray clock⟩:aC)∈M/\nx D es l:=by
 cases h with
 |map l clock aa ab=>exact⟨l,clock,aa,ab⟩
def aJ.map'{id:Nat}{u:Value}(h:aJ D (.m id) u):∃ a,D id=some a/\u=.map (some a.b):=by simpa only[aJ]using h
def ab3(aI:cj X.P X.E)(ak:∀ d,o.dst=some d->d<X.n){ok:Bool}(an:o.op=.lookup t x y ok)(h:KH X.P X.E t m (cq aj x) (cq aj y) ok=some (v,m'))(H:g4 D F aj o.op.operands.toList)
  (hm:cm (cO X G pr) D m I M) (k:oz X G pr D m I M v m' o.dst F C K):be X o F C I M K:=by
 unfold KH at h;split at h
 ·rename_i sa pt sz eE e id ab4 az aa ab;obtain⟨td,h⟩:=e3 h;split at h
  ·rename_i es aG;obtain⟨r,ao,h⟩:=bX h;obtain⟨inf,hi,h⟩:=bX h;obtain⟨z,bd,h⟩:=bX h;obtain⟨pL,wT,h⟩:=bX h;cases h;obtain⟨d,ev,eQ⟩:=(aI _ _ az).ep;have ff:d=.map eE e:=by cases d<;>simp_all[ek]
   subst ff;obtain⟨kL,sC,yk⟩:=SP aI td;rw[an]at H;obtain⟨rs,ax,aO⟩:=H.bi (x:=x) (by simp[Op.operands]) aa;obtain⟨ow,aA,aP⟩:=H.bi (x:=y) (by simp[Op.operands]) ab;obtain⟨a,av,rfl⟩:=aO.map';have he:=hm.gQ _ _ _ aG av;obtain⟨l,clock,a5,Lf⟩:=he.SW;have tD:=SR yk aP 0 Lf ao;have Gt:aJ D pL z:=.of wT;have fin:∀ {q:Option (Nat×Value)},Instr.findNow kL ow l 0=some q->(r=none/\q=none\/∃ rv j w,r=some rv/\q=some (j,w)/\aJ D rv w)->be X o F C I M K:=fun {q} aD aK=>by
    refine SU ak (by rw[an];simp) fun β ac w aX=>?_;have eu:=abY (P:=X.P) (w:=w) ev sC (yk.isKey aP) (aX.holds.m _ a5) aD hi bd ok;have ex:=cw aX.aj ax;have qT:=cw aX.aj aA;refine⟨bif ok then .tuple #[(q.map (·.2)).getD z,.bool q.isSome]else(q.map (·.2)).getD z,w,I,M,?_,aX,k D _ M bh.l7 ?_ hm⟩;·unfold execOp;simp only[an,ex,qT,bH,eu,bx,ch]
    ·unfold Sk;rcases aK with⟨rfl,rfl⟩ | ⟨rv,j,w',rfl,rfl,ah⟩
     ·cases ok
      ·exact Gt
      ·exact .Gm (.cons Gt (.cons (by simp only[aJ];rfl) .nil))
     ·cases ok
      ·exact ah
      ·exact .Gm (.cons ah (.cons (by simp only[aJ];rfl) .nil))
   cases r with
   |none=>exact fin tD (.inl ⟨rfl,rfl⟩)| some rv=>obtain⟨j,w,aD,ah⟩:=tD;exact fin aD (.inr ⟨rv,j,w,rfl,rfl,ah⟩)
  ·cases h
 ·cases h
def SX(aI:cj X.P X.E){z:Operand}(an:o.op=.mapUpdate t x y z\/o.op=.insert t x y z)(h:bz o.dst (CL X.E t m (cq aj x) (cq aj y) (cq aj z)) (λ_=>none)=some (v,m'))(H:g4 D F aj o.op.operands.toList)
  (hm:cm (cO X G pr) D m I M) (k:oz X G pr D m I M v m' o.dst F C K):be X o F C I M K:=by
 cases CY:o.dst with
 |some d=>rw[CY]at h;cases h
 |none=>
  rw[CY]at h k;have au:CL X.E t m (cq aj x) (cq aj y) (cq aj z)=some (v,m'):=h;have r2:∀ q,q=x\/q=y\/q=z->q∈o.op.operands.toList:=λq aK=>by
   rcases an with an | an<;>rw[an]<;>simp[Op.operands]<;>exact aK
  unfold CL at au;split at au
  ·rename_i sa pt sz eE e id ab4 pL az aa ab ai;obtain⟨td,au⟩:=e3 au;split at au
   ·rename_i es aG;obtain⟨rD,k7,au⟩:=bX au;obtain⟨dU,aQ,bp⟩:=a0.l4 (some (ew.map rD)) m.t id;have kB:(m.t.kT (some (ew.map rD)) id λt=>some (al.t [],(⟨t,m.n⟩:a9)))=some (v,m'):=au;rw[aQ]at kB;cases kB;obtain⟨d,ev,eQ⟩:=(aI _ _ az).ep;have ff:d=.map eE e:=by cases d<;>simp_all[ek]
    subst ff;obtain⟨kL,sC,yk⟩:=SP aI td;obtain⟨rs,ax,aO⟩:=H.bi (x:=x) (r2 x (.inl rfl)) aa;obtain⟨ow,aA,aP⟩:=H.bi (x:=y) (r2 y (.inr (.inl rfl))) ab;obtain⟨v8,bj,br⟩:=H.bi (x:=z) (r2 z (.inr (.inr rfl))) ai;obtain⟨a,av,rfl⟩:=aO.map';have he:=hm.gQ _ _ _ aG av;obtain⟨l,clock,a5,Lf⟩:=he.SW;have fin:∀ (cd:List MapEntry) (yl:Nat),nx D rD cd->(∀ w:World,w.heap[a.b]?=some (.map l.toArray clock)->(Instr.mapUpdate t (.map (some a.b)) ow v8).run X.P w=.ok () { w with heap:=w.heap.setIfInBounds a.b (.map cd.toArray yl) }) ->
      be X o F C I M K:=λcd yl nK eu=>by
     obtain⟨pre,post,bI⟩:=rB a5;have iv:M.Perm (⟨a.b,.map l.toArray clock⟩::(pre++post)):=by rw[bI];exact qf
     refine ab2 CY (by rcases an with an | an<;>rw[an]<;>simp) fun β ac w jk=>?_;have aX:bY X β ac w F C I (⟨a.b,.map l.toArray clock⟩::(pre++post)):=jk.gS (.perm iv .refl);have qv:=jk.holds.m _ a5;have ex:=cw aX.aj ax;have qT:=cw aX.aj aA;have my:=cw aX.aj bj;have jH:=MapKept.heap_set (o':=Obj.map cd.toArray yl) qv;refine⟨_,I,⟨a.b,.map cd.toArray yl⟩::(pre++post),?_,aX.swap (w':={ w with heap:=w.heap.setIfInBounds a.b (.map cd.toArray yl) }) (by simp) jH.1 jH.2 ⟨rfl,rfl⟩,?_⟩
     ·unfold execOp;rcases an with an | an<;>simp only[an,ex,qT,my,bH,eu w qv,bx,ch]
     ·have tE:∀ q∈M,q.num≠a.b->q∈(⟨a.b,.map cd.toArray yl⟩:aC)::(pre++post):=λq aK aw=>by
       rcases dv.1 (iv.mem_iff.1 aK)with rfl | aK;·exact(aw rfl).elim
       ·exact lr _ aK
      refine k D (.tuple #[]) _ bh.l7 (by simp only[aJ];exact⟨[],.nil,rfl⟩) ?_;refine hm.step (λi e hi=>(bp i e hi).imp (λq=>⟨q.1,l5 q.2⟩) λq=>q) av (bh.le_refl D) (λ_ _=>rfl) hm.hD (λ_ _ h=>h) (λi e bw bl hi ny q aK aw=>tE q aK ?_) (.map cd yl (by simp) nK) ?_;·rw[aw];exact λag=>bl (hm.inj _ _ _ _ _ _ hi aG ny av ag)
      ·exact λi e bw bl hi ny ag=>bl (hm.inj _ _ _ _ _ _ hi aG ny av ag)
    rcases SS yk aP br 0 Lf k7 with⟨aD,fA⟩ | ⟨j,bc,aD,ar,aq,tY⟩;·exact fin _ (clock+1) (fA clock) λw qv=>abZ ev sC (yk.isKey aP) qv aD
    ·rw[dG]at aD;have xj:bc.key=ow:=by
      cases yk with
      |int=>
       have:=aP.int;subst this;cases af:bc.key<;>rw[af]at aq<;>simp[Instr.sameNow]at aq
       obtain⟨rfl,h⟩:=aq;rw[h]
      |str=>
       have:=aP.str;subst this;cases af:bc.key<;>rw[af]at aq<;>simp[Instr.sameNow,SQ]at aq
       rw[aq]
     exact fin _ clock tY λw qv=>ab0 ev sC (yk.isKey aP) qv aD ar xj
   ·cases au
  ·cases au
end
section
variable{X:b'}{G:GT}{pr:js}{D:bh}{m m':a9}{F:Fr}{aj:a0 al}{C:cG}{I:aN}{M:List aC}{K:eF}{o:Oper}{v:al}
def SY(aI:cj X.P X.E)(ak:∀ d,o.dst=some d->d<X.n){s d e:Nat}(an:o.op=.convert s d x){dd b9:Nat}{zn:List Value}(aq:X.E s=some ⟨cf,cU,qd,.slice e⟩)(ff:X.E d=some ⟨dd,b9,zn,.string⟩)(ag:z0 (X.E e)=true)
  {id off n:Nat} (h:F7 G m id off n=some (v,m')) (ae:∃ a c,D id=some a/\bi F x=.val (.slice (some ⟨a.b,a.o+off,none⟩) n c)) (hm:cm (cO X G pr) D m I M)
  (k:oz X G pr D m I M v m' o.dst F C K):be X o F C I M K:=by
 unfold F7 at h;obtain⟨a,c,av,ex⟩:=ae;obtain⟨ad,l,vs,ax,bD,ay,h⟩:=wj (u:=.pointer (some ⟨a.b,a.o+off,none⟩)) hm (by simp only[aJ];exact⟨a,av,rfl⟩) h;cases ax;obtain⟨bU,Bm,h⟩:=bX h;cases h;have gG:=Le Bm ay;have hlen:bU.length=n:=by have:=bD.2;obtain⟨_,_,_,_,_,ab⟩:=this;rw[<-ab,gG];simp
 subst gG;obtain⟨aE,he,k7⟩:∃ aE,X.E e=some aE/\aE.bn=.int .u8:=by
  unfold z0 at ag;split at ag;·rename_i h;exact⟨_,h,rfl⟩
  ·cases ag
 refine be.YS aI an ak aq rfl he k7 ff rfl ex hlen bD ?_;exact k D _ M bh.l7 (by simp only[aJ]) hm
def ab5(aI:cj X.P X.E)(ak:∀ d,o.dst=some d->d<X.n){s d:Nat}(an:o.op=.convert s d x)(h:F8 (cO X G pr) m s d (cq aj x)=some (v,m'))(H:g4 D F aj o.op.operands.toList)(hm:cm (cO X G pr) D m I M)
  (k:oz X G pr D m I M v m' o.dst F C K):be X o F C I M K:=by
 unfold F8 at h;rw[an]at H;split at h
 ·rename_i aa ab ai;obtain⟨ag,h⟩:=e3 h;obtain⟨u,ax,aO⟩:=H.bi (x:=x) (by simp[Op.operands]) ai;obtain⟨a,av,rfl⟩:=aO.pq;exact SY aI ak an aa ab ag h ⟨a,_,av,ax⟩ hm k
 ·rename_i aa ab ai;obtain⟨ag,h⟩:=e3 h;obtain⟨u,ax,aO⟩:=H.bi (x:=x) (by simp[Op.operands]) ai;obtain⟨a,av,_,rfl⟩:=aO.rC;exact SY aI ak an aa ab ag h ⟨a,_,av,ax⟩ hm k
 ·rename_i aa ab ai;obtain⟨ag,h⟩:=e3 h;obtain⟨u,ax,aO⟩:=H.bi (x:=x) (by simp[Op.operands]) ai;cases h;simp only[aJ]at aO;subst aO;obtain⟨aE,he,k7⟩:∃ aE,X.E _=some aE/\aE.bn=.int .u8:=by
   unfold z0 at ag;split at ag;·rename_i h;exact⟨_,h,rfl⟩
   ·cases ag
  refine be.YT aI an ak aa rfl he k7 ab rfl ax ?_;exact k D _ M bh.l7 (by simp only[aJ]) hm
 ·cases h
def SZ(q:List UInt8):bm D (q.map λb=>al.i .u8 (.ofNat b.toNat)) (iW ⟨q.toArray⟩):=by
 unfold iW;simp only
 induction q with
 |nil=>exact .nil| cons b q a8=>exact .cons (by simp only[aJ];rfl) a8
def Gu{l:List Operand}{a b:al}(h:lq aj l=some [a,b]):∃ x y,l=[x,y]/\cq aj x=some a/\cq aj y=some b:=by
 match l,h with
 |[],h=>simp[lq]at h
 |[x],h=>
  simp only[lq]at h;split at h;·rename_i ax aA;cases aA;cases h
  ·cases h
 |[x,y],h=>
  simp only[lq]at h;split at h
  ·rename_i ax aA;split at aA
   ·rename_i bj cp;cases cp;cases aA;cases h;exact⟨x,y,rfl,ax,bj⟩
   ·cases aA
  ·cases h
 |x::y::z::l,h=>
  simp only[lq]at h;split at h
  ·rename_i ax aA;split at aA
   ·rename_i bj cp;split at cp
    ·cases cp;cases aA;cases h
    ·cases cp
   ·cases aA
  ·cases h
def cm.sub{M':List aC}(h:cm (cO X G pr) D m I M)(aq:∀ x∈M,x∈M'):cm (cO X G pr) D m I M':=
 ⟨λid e a hi av=>(h.gQ id e a hi av).mono (bh.le_refl D) (λx ae _=>aq x ae),h.inj,h.hD,h.nu⟩
def ab6(aI:cj X.P X.E)(ak:∀ d,o.dst=some d->d<X.n)(an:o.op=.call { callee:=.builtin .copy,args:=args,argTypes:=dN })(h:KJ (cO X G pr) m dN.toList (lq aj args.toList)=some (v,m'))
  (H:g4 D F aj args.toList) (hm:cm (cO X G pr) D m I M) (k:oz X G pr D m I M v m' o.dst F C K):be X o F C I M K:=by
 unfold KJ at h;split at h
 ·rename_i t u id off n c q az ay;split at h
  ·rename_i sa pt sz e lB;obtain⟨aE,he,h⟩:=bX h;obtain⟨ag,h⟩:=e3 h;rw[bG]at ag;obtain⟨m2,ab,-,-,ai⟩:=Ld (Y:=cO X G pr) h;cases ab;obtain⟨x,y,kj,qw,ab7⟩:=Gu ay;obtain⟨rs,ae,aP⟩:=H.bi (x:=x) (by rw[kj];simp) qw;obtain⟨ow,aL,eW⟩:=H.bi (x:=y) (by rw[kj];simp) ab7;obtain⟨a,av,rfl⟩:=aP.pq;have ab8:=eW.str;subst ab8;obtain⟨g,DE,pre,post,arr,T,bj,a5,fm,j6,⟨gC,bc,g5,jt,EE,aG⟩,jW⟩:=ai hm (u:=.pointer (some ⟨a.b,a.o+off,none⟩)) (by simp only[aJ];exact⟨a,av,rfl⟩) (SZ q);cases bj;have iv:M.Perm (⟨a.b,.cells arr T (0,0)⟩::(pre++post)):=by rw[a5];exact qf
   have ym:args=#[x,y]:=by apply fa;simpa using kj
   have yn:dN=#[t,u]:=by apply fa;simpa using az
   have cc:(⟨q.toArray⟩:ByteArray).size=q.length:=by simp[ByteArray.size]
   have pU:(iW ⟨q.toArray⟩).length=q.length:=by simp[iW]
   refine be.Nz aI (by rw[an,ym,yn]) ak lB rfl he (bV ag.1) ae aL (by rw[cc];exact bq ag.2) (by rw[cc,<-pU];exact fm) iv ?_;rw[cc];have ab9:(pre++(⟨a.b,.cells (bo arr.toList (a.o+off) (iW ⟨q.toArray⟩)).toArray T (0,0)⟩:aC)::post).Perm (⟨a.b,.cells (bo arr.toList (a.o+off) (iW ⟨q.toArray⟩)).toArray T (0,0)⟩::(pre++post)):=qf;exact k D (.int .i64 q.length) _ bh.l7 (by simp only[aJ];rfl) (jW.sub λx ae=>ab9.mem_iff.1 ae)
  ·cases h
 ·cases h
end
section
variable{P:Program}{w:World}
def S0(t u ty e:Nat)(i:TypeInfo)(az:P.underlying t=some (.slice e))(hu:P.underlying u=some lE)(mV:∀ k,lE≠.int k)(hi:P.info? e=some i)
 {n c T:Nat} {arr:Array Value} (aG:w.heap[g]?=some (.cells arr T (0,0))) {x:Value} {m:Nat} (aa:∀ v∈news,v.oneCell'=true)
  (hlen:∀ w',(Builtin.lenOf x).run P w'=.ok m w') (fA:(Builtin.firstCells i.size m x).run P w=.ok news.toArray w) (pV:n+m<=c) (fm:off+n*i.size+news.length<=arr.size) :
  (Builtin.append_ #[t,u] ty #[.slice (some ⟨g,off,none⟩) n c,x]).run P w=.ok (.slice (some ⟨g,off,none⟩) (n+m) c) (w.setRow g (bo arr.toList (off+n*i.size) news).toArray):=by
 have Bf:(match lE with | .int _=>true | _=>false)=false:=by cases lE<;>first | rfl | exact(mV _ rfl).elim
 have cx:=run_storeCells_at P g (off+n*i.size) T news 0 arr w aG (by simpa using fm) aa;simp only[pC]at cx;have JI:(Addr.add ⟨g,off,none⟩ (n*i.size))=⟨g,off+n*i.size,none⟩:=dx _ rfl _;simp[Builtin.append_,run_underlying az,run_underlying hu,sizeOf,typeInfo,hi,hlen,pV,fA,JI,cx,bo]
def aca(t u ty e:Nat)(i:TypeInfo)(z:Value)(az:P.underlying t=some (.slice e))(hu:P.underlying u=some lE)(mV:∀ k,lE≠.int k)(hi:P.info? e=some i)(bd:i.zero=some z)(tI:z.cells.size=i.size)
 {n c:Nat} (hold:(Builtin.firstCells i.size n (.slice base n c)).run P w.drew=.ok xs.toArray w.drew) (pe:xs.length=n*i.size) {x:Value} {m:Nat} (ay:news.length=m*i.size)
  (hlen:∀ w',(Builtin.lenOf x).run P w'=.ok m w') (fA:(Builtin.firstCells i.size m x).run P w.drew=.ok news.toArray w.drew) (pV:c<n+m) (cU:n+m<=maxLen) (b9:(n+m)*i.bytes<=140737488355328) :
  ∃ cap cur,(Builtin.append_ #[t,u] ty #[.slice base n c,x]).run P w=.ok (.slice (some ⟨w.heap.size,0,none⟩) (n+m) cap) (w.drew.alloc (.cells (xs++news++cur).toArray e (0,0)))/\n+m<=cap/\cap<=maxLen/\(xs++news++cur).length=cap*i.size:=by
 have Bf:(match lE with | .int _=>true | _=>false)=false:=by cases lE<;>first | rfl | exact(mV _ rfl).elim
 have aw:¬ (n+m<=c):=by omega
 have mW:n+m<=9223372036854775807:=by simp only[maxLen]at cU;exact cU
 have Bg:¬ (9223372036854775807<((n:Int)+(m:Int))):=by omega
 have Bh:¬ (281474976710656<Builtin.nextslicecap (n+m) c*i.bytes):=by have:=growslice_fits (by omega:c<n+m) b9;omega
 have dE:=grownCap_ge w (n+m) c e;have ke:grownCap w (n+m) c e<=maxLen:=grownCap_le_maxLen w (n+m) c e cU;refine⟨grownCap w (n+m) c e,(Builtin.zeroCells z.cells (grownCap w (n+m) c e-(n+m))).toList,?_,dE,ke,?_⟩
 ·simp[Builtin.append_,run_underlying az,run_underlying hu,sizeOf,typeInfo,zeroValue,hi,bd,hlen,aw,Bg,Bh,Question.forced,fA,hold,newRow,grownCap];congr 2;apply fa;simp
 ·rw[cD,cD,pe,ay,w4,size_zeroCells,tI,<-iV,<-iV];congr 1;omega
end
section
variable{X:b'}{G:GT}{pr:js}{D:bh}{m m':a9}{F:Fr}{aj:a0 al}{C:cG}{I:aN}{M:List aC}{K:eF}{o:Oper}{v:al}
def ck.Lg{ad:Addr}{n:Nat}{vs:List Value}(h:ck I M ad n vs){w:World}(jh:dC I M w)(j:Nat)(v:Value)(ar:vs[j]?=some v):w.cell? (ad.add j)=some v:=by
 obtain⟨bI,cs,T,aj,dK,ah,ay⟩:=h;rw[dx _ bI,rQ (dK.heap jh)];rw[<-ah,jY]at ar;split at ar
 ·rw[oE]at ar;simpa using ar
 ·cases ar
def acb{x:al}{u:Value}{k:Nat}{K:List al->Option R}{r:R}(h:z1 G m.t x aE.size K=some r)(aq:s' ut aE x=true)(ae:aJ D x u)(hm:cm (cO X G pr) D m I M)(af:pk x=some k)(au:k≠0) :
  ∃ l vs,K l=some r/\bm D l vs/\(∀ w',(Builtin.lenOf u).run X.P w'=.ok k w')/\(∀ w,dC I M w->(Builtin.firstCells aE.size k u).run X.P w=.ok vs.toArray w)/\vs.length=k*aE.size /\
   ((∃ a b z e,ut=some ⟨a,b,z,.slice e⟩)\/∃ a b z,ut=some ⟨a,b,z,.string⟩):=by
 have Lh:(∃ a b z e,ut=some ⟨a,b,z,.slice e⟩)\/∃ a b z,ut=some ⟨a,b,z,.string⟩:=by
  unfold s' at aq;split at aq<;>first | exact .inl ⟨_,_,_,_,rfl⟩ | exact .inr ⟨_,_,_,rfl⟩ | cases aq
 cases x<;>simp only[z1]at h<;>first | cases h | skip
 case sn=>simp[pk,s9]at af;exact(au af.symm).elim
 case so=>simp[pk,s9]at af;exact(au af.symm).elim
 case sl id off n c=>
  simp only[pk,s9,g7]at af;subst af;obtain⟨a,av,rfl⟩:=ae.pq;obtain⟨ad,l,vs,ax,bD,ay,h⟩:=wj (u:=.pointer (some ⟨a.b,a.o+off,none⟩)) hm (by simp only[aJ];exact⟨a,av,rfl⟩) h;cases ax;have wu:=bD;obtain⟨_,_,_,_,_,_,hlen⟩:=wu;exact⟨l,vs,h,ay,λ_=>rfl,λw hw=>run_firstCells_some (P:=X.P) w aE.size n _ n c vs hlen (λj v ar=>bD.Lg hw j v ar),hlen,Lh⟩
 case sx id off e n=>
  simp only[pk,s9,g7]at af;subst af;obtain⟨a,av,_,rfl⟩:=ae.rC;obtain⟨ad,l,vs,ax,bD,ay,h⟩:=wj (u:=.pointer (some ⟨a.b,a.o+off,none⟩)) hm (by simp only[aJ];exact⟨a,av,rfl⟩) h;cases ax;have wu:=bD;obtain⟨_,_,_,_,_,_,hlen⟩:=wu;exact⟨l,vs,h,ay,λ_=>rfl,λw hw=>run_firstCells_some (P:=X.P) w aE.size n _ n _ vs hlen (λj v ar=>bD.Lg hw j v ar),hlen,Lh⟩
 case s q=>
  simp only[pk,g7]at af;subst af;have acd:aE.size=1:=by
   unfold s' at aq;split at aq<;>first | exact bV aq | (rename_i e;cases e) | cases aq
  have:=ae.str;subst this;have aK:(⟨q.toArray⟩:ByteArray).size=q.length:=by simp[ByteArray.size]
  refine⟨_,iW ⟨q.toArray⟩,h,SZ q,λw=>?_,λw hw=>?_,by simp[iW,acd],Lh⟩;·show Result.ok _ _=_;rw[aK]
  ·have:=Nj w aE.size (P:=X.P) ⟨q.toArray⟩;rw[aK]at this;exact this
def Li(aI:cj X.P X.E)(ak:∀ d,o.dst=some d->d<X.n){s:Operand}{u:Nat}(an:o.op=.call { callee:=.builtin .append,args:=#[s,x],argTypes:=#[t,u] })
  {e:Nat} (az:X.E t=some ⟨cf,cU,qd,.slice e⟩) (hu:X.E u=some k3) (ey:∀ k,k3.bn≠.int k) (he:X.E e=some aE)
 {n c k:Nat} {Lj:Value} (aq:bi F s=.val (.slice base n c)) (ae:bi F x=.val Lj) (pe:xs.length=n*aE.size) (vk:news.length=k*aE.size) (aa:ga news=true)
  (hlen:∀ w',(Builtin.lenOf Lj).run X.P w'=.ok k w') (fA:∀ w,dC I M w->(Builtin.firstCells aE.size k Lj).run X.P w=.ok news.toArray w)
  (hold:∀ w,dC I M w->(Builtin.firstCells aE.size n (.slice base n c)).run X.P w=.ok xs.toArray w) (cU:n+k<=maxLen) (b9:(n+k)*aE.bytes<=140737488355328)
  (ace:n+k<=c->∃ g off T arr pre post,base=some ⟨g,off,none⟩/\M=pre++⟨g,.cells arr T (0,0)⟩::post/\off+n*aE.size+news.length<=arr.size /\ K (put o.dst (.val (.slice base (n+k) c)) F) C I (pre++⟨g,.cells (bo arr.toList (off+n*aE.size) news).toArray T (0,0)⟩::post))
  (acf:c<n+k->∀ b cap cur,I b=none->(∀ y∈M,y.num≠b)->n+k<=cap->cap<=maxLen->(xs++news++cur).length=cap*aE.size ->
   K (put o.dst (.val (.slice (some ⟨b,0,none⟩) (n+k) cap)) F) C I (⟨b,.cells (xs++news++cur).toArray e (0,0)⟩::M)):be X o F C I M K:=by
 refine⟨λa w Q ⟨β,aX⟩=>?_⟩;obtain⟨inf,z,hi,eM,gd,hs,jB⟩:=(aI _ _ he).inf;obtain⟨d,ev,eQ⟩:=(aI _ _ hu).ep;obtain⟨k6,oU,jI⟩:=(aI _ _ az).ep;have qS:k6=.slice e:=by cases k6<;>simp_all[ek]
 subst qS;have tI:z.cells.size=inf.size:=by rw[eM,<-(aI _ _ he).len,<-jB];simp
 have es:=cw aX.aj aq;have ex:=cw aX.aj ae;have mV:∀ k,d≠.int k:=λk bc=>ey k (by rw[<-eQ,bc];rfl);rw[<-eM]at pe vk hold fA;by_cases pV:n+k<=c
 ·obtain⟨g,off,T,arr,pre,post,rfl,a5,fm,af⟩:=ace pV;rw[<-eM]at fm af;have aG:w.heap[g]?=some (.cells arr T (0,0)):=aX.holds.m ⟨g,.cells arr T (0,0)⟩ (by rw[a5];simp);have eu:=S0 (P:=X.P) (w:=w) t u o.type e inf oU ev mV hi aG (wN aa) hlen (fA w aX.holds) pV fm;refine g9 (by rw[an];simp) ?_ ⟨_,_,_,_,⟨β,bY.put (x:=.val (.slice (some ⟨g,off,none⟩) (n+k) c)) (aX.u2 a5) ak rfl⟩,af⟩;unfold execOp;simp only[an,resolve,invoke,builtin,bH,ch,bx,r',eh,pT,es,ex,eu]
 ·have jh:dC I M w.drew:=aX.holds.heap rfl;obtain⟨cap,cur,eu,ab,ai,aQ⟩:=aca (P:=X.P) (w:=w) t u o.type e inf z oU ev mV hi hs tI (hold w.drew jh) pe vk hlen (fA w.drew jh) (by omega) cU (by rw[gd];exact b9);have nX:bY X β a w.drew F C I M:=aX.world rfl;rw[eM]at aQ;refine g9 (by rw[an];simp) ?_ ⟨_,_,_,_,⟨β,bY.put (x:=.val (.slice (some ⟨w.heap.size,0,none⟩) (n+k) cap)) (nX.l' (.cells (xs++news++cur).toArray e (0,0))) ak rfl⟩,acf (by omega) w.heap.size cap cur aX.holds.oI aX.holds.nH ab ai aQ⟩;unfold execOp;simp only[an,resolve,invoke,builtin,bH,ch,bx,r',eh,pT,es,ex,eu]
def S1{u:Nat}{x:al}(h:s' (X.E u) aE x=true):∃ k3,X.E u=some k3/\∀ k,k3.bn≠.int k:=by
 unfold s' at h;split at h<;>first | (cases h;done) | (rename_i e;exact⟨_,e,by simp⟩) | (rename_i e _;exact⟨_,e,by simp⟩) | (rename_i e _ _;exact⟨_,e,by simp⟩)
def acg{s:al}{u:Value}(h:z3 s=true)(aq:aJ D s u):∃ a n c,u=.slice a n c/\n<=c:=by
 cases s<;>simp only[z3,iL]at h
 case sn=>exact⟨_,_,_,aq.yi,bS _⟩
 case so=>obtain⟨a,c,rfl⟩:=aq.Gk;exact⟨_,_,_,rfl,bk _⟩
 case sl=>obtain⟨a,_,rfl⟩:=aq.pq;exact⟨_,_,_,rfl,bq h⟩
 case sx=>obtain⟨a,_,hle,rfl⟩:=aq.rC;exact⟨_,_,_,rfl,by omega⟩
def ach{x:al}{u:Value}(aq:s' ut aE x=true)(ae:aJ D x u)(af:pk x=some 0):(∃ b c,u=.slice b 0 c)\/u=.string .empty:=by
 cases x<;>simp[pk,s9]at af
 case sn=>exact .inl ⟨_,_,ae.yi⟩
 case so=>obtain⟨a,c,rfl⟩:=ae.Gk;exact .inl ⟨_,_,rfl⟩
 case sl=>subst af;obtain⟨a,_,rfl⟩:=ae.pq;exact .inl ⟨_,_,rfl⟩
 case sx=>subst af;obtain⟨a,_,_,rfl⟩:=ae.rC;exact .inl ⟨_,_,rfl⟩
 case gs=>subst af;exact .inl ⟨_,_,ae.K2⟩
 case s=>subst af;exact .inr ae.str
noncomputable abbrev Lk(X:b')(G:GT)(m:a9)(s x:al)(aE:dw)(kn e:Nat):List al->Option (al×a9):=λl=>bz (some kn) none λk=>bB (Nat.beq k 0) (bB (z3 s) (some (s,m)) none) (bB (l.all al.one) (CI G m s l k aE.size aE.bytes e) none)
def aci(aI:cj X.P X.E)(ak:∀ d,o.dst=some d->d<X.n){u:Nat}(an:o.op=.call { callee:=.builtin .append,args:=#[os,nt],argTypes:=#[t,u] })
 {e:Nat} (az:X.E t=some ⟨cf,cU,qd,.slice e⟩) {s x:al} (oq:s' (X.E u) aE x=true) (he:X.E e=some aE) (af:pk x=some 0) {us:Value}
  (es:bi F os=.val us) (gs:aJ D s us) (ex:bi F nt=.val jA) (wv:aJ D x jA) (h:z1 G m.t x aE.size (Lk X G m s x aE 0 e)=some (v,m'))
  (hm:cm (cO X G pr) D m I M) (k:oz X G pr D m I M v m' o.dst F C K):be X o F C I M K:=by
 have ab:∃ l,Lk X G m s x aE 0 e l=some (v,m'):=by
  cases x<;>simp only[z1]at h<;>first | cases h | exact⟨_,h⟩ | skip
  case sl=>obtain⟨a,av,rfl⟩:=wv.pq;obtain⟨_,l,_,_,_,_,h⟩:=wj (u:=.pointer (some ⟨a.b,a.o+_,none⟩)) hm (by simp only[aJ];exact⟨a,av,rfl⟩) h;exact⟨l,h⟩
  case sx=>obtain⟨a,av,_,rfl⟩:=wv.rC;obtain⟨_,l,_,_,_,_,h⟩:=wj (u:=.pointer (some ⟨a.b,a.o+_,none⟩)) hm (by simp only[aJ];exact⟨a,av,rfl⟩) h;exact⟨l,h⟩
 obtain⟨l,ab⟩:=ab;have ai:bB (z3 s) (some (s,m)) none=some (v,m'):=ab;obtain⟨aF,ai⟩:=e3 ai;cases ai;obtain⟨a,n,c,rfl,k5⟩:=acg aF gs;obtain⟨k3,hu,ey⟩:=S1 oq;exact be.H2 aI an ak az rfl hu ey he es k5 ex (ach oq wv af) (k D _ M bh.l7 gs hm)
def acj(aI:cj X.P X.E)(ak:∀ d,o.dst=some d->d<X.n){u:Nat}(an:o.op=.call { callee:=.builtin .append,args:=#[os,nt],argTypes:=#[t,u] })
 {e:Nat} (az:X.E t=some ⟨cf,cU,qd,.slice e⟩) (hu:X.E u=some k3) (ey:∀ k,k3.bn≠.int k) (he:X.E e=some aE) {us:Value} {id off n c kn:Nat}
  (es:bi F os=.val us) (gs:aJ D (.sl id off n c) us) (ex:bi F nt=.val jA) {l:List al} {vs:List Value} (h:KF G m id off n c l kn aE.size e=some (v,m')) (mW:n+kn<=maxLen) (jC:(n+kn)*aE.bytes<=140737488355328)
  (ay:bm D l vs) (o7:vs.length=kn*aE.size) (aa:ga vs=true) (hlen:∀ w',(Builtin.lenOf jA).run X.P w'=.ok kn w') (fA:∀ w,dC I M w->(Builtin.firstCells aE.size kn jA).run X.P w=.ok vs.toArray w)
  (hm:cm (cO X G pr) D m I M) (k:oz X G pr D m I M v m' o.dst F C K):be X o F C I M K:=by
 have C1:∀ {q:List Value} {c:Nat},q.length=c*aE.size->∀ i,(cO X G pr).E e=some i->q.length=c*i.size:=λaK i hi=>by have:X.E e=some i:=hi;rw[he]at this;cases this;exact aK
 obtain⟨a,av,rfl⟩:=gs.pq;unfold KF at h;by_cases ao:n+kn<=c
 ·have ag:Nat.ble (Nat.add n kn) c=true:=ud ao;rw[ag]at h;have bf:uN m (.p id (Nat.add off (Nat.mul n aE.size))) l (λm=>some (al.sl id off (Nat.add n kn) c,m))=some (v,m'):=h;obtain⟨m2,ab,-,-,ai⟩:=Ld (Y:=cO X G pr) bf;cases ab;obtain⟨g,DE,pre,post,arr,T,ax,a5,fm,j6,⟨gC,bc,g5,jt,EE,aG⟩,jW⟩:=ai hm (u:=.pointer (some ⟨a.b,a.o+(off+n*aE.size),none⟩)) (by simp only[aJ];exact⟨a,av,rfl⟩) ay;cases ax;refine⟨λac w Q ⟨β,aX⟩=>?_⟩;obtain⟨inf,z,hi,eM,gd,hs,jB⟩:=(aI _ _ he).inf;obtain⟨d,ev,eQ⟩:=(aI _ _ hu).ep;obtain⟨k6,oU,jI⟩:=(aI _ _ az).ep;have qS:k6=.slice e:=by cases k6<;>simp_all[ek]
  subst qS;have aG:w.heap[a.b]?=some (.cells arr T (0,0)):=aX.holds.m ⟨a.b,.cells arr T (0,0)⟩ (by rw[a5];simp);have rD:=cw aX.aj es;have yo:=cw aX.aj ex;rw[<-eM]at fA;have eu:=S0 (P:=X.P) (w:=w) t u o.type e inf oU ev (λk bc=>ey k (by rw[<-eQ,bc];rfl)) hi aG (wN aa) hlen (fA w aX.holds) ao (off:=a.o+off) (by rw[eM];omega);rw[eM,oF]at eu;have nX:=aX.u2 (cs':=(bo arr.toList (a.o+(off+n*aE.size)) vs).toArray) a5;refine g9 (by rw[an];simp) ?_ ⟨_,_,_,_,⟨β,bY.put (x:=.val (.slice (some ⟨a.b,a.o+off,none⟩) (n+kn) c)) nX ak rfl⟩,?_⟩;·unfold execOp;simp only[an,resolve,invoke,builtin,bH,ch,bx,r',eh,pT,rD,yo,eu]
  ·exact k D _ _ bh.l7 (by simp only[aJ];exact⟨a,av,rfl⟩) jW
 ·have ag:Nat.ble (Nat.add n kn) c=false:=by
   cases ag:Nat.ble (Nat.add n kn) c with
   |false=>rfl| true=>exact absurd (bq ag) ao
  rw[ag]at h;have bf:s8 G m.t (.p id off) (Nat.mul n aE.size) (λcE=>rz m (cE++l) e λid m=>some (al.sx id 0 0 (Nat.add n kn),m))=some (v,m'):=h;obtain⟨ad,cE,xs,ax,bD,dJ,ab⟩:=wj (u:=.pointer (some ⟨a.b,a.o+off,none⟩)) hm (by simp only[aJ];exact⟨a,av,rfl⟩) bf;cases ax;obtain⟨m2,bM,aw,dP⟩:=La (Y:=cO X G pr) ab;cases bM;have wu:=bD;obtain⟨_,_,_,_,_,_,lM⟩:=wu;refine Li aI ak an az hu ey he es ex lM o7 aa hlen fA (λw hw=>run_firstCells_some (P:=X.P) w aE.size n _ n c xs lM (λj v ar=>bD.Lg hw j v ar)) mW jC (λfw=>(ao fw).elim) λ_ b cap cur a' aD C2 C3 C4=>?_;refine k _ _ _ bh.Ac ?_ (dP cur hm aD (dJ.append ay) (C1 C4) C3);simp only[aJ];exact⟨_,bh.oy _ _ _,by simpa using C2,by simp⟩
def ack(aI:cj X.P X.E)(ak:∀ d,o.dst=some d->d<X.n){u:Nat}(an:o.op=.call { callee:=.builtin .append,args:=#[os,nt],argTypes:=#[t,u] })
 {e:Nat} (az:X.E t=some ⟨cf,cU,qd,.slice e⟩) (hu:X.E u=some k3) (ey:∀ k,k3.bn≠.int k) (he:X.E e=some aE) {us:Value} {id n d' kn:Nat} {cs:a0 al}
  (es:bi F os=.val us) (gs:aJ D (.sx id 0 0 n) us) (ex:bi F nt=.val jA) (aG:m.t.get id=some (.cells cs e d')) {l:List al} {vs:List Value} (h:KG m id n cs d' l kn aE.size e=some (v,m')) (mW:n+kn<=maxLen) (jC:(n+kn)*aE.bytes<=140737488355328)
  (ay:bm D l vs) (o7:vs.length=kn*aE.size) (aa:ga vs=true) (hlen:∀ w',(Builtin.lenOf jA).run X.P w'=.ok kn w') (fA:∀ w,dC I M w->(Builtin.firstCells aE.size kn jA).run X.P w=.ok vs.toArray w)
  (hm:cm (cO X G pr) D m I M) (k:oz X G pr D m I M v m' o.dst F C K):be X o F C I M K:=by
 obtain⟨a,av,hle,rfl⟩:=gs.rC;have mN:=hm.gQ _ _ _ aG av;obtain⟨arr,uR,a5,cc,aF,af,hl⟩:=mN;unfold KG at h;obtain⟨wo,h⟩:=e3 h;have S2:n*aE.size<=d':=bq wo;obtain⟨t1,ab,ai⟩:=a0.l4 (none:Option ew) m.t id;rw[ab]at h;obtain⟨cs',aQ,bp⟩:=a0.uP l cs (Nat.mul n aE.size);have bf:a0.uJ l cs (Nat.mul n aE.size) (λcs=>yc (⟨t1,m.n⟩:a9) (.cells cs e (Nat.mul (Nat.add n kn) aE.size)) λid m=>some (al.sx id 0 0 (Nat.add n kn),m))=some (v,m'):=h;rw[aQ]at bf;obtain⟨t2,bM,dP⟩:=CX bf;cases dP;have kh:∀ i dX,t1.get i=some dX->i≠id/\m.t.get i=some dX:=λi dX hi=>by
  rcases ai i dX hi with⟨_,eK⟩ | eK;·cases eK
  ·exact eK
 have S3:cm (cO X G pr) D ⟨t1,m.n⟩ I M:=⟨λi dX b hi=>hm.gQ i dX b (kh i dX hi).2,λi fj dX wx b fe hi c6=>hm.inj i fj dX wx b fe (kh i dX hi).2 (kh fj wx c6).2,hm.hD,hm.nu⟩;have S4:arr.size=a.c*aE.size:=by have:=af aE he;rw[uR,dG]at this;exact this
 have Gi:=ay.len;have pe:((arr.toList.take (n*aE.size)).length=n*aE.size):=by rw[kz,w4];omega
 have BQ:∀ j,j<n*aE.size->∀ v,cs.get j=some v->∃ x,(arr.toList.take (n*aE.size))[j]?=some x/\aJ D v x:=λj ar v ah=>by obtain⟨x,aO,aP⟩:=aF j v (by omega) ah;rw[uR,dG]at aO;exact⟨x,by rw[jY,cv ar];simpa using aO,aP⟩
 have S5:∀ (ba:bh) (M':List aC) (b dI:Nat) (rest:List Value),D.le ba->(⟨b,.cells (arr.toList.take (n*aE.size)++vs++rest).toArray e (0,0)⟩:aC)∈M'->(arr.toList.take (n*aE.size)++vs++rest).length=dI*aE.size->dI<=maxLen ->
   je ba X.E M' ⟨b,0,dI⟩ (.cells cs' e (Nat.mul (Nat.add n kn) aE.size)):=by
  intro ba M' b dI rest cn JF JC Gv;have hmul:(n+kn)*aE.size=n*aE.size+kn*aE.size:=iV _ _ _;refine .cells _ rfl JF ?_ (λi v hi C0=>?_) (λi hi=>?_) Gv;·show 0+(n+kn)*aE.size<=_;rw[qA,cD,cD,pe,o7];omega
  ·have c6:i<n*aE.size+kn*aE.size:=by have:i<(n+kn)*aE.size:=hi;omega
   simp only[dG,wG];rcases bp i v C0 with⟨aO,aP⟩ | ⟨aO,aP⟩;·have Gw:n*aE.size<=i:=aO;obtain⟨x,br,eW⟩:=ay.get (i:=i-n*aE.size) aP;refine⟨x,?_,eW.mono cn⟩;rw[fJ,oO (by omega),pe,tm (by omega)];exact br
   ·have Gw:i<n*aE.size:=by
     rcases aO with aO | aO;·exact aO
     ·have:n*aE.size+l.length<=i:=aO;omega
    obtain⟨x,br,eW⟩:=BQ i Gw v aP;refine⟨x,?_,eW.mono cn⟩;rw[fJ,tm (by omega)];exact br
  ·rw[he]at hi;cases hi;simpa using JC
 refine Li aI ak an az hu ey he es ex pe o7 aa hlen fA (λw hw=>?_) mW jC (λao=>?_) λ_ b cap cur a' aD C2 C3 C4=>?_
 ·refine run_firstCells_some (P:=X.P) w aE.size n _ n _ _ pe λj v ar=>?_;rw[dx _ rfl,rQ (hw.m _ a5)];rw[jY]at ar;split at ar
  ·rw[uR];simpa using ar
  ·cases ar
 ·
  obtain⟨pre,post,bI⟩:=rB a5;rw[hn]at ao;have fm:a.o+0+n*aE.size+vs.length<=arr.size:=by have c8:=qz aE.size ao;rw[iV]at c8;rw[uR,S4,o7];omega
  refine⟨a.b,a.o+0,e,arr,pre,post,rfl,bI,fm,?_⟩;have S6:bo arr.toList (a.o+0+n*aE.size) vs=arr.toList.take (n*aE.size)++vs++arr.toList.drop (n*aE.size+vs.length):=by rw[uR];simp only[bo,dG]
  rw[S6];have tE:∀ q∈M,q.num≠a.b->q∈pre++(⟨a.b,.cells (arr.toList.take (n*aE.size)++vs++arr.toList.drop (n*aE.size+vs.length)).toArray e (0,0)⟩:aC)::post:=λq aK aw=>by
   rw[bI]at aK;rcases dA.1 aK with aK | aK;·exact dA.2 (.inl aK)
   ·rcases dv.1 aK with rfl | aK
    ·exact(aw rfl).elim
    ·exact dA.2 (.inr (lr _ aK))
  have C5:∀ i dX b,t1.get i=some dX->D i=some b->b.b≠a.b:=λi dX b hi ag uy=>(kh i dX hi).1 (hm.inj _ _ _ _ _ _ (kh i dX hi).2 aG ag av uy);refine k _ _ _ bh.Ac ?_ (S3.step (m:=⟨t1,m.n⟩) (j:=m.n) (λi dX hi=>(bM i dX hi).imp (λq=>⟨q.1,l5 q.2⟩) λq=>q) (D.oy _ ⟨a.b,0,a.c⟩) (bh.wk _ hm.fresh) (λi hi=>by unfold bh.set;rw[b7 hi]) (λi b ag=>?_) (λ_ _ h=>h) (λi dX b bl hi ag q aK aw=>tE q aK (by rw[aw];exact C5 i dX b hi ag)) (S5 _ _ _ _ (arr.toList.drop (n*aE.size+vs.length)) (bh.wk _ hm.fresh) (by simp) ?_ hl) λi dX b bl hi ag=>C5 i dX b hi ag);·simp only[aJ];exact⟨_,bh.oy _ _ _,by simpa using ao,by rw[uR];rfl⟩
  ·unfold bh.set at ag;split at ag
   ·show i<m.n+1;omega
   ·have:=hm.hD _ _ ag;show i<m.n+1;omega
  ·rw[<-S6,Lc (by simpa using fm)];simpa using S4
 ·
  refine k _ _ _ bh.Ac ?_ (S3.new (m:=⟨t1,m.n⟩) (a:=⟨b,0,cap⟩) bM aD (S5 _ _ _ _ _ (bh.wk _ hm.fresh) (by simp) C4 C3));simp only[aJ];exact⟨_,bh.oy _ _ _,by simpa using C2,by simp⟩
def acm(aI:cj X.P X.E)(ak:∀ d,o.dst=some d->d<X.n){u:Nat}(an:o.op=.call { callee:=.builtin .append,args:=#[os,nt],argTypes:=#[t,u] })
 {e:Nat} (az:X.E t=some ⟨cf,cU,qd,.slice e⟩) {s x:al} (oq:s' (X.E u) aE x=true) (he:X.E e=some aE) {kn:Nat} (af:pk x=some kn) (au:kn≠0) {us:Value}
  (es:bi F os=.val us) (gs:aJ D s us) (ex:bi F nt=.val jA) (wv:aJ D x jA) (h:z1 G m.t x aE.size (Lk X G m s x aE kn e)=some (v,m'))
  (hm:cm (cO X G pr) D m I M) (k:oz X G pr D m I M v m' o.dst F C K):be X o F C I M K:=by
 obtain⟨l,vs,ab,ay,hlen,fA,o7,_⟩:=acb (ut:=X.E u) h oq wv hm af au;have ai:bB (Nat.beq kn 0) (bB (z3 s) (some (s,m)) none) (bB (l.all al.one) (CI G m s l kn aE.size aE.bytes e) none)=some (v,m'):=ab;rw[fv au]at ai;have aQ:bB (l.all al.one) (CI G m s l kn aE.size aE.bytes e) none=some (v,m'):=ai;obtain⟨j6,aQ⟩:=e3 aQ;have aa:=ay.one j6;obtain⟨k3,hu,ey⟩:=S1 oq;have C1:∀ {q:List Value} {c:Nat},q.length=c*aE.size->∀ i,(cO X G pr).E e=some i->q.length=c*i.size:=λaK i hi=>by have:X.E e=some i:=hi;rw[he]at this;cases this;exact aK
 cases s<;>simp only[CI]at aQ<;>first | cases aQ | skip
 case sn=>
  obtain⟨ag,bp⟩:=e3 aQ;rw[bG]at ag;obtain⟨m2,bM,aw,dP⟩:=La (Y:=cO X G pr) bp;cases bM;have acn:=gs.yi;subst acn;have mW:0+kn<=maxLen:=by rw[dG];exact bq ag.2
  have jC:(0+kn)*aE.bytes<=140737488355328:=by rw[dG];exact bq ag.1
  refine Li aI ak an az hu ey he (n:=0) (c:=0) (xs:=[]) es ex (by simp) o7 aa hlen fA (λw _=>by simp[run_firstCells_none]) mW jC (λao=>by omega) λ_ b cap cur a' aD C2 C3 C4=>?_;refine k _ _ _ bh.Ac ?_ (dP cur hm aD ay (C1 C4) C3);simp only[aJ];exact⟨_,bh.oy _ _ _,by simpa using C2,by simp⟩
 case sl=>
  obtain⟨ag,bp⟩:=e3 aQ;rw[bG]at ag;exact acj aI ak an az hu ey he es gs ex bp (bq ag.2) (bq ag.1) ay o7 aa hlen fA hm k
 case sx=>
  split at aQ;·rename_i aG;obtain⟨ag,bp⟩:=e3 aQ;simp only[bG]at ag;obtain⟨⟨ee,eH⟩,kK,EP,EQ⟩:=ag;have d1:=bV ee;have d2:=bV eH;have d3:=bV kK;subst d1;subst d2;subst d3;exact ack aI ak an az hu ey he es gs ex aG bp (bq EQ) (bq EP) ay o7 aa hlen fA hm k
  ·cases aQ
def aco(aI:cj X.P X.E)(ak:∀ d,o.dst=some d->d<X.n)(an:o.op=.call { callee:=.builtin .append,args:=args,argTypes:=dN })(h:KI (cO X G pr) m dN.toList (lq aj args.toList)=some (v,m'))
  (H:g4 D F aj args.toList) (hm:cm (cO X G pr) D m I M) (k:oz X G pr D m I M v m' o.dst F C K):be X o F C I M K:=by
 unfold KI at h;split at h
 ·rename_i t u s x az ay;split at h
  ·rename_i sa pt sz e lB;obtain⟨aE,he,h⟩:=bX h;obtain⟨oq,h⟩:=e3 h;obtain⟨os,nt,kj,gH,qw⟩:=Gu ay;obtain⟨us,es,gs⟩:=H.bi (x:=os) (by rw[kj];simp) gH;obtain⟨jA,ex,wv⟩:=H.bi (x:=nt) (by rw[kj];simp) qw;have ym:args=#[os,nt]:=by apply fa;simpa using kj
   have yn:dN=#[t,u]:=by apply fa;simpa using az
   have k1:o.op=.call { callee:=.builtin .append,args:=#[os,nt],argTypes:=#[t,u] }:=by rw[an,ym,yn]
   cases af:pk x with
   |none=>
    exfalso;unfold s' at oq;split at oq<;>first | (cases oq;done) | (simp[pk,s9]at af;done)
   |some kn=>
    rw[af]at h;by_cases au:kn=0;·subst au;exact aci aI ak k1 lB oq he af es gs ex wv h hm k
    ·exact acm aI ak k1 lB oq he af au es gs ex wv h hm k
  ·cases h
 ·cases h
end
section
variable{X:b'}{G:GT}{pr:js}{D:bh}{m m':a9}{F:Fr}{aj:a0 al}{C:cG}{I:aN}{M:List aC}{K:eF}{o:Oper}{v:al}
def acp(aI:cj X.P X.E)(ak:∀ d,o.dst=some d->d<X.n)(an:o.op=.call { callee:=.builtin .unsafeString,args:=args,argTypes:=dN })(h:KK (cO X G pr) m dN.toList (lq aj args.toList)=some (v,m'))
  (H:g4 D F aj args.toList) (hm:cm (cO X G pr) D m I M) (k:oz X G pr D m I M v m' o.dst F C K):be X o F C I M K:=by
 unfold KK at h;split at h
 ·rename_i qQ it az ay;cases h;obtain⟨op,on,kj,aa,ab⟩:=Gu ay;obtain⟨rs,ax,aO⟩:=H.bi (x:=op) (by rw[kj];simp) aa;obtain⟨ow,aA,aP⟩:=H.bi (x:=on) (by rw[kj];simp) ab;have ym:args=#[op,on]:=by apply fa;simpa using kj
  have yn:dN=#[qQ,it]:=by apply fa;simpa using az
  have Gw:rs=.pointer none:=by simpa only[aJ]using aO
  subst Gw;rw[aP.int]at aA;refine be.Ny (by rw[an,ym,yn]) ak ax aA (k D _ M bh.l7 ?_ hm);simp only[aJ];rfl
 ·rename_i qQ it id n az ay;split at h
  ·rename_i sa pt sz e cs T d' E6 aG;obtain⟨aE,he,dP⟩:=bX h;obtain⟨ag,eK⟩:=e3 dP;simp only[bG]at ag;obtain⟨op,on,kj,aa,ab⟩:=Gu ay;obtain⟨rs,ax,aO⟩:=H.bi (x:=op) (by rw[kj];simp) aa;obtain⟨ow,aA,aP⟩:=H.bi (x:=on) (by rw[kj];simp) ab;have ym:args=#[op,on]:=by apply fa;simpa using kj
   have yn:dN=#[qQ,it]:=by apply fa;simpa using az
   rw[aP.int]at aA;obtain⟨a,av,rfl⟩:=aO.ptr;have mN:=hm.gQ _ _ _ aG av;obtain⟨arr,uR,a5,cc,aF,af,hl⟩:=mN;have C1:=bV ag.2.1;subst C1;unfold s8 at eK;simp only[aG]at eK;cases Ll:Nat.ble (Nat.add 0 n) d' with
   |false=>rw[Ll]at eK;cases eK| true=>
   rw[Ll]at eK;simp only[aZ]at eK;have vk:0+n<=d':=bq Ll;obtain⟨l,ee,eH,c8⟩:=a0.Aa cs n 0 _ _ eK;obtain⟨bU,Bm,oX⟩:=bX c8;obtain⟨HQ,Cv⟩:=e3 oX;obtain⟨t1,aQ,bp⟩:=a0.l4 (none:Option ew) m.t id;rw[aQ]at Cv;cases Cv;have BI:(arr.toList.take n).length=n:=by rw[kz,w4];omega
   have acq:bm D l (arr.toList.take n):=bm.K1 (by rw[BI,ee]) λi v hi=>by
    have gi:i<n:=by rw[<-ee];exact(h3.1 hi).1
    obtain⟨x,br,eW⟩:=aF i v (by omega) (by have:=eH i gi;rw[dG]at this;rw[this,hi]);rw[uR,dG]at br;exact⟨x,by rw[jY,cv gi];simpa using br,eW⟩
   have gG:=Le Bm acq;have pU:bU.length=n:=by have:=congrArg List.length gG;rw[BI]at this;simpa using this.symm
   obtain⟨pre,post,bI⟩:=rB a5;have iv:M.Perm (⟨a.b,.cells arr T (0,0)⟩::(pre++post)):=by rw[bI];exact qf
   have jF:arr.toList.take bU.length=bU.map λb=>Value.int .u8 b.toNat:=by rw[pU];exact gG
   have au:bU≠[]:=λbc=>by subst bc;have:0<n:=bq ag.2.2;simp at pU;omega
   have cL:bi F op=.val (.pointer (some ⟨a.b,0,none⟩)):=by rw[ax,uR]
   have dy:bi F on=.val (.int .i64 bU.length):=by rw[aA,pU];rfl
   refine be.HP aI (by rw[an,ym,yn]) ak E6 rfl he (bV ag.1) cL dy au (by rw[pU];exact bq HQ) iv jF ?_;have kh:∀ i dX,t1.get i=some dX->i≠id/\m.t.get i=some dX:=λi dX hi=>by
    rcases bp i dX hi with⟨_,eK⟩ | eK;·cases eK
    ·exact eK
   refine k D _ _ bh.l7 (by simp only[aJ]) ⟨λi dX b hi mW=>?_,λi fj dX wx b fe hi c6=>hm.inj i fj dX wx b fe (kh i dX hi).2 (kh fj wx c6).2,hm.hD,hm.nu⟩;refine(hm.gQ i dX b (kh i dX hi).2 mW).mono (bh.le_refl D) λq aK aw=>?_;rcases dv.1 (iv.mem_iff.1 aK)with rfl | aK;·exact((kh i dX hi).1 (hm.inj _ _ _ _ _ _ (kh i dX hi).2 aG mW av aw.symm)).elim
   ·exact aK
  ·cases h
 ·cases h
def acr(aI:cj X.P X.E)(ak:∀ d,o.dst=some d->d<X.n){v:al}(an:o.op=.slice t x (some lo) (some hi) (some mx))(h:KB X.E t (cq aj x) (cq aj lo) (cq aj hi) (cq aj mx)=some v)
  (H:g4 D F aj o.op.operands.toList) (hm:cm (cO X G pr) D m I M) (k:∀ x,eB D x v->K (put o.dst x F) C I M):be X o F C I M K:=by
 unfold KB at h;split at h
 ·rename_i sz gp z e id off n c dr l c4 bf fy eE az ae dJ er hl;obtain⟨aE,he,dP⟩:=bX h;obtain⟨ag,eK⟩:=e3 dP;simp only[bG]at ag;obtain⟨cU,b9,df,eb⟩:=ag;cases eK;have cU:=bq cU;have b9:=bq b9;have df:=bq df;have eb:l+1<=eE:=bq eb;obtain⟨IY,bT,wy⟩:=H.bi (x:=x) (by rw[an];simp[Op.operands]) ae;obtain⟨rs,ax,aO⟩:=H.bi (x:=lo) (by rw[an];simp[Op.operands]) dJ;obtain⟨ow,aA,aP⟩:=H.bi (x:=hi) (by rw[an];simp[Op.operands]) er;obtain⟨v8,bj,br⟩:=H.bi (x:=mx) (by rw[an];simp[Op.operands]) hl;rw[aO.int]at ax;rw[aP.int]at aA;rw[br.int]at bj;simp only[aJ]at wy;obtain⟨a,av,rfl⟩:=wy;refine be.slice3 aI an ak az rfl he l bf eE bT ax aA bj cU b9 df (k _ (.val ?_));simp only[aJ];refine⟨a,av,?_⟩;rw[b7 (by omega),iz,dx _ rfl];simp only[wb,z9,z',oF]
 ·cases h
def acs(aI:cj X.P X.E)(ak:∀ d,o.dst=some d->d<X.n){v:al}(an:o.op=.slice t x none (some hi) (some mx))(h:KA X.E t (cq aj x) (cq aj hi) (cq aj mx)=some v)
  (H:g4 D F aj o.op.operands.toList) (hm:cm (cO X G pr) D m I M) (k:∀ x,eB D x v->K (put o.dst x F) C I M):be X o F C I M K:=by
 unfold KA at h;split at h
 ·rename_i sz gp z e id off n c c4 bf fy eE az ae er hl;obtain⟨aE,he,dP⟩:=bX h;obtain⟨ag,eK⟩:=e3 dP;simp only[bG]at ag;obtain⟨b9,df,eb⟩:=ag;cases eK;have b9:=bq b9;have df:=bq df;have eb:0+1<=eE:=bq eb;obtain⟨IY,bT,wy⟩:=H.bi (x:=x) (by rw[an];simp[Op.operands]) ae;obtain⟨ow,aA,aP⟩:=H.bi (x:=hi) (by rw[an];simp[Op.operands]) er;obtain⟨v8,bj,br⟩:=H.bi (x:=mx) (by rw[an];simp[Op.operands]) hl;rw[aP.int]at aA;rw[br.int]at bj;simp only[aJ]at wy;obtain⟨a,av,rfl⟩:=wy;refine be.QB aI an ak az rfl he bf eE bT aA bj b9 df (k _ (.val ?_));simp only[aJ];refine⟨a,av,?_⟩;rw[b7 (by omega),iz,dx _ rfl];simp
 ·rename_i sz gp z e id off aA n c4 bf fy eE az ae er hl;obtain⟨aE,he,dP⟩:=bX h;obtain⟨ag,eK⟩:=e3 dP;simp only[bG]at ag;obtain⟨b9,df,eb⟩:=ag;cases eK;have b9:=bq b9;have df:=bq df;have eb:0+1<=eE:=bq eb;obtain⟨IY,bT,wy⟩:=H.bi (x:=x) (by rw[an];simp[Op.operands]) ae;obtain⟨ow,aA,aP⟩:=H.bi (x:=hi) (by rw[an];simp[Op.operands]) er;obtain⟨v8,bj,br⟩:=H.bi (x:=mx) (by rw[an];simp[Op.operands]) hl;rw[aP.int]at aA;rw[br.int]at bj;simp only[aJ]at wy;obtain⟨a,av,hle,rfl⟩:=wy;refine be.QB aI an ak az rfl he bf eE bT aA bj b9 (by omega) (k _ (.val ?_));simp only[aJ];refine⟨a,av,?_⟩;rw[b7 (by omega),iz,dx _ rfl];simp
 ·cases h
def acu(ak:∀ d,o.dst=some d->d<X.n){v:al}(an:o.op=.unOp .xor t x)(h:KD (cq aj x)=some v)(H:g4 D F aj o.op.operands.toList)(k:∀ x,eB D x v->K (put o.dst x F) C I M):fc X o F C I M K:=by
 unfold KD at h;split at h
 ·rename_i n ae;cases h;obtain⟨u,e,hu⟩:=H.bi (x:=x) (by rw[an];simp[Op.operands]) ae;rw[hu.int]at e;have q:be X o F C I M K:=be.Bl an ak e (k _ (.val (by simp only[aJ])));obtain⟨dst,oA,ty,pos,after,guard⟩:=o;simp only at an;subst an;exact q
 ·cases h
def acv(an:o.op=.slice t x none (some hi) (some mx))(k:be X o F C I M K):fc X o F C I M K:=by
 obtain⟨dst,oA,ty,pos,after,guard⟩:=o;simp only at an;subst an;simp only[fc,bR];split<;>first | exact k | (rename_i e;cases e)
def acw(an:o.op=.slice t x (some lo) (some hi) (some mx))(k:be X o F C I M K):fc X o F C I M K:=by
 obtain⟨dst,oA,ty,pos,after,guard⟩:=o;simp only at an;subst an;simp only[fc,bR];split<;>first | exact k | (rename_i e;cases e)
def S7:Op->Bool
 | .makeMap .. | .lookup .. | .mapUpdate .. | .insert ..=>true| .call { callee:=.builtin .append,.. }=>true| .call { callee:=.builtin .copy,.. }=>true| .call { callee:=.builtin .unsafeString,.. }=>true| _=>false
def wz{op:Op}(an:o.op=op)(h:S7 op=true)(k:be X o F C I M K):fc X o F C I M K:=by
 obtain⟨dst,oA,ty,pos,after,guard⟩:=o;simp only at an;subst an;unfold S7 at h;split at h<;>first | exact k | cases h
def acx(aI:cj X.P X.E)(ak:∀ d,o.dst=some d->d<X.n)(h:KL (cO X G pr) m o aj=some (v,m'))(H:g4 D F aj o.op.operands.toList)(hm:cm (cO X G pr) D m I M)(k:oz X G pr D m I M v m' o.dst F C K):fc X o F C I M K:=by
 unfold KL at h;split at h
 ·rename_i t x y an;exact ab1 an h H hm k
 ·rename_i t an;exact wz an rfl (SV aI ak an h (by simp) hm k)
 ·rename_i t x an;split at h
  ·rename_i eE n ae;refine wz an rfl (SV aI ak an h (λy aL=>?_) hm k);cases aL;obtain⟨u,ax,aO⟩:=H.bi (x:=x) (by rw[an];simp[Op.operands]) ae;rw[aO.int]at ax;exact⟨_,_,ax⟩
  ·cases h
 ·rename_i t x y ok an;exact wz an rfl (ab3 aI ak an h H hm k)
 ·rename_i t x y z an;exact wz an rfl (SX aI (.inl an) h H hm k)
 ·rename_i t x y z an;exact wz an rfl (SX aI (.inr an) h H hm k)
 ·rename_i s d x an;have Lm:=ab5 aI ak an h H hm k;obtain⟨dst,oA,ty,pos,after,guard⟩:=o;simp only at an;subst an;have mw:∃ a b z,X.E d=some ⟨a,b,z,.string⟩:=by
   unfold F8 at h;split at h;·exact⟨_,_,_,by assumption⟩
   ·exact⟨_,_,_,by assumption⟩
   ·exact⟨_,_,_,by assumption⟩
   ·cases h
  obtain⟨a,b,z,mw⟩:=mw;simp only[fc,bR,mw];split;·rename_i e _;cases e
  ·exact Lm
 ·rename_i b args dN an;have Ln:g4 D F aj args.toList:=by rw[an]at H;simpa[Op.operands,Call.operands]using H
  unfold Sl at h;split at h;·exact wz an rfl (aco aI ak an h Ln hm k)
  ·exact wz an rfl (ab6 aI ak an h Ln hm k)
  ·exact wz an rfl (acp aI ak an h Ln hm k)
  ·cases h
 ·cases h
end
def C6(Y:e2)(call:al->List al->a9->Option (al×a9)):Prop:=∀ f l m v m',call f l m=some (v,m')->∀ (D:bh) (I:aN) (M:List aC) (u:Value) (us:List Value),aJ D f u->bm D l us->cm Y D m I M -> (∃ g bK cs,u=.func (.func g) bK cs/\Spec Y.P g (bK.toList++us++cs.toList) I M λr I' M'=>∃ ba,D.ext ba m.n/\aJ ba v r/\cm Y ba m' I' M') \/ ∃ q,u=.func (.yield q) #[] #[]/\A9 Y.P q us I M λr I' M'=>∃ ba,D.ext ba m.n/\aJ ba v r/\cm Y ba m' I' M'
def rE(dst:Option Nat)(v:al)(D:bh)(F de:Fr):Prop:=(∀ d,dst=some d->eB D (de d) v)/\∀ (D:bh) t ov,dst≠some t->eB D (F t) ov->eB D (de t) ov
def rE.put{v:al}{D:bh}{x:cF}(F:Fr)(h:eB D x v):rE dst v D F (put dst x F):=by
 constructor
 ·rintro d rfl;simpa[Go.V.put,e5]using h
 ·intro D t ov bl h;cases dst with
  |none=>exact h| some d=>have:t≠d:=λe=>bl (by rw[e]);simp only[Go.V.put,e5,fv this,aY];exact h
def wm.v{u:Value}(h:wm dst u F de){D:bh}{v:al}(ah:aJ D v u):rE dst v D F de:=⟨λd ak=>by rw[h.1 d ak];exact .val ah,h.2⟩
section
variable{X:b'}{G:GT}{pr:js}{D:bh}{m m':a9}{F:Fr}{aj:a0 al}{C:cG}{I:aN}{M:List aC}{K:eF}{o:Oper}{v:al}
def Gx(X:b')(G:GT)(pr:js)(o:Oper)(aj:a0 al)(m:a9)(v:al)(m':a9):Prop:=m.n<=m'.n/\∀ (D:bh) (F:Fr) (C:cG) (I:aN) (M:List aC) (K:eF),g4 D F aj o.op.operands.toList->cm (cO X G pr) D m I M -> (∀ ba de C' I' M',D.ext ba m.n->rE o.dst v ba F de->cm (cO X G pr) ba m' I' M'->K de C' I' M')->fc X o F C I M K
def acy{op:Op}(an:o.op=op)(af:jd X.E op=0)(h:bR X op (cB F) C I M (λx=>K (put o.dst x F) C I M) (be X o F C I M K)):fc X o F C I M K:=by
 obtain⟨dst,oA,ty,pos,after,guard⟩:=o;simp only at an;subst an;cases oA with
 |call c=>
  obtain⟨callee,args,dN⟩:=c;cases callee with
  |value f=>simp[jd]at af| invoke r n=>exact h| builtin b=>exact h
 |alloc t=>simp[jd]at af| box t x=>simp[jd]at af| store t x y=>simp[jd]at af| buildSlice t l ps=>simp[jd]at af| makeSlice t l c=>simp[jd]at af| _=>exact h
def S8(aI:cj X.P X.E)(ak:∀ d,o.dst=some d->d<X.n){v:al}(af:jd X.E o.op=0)(h:ry X.P X.E G m.t o.op aj=some v)(H:g4 D F aj o.op.operands.toList)(hm:cm (cO X G pr) D m I M)
  (k:∀ x,eB D x v->K (put o.dst x F) C I M):fc X o F C I M K:=by
 unfold ry at h;split at h
 ·rename_i t x an;exact acu ak an h H k
 ·rename_i t x lo hi mx an;exact acw an (acr aI ak an h H hm k)
 ·rename_i t x hi mx an;exact acv an (acs aI ak an h H hm k)
 ·exact acy rfl af (abO aI h H hm k)
def Lo{K:a0 al->Option R}{r:R}(h:mH dst aj v K=some r):∃ b2,K b2=some r/\(dst=none->b2=aj)/\∀ d,dst=some d->∀ t w,b2.get t=some w->(t=d/\w=v)\/(t≠d/\aj.get t=some w):=by
 unfold mH at h;cases dst with
 |none=>exact⟨aj,h,λ_=>rfl,λd ak=>by cases ak⟩
 |some d=>
  have bf:(KE v λv=>aj.kT (some v) d K)=some r:=h;rw[abk]at bf;obtain⟨b2,aa,ab⟩:=a0.l4 (some v) aj d;rw[aa]at bf;refine⟨b2,bf,(λe=>by cases e),λI9 ak t w hw=>?_⟩;cases ak;rcases ab t w hw with⟨ax,aA⟩ | ⟨ax,aA⟩;·exact .inl ⟨ax,(l5 aA).symm⟩
  ·exact .inr ⟨ax,aA⟩
def S9(aI:cj X.P X.E)(h7:∀ d,d<X.n->X.e6.contains d=true)(ak:∀ d,o.dst=some d->d<X.n){call:al->List al->a9->Option (al×a9)}(kd:C6 (cO X G pr) call){K:a0 al->a9->Option R}{r:R}
  (h:v' (cO X G pr) call o aj m K=some r):∃ v m' b2,Gx X G pr o aj m v m'/\(mH o.dst aj v λaj=>K aj m')=some r/\K b2 m'=some r/\(o.dst=none->b2=aj)/\∀ d,o.dst=some d->∀ t w,b2.get t=some w->(t=d/\w=v)\/(t≠d/\aj.get t=some w):=by
 have fin:∀ {v:al} {m':a9},Gx X G pr o aj m v m'->(mH o.dst aj v λaj=>K aj m')=some r->∃ v m' b2,Gx X G pr o aj m v m'/\(mH o.dst aj v λaj=>K aj m')=some r/\K b2 m'=some r/\(o.dst=none->b2=aj)/\∀ d,o.dst=some d->∀ t w,b2.get t=some w->(t=d/\w=v)\/(t≠d/\aj.get t=some w):=fun {v m'} aF aH=>by obtain⟨b2,aa,ab,ai⟩:=Lo aH;exact⟨v,m',b2,aF,aH,aa,ab,ai⟩
 unfold v' at h;split at h
 ·
  rename_i f args dN an;unfold Sm at h;obtain⟨acz,aD,h⟩:=bX h;obtain⟨l,ay,h⟩:=bX h;obtain⟨⟨v,m'⟩,aF,h⟩:=bX h;obtain⟨aw,h⟩:=e3 h;refine fin ⟨bq aw,λD F C I M K pu hm af=>?_⟩ h;rw[an]at pu;obtain⟨u,ax,aO⟩:=pu.bi (x:=f) (by simp[Op.operands,Call.operands]) aD;obtain⟨us,aA,aP⟩:=pu.j2 (l:=args.toList) (by intro y aL;simp[Op.operands,Call.operands];exact .inr (by simpa using aL)) ay;obtain⟨dst,oA,ty,pos,after,guard⟩:=o;simp only at an;subst an;rcases kd _ _ _ _ _ aF D I M u us aO aP hm with⟨g,bK,cs,rfl,aq⟩ | ⟨q,rfl,aq⟩
  ·simp only[fc,ax,aA];exact a7.whole _ aq λr I' M' a' ae=>by obtain⟨ba,aa,ab,ai⟩:=ae;exact af ba _ C I' M' aa (.put F (.val ab)) ai
  ·simp only[fc,ax,aA];refine be.yield rfl ak ax aA ⟨M,[],_,by simp,aq,λr I' M' a' ae=>?_⟩;obtain⟨ba,aa,ab,ai⟩:=ae;rw[en];exact af ba _ C I' M' aa (.put F (.val ab)) ai
 ·rename_i op ef;unfold Sq at h;split at h
  ·rename_i ei;unfold So at h;obtain⟨v,ah,h⟩:=bX h;refine fin ⟨bS _,λD F C I M K pu hm af=>?_⟩ h;exact S8 aI ak ei ah pu hm λx ae=>af D _ C I M bh.l7 (.put F ae) hm
  ·unfold Sn at h;obtain⟨d,eQ,h⟩:=bX h;obtain⟨⟨l,T,c,mk⟩,av,h⟩:=bX h;obtain⟨m2,ab,aw,ai⟩:=La (Y:=cO X G pr) h;refine fin (v:=mk m.n) (m':=m2) ⟨by omega,λD F C I M K pu hm af=>?_⟩ (by rw[eQ];exact ab);refine SM aI h7 ak av (by rw[eQ];rfl) pu λb vs u de C' a' aD gG hlen aF hu Lp=>?_;have aQ:=ai (vs:=vs) [] (b:=b) (c:=c) hm aD gG (by simpa using hlen) aF;rw[en]at aQ;exact af _ de C' I _ bh.Ac (Lp.v (hu _ _ (bh.oy _ _ _))) aQ
  ·unfold Sp at h;obtain⟨⟨v,m'⟩,ae,h⟩:=bX h;obtain⟨aw,h⟩:=e3 h;refine fin ⟨bq aw,λD F C I M K pu hm af=>?_⟩ h;exact acx aI ak ae pu hm λba u M' aa ab ai=>af ba _ C I M' aa (.put F (.val ab)) ai
end
def jf(X:b')(G:GT)(pr:js)(D0:bh)(n0:Nat)(aj:a0 al)(m:a9)(a:Act)(w:World):Prop:=
 ∃ D F C I M,Rel X a w F C I M/\nw D F aj/\cm (cO X G pr) D m I M/\D0.ext D n0/\n0<=m.n
section
variable{X:b'}{G:GT}{pr:js}{D0:bh}{n0:Nat}{m m':a9}{aj b2:a0 al}{a:Act}{w:World}
def bh.S'{D ba CW:bh}{n:Nat}(h:D.ext ba n)(bf:ba.ext CW fq)(aw:n<=fq):D.ext CW n:=λi hi=>by rw[bf i (by omega),h i hi]
def acA{ops:Array Oper}{o:Oper}{D:bh}(h:rA ops.toList o aj=some b)(ct:∀ t,dD β (F t) (a.tmps.getD t undef))(qH:nw D F aj):Region.wanted o (yielded ops a.tmps)=b:=by
 unfold rA at h;split at h
 ·rename_i aG;cases h;simp[Region.wanted,aG]
 ·rename_i j c aG;split at h
  ·cases h
  ·rename_i d ar;have h8:(ops[j]?).bind (·.dst)=some d:=by rw[wi]at ar;simpa using ar
   have aL:=AJ h8 a.tmps;split at h
   ·rename_i q aK;cases h;have aq:=qH _ _ aK;have ah:a.tmps.getD d undef=.bool q:=by
     have aa:=ct d;rcases aq with⟨u,e,hu⟩ | ⟨c7,bc,e⟩;·rw[e]at aa;rw[aa,hu.bool]
     ·cases bc;rw[e]at aa;exact aa
    simp[Region.wanted,aG,aL,yO ah]
   ·rename_i l aK;cases h;have aq:=qH _ _ aK;obtain⟨u,e,hu⟩:=aq.tc (by simp);obtain⟨vs,_,rfl⟩:=hu.K3;have aa:=ct d;rw[e]at aa;have wX:yielded ops a.tmps j=none:=by
     rw[aL];cases kZ:a.tmps[d]? with
     |none=>rfl| some v=>simp only[dD,l8,kZ,jZ]at aa;subst aa;rfl
    simp[Region.wanted,aG,wX]
   ·cases h
def Ta{o:Oper}{K:a0 al->Option R}{r:R}(h:yf o aj K=some r):∃ b2,K b2=some r/\(o.dst=none->b2=aj)/\∀ d,o.dst=some d->∀ t w,b2.get t=some w->(t=d/\w=.t [])\/(t≠d/\aj.get t=some w):=by
 unfold yf at h;cases ak:o.dst with
 |none=>rw[ak]at h;exact⟨aj,h,λ_=>rfl,λd e=>by cases e⟩
 |some d=>
  rw[ak]at h;obtain⟨b2,aa,ab⟩:=a0.l4 (some (al.t [])) aj d;simp only[aa]at h;refine⟨b2,h,(λe=>by cases e),λI9 ff t w hw=>?_⟩;cases ff;rcases ab t w hw with⟨ax,aA⟩ | ⟨ax,aA⟩;·exact .inl ⟨ax,(l5 aA).symm⟩
  ·exact .inr ⟨ax,aA⟩
def nw.step{D ba:bh}{v:al}(h:nw D F aj)(hle:D.le ba)(aH:rE dst v ba F de)(aa:dst=none->b2=aj)(ab:∀ d,dst=some d->∀ t w,b2.get t=some w->(t=d/\w=v)\/(t≠d/\aj.get t=some w)):nw ba de b2:=λt u az=>by
 cases ak:dst with
 |none=>rw[aa ak]at az;exact aH.2 ba t u (by rw[ak];simp) ((h t u az).mono hle)
 |some d=>
  rcases ab d ak t u az with⟨rfl,rfl⟩ | ⟨bl,aG⟩;·exact aH.1 _ ak
  ·exact aH.2 ba t u (by rw[ak];intro e;cases e;exact bl rfl) ((h t u aG).mono hle)
def Lq(aI:cj X.P X.E)(h7:∀ d,d<X.n->X.e6.contains d=true){call:al->List al->a9->Option (al×a9)}(kd:C6 (cO X G pr) call)(ops:Array Oper)(Q:Exit->Act->World->Prop)(qI:∀ a w,jf X G pr D0 n0 b2 m' a w->Q .normal a w):∀ (l:List Oper) (k:Nat),(∀ j,l[j]?=ops[k+j]?)->(∀ o∈l,∀ d,o.dst=some d->d<X.n)->∀ {aj m a w},z4 (cO X G pr) call ops.toList l aj m=some (b2,m') -> jf X G pr D0 n0 aj m a w->wpOpsIn (fb X) 0 X.P ops Q (List.range' k l.length) a w
 |[],k,_,_,aj,m,a,w,h,aq=>by have bf:some (aj,m)=some (b2,m'):=h;cases bf;exact qI _ _ aq
 |o::rest,k,ay,ak,aj,m,a,w,h,aq=>by
  have au:ops[k]?=some o:=by simpa using(ay 0).symm
  have nK:∀ j,rest[j]?=ops[k+1+j]?:=λj=>by have:=ay (j+1);simpa[oF,Dy 1 j]using this
  have ff:∀ o∈rest,∀ d,o.dst=some d->d<X.n:=λo an=>ak o (by simp[an]);have u':=ak o (by simp);have bf:bz (rA ops.toList o aj) none (λw=>bB w (v' (cO X G pr) call o aj m λaj m=>z4 (cO X G pr) call ops.toList rest aj m) (yf o aj λaj=>z4 (cO X G pr) call ops.toList rest aj m))=some (b2,m'):=h;obtain⟨b,ag,bf⟩:=bX bf;obtain⟨D,F,C,I,M,⟨β,aX⟩,ct,hm,ae,aw⟩:=aq;have hw:=acA ag aX.aj ct;simp only[du,List.range'_succ,wpOpsIn,au];rw[hw];cases b with
  |true=>have ab:v' (cO X G pr) call o aj m (λaj m=>z4 (cO X G pr) call ops.toList rest aj m)=some (b2,m'):=bf;obtain⟨v,cy,eg,⟨Ct,C7⟩,-,ai,aO,aP⟩:=S9 aI h7 u' kd ab;simp only[pE];refine pz (λbw w'=>?_) (yN aI u' ⟨β,aX⟩ (C7 D F C I M (λde C' I' M'=>∃ ba,D.ext ba m.n/\nw ba de eg/\cm (cO X G pr) ba cy I' M') (ct.op _) hm λba de C' I' M' ax aA bj=>⟨ba,ax,ct.step (hm.le ax) aA aO aP,bj⟩));rintro⟨de,C',I',M',fw,ba,ax,aA,bj⟩;exact Lq aI h7 kd ops Q qI rest (k+1) nK ff ai ⟨ba,de,C',I',M',fw,aA,bj,bh.S' ae ax aw,jy aw Ct⟩
  |false=>have ab:yf o aj (λaj=>z4 (cO X G pr) call ops.toList rest aj m)=some (b2,m'):=bf;obtain⟨eg,ai,aO,aP⟩:=Ta ab;simp only[iL,jz];refine⟨λ_ _=>trivial,Lq aI h7 kd ops Q qI rest (k+1) nK ff ai ⟨D,put o.dst (.val undef) F,C,I,M,⟨β,aX.put (x:=.val undef) u' rfl⟩,ct.step (bh.le_refl D) (.put F (.val .undef)) aO aP,hm,ae,aw⟩⟩
end
def acB{X:b'}{Q:Exit->Act->World->Prop}(aU:∀ j e,j' ops j e->e<j)(J:(Nat->Prop)->Act->World->Prop)(step:∀ (L:Nat->Prop) a w q o,J L a w->w0 ops L->(∀ i,L i->i<ops.length)->ops[q]?=some o->¬ L q->(∀ e,j' ops q e->L e) -> (Region.wanted o (yielded ops.toArray a.tmps)=true->o.wpIn (fb X) 0 X.P a w (J λj=>L j\/j=q) Q)/\(Region.wanted o (yielded ops.toArray a.tmps)=false->J (λj=>L j\/j=q) (a.put o.dst undef) w))
  (fin:∀ a w,J (λi=>i<ops.length) a w->Q .normal a w):∀ (fuel:Nat) (listed:Array Bool) (a:Act) (w:World),listed.size=ops.length->todo ops listed<=fuel->w0 ops (λi=>listed.getD i false=true) ->
   J (λi=>listed.getD i false=true) a w->wpAnyIn (fb X) 0 X.P .any ops.toArray Q fuel listed a w:=by
 have d':∀ (listed:Array Bool) (i:Nat),listed.getD i false=true->i<listed.size:=λlisted i h=>by refine yC λaw=>?_;simp[Array.getD,aw]at h
 have full:∀ (listed:Array Bool) a w,listed.size=ops.length->Region.ready .any ops.toArray listed=[]->J (λi=>listed.getD i false=true) a w->Q .normal a w:=λlisted a w cc lC cT=>by
  have all:∀ i,i<ops.length->listed.getD i false=true:=λi=>by
   induction i using Nat.strongRecOn with
   |ind i a8=>
    intro hi;refine yC λaw=>?_;have an:ops[i]?=some ops[i]:=iT hi;have:i∈Region.ready .any ops.toArray listed:=(mem_ready cc).2 ⟨_,an,aw,λe he=>by
     have aa:=aU i e he;exact a8 e aa (by omega)⟩
    rw[lC]at this;cases this
  have e:(λi=>listed.getD i false=true)=λi=>i<ops.length:=by funext i;simp only[eq_iff_iff];exact⟨λh=>by have:=d' listed i h;omega,all i⟩
  rw[e]at cT;exact fin a w cT
 intro fuel
 induction fuel with
 |zero=>
  intro listed a w cc aD eo cT;have lC:Region.ready .any ops.toArray listed=[]:=by
   cases ao:Region.ready .any ops.toArray listed with
   |nil=>rfl| cons i l=>obtain⟨o,an,aw,_⟩:=(mem_ready cc).1 (by rw[ao];simp:i∈Region.ready .any ops.toArray listed);have:=D3 (h3.1 an).1 cc aw;omega
  exact⟨lC,full listed a w cc lC cT⟩
 |succ fuel a8=>
  intro listed a w cc aD eo cT;refine⟨λlC=>full listed a w cc lC cT,λq aK=>?_⟩;obtain⟨o,an,aw,ak⟩:=(mem_ready cc).1 aK;have cr:=(h3.1 an).1;have jH:=Nf (listed:=listed) (i:=q) (by omega);have next:∀ bw w',J (λj=>listed.getD j false=true\/j=q) bw w'->wpAnyIn (fb X) 0 X.P .any ops.toArray Q fuel (listed.setIfInBounds q true) bw w':=λbw w' h=>by
   refine a8 _ bw w' (by simpa using cc) ?_ ?_ (by rw[jH];exact h);·have:=D3 cr cc aw;omega
   ·rw[jH];rintro j e (ar | rfl) he
    ·exact .inl (eo j e ar he)
    ·exact .inl (ak e he)
  obtain⟨s1,s2⟩:=step _ a w q o cT eo (λi hi=>by have:=d' listed i hi;omega) an aw ak;have A0:ops.toArray[q]?=some o:=by simpa using an
  unfold wpOpIn;simp only[A0];cases hw:Region.wanted o (yielded ops.toArray a.tmps)with
  |true=>
   simp only[pE];exact pz next (s1 hw)
  |false=>simp only[iL,jz];exact⟨λ_ _=>trivial,next _ _ (s2 hw)⟩
def Tb{S:List a9}{lo hi:Nat}{p:a9->Bool}{m:a9}(h:z7 S lo hi p=true)(aa:lo<=j)(ab:j<=hi)(ar:S[j]?=some m):p m=true:=by unfold z7 at h;refine gR.1 h m ?_;refine wH (i:=j-lo) ?_;rw[jY,cv (by omega),oE,show lo+(j-lo)=j by omega];exact ar
def filter_le{p:α->Bool}:∀ {l:List α},(∀ q e,l[q]?=some e->p e=true->q<j)->(l.filter p).length<=j:=by
 intro l h;have ax:l.filter p=(l.take j).filter p:=by
  conv=>lhs;rw[<-w3 j l]
  rw[KY];have:(l.drop j).filter p=[]:=by rw[List.filter_eq_nil_iff];intro a av aH;obtain⟨q,aK⟩:=Gd av;rw[oE]at aK;have:=h _ _ aK aH;omega
  rw[this,en]
 rw[ax];refine jy (Dr _ _) ?_;simp;omega
def le_filter{p:α->Bool}{l:List α}(ar:j<=l.length)(h:∀ q e,q<j->l[q]?=some e->p e=true):j<=(l.filter p).length:=by
 have ax:(l.take j).filter p=l.take j:=by
  rw[List.filter_eq_self];intro a av;obtain⟨q,aK⟩:=Gd av;rw[jY]at aK;split at aK;·exact h q a (by assumption) aK
  ·cases aK
 have aA:l.filter p=(l.take j).filter p++(l.drop j).filter p:=by
  conv=>lhs;rw[<-w3 j l]
  rw[KY]
 rw[aA,ax,cD,kz];omega
mutual
def Tc{D:bh}:∀ {x y:al} {u:Value},z6 x y=true->aJ D x u->aJ D y u
 |x,y,u,h,ae=>by
  cases x<;>cases y<;>simp only[z6,iL,bG]at h
  case b.b=>
   have:=eq_of_beq h;subst this;exact ae
  case i.i=>
   obtain⟨aa,ab⟩:=h;have:=IntKind.yL aa;subst this;rw[we,eC]at ab;subst ab;exact ae
  case s.s=>
   rw[yh,eC]at h;subst h;exact ae
  case pn.pn=>exact ae
  case p.p=>
   obtain⟨aa,ab⟩:=h;have:=bV aa;subst this;have:=bV ab;subst this;exact ae
  case g.g=>
   obtain⟨aa,ab⟩:=h;have:=bV aa;subst this;have:=bV ab;subst this;exact ae
  case sn.sn=>exact ae
  case sl.sl=>
   obtain⟨aa,ab,ai,aQ⟩:=h;have:=bV aa;subst this;have:=bV ab;subst this;have:=bV ai;subst this;have:=bV aQ;subst this;exact ae
  case sx.sx=>
   obtain⟨aa,ab,ai,aQ⟩:=h;have:=bV aa;subst this;have:=bV ab;subst this;have:=bV ai;subst this;have:=bV aQ;subst this;exact ae
  case gs.gs=>
   obtain⟨aa,ab,ai,aQ⟩:=h;have:=bV aa;subst this;have:=bV ab;subst this;have:=bV ai;subst this;have:=bV aQ;subst this;exact ae
  case mn.mn=>exact ae
  case m.m=>have:=bV h;subst this;exact ae
  case f.f=>
   obtain⟨aa,ab,ai⟩:=h;have:=bV aa;subst this;simp only[aJ]at ae |-;obtain⟨vs,ws,aO,aP,br⟩:=ae;exact⟨vs,ws,Ae ab aO,Ae ai aP,br⟩
  case y.y=>have:=bV h;subst this;exact ae
  case fn.fn=>exact ae
  case ni.ni=>exact ae
  case t.t=>
   simp only[aJ]at ae |-;obtain⟨vs,aO,aP⟩:=ae;exact⟨vs,Ae h aO,aP⟩
  case a.a=>
   simp only[aJ]at ae |-;obtain⟨vs,aO,aP⟩:=ae;exact⟨vs,Ae h aO,aP⟩
def Ae{D:bh}:∀ {x y:List al} {us:List Value},tb x y=true->bm D x us->bm D y us
 |[],[],us,h,ae=>ae| [],_::_,us,h,ae=>by simp[tb]at h
 |_::_,[],us,h,ae=>by simp[tb]at h
 |x::l,y::m,us,h,ae=>by simp only[tb,bG]at h;obtain⟨u,us,aO,aP,rfl⟩:=ae.ix;exact .cons (Tc h.1 aO) (Ae h.2 aP)
end
def C8(dst:Option Nat)(aj:a0 al)(v:al)(b2:a0 al):Prop:=(dst=none->b2=aj)/\∀ d,dst=some d->∀ t w,b2.get t=some w->(t=d/\w=v)\/(t≠d/\aj.get t=some w)
def Gy(m m':a9)(l:List al)(T:Nat):Prop:=m'.n=m.n+1/\(∀ id e,m'.t.get id=some e->id=m.n\/m.t.get id=some e)
def uS(m m':a9):Prop:=m.n<=m'.n/\∀ id e,id<m.n->m'.t.get id=some e->m.t.get id=some e
def uS.refl(m:a9):uS m m:=⟨bS _,λ_ _ _ h=>h⟩
def uS.trans{a b c:a9}(h:uS a b)(k:uS b c):uS a c:=⟨jy h.1 k.1,λid e hi he=>h.2 id e hi (k.2 id e (Dt hi h.1) he)⟩
def Gy.grow{m m':a9}{l:List al}{T:Nat}(h:Gy m m' l T):uS m m':=⟨by rw[h.1];omega,λid e hi he=>by
 rcases h.2 id e he with aa | aa
 ·omega
 ·exact aa⟩
def acC{m:a9}{l:List al}{T:Nat}{K:Nat->a9->Option R}{r:R}(h:rz m l T K=some r):∃ m',K m.n m'=some r/\Gy m m' l T:=by unfold rz at h;obtain⟨cs,aa,ab⟩:=a0.uP l (.nil:a0 al) 0;rw[aa]at h;obtain⟨dU,ai,aQ⟩:=CX h;exact⟨_,aQ,rfl,λid e hi=>(ai id e hi).imp (λq=>q.1) λq=>q.2⟩
def cm.grow{Y:e2}{D:bh}{m m':a9}{I:aN}(h:cm Y D m I M)(aG:uS m m'):cm Y D m' I M where
 gQ id e a aa ab:=h.gQ id e a (aG.2 id e (h.hD _ _ ab) aa) ab
 inj id gC e bc a bw aa y8 ab mX ag:=h.inj id gC e bc a bw (aG.2 id e (h.hD _ _ ab) aa) (aG.2 gC bc (h.hD _ _ mX) y8) ab mX ag
 hD id a ab:=Dt (h.hD _ _ ab) aG.1
 nu:=h.nu
inductive ju(X:b')(G:GT)(pr:js)(ops:List Oper):List (Nat×Nat)->a0 al->a9->List (Nat×al)->a0 al->a9->List a9->List nr->Prop
 |nil{aj m}:ju X G pr ops [] aj m [] aj m [m] []| q {i o rest aj m v b2 vs e' eU S A} (an:ops[i]?=some o) (af:jd X.E o.op=0) (hw:rA ops o aj=some true) (ah:ry X.P X.E G m.t o.op aj=some v) (aH:C8 o.dst aj v b2) (t:ju X G pr ops rest b2 m vs e' eU S A) : ju X G pr ops ((i,0)::rest) aj m ((i,v)::vs) e' eU S (bif mP o.op then .load i o aj v::A else A)| a {i o d rest aj m m' l T c mk b2 vs e' eU S A} (an:ops[i]?=some o) (af:jd X.E o.op=1) (hw:rA ops o aj=some true) (ak:o.dst=some d) (ah:ye X.E o aj=some (l,T,c,mk)) (aw:Gy m m' l T) (aH:C8 o.dst aj (mk m.n) b2) (t:ju X G pr ops rest b2 m' vs e' eU S A) : ju X G pr ops ((i,1)::rest) aj m ((i,mk m.n)::vs) e' eU S (.made i m.n l T::A)| e {i o rest aj m m' v b2 vs e' eU S A} (an:ops[i]?=some o) (af:jd X.E o.op=2) (hw:rA ops o aj=some true) (aF:Gx X G pr o aj m v m') (aH:C8 o.dst aj v b2) (t:ju X G pr ops rest b2 m' vs e' eU S A) : ju X G pr ops ((i,2)::rest) aj m ((i,v)::vs) e' eU (m::S) A| skip {i k o rest aj m b2 vs e' eU S A} (an:ops[i]?=some o) (af:jd X.E o.op=k) (hw:rA ops o aj=some false) (aH:C8 o.dst aj (.t []) b2) (t:ju X G pr ops rest b2 m vs e' eU S A) : ju X G pr ops ((i,k)::rest) aj m ((i,.t [])::vs) e' eU (bif Nat.beq k 2 then m::S else S) A
section
variable{X:b'}{G:GT}{pr:js}{ops:List Oper}
def C9(aI:cj X.P X.E)(h7:∀ d,d<X.n->X.e6.contains d=true)(eG:∀ o∈ops,∀ d,o.dst=some d->d<X.n){call:al->List al->a9->Option (al×a9)}(kd:C6 (cO X G pr) call):∀ (row:List (Nat×Nat)) {aj:a0 al} {m:a9} {hh:List a9} {ls:List nr} {e':a0 al} {eU:a9} {iZ:List a9} {kV:List nr},l3 (cO X G pr) call ops row aj m hh ls=some (e',eU,iZ,kV)->∃ vs S A,ju X G pr ops row aj m vs e' eU S A/\iZ=S.reverse++hh/\(∀ h∈A,h∈kV)/\∀ h∈ls,h∈kV
 |[],aj,m,hh,ls,e',eU,iZ,kV,h=>by simp only[l3,g7,Prod.mk.injEq]at h;obtain⟨rfl,rfl,rfl,rfl⟩:=h;exact⟨[],[m],[],.nil,by simp,by simp,λ_ h=>h⟩
 |(i,k)::rest,aj,m,hh,ls,e',eU,iZ,kV,h=>by
  simp only[l3]at h;obtain⟨o,an,h⟩:=bX h;obtain⟨w,hw,h⟩:=bX h;obtain⟨af,h⟩:=e3 h;rw[wi]at an;have iJ:jd X.E o.op=k:=bV af;have u':=eG o (wH an);cases w with
  |false=>
   have ab:yf o aj (λaj=>l3 (cO X G pr) call ops rest aj m (bB (Nat.beq k 2) (m::hh) hh) ls)=some (e',eU,iZ,kV):=h;obtain⟨eg,ai,aO,aP⟩:=Ta ab;obtain⟨vs,S,A,az,ea,ha,pw⟩:=C9 aI h7 eG kd rest ai;refine⟨_,_,_,.skip an iJ hw ⟨aO,aP⟩ az,?_,ha,pw⟩;rw[ea];cases Nat.beq k 2<;>simp[bB]
  |true=>
   have aa:bB (Nat.beq k 0) (bz (ry X.P X.E G m.t o.op aj) none λv=>mH o.dst aj v λb2=>l3 (cO X G pr) call ops rest b2 m hh (bB (mP o.op) (.load i o aj v::ls) ls)) (bB (Nat.beq k 1) (bz o.dst none λd=>bz (ye X.E o aj) none λr=>rz m r.1 r.2.1 λid m=>mH (some d) aj (r.2.2.2 id) λaj=>l3 (cO X G pr) call ops rest aj m hh (.made i id r.1 r.2.1::ls)) (v' (cO X G pr) call o aj m λaj m'=>l3 (cO X G pr) call ops rest aj m' (m::hh) ls))=some (e',eU,iZ,kV):=h;by_cases qc:k=0
   ·subst qc;have ab:(bz (ry X.P X.E G m.t o.op aj) none λv=>mH o.dst aj v λb2=>l3 (cO X G pr) call ops rest b2 m hh (bB (mP o.op) (.load i o aj v::ls) ls))=some (e',eU,iZ,kV):=aa;obtain⟨v,ah,ab⟩:=bX ab;obtain⟨eg,ai,aO,aP⟩:=Lo ab;obtain⟨vs,S,A,az,ea,ha,pw⟩:=C9 aI h7 eG kd rest ai;refine⟨_,_,_,.q an iJ hw ah ⟨aO,aP⟩ az,ea,λy aL=>?_,λy aL=>pw y ?_⟩
    ·cases ay:mP o.op with
     |false=>rw[ay]at aL;exact ha y aL
     |true=>
      rw[ay]at aL;rcases dv.1 aL with rfl | aL;·refine pw _ ?_;rw[ay];simp[bB]
      ·exact ha y aL
    ·cases mP o.op with
     |false=>exact aL| true=>exact lr _ aL
   rw[fv qc]at aa;by_cases dr:k=1
   ·subst dr;have ab:(bz o.dst none λd=>bz (ye X.E o aj) none λr=>rz m r.1 r.2.1 λid m=>mH (some d) aj (r.2.2.2 id) λaj=>l3 (cO X G pr) call ops rest aj m hh (.made i id r.1 r.2.1::ls))=some (e',eU,iZ,kV):=aa;obtain⟨d,ak,ab⟩:=bX ab;obtain⟨⟨l,T,c,mk⟩,av,ab⟩:=bX ab;obtain⟨m2,ai,aw⟩:=acC ab;have g0:mH o.dst aj (mk m.n) (λaj=>l3 (cO X G pr) call ops rest aj m2 hh (.made i m.n l T::ls))=some (e',eU,iZ,kV):=by rw[ak];exact ai
    obtain⟨eg,aQ,aO,aP⟩:=Lo g0;obtain⟨vs,S,A,az,ea,ha,pw⟩:=C9 aI h7 eG kd rest aQ;refine⟨_,_,_,.a an iJ hw ak av aw ⟨aO,aP⟩ az,ea,λy aL=>?_,λy aL=>pw y (lr _ aL)⟩;rcases dv.1 aL with rfl | aL;·exact pw _ (by simp)
    ·exact ha y aL
   ·rw[fv dr]at aa;have ab:v' (cO X G pr) call o aj m (λaj m'=>l3 (cO X G pr) call ops rest aj m' (m::hh) ls)=some (e',eU,iZ,kV):=aa;obtain⟨v,cy,eg,C7,-,ai,aO,aP⟩:=S9 aI h7 u' kd ab;obtain⟨vs,S,A,az,ea,ha,pw⟩:=C9 aI h7 eG kd rest ai;have tN:k=2:=by
     have:jd X.E o.op<=2:=by
      unfold jd;split<;>first | omega | (split<;>first | omega | (split<;>omega))
     rw[iJ]at this;omega
    subst tN;exact⟨_,_,_,.e an iJ hw C7 ⟨aO,aP⟩ az,by rw[ea];simp,ha,pw⟩
def ju.head{aj e':a0 al}{m eU:a9}{vs:List (Nat×al)}{S:List a9}{A:List nr}(h:ju X G pr ops row aj m vs e' eU S A):∃ m2 iZ,S=m2::iZ/\uS m m2:=by
 induction h with
 |nil=>exact⟨_,_,rfl,.refl _⟩| q _ _ _ _ _ _ a8=>exact a8| a _ _ _ _ _ aw _ _ a8=>obtain⟨m2,iZ,aa,ab⟩:=a8;exact⟨m2,iZ,aa,aw.grow.trans ab⟩
 |e _ _ _ _ _ _ _=>exact⟨_,_,rfl,.refl _⟩
 | @skip i k o rest aj m b2 vs e' eU S A _ _ _ _ _ a8=>
  cases af:Nat.beq k 2 with
  |true=>exact⟨_,_,rfl,.refl _⟩| false=>simpa using a8
def ju.Gz{aj e':a0 al}{m eU:a9}{vs:List (Nat×al)}{S:List a9}{A:List nr}(h:ju X G pr ops row aj m vs e' eU S A):m.n<=eU.n/\∀ i c l T,.made i c l T∈A->m.n<=c/\i∈row.map (·.1):=by
 induction h with
 |nil=>exact⟨bS _,λ_ _ _ _ h=>by cases h⟩
 | @q i o rest aj m v b2 vs e' eU S A _ _ _ _ _ _ a8=>
  refine⟨a8.1,λfj c l T hm=>?_⟩;have oN:.made fj c l T∈A:=by
   cases ay:mP o.op with
   |false=>rw[ay]at hm;exact hm
   |true=>
    rw[ay]at hm;rcases dv.1 hm with e | hm;·cases e
    ·exact hm
  exact⟨(a8.2 fj c l T oN).1,lr _ (a8.2 fj c l T oN).2⟩
 |a _ _ _ _ _ aw _ _ a8=>
  refine⟨jy aw.grow.1 a8.1,λfj c l T hm=>?_⟩;rcases dv.1 hm with e | hm;·cases e;exact⟨bS _,by simp⟩
  ·exact⟨jy aw.grow.1 (a8.2 fj c l T hm).1,lr _ (a8.2 fj c l T hm).2⟩
 |e _ _ _ aF _ _ a8=>exact⟨jy aF.1 a8.1,λfj c l T hm=>⟨jy aF.1 (a8.2 fj c l T hm).1,lr _ (a8.2 fj c l T hm).2⟩⟩| skip _ _ _ _ _ a8=>exact⟨a8.1,λfj c l T hm=>⟨(a8.2 fj c l T hm).1,lr _ (a8.2 fj c l T hm).2⟩⟩
def ju.split:∀ (pre:List (Nat×Nat)) {rest:List (Nat×Nat)} {aj e':a0 al} {m eU:a9} {vs:List (Nat×al)} {S:List a9} {A:List nr},ju X G pr ops (pre++rest) aj m vs e' eU S A -> ∃ te uT eg cy rF tf tg,vs=te++uT/\te.map (·.1)=pre.map (·.1)/\S=rF++tf/\rF.length=(pre.filter λr=>Nat.beq r.2 2).length/\ju X G pr ops rest eg cy uT e' eU tf tg/\(∀ h∈tg,h∈A)/\m.n<=cy.n /\ (∀ t w,eg.get t=some w->(∃ i,(i,w)∈te/\gV ops i=some t)\/((∀ i∈pre.map (·.1),gV ops i≠some t)/\aj.get t=some w)) /\ (∀ i c l T,.made i c l T∈A->.made i c l T∈tg\/c<cy.n)
 |[],rest,aj,e',m,eU,vs,S,A,h=>⟨[],vs,aj,m,[],S,A,rfl,rfl,rfl,rfl,h,λ_ h=>h,bS _,λt w hw=>.inr ⟨by simp,hw⟩,λ_ _ _ _ h=>.inl h⟩
 |(i,k)::pre,rest,aj,e',m,eU,vs,S,A,h=>by
  have fin:∀ {o:Oper} {b2:a0 al} {m':a9} {v:al} {pJ:List (Nat×al)} {iZ S:List a9} {kV A:List nr},ops[i]?=some o->C8 o.dst aj v b2->m.n<=m'.n->ju X G pr ops (pre++rest) b2 m' pJ e' eU iZ kV -> (S=if Nat.beq k 2 then m::iZ else iZ)->(∀ h∈kV,h∈A)->(∀ i c l T,.made i c l T∈A->.made i c l T∈kV\/c<m'.n) ->
    ∃ te uT eg cy rF tf tg,(i,v)::pJ=te++uT/\te.map (·.1)=((i,k)::pre).map (·.1)/\S=rF++tf/\rF.length=(((i,k)::pre).filter λr=>Nat.beq r.2 2).length/\ju X G pr ops rest eg cy uT e' eU tf tg/\(∀ h∈tg,h∈A)/\m.n<=cy.n /\ (∀ t w,eg.get t=some w->(∃ i,(i,w)∈te/\gV ops i=some t)\/((∀ fj∈((i,k)::pre).map (·.1),gV ops fj≠some t)/\aj.get t=some w)) /\
     (∀ i c l T,.made i c l T∈A->.made i c l T∈tg\/c<cy.n):=by
   intro o b2 m' v pJ iZ S kV A an aH Ct az ea ha acD;obtain⟨te,uT,eg,cy,rF,tf,tg,ax,aA,bj,cp,eX,gM,kl,kN,v0⟩:=ju.split pre az;refine⟨(i,v)::te,uT,eg,cy,(if Nat.beq k 2 then m::rF else rF),tf,tg,by rw[ax];rfl,by simp[aA],?_,?_,eX,λh a4=>ha h (gM h a4),jy Ct kl,λt w hw=>?_,λi c l T hm=>?_⟩
   ·rw[ea,bj];split<;>simp
   ·simp only[Dv];split<;>simp[cp]
   ·rcases kN t w hw with⟨fj,aa,ab⟩ | ⟨aa,ab⟩
    ·exact .inl ⟨fj,lr _ aa,ab⟩
    ·have mR:gV ops i=o.dst:=by simp[gV,an]
     cases ak:o.dst with
     |none=>
      rw[aH.1 ak]at ab;refine .inr ⟨λfj c6=>?_,ab⟩;rcases dv.1 c6 with e | c6;·rw[show fj=i from e,mR,ak];simp
      ·exact aa fj c6
     |some d=>
      rcases aH.2 d ak t w ab with⟨rfl,rfl⟩ | ⟨bl,ai⟩;·exact .inl ⟨i,by simp,by rw[mR,ak]⟩
      ·refine .inr ⟨λfj c6=>?_,ai⟩;rcases dv.1 c6 with e | c6
       ·rw[show fj=i from e,mR,ak];exact λe=>bl (by cases e;rfl)
       ·exact aa fj c6
   ·rcases acD i c l T hm with aa | aa
    ·exact v0 i c l T aa
    ·exact .inr (Dt aa kl)
  cases h with
  |q an af hw ah aH t=>
   rename_i o v b2 pJ kV;refine fin an aH (bS _) t (by simp) (λh a4=>?_) λi c l T hm=>?_
   ·cases mP o.op with
    |false=>exact a4| true=>exact lr _ a4
   ·cases ay:mP o.op with
    |false=>rw[ay]at hm;exact .inl hm
    |true=>
     rw[ay]at hm;rcases dv.1 hm with e | hm;·cases e
     ·exact .inl hm
  |a an af hw ak ah aw aH t=>
   refine fin an aH aw.grow.1 t (by simp) (λh a4=>lr _ a4) λi c l T hm=>?_;rcases dv.1 hm with e | hm;·cases e;exact .inr (by rw[aw.1];omega)
   ·exact .inl hm
  |e an af hw aF aH t=>exact fin an aH aF.1 t (by simp) (λ_ h=>h) λ_ _ _ _ h=>.inl h
  |skip an af hw aH t=>exact fin an aH (bS _) t (by cases Nat.beq k 2<;>rfl) (λ_ h=>h) λ_ _ _ _ h=>.inl h
end
section
variable{ops:List Oper}
def acE{i k:Nat}{o:Oper}(an:ops[i]?=some o)(h:AT o k=true):∀ e,j' ops i e->k.testBit e=true:=by rintro e⟨o',ky,k1,nQ,ag,rfl⟩;rw[an]at k1;cases k1;have:=gR.1 h ky (by simpa using nQ);rw[ag]at this;simpa using this
def GA:∀ {row:List (Nat×Nat)} {k:Nat},ta ops row k=true->∀ (pre:List (Nat×Nat)) (i c:Nat) (post:List (Nat×Nat)),row=pre++(i,c)::post -> (∃ o,ops[i]?=some o)/\k.testBit i=false/\i ∉ pre.map (·.1)/\∀ e,j' ops i e->k.testBit e=true\/e∈pre.map (·.1)
 |[],k,h,pre,i,c,post,e=>by simp at e
 |(i0,mz)::row,k,h,pre,i,c,post,e=>by
  simp only[ta,bG,mK]at h;obtain⟨aa,ab⟩:=h;split at ab
  ·rename_i o an;rw[bG]at ab;cases pre with
   |nil=>simp only[nW,sw,Prod.mk.injEq]at e;obtain⟨⟨rfl,rfl⟩,rfl⟩:=e;exact⟨⟨o,an⟩,aa,by simp,λe he=>.inl (acE an ab.1 e he)⟩
   |cons p pre=>
    simp only[sb,sw]at e;obtain⟨ax,aA⟩:=e;obtain⟨aO,aP,br,eW⟩:=GA ab.2 pre i c post aA;have ag:∀ x,(k ||| 2^i0).testBit x=(k.testBit x||decide (x=i0)):=λx=>by rw[Dw,Ds];congr 1;exact decide_eq_decide.2 eq_comm
    rw[ag,nU]at aP;refine⟨aO,aP.1,?_,λe he=>?_⟩;·rw[<-ax];simp only[eh,dv,not_or];exact⟨by simpa using aP.2,br⟩
    ·rcases eW e he with h | h
     ·rw[ag,ku]at h;rcases h with h | h
      ·exact .inl h
      ·exact .inr (by rw[<-ax];simp at h;simp[h])
     ·exact .inr (by rw[eh];exact lr _ h)
  ·cases ab
def Lr:∀ {row:List (Nat×Nat)} {k:Nat},ta ops row k=true->∀ i,i<ops.length->k.testBit i=true\/i∈row.map (·.1)
 |[],k,h,i,hi=>by
  simp only[ta]at h;have:=bV h;subst this
  left
  rw[Nat.testBit_two_pow_sub_one];simpa using hi
 |(i0,mz)::row,k,h,i,hi=>by
  simp only[ta,bG,mK]at h;obtain⟨aa,ab⟩:=h;split at ab
  ·rw[bG]at ab;rcases Lr ab.2 i hi with h | h
   ·rw[Dw,Ds,ku]at h;rcases h with h | h
    ·exact .inl h
    ·have:i0=i:=by simpa using h
     exact .inr (by simp[this])
   ·exact .inr (by rw[eh];exact lr _ h)
  ·cases ab
def acF(h:ta ops row 0=true):(row.map (·.1)).Nodup:=by
 have key:∀ {row:List (Nat×Nat)} {k:Nat},ta ops row k=true->(row.map (·.1)).Nodup:=by
  intro row
  induction row with
  |nil=>intro k _;exact wJ
  |cons r row a8=>
   intro k h;obtain⟨i0,mz⟩:=r;have bf:=h;simp only[ta,bG,mK]at h;obtain⟨aa,ab⟩:=h;split at ab;·rw[bG]at ab;rw[eh,kW];refine⟨λhm=>?_,a8 ab.2⟩;obtain⟨⟨x,c⟩,ae,Ls⟩:=dO.1 hm;obtain⟨pre,post,e⟩:=rB ae;have Lt:x=i0:=Ls;subst Lt;have:=(GA bf ((x,mz)::pre) x c post (by rw[e];rfl)).2.2.1;exact this (by simp)
   ·cases ab
 exact key h
def Td{α β:Type}:∀ {l:List (α×β)},(l.map (·.1)).Nodup->∀ {k:α} {a b:β},(k,a)∈l->(k,b)∈l->a=b
 |[],_,k,a,b,h,_=>by cases h
 |(qc,c)::l,aw,k,a,b,h,bf=>by
  rw[eh,kW]at aw;rcases dv.1 h with e | h
  ·cases e;rcases dv.1 bf with bc | bf
   ·cases bc;rfl
   ·exact(aw.1 (dO.2 ⟨_,bf,rfl⟩)).elim
  ·rcases dv.1 bf with bc | bf
   ·cases bc;exact(aw.1 (dO.2 ⟨_,h,rfl⟩)).elim
   ·exact Td aw.2 h bf
end
section
variable{X:b'}{G:GT}{pr:js}{D0:bh}{n0:Nat}{a:Act}{w:World}
def GB{o:Oper}{D:bh}{aj:a0 al}(h:rA ops o aj=some b)(ct:∀ t,dD β (F t) (a.tmps.getD t undef))(H:∀ t∈looks ops o,∀ v,aj.get t=some v->eB D (F t) v) :
  Region.wanted o (yielded ops.toArray a.tmps)=b:=by
 unfold rA at h;split at h
 ·rename_i aG;cases h;simp[Region.wanted,aG]
 ·rename_i j c aG;split at h
  ·cases h
  ·rename_i d ar;have h8:(ops[j]?).bind (·.dst)=some d:=by rw[wi]at ar;simpa using ar
   have acG:(ops.toArray[j]?).bind (·.dst)=some d:=by simpa using h8
   have aL:=AJ acG a.tmps;have tD:d∈looks ops o:=Hv aG h8;split at h
   ·rename_i q aK;cases h;have aq:=H _ tD _ aK;have ah:a.tmps.getD d undef=.bool q:=by
     have aa:=ct d;rcases aq with⟨u,e,hu⟩ | ⟨c7,bc,e⟩;·rw[e]at aa;rw[aa,hu.bool]
     ·cases bc;rw[e]at aa;exact aa
    simp[Region.wanted,aG,aL,yO ah]
   ·rename_i l aK;cases h;have aq:=H _ tD _ aK;obtain⟨u,e,hu⟩:=aq.tc (by simp);obtain⟨vs,_,rfl⟩:=hu.K3;have aa:=ct d;rw[e]at aa;have wX:yielded ops.toArray a.tmps j=none:=by
     rw[aL];cases kZ:a.tmps[d]? with
     |none=>rfl| some v=>simp only[dD,l8,kZ,jZ]at aa;subst aa;rfl
    simp[Region.wanted,aG,wX]
   ·cases h
def acH{o:Oper}{D:bh}{aj:a0 al}(H:∀ t∈looks ops o,∀ v,aj.get t=some v->eB D (F t) v):g4 D F aj o.op.operands.toList:=λx ae v ah=>by
 cases x with
 |tmp t=>exact H t (Hw (by simpa using ae)) v ah| const c=>exact(show nw D F .nil from λt v h=>by cases h).op [.const c] (.const c) (by simp) v ah| global g=>exact(show nw D F .nil from λt v h=>by cases h).op [.global g] (.global g) (by simp) v ah| func f=>exact(show nw D F .nil from λt v h=>by cases h).op [.func f] (.func f) (by simp) v ah
def acI{m m2:a0 ew}{op:Op}{aj:a0 al}(h:mP op=false):ry X.P X.E G m op aj=ry X.P X.E G m2 op aj:=by
 cases op with
 |load=>simp[mP]at h| slice t x lo hi mx=>cases mx<;>cases lo<;>cases hi<;>rfl
 |unOp u=>cases u<;>rfl
 |call c=>
  obtain⟨callee,args,dN⟩:=c;cases callee<;>rfl
 |_=>rfl
def Af(X:b')(G:GT)(pr:js)(D0:bh)(n0:Nat)(ops:List Oper)(es:List Nat)(aj:a0 al)(vs:List (Nat×al))(S:List a9)(A:List nr)(L:Nat->Prop)(a:Act)(w:World):Prop:=
 ∃ D F C I M j oB,Rel X a w F C I M/\(∀ q e,es[q]?=some e->(L e ↔ q<j))/\j<=es.length/\S[j]?=some oB/\cm (cO X G pr) D oB I M/\(∀ i v t,L i->(i,v)∈vs->gV ops i=some t->eB D (F t) v) /\ (∀ t v,(∀ i,L i->gV ops i≠some t)->aj.get t=some v->eB D (F t) v)/\(∀ i c l T,nr.made i c l T∈A->¬ L i->D c=none)/\D0.ext D n0
def Af.aj(cn:r3 ops){L:Nat->Prop}{q:Nat}{o:Oper}(aK:ops[q]?=some o)(nS:¬ L q){vs:List (Nat×al)}(Ag:(vs.map (·.1)).Nodup){v:al}(ah:(q,v)∈vs){D ba:bh}{aj:a0 al}(hle:D.le ba)(aH:rE o.dst v ba F de)(ha:∀ i v t,L i->(i,v)∈vs->gV ops i=some t->eB D (F t) v)(acJ:∀ t v,(∀ i,L i->gV ops i≠some t)->aj.get t=some v->eB D (F t) v) :
  (∀ i v t,(L i\/i=q)->(i,v)∈vs->gV ops i=some t->eB ba (de t) v)/\(∀ t v,(∀ i,(L i\/i=q)->gV ops i≠some t)->aj.get t=some v->eB ba (de t) v):=by
 have Te:gV ops q=o.dst:=by simp[gV,aK]
 constructor
 ·rintro i u t (hi | rfl) hm ak
  ·have bl:o.dst≠some t:=λe=>by obtain⟨eO,gf,mR⟩:=AY ak;exact cn.Hu i q eO o t (λbc=>nS (bc ▸ hi)) gf aK mR e
   exact aH.2 ba t u bl ((ha i u t hi hm ak).mono hle)
  ·rw[Td Ag hm ah];rw[Te]at ak;exact aH.1 t ak
 ·intro t u ef aG;have bl:o.dst≠some t:=λe=>ef q (.inr rfl) (by rw[Te,e]);exact aH.2 ba t u bl ((acJ t u (λi hi=>ef i (.inl hi)) aG).mono hle)
end
end Go.V
