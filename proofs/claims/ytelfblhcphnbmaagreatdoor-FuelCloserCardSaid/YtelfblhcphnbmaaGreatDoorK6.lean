/- Part 6 of what the proofs of this seat share: the executor, data in memory, walks.
-/
import Derived.Test.YtelfblhcphnbmaaGreatDoorK5
import Derived.Test.YtelfblhcphnbmaaGreatDoorK3
import Derived.Test.YtelfblhcphnbmaaGreatDoorK4
import Derived.Test.YtelfblhcphnbmaaGreatDoorK2
import Derived.Lib.TrailingZeros
set_option linter.all false
set_option maxHeartbeats 8000000
namespace Go.V
open Go Go.Proofs
def MP:=@List.eraseIdx_eq_take_drop_succ
def MQ:=@List.mem_or_eq_of_mem_set
variable{I J I':aG}{M M0:List aC}{n f size u:Nat}{vs us:List Value}{w js:Int}{args:List ai}{α:Type}{g:cO}{X:Bool}{p:Prop}{A:Nat->List Nat}{mj:List Nat}{s:List Bool}{t:cc}{deb:List Int}{R:List (List Bool)}{os:bh}{L:List aT}
def hq(I:aG):List aC->aG
 |[]=>I| x::l=>ins (hq I l) x.num x.obj
def Ba{I:aG}:∀ {M:List aC} {b:Nat} {o:Obj},hq I M b=some o->I b=some o\/∃ x∈M,x.num=b/\x.obj=o
 |[],b,o,h=>.inl h
 |x::l,b,o,h=>by
  unfold hq ins at h;by_cases e:b=x.num;·subst e;simp only[kF,bn,hr]at h;exact .inr ⟨x,by simp,rfl,h⟩
  ·simp only[eQ e,bj]at h;rcases Ba h with h | ⟨y,U,aa,ak⟩
   ·exact .inl h
   ·exact .inr ⟨y,by simp[U],aa,ak⟩
def MR{I:aG}:∀ {M:List aC} (aF:(M.map (·.num)).Nodup) {x:aC},x∈M->hq I M x.num=some x.obj
 |y::l,aF,x,h=>by
  simp only[cC,kB]at aF;rcases cU.1 h with rfl | h;·unfold hq ins;simp only[kF,bn]
  ·have e:x.num≠y.num:=λe=>aF.1 (dw.2 ⟨x,h,e⟩);unfold hq ins;simp only[eQ e,bj];exact MR aF.2 h
def FY{I:aG}:∀ {M:List aC} (ao:∀ x∈M,I x.num=none) {b:Nat} {o:Obj},I b=some o->hq I M b=some o
 |[],ao,b,o,h=>h
 |y::l,ao,b,o,h=>by
  have e:b≠y.num:=λe=>by have:=ao y (by simp);rw[<-e,h]at this;cases this
  unfold hq ins;simp only[eQ e,bj];exact FY (λx ab=>ao x (by simp[ab])) h
def Vt(aF:(M.map (·.num)).Nodup)(ao:∀ x∈M,I x.num=none){b:Nat}{o:Obj}(h:e4 I M b o):hq I M b=some o:=by
 rcases h with h | ⟨x,U,rfl,rfl⟩
 ·exact FY ao h
 ·exact MR aF U
structure rK(I:aG)(M:List aC)(J:aG):Prop where
 kn:∀ b o,e4 I M b o->J b=some o
 inv:∀ b o,J b=some o->e4 I M b o
def rK.rd(h:rK I M J){a:Addr}(al:cx I M a n vs)(M':List aC):cx J M' a n vs:=by obtain⟨U,cs,T,f,aa,ak,aL⟩:=al;exact⟨U,cs,T,f,.inl (h.kn _ _ aa),ak,aL⟩
def rK.le(h:rK I M J):∀ b o,I b=some o->J b=some o:=λb o ag=>h.kn b o (.inl ag)
def MS{M':List aC}{w w':World}(U:cL I' M' w')(aa:Kept I [] w I' M' w'):rK I' M' (hq I' M')/\cL (hq I' M') [] w'/\Kept I [] w (hq I' M') [] w':=by
 refine⟨⟨λb o h=>Vt U.bH U.d h,λb o h=>?_⟩,⟨λb o h=>?_,by simp,by simp,by simp⟩,⟨λb o h=>FY U.d (aa.le _ _ h),λb o h=>?_,by simp,aa.cp,aa.out,aa.sz⟩⟩
 ·rcases Ba h with h | ⟨x,aI,aQ,bG⟩
  ·exact .inl h
  ·exact .inr ⟨x,aI,aQ,bG⟩
 ·rcases Ba h with h | ⟨x,aI,rfl,rfl⟩
  ·exact U.i _ _ h
  ·exact U.m _ aI
 ·rcases Ba h with h | ⟨x,aI,rfl,rfl⟩
  ·exact aa.nX _ _ h
  ·rcases aa.pg _ aI with⟨y,aE,_⟩ | h
   ·cases aE
   ·exact .inr h
def Spec.hq{P:Program}{args:List Value}{Q:Value->aG->List aC->Prop}(h:Spec P f args I [] Q):Spec P f args I [] λr J iD=>iD=[]/\(∀ b o,I b=some o->J b=some o)/\∃ I' M',Q r I' M'/\rK I' M' J:=by
 rcases h with⟨U,aa⟩ | h
 ·refine .inl ⟨U,λw hw=>?_⟩;refine(aa w hw).mono ?_;rintro e w'⟨v,I',M',ax,aS,b5,ea⟩;obtain⟨aI,aQ,bG⟩:=MS b5 ea;exact⟨v,_,[],ax,⟨rfl,bG.le,I',M',aS,aI⟩,aQ,bG⟩
 ·refine .inr λw hw=>?_;obtain⟨v,w',I',M',ax,aS,b5,ea⟩:=h w hw;obtain⟨aI,aQ,bG⟩:=MS b5 ea;exact⟨v,w',_,[],ax,⟨rfl,bG.le,I',M',aS,aI⟩,aQ,bG⟩
noncomputable def tx{α:Type}(l:List α):aO α:=aO.p1 l .nil 0 id
def MT{l:List α}{i:Nat}{v:α}(h:(tx l).get i=some v):l[i]?=some v:=by
 obtain⟨t,U,aa⟩:=aO.p6 l (.nil:aO α) 0;unfold tx at h;rw[U]at h;rcases aa _ _ h with⟨_,h⟩ | ⟨_,h⟩
 ·simpa using h
 ·cases h
noncomputable def FZ:GT:=λg=>bf (Nat.beq g 0) (some (tx (k0.map (ai.i .i64)))) (bf (Nat.beq g 1) (some (tx (nt.map ai.s))) (bf (Nat.beq g 3) (some (tx [.i .i64 0,.i .i64 1,.s [63],.i .i64 0,.i .i64 (-1),.s [42],.i .i64 1,.i .i64 (-1),.s [43]])) (bf (Nat.beq g 6) (some (tx (fp.map (ai.i .u8)))) none)))
def F0{f:α->ai}{h:α->Value}(az:∀ x D,ay D (f x) (h x)){l:List α}{i:Nat}{v:ai}(af:(tx (l.map f)).get i=some v):∃ x,(l.map h).toArray[i]?=some x/\∀ D,ay D v x:=by
 have:=MT af;rw[vG]at this;cases ab:l[i]? with
 |none=>rw[ab]at this;cases this| some x=>rw[ab]at this;simp only[gX,hr]at this;subst this;exact⟨h x,by simp[ab],az x⟩
def MU(bJ:fH I fp):x0 FZ I:=by
 intro g cs h;unfold FZ at h;rw[gE,gE,gE,gE]at h;cases U:Nat.beq g 0 with
 |true=>rw[U,bn]at h;obtain rfl:=cb U;have h:=lM h;subst h;obtain⟨T,f,h⟩:=bJ.c;exact⟨_,T,f,h,λi v af=>F0 (f:=ai.i .i64) (h:=Value.int .i64) (λx D=>by simp only[ay]) af⟩
 |false=>
 rw[U,bj]at h;cases aa:Nat.beq g 1 with
 |true=>rw[aa,bn]at h;obtain rfl:=cb aa;have h:=lM h;subst h;obtain⟨T,f,h⟩:=bJ.s;exact⟨_,T,f,h,λi v af=>F0 (f:=ai.s) (h:=λl=>Value.string (strOf l)) (λx D=>by simp only[ay,strOf]) af⟩
 |false=>
 rw[aa,bj]at h;cases ak:Nat.beq g 3 with
 |true=>
  rw[ak,bn]at h;obtain rfl:=cb ak;have h:=lM h;subst h;obtain⟨T,f,h⟩:=bJ.p;refine⟨_,T,f,h,λi v af=>?_⟩;have af:=MT af;rcases i with _ | _ | _ | _ | _ | _ | _ | _ | _ | i
  all_goals first | (cases af;exact⟨_,rfl,λD=>by simp only[ay]<;>rfl⟩) | (simp at af)
 |false=>
 rw[ak,bj]at h;cases aL:Nat.beq g 6 with
 |true=>rw[aL,bn]at h;obtain rfl:=cb aL;have h:=lM h;subst h;obtain⟨_,_,T,f,h⟩:=bJ.d;exact⟨_,T,f,h,λi v af=>F0 (f:=ai.i .u8) (h:=Value.int .u8) (λx D=>by simp only[ay]) af⟩
 |false=>
 rw[aL,bj]at h;cases h
noncomputable def Bb:List UInt8->Nat->Nat->Int
 |[],_,_=>-1| b::l,c,k=>bf (Nat.beq b.toNat c) (Int.ofNat k) (Bb l c (Nat.succ k))
def MV(c:UInt8):∀ (l:List UInt8) (k:Nat),Bb l c.toNat k=if Lib.indexByte l c=-1 then -1 else Lib.indexByte l c+k
 |[],k=>rfl
 |b::l,k=>by
  have eD:=Lib.indexByte_ge l c;unfold Bb Lib.indexByte;rw[gE];by_cases h:b=c;·subst h;simp
  ·have U:Nat.beq b.toNat c.toNat=false:=by
    cases ag:Nat.beq b.toNat c.toNat with
    |false=>rfl| true=>exact absurd (UInt8.toNat_inj.1 (cb ag)) h
   have aa:(b == c)=false:=by simpa using h
   rw[U,bj,aa,MV c l];simp only[gG,g9];by_cases ak:Lib.indexByte l c=-1;·simp[ak]
   ·have aL:(Lib.indexByte l c == -1)=false:=by simpa using ak
    rw[aL,cd ak];simp only[gG,g9];rw[cd (by omega)];omega
def Bc:o6 Tryz.prog:=UG (by kernel_rfl)
def Bd:Tryz.prog.follows .mixedOrders=true:=by kernel_rfl
noncomputable def MW:dJ:=⟨Tryz.prog,su,λ_=>none,λ_ _ _=>none⟩
noncomputable def MX:List nS:=[.map [(.i .u8 123,.f 192 [] []),(.i .u8 34,.f 193 [] []),(.i .u8 91,.f 194 [] []),(.i .u8 46,.f 195 [] []),(.i .u8 47,.f 219 [] [.p 1 0]),(.i .u8 38,.f 219 [] [.p 2 0]),(.i .u8 33,.f 219 [] [.p 3 0]),(.i .u8 63,.f 219 [] [.p 4 0]),(.i .u8 42,.f 219 [] [.p 5 0]),(.i .u8 43,.f 219 [] [.p 6 0]),(.i .u8 40,.f 219 [] [.p 7 0]),(.i .u8 41,.f 219 [] [.p 8 0]),(.i .u8 60,.f 197 [] []),(.i .u8 62,.f 219 [] [.p 10 0]),(.i .u8 58,.f 219 [] [.p 11 0]),(.i .u8 65,.f 198 [] []),(.i .u8 66,.f 198 [] []),(.i .u8 67,.f 198 [] []),(.i .u8 68,.f 198 [] []),(.i .u8 69,.f 198 [] []),(.i .u8 70,.f 198 [] []),(.i .u8 71,.f 198 [] []),(.i .u8 72,.f 198 [] []),(.i .u8 73,.f 198 [] []),(.i .u8 74,.f 198 [] []),(.i .u8 75,.f 198 [] []),(.i .u8 76,.f 198 [] []),(.i .u8 77,.f 198 [] []),(.i .u8 78,.f 198 [] []),(.i .u8 79,.f 198 [] []),(.i .u8 80,.f 198 [] []),(.i .u8 81,.f 198 [] []),(.i .u8 82,.f 198 [] []),(.i .u8 83,.f 198 [] []),(.i .u8 84,.f 198 [] []),(.i .u8 85,.f 198 [] []),(.i .u8 86,.f 198 [] []),(.i .u8 87,.f 198 [] []),(.i .u8 88,.f 198 [] []),(.i .u8 89,.f 198 [] []),(.i .u8 90,.f 198 [] []),(.i .u8 95,.f 198 [] []),(.i .u8 97,.f 198 [] []),(.i .u8 98,.f 198 [] []),(.i .u8 99,.f 198 [] []),(.i .u8 100,.f 198 [] []),(.i .u8 101,.f 198 [] []),(.i .u8 102,.f 198 [] []),(.i .u8 103,.f 198 [] []),(.i .u8 104,.f 198 [] []),(.i .u8 105,.f 198 [] []),(.i .u8 106,.f 198 [] []),(.i .u8 107,.f 198 [] []),(.i .u8 108,.f 198 [] []),(.i .u8 109,.f 198 [] []),(.i .u8 110,.f 198 [] []),(.i .u8 111,.f 198 [] []),(.i .u8 112,.f 198 [] []),(.i .u8 113,.f 198 [] []),(.i .u8 114,.f 198 [] []),(.i .u8 115,.f 198 [] []),(.i .u8 116,.f 198 [] []),(.i .u8 117,.f 198 [] []),(.i .u8 118,.f 198 [] []),(.i .u8 119,.f 198 [] []),(.i .u8 120,.f 198 [] []),(.i .u8 121,.f 198 [] []),(.i .u8 122,.f 198 [] [])],.cells [.i .u8 3] 5,.cells [.i .u8 4] 5,.cells [.i .u8 5] 5,.cells [.i .u8 6] 5,.cells [.i .u8 7] 5,.cells [.i .u8 8] 5,.cells [.i .u8 9] 5,.cells [.i .u8 10] 5,.cells [.i .u8 11] 5,.cells [.i .u8 12] 5,.cells [.i .u8 13] 5]
def Vu:(bg (oY MW (gD MW 100000) 178 [] ⟨.nil,0⟩) none λp=>bg (readAll p.2.t 0 p.2.n) none λL=>some (p.1,L))=some (ai.m 0,MX):=by kernel_rfl
noncomputable def F1:g5:=λg vs m=>bf (Nat.beq g 242) (match vs with
 |[.s l,.i .u8 (.ofNat k)]=>bf (Nat.blt k 256) (some (.i .i64 (Bb l k 0),m)) none| _=>none) (bf (Nat.beq g 172) (match vs with
 |[v]=>some (v,m)| _=>none) (bf (Nat.beq g 178) (match vs with
 |[]=>FR (.m 0) MX m| _=>none) (bf (Nat.beq g 152) (FW m vs) none)))
noncomputable def jV:dJ:=⟨Tryz.prog,su,FZ,F1⟩
def F2:qd jV:=by
 intro g vs m v m' h D I M us hu hm;change F1 g vs m=some (v,m')at h;unfold F1 at h;rw[gE]at h;cases U:Nat.beq g 242 with
 |true=>
  rw[U,bn]at h;obtain rfl:=cb U;split at h
  ·rename_i l k;rw[gE]at h;cases aj:Nat.blt k 256 with
   |false=>rw[aj]at h;cases h
   |true=>
    rw[aj,bn]at h;have oO:k<256:=Nat.blt_eq ▸ aj;cases h;simp only[a6,ay]at hu;obtain⟨x,xs,rfl,⟨y,E1,rfl,rfl,rfl⟩,rfl⟩:=hu;have MY:(UInt8.ofNat k).toNat=k:=by simp;omega
    have:=Ir (I:=I) (M:=M) ⟨l.toArray⟩ (UInt8.ofNat k);rw[MY]at this;refine Spec.mS this ?_;rintro r I' M'⟨rfl,rfl,rfl⟩;refine⟨D,a4.jr,?_,hm⟩;simp only[ay];have:=MV (UInt8.ofNat k) l 0;rw[MY]at this;rw[this];split;·rename_i e;simp[e]
    ·simp
  ·cases h
 |false=>
 rw[U,bj,gE]at h;cases aa:Nat.beq g 172 with
 |true=>
  rw[aa,bn]at h;obtain rfl:=cb aa;split at h;·cases h;simp only[a6]at hu;obtain⟨x,xs,hu,rfl,rfl⟩:=hu;refine Spec.mS (Cw _) ?_;rintro r I' M'⟨rfl,rfl,rfl⟩;exact⟨D,a4.jr,hu,hm⟩
  ·cases h
 |false=>
 rw[aa,bj,gE]at h;cases ak:Nat.beq g 178 with
 |true=>
  rw[ak,bn]at h;obtain rfl:=cb ak;split at h;·obtain⟨⟨o7,jU⟩,aL,be⟩:=bD Vu;obtain⟨L,bT,er⟩:=bD be;cases er;exact Vi (Y:=jV) a8 Bc Bd aL bT (λD us h=>by simpa only[a6]using h) h hu hm
  ·cases h
 |false=>
 rw[ak,bj,gE]at h;cases aL:Nat.beq g 152 with
 |true=>rw[aL,bn]at h;obtain rfl:=cb aL;exact Vp rfl rfl h hu hm
 |false=>
 rw[aL,bj]at h;cases h
def Vv(bJ:fH I fp){g:Nat}{m':aU}{v:ai}(h:oY jV (gD jV f) g args ⟨.nil,0⟩=some (v,m'))(hu:a6 (λ_=>none) args us) :
  Spec Tryz.prog g us I [] λr J iD=>iD=[]/\(∀ b o,I b=some o->J b=some o)/\∃ I' M' aW,ay aW v r/\bP jV aW m' I' M'/\rK I' M' J:=by
 have hm:bP jV (λ_=>none) ⟨.nil,0⟩ I []:=⟨λid e a h aP=>(by cases aP),λid e2 e b2 a bl h U aP=>(by cases aP),λid a h=>(by cases h),MU bJ⟩;refine Spec.mS (reckon (Y:=jV) a8 Bc F2 Bd h hu hm).hq ?_;rintro r J iD⟨rfl,U,I',M',⟨aW,-,aa,ak⟩,aL⟩;exact⟨rfl,U,I',M',aW,aa,ak,aL⟩
def hS(b:X=true)(h:X=false):p:=by rw[b]at h;cases h
def rL(b:X=false)(h:X=true):p:=by rw[b]at h;cases h
structure F3(I:aG)(o:Ai)(v:Value):Prop where
 x:∃ a n c,v=Sz o (.slice a n c)/\ee I a n c 3 0 (o.R9.flatMap ir.cells)
def F3.mono{o:Ai}{v:Value}(h:F3 I o v)(a7:∀ b o,I b=some o->I' b=some o):F3 I' o v:=by obtain⟨a,n,c,U,aa⟩:=h.x;exact⟨a,n,c,U,aa.mono a7⟩
noncomputable def ys(f g:Nat)(args:List ai):Option ai:=bg (oY jV (gD jV f) g args ⟨.nil,0⟩) none λp=>some p.1
def F4(bJ:fH I fp){g:Nat}{b:Bool}(h:ys f g args=some (.b b))(hu:a6 (λ_=>none) args us) :
  Spec Tryz.prog g us I [] λr J iD=>r=.bool b/\(∀ b o,I b=some o->J b=some o)/\iD=[]:=by
 unfold ys at h;obtain⟨⟨v,m'⟩,U,h⟩:=bD h;cases h;refine Spec.mS (Vv bJ U hu) ?_;rintro r J iD⟨rfl,hle,I',M',aW,af,hm,fv⟩;simp only[ay]at af;exact⟨af,hle,rfl⟩
noncomputable def Vw:Option ai:=bg (oY jV (gD jV 1000000) 14 [.s [97,32,60,45,32,34,120,34,32,97,32,47,32,34,34]] ⟨.nil,0⟩) none λp=>bg (oY jV (gD jV 1000000) 17 [p.1,.s [120,120]] p.2) none λq=>some q.1
def Vx:Vw=some (.t [.i .i64 108,.i .i64 0]):=by kernel_rfl
def Vy:ys 1000000 11 [.s [97,32,60,45,32,34,120,34,32,97,32,47,32,34,34],.i .i64 6]=some (.b true):=by kernel_rfl
def Vz:ys 1000000 12 [.s [97,32,60,45,32,34,120,34,32,97,32,47,32,34,34],.i .i64 2,.i .i64 0,.i .i64 30]=some (.b true):=by kernel_rfl
def VA:ys 1000000 11 [.s [97,32,60,45,32,34,97,98,34,123,50,44,53,125],.i .i64 11]=some (.b true):=by kernel_rfl
def VB(bJ:fH I fp):bP jV (λ_=>none) ⟨.nil,0⟩ I []:=⟨λid e a h aP=>(by cases aP),λid e2 e b2 a bl h U aP=>(by cases aP),λid a h=>(by cases h),MU bJ⟩
def VC:jQ 6 2 0=108:=by decide
set_option maxRecDepth 100000 in
def MZ(bJ:fH I fp):Spec Tryz.prog 10 [] I [] λr J iD=>r=.bool true/\(∀ b o,I b=some o->J b=some o)/\iD=[]:=by obtain⟨⟨v1,b3⟩,bK,cm⟩:=bD Vx;obtain⟨⟨v2,m2⟩,cn,dD⟩:=bD cm;simp only[hr]at dD;subst dD;refine cB [] a8 Tryz.func10 rfl rfl rfl ?_;intro B aD;refine aY.mk [] [] _ (.refl _) (reckon (Y:=jV) a8 Bc F2 Bd bK (us:=[.string ⟨([97,32,60,45,32,34,120,34,32,97,32,47,32,34,34]:List UInt8).toArray⟩]) (by simp[a6,ay]) (VB bJ)) ?_;rintro v ct M1 ch⟨Yo,-,tS,H6⟩;rw[hd];refine aY.mk M1 [] _ (by rw[hd]) (reckon (Y:=jV) a8 Bc F2 Bd cn (us:=[v,.string ⟨([120,120]:List UInt8).toArray⟩]) (by simp[a6,ay,tS]) H6) ?_;rintro mR du cQ hK⟨A6,Yp,n1,ot⟩;rw[hd];simp only[ay,a6]at n1;obtain⟨vs,⟨M2,Yq,rfl,⟨Yr,Ys,rfl,rfl,rfl⟩,rfl⟩,rfl⟩:=n1;have yt:fH du fp:=bJ.mono λb o h=>hK _ _ (ch _ _ h);refine aY.mk [] cQ _ (.refl _) (F4 yt Vy (us:=[.string ⟨([97,32,60,45,32,34,120,34,32,97,32,47,32,34,34]:List UInt8).toArray⟩,.int .i64 6]) (by simp[a6,ay])) ?_;rintro v zJ C2 M3⟨rfl,-,rfl⟩;have VD:fH zJ fp:=yt.mono M3;refine b9.mk (λ_=>?_) (λh=>hS rfl h);refine aY.mk [] cQ _ (.refl _) (J3 6 2 0 ⟨by decide,by decide⟩ ⟨by decide,by decide⟩ ⟨by decide,by decide⟩) ?_;rintro v sR ux M4⟨rfl,a7,rfl⟩;rw[VC];refine b9.mk (λ_=>?_) (λh=>hS rfl h);have M5:fH sR fp:=VD.mono M4;refine aY.mk [] cQ _ (.refl _) (F4 M5 Vz (us:=[.string ⟨([97,32,60,45,32,34,120,34,32,97,32,47,32,34,34]:List UInt8).toArray⟩,.int .i64 2,.int .i64 0,.int .i64 30]) (by simp[a6,ay])) ?_;rintro v zK C3 M6⟨rfl,-,rfl⟩;have VE:fH zK fp:=M5.mono M6;refine b9.mk (λ_=>?_) (λh=>hS rfl h);refine aY.mk [] cQ _ (.refl _) (F4 VE VA (us:=[.string ⟨([97,32,60,45,32,34,97,98,34,123,50,44,53,125]:List UInt8).toArray⟩,.int .i64 11]) (by simp[a6,ay])) ?_;rintro v Yt Yu VF⟨rfl,-,rfl⟩;refine b9.mk (λ_=>?_) (λh=>hS rfl h);refine b9.mk (λ_=>?_) (λh=>hS rfl h);exact⟨_,[],.sub (fa _) .refl,rfl,λb o h=>VF _ _ (M6 _ _ (M4 _ _ (M3 _ _ (hK _ _ (ch _ _ h))))),rfl⟩
structure bN where
 a:BitVec 64
 b:BitVec 64
 c:BitVec 64
 d:BitVec 64
 deriving DecidableEq
def bN.zero:bN:=⟨0,0,0,0⟩
def bN.or(x y:bN):bN:=⟨x.a ||| y.a,x.b ||| y.b,x.c ||| y.c,x.d ||| y.d⟩
def bN.and(x y:bN):bN:=⟨x.a &&& y.a,x.b &&& y.b,x.c &&& y.c,x.d &&& y.d⟩
def bN.sub(x y:bN):Bool:=decide (x.and y=x)
def bN.cells(x:bN):List Value:=[.int .u64 x.a.toNat,.int .u64 x.b.toNat,.int .u64 x.c.toNat,.int .u64 x.d.toNat]
def bN.val(x:bN):Value:=.agg #[.int .u64 x.a.toNat,.int .u64 x.b.toNat,.int .u64 x.c.toNat,.int .u64 x.d.toNat]
structure bQ where
 w:bN
 f:Bool
 deriving DecidableEq
def bQ.cells(x:bQ):List Value:=[.int .u64 x.w.a.toNat,.int .u64 x.w.b.toNat,.int .u64 x.w.c.toNat,.int .u64 x.w.d.toNat,.bool x.f]
def bQ.val(x:bQ):Value:=.agg #[.int .u64 x.w.a.toNat,.int .u64 x.w.b.toNat,.int .u64 x.w.c.toNat,.int .u64 x.w.d.toNat,.bool x.f]
def bQ.da(x:bQ):x.cells.length=5:=rfl
def ky:bQ:=⟨.zero,false⟩
def M7:bQ:=⟨.zero,true⟩
def bQ.seq(a b:bQ):bQ:=bif a.f then⟨a.w.or b.w,b.f⟩else a
def bQ.choice(a b:bQ):bQ:=⟨a.w.or b.w,a.f||b.f⟩
def bQ.within(a b:bQ):Bool:=a.w.sub b.w&&(!a.f||b.f)
def bN.ext'{x y:bN}(U:x.a=y.a)(aa:x.b=y.b)(ak:x.c=y.c)(aL:x.d=y.d):x=y:=by obtain⟨a,b,c,d⟩:=x;obtain⟨bl,ff,c',yf⟩:=y;simp only at U aa ak aL;subst U aa ak aL;rfl
def bN.or_assoc(x y z:bN):(x.or y).or z=x.or (y.or z):=by simp only[bN.or,BitVec.or_assoc]
def bN.or_comm(x y:bN):x.or y=y.or x:=by simp only[bN.or,BitVec.or_comm]
def bN.or_self(x:bN):x.or x=x:=by simp[bN.or]
def bN.zero_or(x:bN):bN.zero.or x=x:=by simp[bN.or,bN.zero]
def rM{x y:BitVec 64}:x &&& y=x ↔ x ||| y=y:=by
 constructor
 ·intro h;apply BitVec.eq_of_getElem_eq;intro i hi;have:=congrArg (λw:BitVec 64=>w[i]) h;simp only[BitVec.getElem_and,BitVec.getElem_or]at this |-;revert this;cases x[i]<;>cases y[i]<;>simp
 ·intro h;apply BitVec.eq_of_getElem_eq;intro i hi;have:=congrArg (λw:BitVec 64=>w[i]) h;simp only[BitVec.getElem_and,BitVec.getElem_or]at this |-;revert this;cases x[i]<;>cases y[i]<;>simp
def bN.yu{x y:bN}:x.sub y=true ↔ x.or y=y:=by
 unfold bN.sub;rw[e3];constructor
 ·intro h;have U:=congrArg bN.a h;have aa:=congrArg bN.b h;have ak:=congrArg bN.c h;have aL:=congrArg bN.d h;exact bN.ext' (rM.1 U) (rM.1 aa) (rM.1 ak) (rM.1 aL)
 ·intro h;have U:=congrArg bN.a h;have aa:=congrArg bN.b h;have ak:=congrArg bN.c h;have aL:=congrArg bN.d h;exact bN.ext' (rM.2 U) (rM.2 aa) (rM.2 ak) (rM.2 aL)
def bN.VG(x:bN):x.sub x=true:=bN.yu.2 x.or_self
def bN.VH{x y z:bN}(h:x.sub y=true)(aP:y.sub z=true):x.sub z=true:=by rw[bN.yu]at h aP |-;rw[<-aP,<-bN.or_assoc,h]
def bN.F5{x y:bN}(h:x.sub y=true)(aP:y.sub x=true):x=y:=by rw[bN.yu]at h aP;exact aP.symm.trans ((bN.or_comm y x).trans h)
def bN.M8(x y:bN):x.sub (x.or y)=true:=by rw[bN.yu,<-bN.or_assoc,bN.or_self]
def bN.zero_sub(x:bN):bN.zero.sub x=true:=by rw[bN.yu,bN.zero_or]
structure qf(I:aG)(M:List aC)(a:Option Addr)(n:Nat)(ks:List bQ):Prop where
 n:ks.length=n
 rd:∀ j (h:j<ks.length),∃ ad,a=some ad/\cx I M (ad.add (j*5)) 5 ks[j].cells
structure bQ.le(a b:bQ):Prop where
 w:a.w.sub b.w=true
 f:a.f=true->b.f=true
def bQ.le_refl(a:bQ):a.le a:=⟨bN.VG _,id⟩
def bQ.le.trans{a b c:bQ}(h:a.le b)(aP:b.le c):a.le c:=⟨bN.VH h.w aP.w,λx=>aP.f (h.f x)⟩
def bQ.le.antisymm{a b:bQ}(h:a.le b)(aP:b.le a):a=b:=by
 have U:=bN.F5 h.w aP.w;obtain⟨Yv,DV⟩:=a;obtain⟨Yw,Ak⟩:=b;simp only at U;subst U;have az:=h.f;have qG:=aP.f;cases DV<;>cases Ak<;>simp_all
def bQ.im(a:bQ):ky.le a:=⟨bN.zero_sub _,λh=>by cases h⟩
structure vx(α:Type) where
 le:α->α->Prop
 im:α
 refl:∀ a,le a a
 trans:∀ {a b c},le a b->le b c->le a c
 Yx:∀ {a b},le a b->le b a->a=b
 low:∀ a,le im a
structure gF{α:Type}(O:vx α)(l m:List α):Prop where
 len:l.length=m.length
 at':∀ i,O.le (l.getD i O.im) (m.getD i O.im)
section
variable{α:Type}{O:vx α}
def gF.refl(l:List α):gF O l l:=⟨rfl,λ_=>O.refl _⟩
def gF.trans{a b c:List α}(h:gF O a b)(aP:gF O b c):gF O a c:=⟨h.len.trans aP.len,λi=>O.trans (h.at' i) (aP.at' i)⟩
def gF.of{a b:List α}(au:a.length=b.length)(h:∀ i,i<a.length->O.le (a.getD i O.im) (b.getD i O.im)):gF O a b:=⟨au,λi=>by
 by_cases hi:i<a.length
 ·exact h i hi
 ·have e:a.getD i O.im=O.im:=by simp[c1,tE (Nat.le_of_not_lt hi)]
  rw[e];exact O.low _⟩
def gF.snoc{a b:List α}{x y:α}(h:gF O a b)(ab:O.le x y):gF O (a++[x]) (b++[y]):=by
 have au:=h.len;refine .of (by simp[au]) λi hi=>?_;rcases x4 i a.length with U | U
 ·have aa:i<b.length:=by omega
  have:=h.at' i;simpa[c1,kA U,kA aa]using this
 ·have aa:i=a.length:=by simp at hi;omega
  subst aa;have ax:(a++[x]).getD a.length O.im=x:=by simp[c1]
  have aS:(b++[y]).getD a.length O.im=y:=by rw[au];simp[c1]
  rw[ax,aS];exact ab
def F6(l:List α)(b:α)(i j:Nat)(x:α)(hi:i<l.length):(l.set i x).getD j b=if i=j then x else l.getD j b:=by
 simp only[c1,kV];by_cases e:i=j
 ·subst e;simp[hi]
 ·rw[cd e,cd e]
structure vy(O:vx α)(n:Nat)(body:List α->Nat->α)(l:List α):Prop where
 len:l.length=n
 up:∀ i,i<n->O.le (l.getD i O.im) (body l i)
 least:∀ m:List α,m.length=n->(∀ i,i<n->O.le (body m i) (m.getD i O.im))->gF O l m
structure VI(O:vx α)(n:Nat)(body:List α->Nat->α)(l:List α):Prop where
 len:l.length=n
 fix:∀ i,i<n->l.getD i O.im=body l i
 least:∀ m:List α,m.length=n->(∀ i,i<n->O.le (body m i) (m.getD i O.im))->gF O l m
section
variable{n:Nat}{body:List α->Nat->α}(o9:∀ {l m:List α},gF O l m->∀ i,i<n->O.le (body l i) (body m i))
include o9
def vy.step{l:List α}(h:vy O n body l){i:Nat}(hi:i<n):vy O n body (l.set i (body l i))/\gF O l (l.set i (body l i)):=by
 have ek:i<l.length:=by rw[h.len];exact hi
 have hle:gF O l (l.set i (body l i)):=.of (by simp) λj ap=>by
  rw[F6 _ _ _ _ _ ek];by_cases e:i=j;·subst e;rw[ck rfl];exact h.up i hi
  ·rw[cd e];exact O.refl _
 refine⟨⟨by simpa using h.len,λj ap=>?_,λm hm aB=>?_⟩,hle⟩
 ·rw[F6 _ _ _ _ _ ek];by_cases e:i=j
  ·subst e;rw[ck rfl];exact o9 hle _ hi
  ·rw[cd e];exact O.trans (h.up j ap) (o9 hle _ ap)
 ·have xx:=h.least m hm aB;refine .of (by simp[h.len,hm]) λj ap=>?_;rw[F6 _ _ _ _ _ ek];by_cases e:i=j
  ·subst e;rw[ck rfl];exact O.trans (o9 xx _ hi) (aB i hi)
  ·rw[cd e];exact xx.at' j
end
end
def rN:vx bQ:=⟨bQ.le,ky,bQ.le_refl,λh aP=>h.trans aP,λh aP=>h.antisymm aP,bQ.im⟩
def bN.at(w:bN)(i:Nat):BitVec 64:=bif decide (i=0)then w.a else bif decide (i=1)then w.b else bif decide (i=2)then w.c else w.d
def bN.one(i:Nat)(x:BitVec 64):bN:=⟨bif decide (i=0)then x else 0,bif decide (i=1)then x else 0,bif decide (i=2)then x else 0,bif decide (i=3)then x else 0⟩
def VJ(b:UInt8):bN:=.one (b.toNat/64) (1#64 <<< (b.toNat%64))
def VK(l:List UInt8):bN:=l.foldl (λw b=>w.or (VJ b)) .zero
def aH.ws(d:aH):bN:=⟨BitVec.ofInt 64 d.dY,BitVec.ofInt 64 d.s1,BitVec.ofInt 64 d.s2,BitVec.ofInt 64 d.gx⟩
def VL(d:aH)(k:bQ):bQ:=bif decide (d.hi=0)then M7 else⟨k.w,k.f||decide (d.lo=0)⟩
def VM(ks:List bQ):bQ:=ks.foldl bQ.seq M7
def VN(ks:List bQ):bQ:=ks.foldl bQ.choice ky
def VO(t:ByteArray):bQ:=⟨VK (t.data.toList.take 1),false⟩
def VP(d:aH)(x:a5)(ks:List bQ):bQ:=
 bif decide (d.k=0)then⟨.zero,x.la⟩else
 bif decide (d.k=1)then⟨d.ws,false⟩else
 bif decide (d.k=2)then VO d.t else
 bif decide (d.k=3)then ks.headD ky else
 bif decide (d.k=4)then VM ks else
 bif decide (d.k=5)then VN ks else
 bif decide (d.k=6)then VL d (ks.headD ky)else
 bif decide (d.k=7)then⟨.zero,x.la⟩else
 bif decide (d.k=8)then⟨.zero,x.la⟩else ks.headD ky
def VQ(pl:List (ByteArray×Int))(b8 acc:List bQ)(d:aH):List bQ:=
 d.kids.map (λk=>acc.getD k.toNat ky)++bif decide (d.k=3)then [b8.getD ((e0 d.t pl).getD 0).toNat ky]else []
def yv(pl:List (ByteArray×Int))(b8:List bQ)(xs:List a5):List aH->List bQ->List bQ
 |[],acc=>acc| d::ds,acc=>yv pl b8 xs ds (acc++[VP d (xs.getD acc.length eG) (VQ pl b8 acc d)])
def M9(pl:List (ByteArray×Int))(b8:List bQ)(xs:List a5):∀ (ds:List aH) (acc:List bQ),(yv pl b8 xs ds acc).length=acc.length+ds.length
 |[],acc=>rfl| d::ds,acc=>by rw[yv,M9];simp;omega
def VR.map{f g:α->bQ}{l:List α}(h:∀ x∈l,(f x).le (g x)):gF rN (l.map f) (l.map g):=.of (by simp) λi hi=>by
 have cr:i<l.length:=by simpa using hi
 have:=h _ (et cr);simpa[c1,cr]using(show rN.le _ _ from this)
def VR.append{a b c d:List bQ}(h:gF rN a b)(aP:gF rN c d):gF rN (a++c) (b++d):=by
 have au:=h.len;have kL:=aP.len;refine .of (by simp[au,kL]) λi hi=>?_;rcases x4 i a.length with U | U
 ·have aa:i<b.length:=by omega
  have:=h.at' i;simpa[c1,kA U,kA aa]using this
 ·have aa:b.length<=i:=by omega
  have:=aP.at' (i-a.length);simp only[c1,j8 U,j8 aa]at this |-;rwa [au]at this |-
def VS(pl:List (ByteArray×Int))(F:List a5)(ds:List aT)(l:List bQ)(i:Nat):bQ:=match ds[i]? with
 |some d=>(yv pl l (mL pl F d.t.ae []) d.t.ae []).getD d.t.root.toNat ky| none=>ky
def VT(ds:List aT)(F:List a5)(l:List bQ):Prop:=VI rN ds.length (VS (iM ds) F ds) l
def bN.has(w:bN)(n:Nat):Bool:=(w.at (n/64)).getLsbD (n%64)
structure l5(x:a5)(k:bQ):Prop where
 z:x.z=true->k.f=true
 s:x.s=true->k.w≠.zero
def l5.none(k:bQ):l5 eG k:=⟨λh=>(by cases h),λh=>(by cases h)⟩
def l5.la{x:a5}{k:bQ}(h:l5 x k)(an:x.la=true):k.f=true\/k.w≠.zero:=by simp only[a5.la,gY]at an;exact an.imp h.z h.s
inductive g8:List a5->List bQ->Prop
 |nil:g8 [] []| cons {x k l m} (h:l5 x k) (t:g8 l m):g8 (x::l) (k::m)
def g8.snoc:∀ {l:List a5} {m:List bQ} {x:a5} {k:bQ},g8 l m->l5 x k->g8 (l++[x]) (m++[k])
 |_,_,_,_,.nil,h=>.cons h .nil| _,_,_,_,.cons h t,aP=>.cons h (t.snoc aP)
def g8.getD:∀ {l:List a5} {m:List bQ},g8 l m->∀ i,l5 (l.getD i eG) (m.getD i ky)
 |_,_,.nil,i=>by simpa using l5.none ky
 |_,_,.cons h t,0=>h| _,_,.cons h t,i+1=>by simpa using t.getD i
def g8.len:∀ {l:List a5} {m:List bQ},g8 l m->l.length=m.length
 |_,_,.nil=>rfl| _,_,.cons h t=>by simp[t.len]
def g8.of:∀ {l:List a5} {m:List bQ},l.length=m.length->(∀ i,i<l.length->l5 (l.getD i eG) (m.getD i ky))->g8 l m
 |[],[],_,_=>.nil| x::l,k::m,au,h=>.cons (by simpa using h 0 (by simp)) (g8.of (by simpa using au) λi hi=>by simpa using h (i+1) (by simpa using hi))
def g8.head{l:List a5}{m:List bQ}(h:g8 l m):l5 (l.headD eG) (m.headD ky):=by
 cases h with
 |nil=>exact l5.none _| cons h t=>exact h
def g8.map{α:Type}{f:α->a5}{g:α->bQ}:∀ {l:List α},(∀ x∈l,l5 (f x) (g x))->g8 (l.map f) (l.map g)
 |[],_=>.nil| x::l,h=>.cons (h x (.head _)) (g8.map λy aE=>h y (.tail _ aE))
def g8.append:∀ {a:List a5} {b:List bQ} {c:List a5} {d:List bQ},g8 a b->g8 c d->g8 (a++c) (b++d)
 |_,_,_,_,.nil,h=>h| _,_,_,_,.cons h t,aP=>.cons h (t.append aP)
def F7{x y:bN}(h:x≠.zero\/y≠.zero):x.or y≠.zero:=by
 intro e;have ab:x=.zero:=bN.F5 (by rw[<-e];exact bN.M8 x y) (bN.zero_sub _);have aE:y=.zero:=bN.F5 (by rw[<-e,bN.or_comm];exact bN.M8 y x) (bN.zero_sub _);rcases h with h | h
 ·exact h ab
 ·exact h aE
structure F8(p:a5×Bool)(k:bQ):Prop where
 z:p.1.z=true->k.f=true
 s:p.1.s=true->p.2=true->k.w≠.zero
 c:p.2=true->k.f=true\/k.w≠.zero
def F8.step{p:a5×Bool}{k:bQ}{x:a5}{y:bQ}(h:F8 p k)(ab:l5 x y):F8 (nF p x) (k.seq y):=by
 obtain⟨⟨Yy,ps,Yz⟩,YA⟩:=p;obtain⟨U,aa,ak⟩:=h;obtain⟨YB,xs,YC⟩:=x;have an:=ab.la;obtain⟨aI,aQ⟩:=ab;obtain⟨YD,VU⟩:=k;obtain⟨YE,YF⟩:=y;simp only[nF,a5.la]at *;cases VU with
 |false=>
  simp only[bQ.seq,bj];refine⟨?_,?_,?_⟩;·intro h;simp only[bs]at h;exact U h.1
  ·intro _ h;simp only[bs]at h;exact(ak h.1).resolve_left (by simp)
  ·intro h;simp only[bs]at h;exact .inr ((ak h.1).resolve_left (by simp))
 |true=>
  simp only[bQ.seq,bn];refine⟨?_,?_,?_⟩;·intro h;simp only[bs]at h;exact aI h.2
  ·intro h aP;simp only[gY,bs]at h aP;rcases h with h | h
   ·exact F7 (.inl (aa h aP.1))
   ·exact F7 (.inr (aQ h))
  ·intro h;simp only[bs]at h;rcases an h.2 with e | e
   ·exact .inl e
   ·exact .inr (F7 (.inr e))
def Na:List (a5×List Nat)->List Nat
 |[]=>[]| x::xs=>x.2++bif x.1.z then Na xs else []
def VV(pl:List (ByteArray×Int))(d:aH)(xs:List (a5×List Nat)):List Nat:=
 bif decide (d.k=3)then [((e0 d.t pl).getD 0).toNat]else
 bif decide (d.k=4)then Na xs else
 bif decide (d.k=6)&&decide (d.hi=0)then []else xs.flatMap (·.2)
def Nb(pl:List (ByteArray×Int))(F:List a5)(d:aH)(xs:List (a5×List Nat)):a5×List Nat:=
 (xt d (xs.map (·.1)++bif decide (d.k=3)then [F.getD ((e0 d.t pl).getD 0).toNat eG]else []),VV pl d xs)
def VW(pl:List (ByteArray×Int))(F:List a5)(ae:List aH)(j:Int):a5×List Nat:=qR (eG,[]) (λd g=>Nb pl F d (d.kids.map g)) ae j
abbrev gd:=BitVec 64
def VX(k:Nat):gd:=1#64 <<< k
def tz(m:List gd):Nat->Nat->gd->gd
 |_,0,w=>w| k,f+1,w=>tz m (k+1) f (bif w.getLsbD k then w ||| m.getD k 0 else w)
def yw(m:List gd):List gd:=(List.range 64).map λi=>tz m 0 64 (m.getD i 0)
inductive qg(m:List gd):Nat->Nat->Prop
 |one{i k}(aj:k<64)(h:(m.getD i 0).getLsbD k=true):qg m i k| step {i j k} (h:(m.getD i 0).getLsbD j=true) (ap:j<64) (t:qg m j k):qg m i k
def qg.trans{m:List gd}{i j k:Nat}(h:qg m i j)(aP:qg m j k):qg m i k:=by
 induction h with
 |one aj h=>exact .step h aj aP| step h ap t aX=>exact .step h ap (aX aP)
def lk(x y:gd):Prop:=∀ i,i<64->x.getLsbD i=true->y.getLsbD i=true
def lk.refl(x:gd):lk x x:=λ_ _ h=>h
def lk.trans{x y z:gd}(h:lk x y)(aP:lk y z):lk x z:=λi hi ab=>aP i hi (h i hi ab)
def lk.or(x y:gd):lk x (x ||| y):=λi hi h=>by rw[BitVec.getLsbD_or,h];rfl
def lk.and{x y:gd}(h:lk x y):x &&& y=x:=BitVec.eq_of_getLsbD_eq λi hi=>by
 have U:=h i hi;rw[BitVec.getLsbD_and];cases ab:x.getLsbD i<;>simp_all
def F9(m:List gd):∀ (f k:Nat) (w:gd),lk w (tz m k f w)
 |0,k,w=>lk.refl w
 |f+1,k,w=>by
  rw[tz];cases w.getLsbD k with
  |true=>exact(lk.or _ _).trans (F9 m f (k+1) _)| false=>exact F9 m f (k+1) _
def F'{m:List gd}{P:Nat->Prop}(hm:∀ j,P j->∀ x,x<64->(m.getD j 0).getLsbD x=true->P x):∀ (f k:Nat) (w:gd),k+f<=64->(∀ x,x<64->w.getLsbD x=true->P x)->∀ x,x<64->(tz m k f w).getLsbD x=true->P x
 |0,k,w,_,hw=>hw
 |f+1,k,w,aj,hw=>by
  rw[tz];cases ag:w.getLsbD k with
  |true=>
   refine F' hm f (k+1) _ (by omega) λx ab h=>?_;rw[bn,BitVec.getLsbD_or,gY]at h;rcases h with h | h;·exact hw x ab h
   ·exact hm k (hw k (by omega) ag) x ab h
  |false=>exact F' hm f (k+1) _ (by omega) hw
def VY(m:List gd):(yw m).length=64:=by simp[yw]
def Nc(m:List gd){i:Nat}(h:i<64):(yw m).getD i 0=tz m 0 64 (m.getD i 0):=by simp[yw,c1,h]
structure Ga(jU m:List gd):Prop where
 len:m.length=64
 le:∀ i,i<64->lk (jU.getD i 0) (m.getD i 0)
 ok:∀ i,i<64->∀ k,k<64->(m.getD i 0).getLsbD k=true->qg jU i k
def Ga.next{jU m:List gd}(h:Ga jU m):Ga jU (yw m):=by
 refine⟨VY m,λi hi=>?_,λi hi k aj ag=>?_⟩
 ·rw[Nc m hi];exact(h.le i hi).trans (F9 m 64 0 _)
 ·rw[Nc m hi]at ag;refine F' (P:=λx=>x<64/\qg jU i x) (λj ap x ab ag=>⟨ab,ap.2.trans (h.ok j ap.1 x ab ag)⟩) 64 0 _ (cK _) (λx ab ag=>⟨ab,h.ok i hi x ab ag⟩) k aj ag |>.2
def VZ(ws:List Int)(n:Nat):Bool:=(ws.getD (n/64) 0).toNat.testBit (n%64)
def Nd(p:Nat->Bool):Nat->Nat->Nat
 |0,t=>t| f+1,t=>bif p (t+1)then Nd p f (t+1)else t
def V0(p:Nat->Bool)(i:Nat):Bool:=p i&&(decide (i=0) || !p (i-1))
def V1(p:Nat->Bool)(n:Nat):List (UInt8×UInt8):=((List.range n).filter (V0 p)).map λi=>(UInt8.ofNat i,UInt8.ofNat (Nd p (255-i) i))
def Nf(w:gd):Value:=.int .u64 w.toNat
def Gb(m:List gd):List Value:=(List.range 64).map λi=>Nf (m.getD i 0)
def V2(m:List gd):(Gb m).length=64:=by simp[Gb]
structure pb where
 n:Nat
 m:List gd
 w:gd
def pb.cells(s:pb):List Value:=.int .i64 s.n::(Gb s.m++[Nf s.w])
def pb.val(s:pb):Value:=.agg s.cells.toArray
section
variable{I:aG}{M:List aC}{d:aH}{x:a5}{a:Option Addr}{n c:Nat}{ks:List bQ}
def qf.head(aj:qf I M a n ks)(aD:0<n):∃ ad,a=some ad/\cx I M (ad.add (0*5)) 5 (ks.headD ky).cells:=by
 have U:0<ks.length:=by rw[aj.n];exact aD
 obtain⟨ad,aa,ak⟩:=aj.rd 0 U;refine⟨ad,aa,?_⟩;cases ks with
 |nil=>simp at U| cons k ks=>exact ak
end
def qf.mono{a:Option Addr}{ks:List bQ}(h:qf I M a n ks)(a7:∀ b o,I b=some o->I' b=some o):qf I' M a n ks:=
 ⟨h.n,λj ap=>by
  obtain⟨ad,U,aa⟩:=h.rd j ap;exact⟨ad,U,aa.mono a7⟩⟩
def qf.sub{I:aG}{M M':List aC}{a:Option Addr}{n:Nat}{ks:List bQ}(h:qf I M a n ks)(aZ:∀ x∈M,x∈M'):qf I M' a n ks:=
 ⟨h.n,λj ap=>by
  obtain⟨ad,U,aa⟩:=h.rd j ap;exact⟨ad,U,aa.sub aZ⟩⟩
def Gc(t:cc):Prop:=∀ n∈t.ae,n.kn<=3000000000000
def pb.da(s:pb):s.cells.length=66:=by simp[pb.cells,V2]
def bN.ints(w:bN):∀ x∈[(w.a.toNat:Int),(w.b.toNat:Int),(w.c.toNat:Int),(w.d.toNat:Int)],eu x:=by
 have U:=w.a.isLt;have aa:=w.b.isLt;have ak:=w.c.isLt;have aL:=w.d.isLt;intro x ab;simp only[cU,List.not_mem_nil,or_false]at ab;unfold eu;rcases ab with rfl | rfl | rfl | rfl<;>omega
section
variable{I:aG}{M:List aC}{d:aH}{a:Option Addr}{n c:Nat}{ks:List a5}
end
def V3(p:UInt8×UInt8):List UInt8:=ic p.1 ow++((bif decide ((p.1.toNat:Int)+1<p.2.toNat)then [45]else [])++(bif decide ((p.1.toNat:Int)<p.2.toNat)then ic p.2 ow else []))
def V4(aV:List (UInt8×UInt8)):Bool:=match aV with
 |[p]=>((p.1.toNat:Int) == 0)&&((p.2.toNat:Int) == 255)| _=>false
def V5(aV:List (UInt8×UInt8)):List UInt8:=bif V4 aV then [46]else [91]++aV.flatMap V3++[93]
def YG(deb:List Int):Prop:=∀ a b c d:Int,(∀ x∈[a,b,c,d],eu x)->V5 (V1 (VZ [a,b,c,d]) 256)=q1 deb a b c d
def pb.loop(s:pb)(i:Nat):pb:=⟨s.n,s.m,s.w ||| VX i⟩
def Ng(ds:List aT)(F:List a5)(i:Nat):List Nat:=match ds[i]? with
 |some d=>(VW (iM ds) F d.t.ae d.t.root).2| none=>[]
def tA{α:Type}(n:Nat)(body:List α->Nat->α)(l:List α):List α:=(List.range n).map (body l)
def Be(n:Nat)(body:List α->Nat->α)(l:List α):(tA n body l).length=n:=by simp[tA]
def Gd(body:List α->Nat->α)(l:List α)(b:α){i:Nat}(h:i<n):(tA n body l).getD i b=body l i:=by simp[tA,c1,h]
section
variable{α:Type}{O:vx α}{n:Nat}{body:List α->Nat->α}(o9:∀ {l m:List α},gF O l m->∀ i,i<n->O.le (body l i) (body m i))
include o9
def vy.all{l:List α}(h:vy O n body l):vy O n body (tA n body l)/\gF O l (tA n body l):=by
 have hle:gF O l (tA n body l):=.of (by rw[Be,h.len]) λi hi=>by rw[Gd _ _ _ (by rw[<-h.len];exact hi)];exact h.up i (by rw[<-h.len];exact hi)
 refine⟨⟨Be _ _ _,λi hi=>?_,λm hm aB=>?_⟩,hle⟩
 ·rw[Gd _ _ _ hi];exact o9 hle i hi
 ·refine .of (by rw[Be,hm]) λi hi=>?_;rw[Be]at hi;rw[Gd _ _ _ hi];exact O.trans (o9 (h.least m hm aB) i hi) (aB i hi)
end
section
variable{n:Nat}{body:List bQ->Nat->bQ}(o9:∀ {l m:List bQ},gF rN l m->∀ i,i<n->rN.le (body l i) (body m i))
include o9
end
structure Bf where
 l:List a5
 a:Option Addr
 n:Nat
 c:Nat
def Bf.val(x:Bf):Value:=.slice x.a x.n x.c
structure Ge(I:aG)(x:Bf):Prop where
 at_:pT I [] x.a x.n x.l
 n:x.n<=9223372036854775807
def Ge.mono{x:Bf}(h:Ge I x)(a7:∀ b o,I b=some o->I' b=some o):Ge I' x:=⟨h.at_.mono a7,h.n⟩
def Gf{ds:List aT}{f:aT->a5}{i:Nat}(h:i<ds.length):(ds.map f).getD i eG=f ds[i]:=by simp[c1,h]
def uH.all{ds:List aT}{l:List a5}(h:uH ds l):uH ds (ds.map (kl (iM ds) l))/\cS l (ds.map (kl (iM ds) l)):=by
 have hle:cS l (ds.map (kl (iM ds) l)):=cS.of (by simp[h.len]) λi hi=>by rw[Gf (by rw[<-h.len];exact hi)];exact h.up i _
 refine⟨⟨by simp,λi hi=>?_,λm hm aB=>cS.of (by simp[hm]) λi hi=>?_⟩,hle⟩
 ·rw[Gf hi];exact xw hle _
 ·have cr:i<ds.length:=by simpa using hi
  rw[Gf cr];exact(xw (h.least m hm aB) _).trans (aB i cr)
def Nh(deb:List Int)(g:cO)(l:List bQ)(t:cc):Bool:=decide (l.length=g.n)&&(decide (dB deb g=0)&&(right t&&Rn (iM g.ds) t.ae))
def V6(pl:List (ByteArray×Int))(F:List a5)(d:aH)(xs:List ((a5×List Nat)×Bool)):Bool:=xs.any λx=>(decide (d.k=6)&&(decide (d.hi=-1)&&x.1.1.z))||x.2
def V7(pl:List (ByteArray×Int))(F:List a5)(d:aH)(xs:List ((a5×List Nat)×Bool)):(a5×List Nat)×Bool:=(Nb pl F d (xs.map (·.1)),V6 pl F d xs)
def V8(pl:List (ByteArray×Int))(F:List a5)(ae:List aH)(j:Int):(a5×List Nat)×Bool:=qR ((eG,[]),false) (λd g=>V7 pl F d (d.kids.map g)) ae j
def V9(ds:List aT)(F:List a5)(i:Nat):List Nat:=(List.range ds.length).filter λk=>(Ng ds F i).contains k
def Gg(p:Nat->Bool)(i:Nat):((List.range i).filter p).length<=i:=by have:=vE p (List.range i);simpa using this
def V'(ds:List aT)(F:List a5)(i:Nat):Bool:=match ds[i]? with
 |some d=>(V8 (iM ds) F d.t.ae d.t.root).2| none=>false
def Wa(ds:List aT)(F:List a5):List Nat:=(List.range ds.length).filter (V' ds F)
inductive jW(A:Nat->List Nat):Nat->Nat->Prop
 |one{i k}(h:k∈A i):jW A i k| step {i j k} (h:j∈A i) (t:jW A j k):jW A i k
def jW.snoc{i j k:Nat}(h:jW A i j)(aj:k∈A j):jW A i k:=by
 induction h with
 |one h=>exact .step h (.one aj)| step h t aX=>exact .step h (aX aj)
def pc:List Nat->List Nat->List Nat
 |[],l=>l| x::r,l=>pc r (bif l.contains x then l else l++[x])
def vz:∀ (r l:List Nat) (x:Nat),x∈pc r l ↔ x∈l\/x∈r
 |[],l,x=>by simp[pc]
 |y::r,l,x=>by
  rw[pc,vz r];cases h:l.contains y with
  |true=>
   have aE:y∈l:=by simpa using h
   rw[bn];constructor
   ·rintro(a | a)
    ·exact .inl a
    ·exact .inr (.tail _ a)
   ·rintro(a | a)
    ·exact .inl a
    ·rcases cU.1 a with rfl | a
     ·exact .inl aE
     ·exact .inr a
  |false=>
   rw[bj];rw[c9,ju,cU];constructor
   ·rintro((a | a) | a)
    ·exact .inl a
    ·exact .inr (.inl a)
    ·exact .inr (.inr a)
   ·rintro(a | a | a)
    ·exact .inl (.inl a)
    ·exact .inl (.inr a)
    ·exact .inr a
def Ni:∀ (r l:List Nat),∃ s,pc r l=l++s
 |[],l=>⟨[],by simp[pc]⟩
 |y::r,l=>by
  obtain⟨s,an⟩:=Ni r (bif l.contains y then l else l++[y]);rw[pc,an];cases l.contains y with
  |true=>exact⟨s,rfl⟩| false=>exact⟨[y]++s,by simp⟩
def Nj:∀ (r l:List Nat),l.Nodup->(pc r l).Nodup
 |[],l,h=>h
 |y::r,l,h=>by
  rw[pc];apply Nj r;cases aB:l.contains y with
  |true=>exact h
  |false=>
   have aE:y ∉ l:=by simpa using aB
   rw[bj,tF];refine⟨h,by simp,λa aN b ag e=>?_⟩;have:b=y:=by simpa using ag
   subst this;subst e;exact aE aN
def Nk:∀ (n:Nat) (l:List Nat),l.Nodup->(∀ x∈l,x<n)->l.length<=n
 |0,[],_,_=>cK _| 0,a::l,_,h=>absurd (h a (.head _)) (Nat.not_lt_zero _)
 |n+1,l,ao,h=>by
  have U:=Nk n (l.erase n) (ao.erase n) λx ab=>by have aa:=h x (List.mem_of_mem_erase ab);have ak:x≠n:=(ao.mem_erase_iff.1 ab).1;omega
  have aL:=List.length_erase (a:=n) (l:=l);split at aL<;>omega
structure yx(A:Nat->List Nat)(n k:Nat)(mj l:List Nat):Prop where
 bH:l.Nodup
 lt:∀ x∈l,x<n
 sub:∀ x∈mj,x∈l
 src:∀ x∈l,x∈mj\/∃ y∈mj,jW A y x
 rk:∀ j x,j<k->l[j]?=some x->∀ y∈A x,y∈l
 k:k<=l.length
def yx.len{k:Nat}{l:List Nat}(h:yx A n k mj l):l.length<=n:=Nk n l h.bH h.lt
def yx.next{k:Nat}{l:List Nat}(fU:∀ x,∀ y∈A x,y<n)(h:yx A n k mj l){x:Nat}(ab:l[k]?=some x):yx A n (k+1) mj (pc (A x) l):=by
 obtain⟨s,an⟩:=Ni (A x) l;have aj:k<l.length:=by
  rcases x4 k l.length with U | U;·exact U
  ·rw[tE U]at ab;cases ab
 have jJ:x∈l:=rS ab;refine⟨Nj _ _ h.bH,λz a2=>?_,λz a2=>(vz _ _ _).2 (.inl (h.sub z a2)),λz a2=>?_,λj z ap a2 y aE=>?_,by rw[an];simp;omega⟩
 ·rcases(vz _ _ _).1 a2 with a | a
  ·exact h.lt z a
  ·exact fU x z a
 ·rcases(vz _ _ _).1 a2 with a | a
  ·exact h.src z a
  ·rcases h.src x jJ with b | ⟨w,hw,b⟩
   ·exact .inr ⟨x,b,.one a⟩
   ·exact .inr ⟨w,hw,b.snoc a⟩
 ·have fQ:l[j]?=some z:=by rw[an,kA (by omega)]at a2;exact a2
  by_cases e:j=k;·subst e;rw[ab]at fQ;obtain rfl:=lM fQ;exact(vz _ _ _).2 (.inr aE)
  ·exact(vz _ _ _).2 (.inl (h.rk j z (by omega) fQ y aE))
open Classical in
noncomputable def Wb(ds:List aT)(F:List a5):List Nat:=(List.range ds.length).filter λi=>decide (jW (Ng ds F) i i)
def u1(z:Int):List Value:=[.int .i64 z]
def Nl(deb:List Int)(g:cO)(r:Int)(l:List Nat):Prop:=((dB deb g≠0\/r<0\/(g.n:Int)<=r)/\l=[])\/(dB deb g=0/\∃ F k,r=(k:Nat)/\k<g.n/\pU g.ds F/\l=V9 g.ds F k)
def Nm(deb:List Int)(g:cO)(l:List Nat):Prop:=(dB deb g≠0/\l=[])\/(dB deb g=0/\∃ F,pU g.ds F/\l=Wa g.ds F)
def Nn(deb:List Int)(g:cO)(l:List Nat):Prop:=(dB deb g≠0/\l=[])\/(dB deb g=0/\∃ F,pU g.ds F/\l=Wb g.ds F)
def jW.trans{i j k:Nat}(h:jW A i j)(aP:jW A j k):jW A i k:=by
 induction h with
 |one h=>exact .step h aP| step h t aX=>exact .step h (aX aP)
def getD_set_true(s:List Bool)(i k:Nat)(hi:i<s.length):(s.set i true).getD k false=(decide (k=i)||s.getD k false):=by
 simp only[c1,kV];by_cases e:i=k
 ·subst e;simp[hi]
 ·have:¬ k=i:=λh=>e h.symm;simp[e,this]
structure Gh(A:Nat->List Nat)(n:Nat)(s:List Bool):Prop where
 len:s.length=n
 Gi:∀ i,s.getD i false=true->∀ x,(x=i\/jW A i x)->¬ jW A x x
def Gh.put(h:Gh A n s){i:Nat}(hi:i<n)(az:s.getD i false=false)(au:∀ k∈A i,s.getD k false=true):Gh A n (s.set i true):=by
 refine⟨by rw[xC];exact h.len,λj ap x ab=>?_⟩;rw[getD_set_true _ _ _ (by rw[h.len];exact hi)]at ap;by_cases e:j=i
 ·subst e;have key:∀ y,jW A j y->¬ jW A y y:=λy aE=>by
   cases aE with
   |one U=>exact h.Gi y (au _ U) y (.inl rfl)| step U t=>exact h.Gi _ (au _ U) y (.inr t)
  rcases ab with rfl | ab;·intro aB;exact key _ aB aB
  ·exact key _ ab
 ·rw[ef e,rV]at ap;exact h.Gi j ap x ab
structure Gj(A:Nat->List Nat)(n:Nat)(dY s:List Bool)(i:Nat):Prop where
 sub:∀ k,dY.getD k false=true->s.getD k false=true
 Wc:∀ j,j<i->j<n->(∀ k∈A j,dY.getD k false=true)->s.getD j false=true
def Gj.put{dY:List Bool}{i:Nat}(h:Gj A n dY s i)(hi:i<s.length):Gj A n dY (s.set i true) (i+1):=by
 refine⟨λk aj=>?_,λj ap aF au=>?_⟩
 ·rw[getD_set_true _ _ _ hi,h.sub k aj,oH]
 ·rw[getD_set_true _ _ _ hi];by_cases e:j=i
  ·simp[e]
  ·rw[h.Wc j (by omega) aF au,oH]
section
variable{I:aG}{M0:List aC}{deb:List Int}
end
structure nT where
 k:Int
 dY:Int
 s1:Int
 s2:Int
 gx:Int
 t:List UInt8
 lo:Int
 hi:Int
 kids:List Int
def nT.bH(c:nT)(a:Option Addr)(n k:Nat):aH:=⟨c.k,c.dY,c.s1,c.s2,c.gx,⟨c.t.toArray⟩,c.lo,c.hi,a,n,k,c.kids⟩
inductive rO:List nT->List aH->Prop
 |nil:rO [] []| cons {c cs ae} (a:Option Addr) (n k:Nat) (t:rO cs ae):rO (c::cs) (c.bH a n k::ae)
structure rP where
 ae:List nT
 root:Int
structure Bg(c:rP)(t:cc):Prop where
 ae:rO c.ae t.ae
 root:t.root=c.root
structure l6 where
 name:List UInt8
 t:rP
inductive pd:List l6->List aT->Prop
 |nil:pd [] []| cons {c cs ds} {t:cc} (h:Bg c.t t) (k:pd cs ds):pd (c::cs) (⟨⟨c.name.toArray⟩,t⟩::ds)
section
variable{D:a4}{v:ai}{u:Value}
end
section
variable{Y:dJ}{D:a4}{m:aU}{I J:aG}{M:List aC}
end
def nT.pl(c:nT):aH:=c.bH none 0 0
def rP.z5(c:rP):cc:=⟨c.ae.map nT.pl,none,c.ae.length,0,c.root⟩
def l6.Gk(c:l6):aT:=⟨⟨c.name.toArray⟩,c.t.z5⟩
def yy(cs:List l6):cO:=⟨cs.map l6.Gk,none,cs.length,0⟩
def rO.bi{cs:List nT}{ae:List aH}(h:rO cs ae):ae.map aH.bi=cs.map nT.pl:=by
 induction h with
 |nil=>rfl| cons a n k t aX=>rw[cC,cC,aX];rfl
def rO.len{cs:List nT}{ae:List aH}(h:rO cs ae):ae.length=cs.length:=by
 induction h with
 |nil=>rfl| cons a n k t aX=>simp[aX]
def Bg.bi{c:rP}(h:Bg c t)(aq:t.ok I):t.bi=c.z5:=by unfold cc.bi rP.z5;rw[h.ae.bi,h.root,<-aq.n,h.ae.len]
def pd.bi{cs:List l6}{ds:List aT}(h:pd cs ds)(ao:∀ d∈ds,d.ok I):ds.map aT.bi=cs.map l6.Gk:=by
 induction h with
 |nil=>rfl| cons h k aX=>rw[cC,cC,aX λd e7=>ao d (.tail _ e7)];congr 1;unfold aT.bi l6.Gk;rw[h.bi (ao _ (.head _)).t]
def pd.len{cs:List l6}{ds:List aT}(h:pd cs ds):ds.length=cs.length:=by
 induction h with
 |nil=>rfl| cons h k aX=>simp[aX]
def Wd{cs:List l6}(h:pd cs g.ds)(aw:g.ok I):g.bi=yy cs:=by unfold cO.bi yy;rw[h.bi aw.ds,<-aw.n,h.len]
def We(c:rP):Bool:=c.ae.all λn=>decide (n.kids.length<=1000)
def Wf{c:rP}(h:Bg c t)(aq:t.ok I)(aj:We c=true):Gc t:=λn aF=>by
 have U:=(aq.ae n aF).kn;have aa:n.bi∈c.ae.map nT.pl:=by rw[<-h.ae.bi];exact dw.2 ⟨n,aF,rfl⟩
 obtain⟨x,ab,e⟩:=dw.1 aa;have ak:=hX (eO.1 aj x ab);have aL:x.kids=n.kids:=congrArg aH.kids e;rw[aL]at ak;omega
def Wg{cs:List l6}{ds:List aT}(h:pd cs ds)(ao:∀ d∈ds,d.ok I)(aj:(cs.all λd=>d.t.ae.all λn=>decide (n.kids.length<=1000))=true):∀ d∈ds,Gc d.t:=by
 induction h with
 |nil=>intro d ao;cases ao
 |cons h k aX=>
  simp only[List.all_cons,bs]at aj;intro d hm;rcases cU.1 hm with rfl | hm;·exact Wf h (ao _ (.head _)).t aj.1
  ·exact aX (λd e7=>ao d (.tail _ e7)) (by simpa using aj.2) d hm
def Wh{ds:List aT}{l:List a5}(h:pU (ds.map aT.bi) l):pU ds l:=by
 refine⟨by rw[h.len,j9],λi hi=>?_,λm hm aB=>?_⟩
 ·have:=h.fix i (by simpa using hi);rwa [JV,sk,JW]at this
 ·refine h.least m (by rw[hm,j9]) λi hi=>?_;rw[JV,sk,JW];exact aB i (by simpa using hi)
structure No(cs:List l6)(F:List a5):Prop where
 may:dB fp (yy cs)=0
 Wi:pU (yy cs).ds F
 Wj:(cs.all λd=>d.t.ae.all λn=>decide (n.kids.length<=1000))=true
def No.of{cs:List l6}{F:List a5}(dy:No cs F)(aw:g.ok I)(aM:pd cs g.ds):dB fp g=0/\pU g.ds F/\(∀ d∈g.ds,Gc d.t):=by
 have ey:=Wd aM aw;have e1:g.ds.map aT.bi=(yy cs).ds:=congrArg cO.ds ey;have hm:dB fp g=0:=by rw[<-Ry,ey];exact dy.may
 refine⟨hm,?_,Wg aM aw.ds dy.Wj⟩;have:=dy.Wi;rw[<-e1]at this;exact Wh this
structure Bh where
 l:List bQ
 a:Option Addr
 n:Nat
 c:Nat
def Bh.val(x:Bh):Value:=.slice x.a x.n x.c
structure Gl(I:aG)(x:Bh):Prop where
 at':qf I [] x.a x.n x.l
 n:x.n<=9223372036854775807
section
variable{H:Type}{enc:TypeId×Value->H}{W:World}{base:Nat}{c5:Nat->Bool}{held:Bool}
end
def Gl.mono{x:Bh}(h:Gl I x)(a7:∀ b o,I b=some o->I' b=some o):Gl I' x:=⟨h.at'.mono a7,h.n⟩
def Np(g:cO)(l:List bQ):Prop:=(dB fp g=0/\∃ F,pU g.ds F/\VT g.ds F l)\/(dB fp g≠0/\l=[])
def Np.len{l:List bQ}(h:Np g l):l.length<=g.ds.length:=by
 rcases h with⟨a,F,bM,h⟩ | ⟨a,h⟩
 ·rw[h.len];exact cK _
 ·rw[h];exact gq _
def Nq(g:cO)(l:List bQ)(t:cc)(r:List bQ):Prop:=(Nh fp g l t=true/\∃ F,pU g.ds F/\r=yv (iM g.ds) l (mL (iM g.ds) F t.ae []) t.ae [])\/(Nh fp g l t=false/\r=[])
def Nq.len{l:List bQ}{r:List bQ}(h:Nq g l t r):r.length<=t.ae.length:=by
 rcases h with⟨a,F,bM,rfl⟩ | ⟨a,rfl⟩
 ·rw[M9];simp
 ·exact gq _
section
variable{I:aG}{M0:List aC}
end
def Nl.len{r:Int}{l:List Nat}(h:Nl deb g r l):l.length<=g.ds.length:=by
 rcases h with⟨-,rfl⟩ | ⟨-,F,k,-,-,-,rfl⟩
 ·exact gq _
 ·exact Gg _ _
def Nm.len{l:List Nat}(h:Nm deb g l):l.length<=g.ds.length:=by
 rcases h with⟨-,rfl⟩ | ⟨-,F,-,rfl⟩
 ·exact gq _
 ·exact Gg _ _
def Nn.len{l:List Nat}(h:Nn deb g l):l.length<=g.ds.length:=by
 rcases h with⟨-,rfl⟩ | ⟨-,F,-,rfl⟩
 ·exact gq _
 ·exact Gg _ _
def Wk(ae:List aH)(c7:ByteArray):Bool:=ae.any λn=>decide (n.k=3)&&decide (n.t=c7)
def Wl(g:cO)(i k:Nat):Bool:=match g.ds[i]?,g.ds[k]? with
 |some d,some e=>Wk d.t.ae e.name| _,_=>false
def Nr(g:cO)(i k:Nat):Bool:=decide (i=k)||Wl g i k
def iy(g:cO):Nat->Nat->Nat->Prop
 |0,i,k=>Nr g i k=true| m+1,i,k=>iy g m i k\/(iy g m i m/\iy g m m k)
def iy.base{g:cO}{i k:Nat}(h:Nr g i k=true):∀ m,iy g m i k
 |0=>h| m+1=>.inl (iy.base h m)
def iy.trans{g:cO}:∀ {m i j k:Nat},iy g m i j->iy g m j k->j<m->iy g m i k
 |m+1,i,j,k,U,aa,ap=>by
  by_cases e:j=m;·subst e;have bK:iy g j i j:=U.elim id (·.1);have cm:iy g j j k:=aa.elim id (·.2);exact .inr ⟨bK,cm⟩
  ·have ap:j<m:=by omega
   rcases U with U | ⟨U,ib⟩<;>rcases aa with aa | ⟨aa,ia⟩
   ·exact .inl (iy.trans U aa ap)
   ·exact .inr ⟨iy.trans U aa ap,ia⟩
   ·exact .inr ⟨U,iy.trans ib aa ap⟩
   ·exact .inr ⟨U,ia⟩
def fI(R:List (List Bool))(i k:Nat):Bool:=(R.getD i []).getD k false
def rQ(R:List (List Bool))(i k:Nat)(v:Bool):List (List Bool):=R.set i ((R.getD i []).set k v)
structure tB(n:Nat)(R:List (List Bool)):Prop where
 len:R.length=n
 row:∀ i (h:i<R.length),R[i].length=n
def tB.set(h:tB n R){i k:Nat}(hi:i<n)(v:Bool):tB n (rQ R i k v):=by
 refine⟨by simp[rQ,h.len],λj ap=>?_⟩;simp only[rQ,xC]at ap;have ek:i<R.length:=by rw[h.len];exact hi
 simp only[rQ,List.getElem_set];split
 ·rw[xC];simp[c1,ek,h.row i ek]
 ·exact h.row j ap
def Wm(h:tB n R){i k:Nat}(hi:i<n)(aj:k<n)(v:Bool)(a b:Nat):fI (rQ R i k v) a b=bif decide (a=i/\b=k)then v else fI R a b:=by
 have ek:i<R.length:=by rw[h.len];exact hi
 have dI:k<R[i].length:=by rw[h.row i ek];exact aj
 unfold fI rQ;simp only[c1,kV];by_cases aN:i=a
 ·subst aN;simp only[kE,ek,kE,hs,h8 ek];rw[kV];by_cases ag:k=b
  ·subst ag;simp[dI]
  ·have:¬ (b=k):=λe=>ag e.symm;simp[ag,this]
 ·have:¬ (a=i):=λe=>aN e.symm;simp[aN,this]
structure yz(g:cO)(m:Nat)(A R:List (List Bool))(done:Nat->Nat->Prop):Prop where
 sound:∀ i k,fI R i k=true->iy g g.n i k
 grow:∀ i k,fI A i k=true->fI R i k=true
 new:∀ i k,done i k->fI A i m=true->fI A m k=true->fI R i k=true
def yz.step{m:Nat}{A:List (List Bool)}{d yf:Nat->Nat->Prop}(h:yz g m A R d)(aM:tB g.n R){i k:Nat}(hi:i<g.n)(aj:k<g.n)(hm:m<g.n)(ao:∀ a b,yf a b->d a b\/(a=i/\b=k)) :
  yz g m A (rQ R i k (fI R i k||(fI R i m&&fI R m k))) yf:=by
 have an:=Wm aM hi aj (fI R i k||(fI R i m&&fI R m k));have up:∀ a b,fI R a b=true->fI (rQ R i k (fI R i k||(fI R i m&&fI R m k))) a b=true:=λa b en=>by
  rw[an];by_cases e:a=i/\b=k;·obtain⟨rfl,rfl⟩:=e;simp[en]
  ·simp[e,en]
 refine⟨λa b en=>?_,λa b en=>up a b (h.grow a b en),λa b Gm U aa=>?_⟩
 ·rw[an]at en;by_cases e:a=i/\b=k
  ·obtain⟨rfl,rfl⟩:=e;simp at en;rcases en with en | ⟨eL,eV⟩
   ·exact h.sound _ _ en
   ·exact iy.trans (h.sound _ _ eL) (h.sound _ _ eV) hm
  ·simp[e]at en;exact h.sound _ _ en
 ·rcases ao a b Gm with Gm | ⟨rfl,rfl⟩
  ·exact up a b (h.new a b Gm U aa)
  ·rw[an];simp[h.grow _ _ U,h.grow _ _ aa]
structure yA(g:cO)(m:Nat)(R:List (List Bool)):Prop where
 YH:tB g.n R
 sound:∀ i k,fI R i k=true->iy g g.n i k
 comp:∀ i k,i<g.n->k<g.n->iy g m i k->fI R i k=true
def yA.begin{m:Nat}(h:yA g m R):yz g m R R λ_ _=>False:=⟨h.sound,λ_ _ h=>h,λ_ _ h=>h.elim⟩
def yA.next{m:Nat}{A:List (List Bool)}(fU:yA g m A)(hm:m<g.n)(aM:tB g.n R)(h:yz g m A R λi k=>i<g.n/\k<g.n):yA g (m+1) R:=by
 refine⟨aM,h.sound,λi k hi aj aK=>?_⟩;rcases aK with aK | ⟨U,aa⟩
 ·exact h.grow _ _ (fU.comp i k hi aj aK)
 ·exact h.new i k ⟨hi,aj⟩ (fU.comp i m hi hm U) (fU.comp m k hm aj aa)
def bh.hq(bM:rK I M J){xs:List Value}{e b:Nat}(h:os.ok size xs)(aZ:∀ x∈os.bF e,x∈M)(ag:os.n*b<=140737488355328):ee J (os.a.map λg=>⟨g,0,none⟩) os.n os.c size b xs:=by
 obtain⟨a,n,c,cur⟩:=os;cases a with
 |none=>obtain⟨U,aa⟩:=h.nil rfl;exact⟨h.len,⟨by simp only at U aa |-;omega,ag⟩,.inl U⟩
 |some g=>obtain⟨U,aa,ak,aL⟩:=h.cap g rfl;exact⟨h.len,⟨aa,ag⟩,.inr ⟨⟨g,0,none⟩,rfl,rfl,cur.toArray,e,(0,0),bM.kn _ _ (.inr ⟨⟨g,.cells cur.toArray e (0,0)⟩,aZ _ (.head _),rfl,rfl⟩),by simpa using aL⟩⟩
def ee.Gn{a:Option Addr}{c b:Nat}(h:ee I a n c size b vs)(M:List aC)(aD:0<n):∃ ad,a=some ad/\cx I M ad (n*size) vs:=by
 rcases h.rd with U | ⟨ad,U,aa,cs,T,ah,ak,aL⟩
 ·omega
 ·exact⟨ad,U,aa,cs,T,ah,.inl ak,aL,h.len⟩
def Wn(l:List Int):eP (l.map (.int .i64 ·))=true:=eO.2 λv af=>by obtain⟨k,_,rfl⟩:=dw.1 af;rfl
def Gp{f:α->List Value}(h:∀ x,eP (f x)=true)(l:List α):eP (l.flatMap f)=true:=eO.2 λv af=>by obtain⟨x,_,ab⟩:=uL.1 af;exact eO.1 (h x) v ab
def aH.one(d:aH):eP d.cells=true:=rfl
def aT.one(d:aT):eP d.cells=true:=rfl
def Wo{a:Option Addr}{c:Nat}(h:ee I a n c 1 8 vs)(U:eP vs=true):Spec Tryz.prog 122 [.slice a n c] I M0 λv I' M'=>I'=I/\∃ os:bh,os.n=n/\os.ok 1 vs/\v=os.val/\M'=os.bF 3++M0:=by
 refine cB [] a8 Tryz.func122 rfl rfl rfl ?_;intro B aD;have lG:=h.cap;refine eI.Fh a8 rfl rfl ?_;refine a1.mk (λaB=>?_) (λaB=>?_)
 ·have aF:n=0:=by
   rcases h.rd with aa | ⟨ad,aa,_⟩;·exact aa
   ·rw[aa]at aB;cases aB
  subst aF;have ak:vs=[]:=h7 (by rw[h.len,sm]);subst ak;exact⟨_,_,.refl,rfl,xl,rfl,Dc 1,rfl,rfl⟩
 refine eA.mk λb ag sw=>?_;refine a9.DD a8 rfl (by simp) (e:=3) rfl rfl rfl ⟨some b,0,0,[]⟩ (xs:=[]) ⟨rfl,(λh=>by cases h),(λg h=>⟨rfl,cK _,gq _,rfl⟩)⟩ rfl (sa:=a) (m:=n) (c':=c) (news:=vs) rfl h.len (h.Gn _) U [] M0 rfl (by simp only;omega) (by show(0+n)*8<=_;omega) ?_;intro os aF a7 bm;rw[lC]at bm;exact⟨_,_,.refl,rfl,os,aF.trans (dd n),bm,rfl,rfl⟩
def Wp{a:Option Addr}{c:Nat}(h:ee I a n c 1 8 vs)(U:eP vs=true):Spec Tryz.prog 122 [.slice a n c] I M0 λv I' M'=>(∀ b o,I b=some o->I' b=some o)/\M'=M0/\∃ bl c',v=.slice bl n c'/\ee I' bl n c' 1 8 vs:=by refine Spec.mS (Spec.frame (Spec.hq (Wo (M0:=[]) h U))) ?_;rintro v J M⟨M',rfl,-,fv,rfl,-,I',M1,⟨rfl,os,rfl,db,rfl,rfl⟩,bM⟩;have lG:=h.cap;exact⟨fv,rfl,_,_,rfl,bh.hq bM db (λz a2=>vF _ a2) lG.2⟩
def Wq{a:Option Addr}{c:Nat}(h:ee I a n c 9 96 vs)(U:eP vs=true):Spec Tryz.prog 121 [.slice a n c] I M0 λv I' M'=>I'=I/\∃ os:bh,os.n=n/\os.ok 9 vs/\v=os.val/\M'=os.bF 72++M0:=by
 refine cB [] a8 Tryz.func121 rfl rfl rfl ?_;intro B aD;have lG:=h.cap;refine eI.Fh a8 rfl rfl ?_;refine a1.mk (λaB=>?_) (λaB=>?_)
 ·have aF:n=0:=by
   rcases h.rd with aa | ⟨ad,aa,_⟩;·exact aa
   ·rw[aa]at aB;cases aB
  subst aF;have ak:vs=[]:=h7 (by rw[h.len,sm]);subst ak;exact⟨_,_,.refl,rfl,xl,rfl,Dc 9,rfl,rfl⟩
 refine eA.mk λb ag sw=>?_;refine a9.DD a8 rfl (by simp) (e:=72) rfl rfl rfl ⟨some b,0,0,[]⟩ (xs:=[]) ⟨rfl,(λh=>by cases h),(λg h=>⟨rfl,cK _,gq _,rfl⟩)⟩ rfl (sa:=a) (m:=n) (c':=c) (news:=vs) rfl h.len (h.Gn _) U [] M0 rfl (by simp only;omega) (by show(0+n)*96<=_;omega) ?_;intro os aF a7 bm;rw[lC]at bm;exact⟨_,_,.refl,rfl,os,aF.trans (dd n),bm,rfl,rfl⟩
def Wr{a:Option Addr}{c:Nat}(h:ee I a n c 3 48 vs)(U:eP vs=true):Spec Tryz.prog 92 [.slice a n c] I M0 λv I' M'=>I'=I/\∃ os:bh,os.n=n/\os.ok 3 vs/\v=os.val/\M'=os.bF 66++M0:=by
 refine cB [] a8 Tryz.func92 rfl rfl rfl ?_;intro B aD;have lG:=h.cap;refine eI.Fh a8 rfl rfl ?_;refine a1.mk (λaB=>?_) (λaB=>?_)
 ·have aF:n=0:=by
   rcases h.rd with aa | ⟨ad,aa,_⟩;·exact aa
   ·rw[aa]at aB;cases aB
  subst aF;have ak:vs=[]:=h7 (by rw[h.len,sm]);subst ak;exact⟨_,_,.refl,rfl,xl,rfl,Dc 3,rfl,rfl⟩
 refine eA.mk λb ag sw=>?_;refine a9.DD a8 rfl (by simp) (e:=66) rfl rfl rfl ⟨some b,0,0,[]⟩ (xs:=[]) ⟨rfl,(λh=>by cases h),(λg h=>⟨rfl,cK _,gq _,rfl⟩)⟩ rfl (sa:=a) (m:=n) (c':=c) (news:=vs) rfl h.len (h.Gn _) U [] M0 rfl (by simp only;omega) (by show(0+n)*48<=_;omega) ?_;intro os aF a7 bm;rw[lC]at bm;exact⟨_,_,.refl,rfl,os,aF.trans (dd n),bm,rfl,rfl⟩
structure Ws(I:aG)(t:cc)(iz:bh)(x:Nat×bh×List aH×aG):Prop where
 i:x.1<=t.n
 ok:x.2.1.ok 9 (x.2.2.1.flatMap aH.cells)
 bi:x.2.2.1.map aH.bi=t.ae.map aH.bi
 ae:∀ d∈x.2.2.1,d.ok x.2.2.2
 le:∀ b o,I b=some o->x.2.2.2 b=some o
 a:x.2.1.a=iz.a
 v:x.2.1.val=iz.val
def Wt{L:List aH}{i:Nat}(hi:i<L.length){d:aH}(h:d.bi=L[i].bi):(L.set i d).map aH.bi=L.map aH.bi:=by
 rw[zl,h];refine wA λj=>?_;rw[kV];split
 ·rename_i e;subst e;rw[j9,ck hi,vG,h8 hi];rfl
 ·rfl
def Ns{f':bh}(h:os.val=f'.val):os.n=f'.n/\os.c=f'.c:=by
 unfold bh.val at h;injection h with U aa ak
 exact⟨aa,ak⟩
set_option maxRecDepth 100000 in
def Wu(aq:t.ok I):Spec Tryz.prog 93 [t.val] I [] λv I' M'=>(∀ b o,I b=some o->I' b=some o)/\∃ (os:bh) (L:List aH),v=.agg #[os.val,.int .i64 t.root]/\os.n=t.n/\os.ok 9 (L.flatMap aH.cells)/\M'=os.bF 72/\L.map aH.bi=t.ae.map aH.bi/\∀ d∈L,d.ok I':=by
 refine cB [] a8 Tryz.func93 rfl rfl rfl ?_;intro B aD;have I8:=aq.n;have lG:=aq.aV.cap;refine aY.whole _ (Wq aq.aV (Gp aH.one _)) ?_;rintro v J N -⟨rfl,iz,Wv,Gq,rfl,l4⟩;subst N;refine fh.inv (ι:=Nat×bh×List aH×aG) (λx=>{ b8:=[(1,.ref 1 0),(2,.ref 2 0),(10,.val iz.val),(11,.val (.int .i64 iz.n)),(12,.val (.int .i64 x.1))],cl:=[(1,[iz.val,.int .i64 t.root]),(2,[.slice none 0 0,.int .i64 0])],dL:=x.2.2.2,fg:=x.2.1.bF 72++[] }) (λx=>Ws J t iz x) (λx=>t.n-x.1) ?_ ?_
 ·exact⟨(0,iz,t.ae,J),⟨gq _,Gq,rfl,aq.ae,λ_ _ h=>h,rfl,rfl⟩,.refl,m8,.cons rfl (.cons rfl (.nil))⟩
 rintro⟨i,os,L,K⟩⟨hi,db,ey,n5,hle,qe,qh⟩;simp only at hi db ey n5 hle qe qh;have Nt:L.length=t.ae.length:=by simpa using congrArg List.length ey
 obtain⟨Bi,Ww⟩:=Ns qh;refine a1.mk (λh=>?_) (λh=>?_)
 rotate_left
 ·exact⟨_,_,.refl,hle,os,L,by rw[qh];rfl,by omega,db,by rw[hd],ey,n5⟩
 have a0:i<t.n:=by have:(i:Int)<(iz.n:Int):=hX h;omega
 have kq:i<L.length:=by omega
 obtain⟨ad,dH,cj⟩:=bh.ok.row (I:=K) (M:=os.bF 72++[]) (e:=72) aH.da (by decide) db (λz a2=>vF _ a2) kq;have yB:=n5 _ (et kq);have tC:=dH;rw[qe]at tC;refine c2.mk ad i tC rfl (by omega) ?_;refine ba.mk _ cj ?_;refine dt.draw a8 rfl rfl rfl ?_;refine iX.whole _ (Wp yB.aV (Wn _)) (λv I' M' h x ab=>by rw[h.2.1];exact ab) ?_;rintro v hT N -⟨vA,l4,bl,c',rfl,kN⟩;subst N;refine c2.mk ad i tC rfl (by omega) ?_;have ej:({ L[i]with ka:=bl,h2:=c' }:aH).ok hT:={ yB.mono vA with aV:=kN };have Gr:({ L[i]with ka:=bl,h2:=c' }:aH).bi=L[i].bi:=rfl;have g2:=Wt kq Gr;refine bh.Kc (e:=72) aH.cells 9 aH.da db kq 8 (vs:=[.slice bl L[i].kn c']) (bk rfl) rfl { L[i]with ka:=bl,h2:=c' } rfl [] [] (by simp) dH ?_;intro rl n1 Gs vu wG;refine bp.mk _ (iK (i:=i) (by omega)) ?_;refine⟨(i+1,rl,L.set i { L[i]with ka:=bl,h2:=c' },hT),⟨⟨a0,wG,g2.trans ey,λd ao=>?_,λb o h=>vA _ _ (hle _ _ h),Gs.trans qe,n1.trans qh⟩,by simp only;omega⟩,.refl,m8,.cons rfl (.cons rfl (.nil))⟩;rcases MQ ao with ao | rfl
 ·exact(n5 _ ao).mono vA
 ·exact ej
def Wx(aq:t.ok I):Spec Tryz.prog 93 [t.val] I M0 λv I' M'=>(∀ b o,I b=some o->I' b=some o)/\M'=M0/\∃ cD:cc,v=cD.val/\cD.ok I'/\cD.bi=t.bi:=by refine Spec.mS (Spec.frame (Spec.hq (Wu aq))) ?_;rintro v J M⟨M',rfl,-,fv,rfl,-,I',M1,⟨U,os,L,rfl,aF,db,rfl,ey,n5⟩,bM⟩;have lG:=aq.aV.cap;refine⟨fv,rfl,⟨L,os.a.map λg=>⟨g,0,none⟩,os.n,os.c,t.root⟩,rfl,⟨bh.hq bM db (λ_ h=>h) (by omega),λd ao=>(n5 d ao).mono bM.le,aq.root⟩,?_⟩;unfold cc.bi;rw[ey,aF]
structure Wy(I:aG)(g:cO)(iz:bh)(x:Nat×bh×List aT×aG):Prop where
 i:x.1<=g.n
 ok:x.2.1.ok 3 (x.2.2.1.flatMap aT.cells)
 bi:x.2.2.1.map aT.bi=g.ds.map aT.bi
 ds:∀ d∈x.2.2.1,d.ok x.2.2.2
 le:∀ b o,I b=some o->x.2.2.2 b=some o
 a:x.2.1.a=iz.a
 v:x.2.1.val=iz.val
def Wz{i:Nat}(hi:i<L.length){d:aT}(h:d.bi=L[i].bi):(L.set i d).map aT.bi=L.map aT.bi:=by
 rw[zl,h];refine wA λj=>?_;rw[kV];split
 ·rename_i e;subst e;rw[j9,ck hi,vG,h8 hi];rfl
 ·rfl
set_option maxRecDepth 100000 in
def WA(aw:g.ok I):Spec Tryz.prog 55 [g.val] I [] λv I' M'=>(∀ b o,I b=some o->I' b=some o)/\∃ (os:bh) (L:List aT),v=.agg #[os.val]/\os.n=g.n/\os.ok 3 (L.flatMap aT.cells)/\M'=os.bF 66/\L.map aT.bi=g.ds.map aT.bi/\∀ d∈L,d.ok I':=by
 refine cB [] a8 Tryz.func55 rfl rfl rfl ?_;intro B aD;have pP:=aw.n;have lG:=aw.aV.cap;refine aY.whole _ (Wr aw.aV (Gp aT.one _)) ?_;rintro v J N -⟨rfl,iz,Wv,Gq,rfl,l4⟩;subst N;refine fh.inv (ι:=Nat×bh×List aT×aG) (λx=>{ b8:=[(1,.ref 1 0),(2,.ref 2 0),(10,.val iz.val),(11,.val (.int .i64 iz.n)),(12,.val (.int .i64 x.1))],cl:=[(1,[iz.val]),(2,[.slice none 0 0])],dL:=x.2.2.2,fg:=x.2.1.bF 66++[] }) (λx=>Wy J g iz x) (λx=>g.n-x.1) ?_ ?_
 ·exact⟨(0,iz,g.ds,J),⟨gq _,Gq,rfl,aw.ds,λ_ _ h=>h,rfl,rfl⟩,.refl,m8,.cons rfl (.cons rfl (.nil))⟩
 rintro⟨i,os,L,K⟩⟨hi,db,ey,e1,hle,qe,qh⟩;simp only at hi db ey e1 hle qe qh;have Nt:L.length=g.ds.length:=by simpa using congrArg List.length ey
 obtain⟨Bi,Ww⟩:=Ns qh;refine a1.mk (λh=>?_) (λh=>?_)
 rotate_left
 ·exact⟨_,_,.refl,hle,os,L,by rw[qh];rfl,by omega,db,by rw[hd],ey,e1⟩
 have a0:i<g.n:=by have:(i:Int)<(iz.n:Int):=hX h;omega
 have kq:i<L.length:=by omega
 obtain⟨ad,dH,cj⟩:=bh.ok.row (I:=K) (M:=os.bF 66++[]) (e:=66) aT.da (by decide) db (λz a2=>vF _ a2) kq;have yB:=e1 _ (et kq);have tC:=dH;rw[qe]at tC;refine c2.mk ad i tC rfl (by omega) ?_;refine ba.mk _ cj ?_;refine dt.draw a8 rfl rfl rfl ?_;refine iX.whole _ (Wx yB.t) (λv I' M' h x ab=>by rw[h.2.1];exact ab) ?_;rintro v hT N -⟨vA,l4,cD,rfl,WB,WC⟩;subst N;refine c2.mk ad i tC rfl (by omega) ?_;have ej:(⟨L[i].name,cD⟩:aT).ok hT:=⟨yB.name,WB⟩;have Gr:(⟨L[i].name,cD⟩:aT).bi=L[i].bi:=by unfold aT.bi;rw[WC]
 have g2:=Wz kq Gr;refine bh.Kc (e:=66) aT.cells 3 aT.da db kq 1 (vs:=[.slice cD.a cD.n cD.c,.int .i64 cD.root]) (bk rfl) rfl ⟨L[i].name,cD⟩ rfl [] [] (by simp) dH ?_;intro rl n1 Gs vu wG;refine bp.mk _ (iK (i:=i) (by omega)) ?_;refine⟨(i+1,rl,L.set i ⟨L[i].name,cD⟩,hT),⟨⟨a0,wG,g2.trans ey,λd ao=>?_,λb o h=>vA _ _ (hle _ _ h),Gs.trans qe,n1.trans qh⟩,by simp only;omega⟩,.refl,m8,.cons rfl (.cons rfl (.nil))⟩;rcases MQ ao with ao | rfl
 ·exact(e1 _ ao).mono vA
 ·exact ej
def WD(aw:g.ok I):Spec Tryz.prog 55 [g.val] I M0 λv I' M'=>(∀ b o,I b=some o->I' b=some o)/\∃ (os:bh) (L:List aT),v=.agg #[os.val]/\os.n=g.n/\os.ok 3 (L.flatMap aT.cells)/\M'=os.bF 66++M0/\L.map aT.bi=g.ds.map aT.bi/\∀ d∈L,d.ok I':=by refine Spec.mS (Spec.frame (WA aw)) ?_;rintro v J M⟨M',rfl,-,fv,U,os,L,rfl,aF,db,rfl,ey,e1⟩;exact⟨fv,os,L,rfl,aF,db,rfl,ey,e1⟩
def WE(f:α->List Value)(size:Nat)(az:∀ x,(f x).length=size)(l:List α)(j:Nat):(l.drop j).flatMap f=(l.flatMap f).drop (j*size):=by
 by_cases h:j<=l.length
 ·have e:l.flatMap f=(l.take j).flatMap f++(l.drop j).flatMap f:=by rw[<-oc,qH]
  have aa:((l.take j).flatMap f).length=j*size:=by rw[hf f size az,DE h]
  rw[e,<-aa,List.drop_left]
 ·have U:l.length<=j:=by omega
  rw[List.drop_of_length_le U,List.drop_of_length_le (by rw[hf f size az];exact jX _ U)];rfl
set_option maxRecDepth 100000 in
def WG(db:os.ok 3 (L.flatMap aT.cells)){i:Nat}(hi:i<L.length)(ag:os.n<=1099511627776):Spec Tryz.prog 56 [os.val,.int .i64 i,.int .i64 ((i:Int)+1)] I (os.bF 66++M0) λv I' M'=>I'=I/\∃ f':bh,v=f'.val/\f'.n=os.n-1/\f'.ok 3 ((L.eraseIdx i).flatMap aT.cells)/\M'=f'.bF 66++M0:=by
 refine cB [] a8 Tryz.func56 rfl rfl rfl ?_;intro B aD;have hlen:=db.len;rw[hf _ 3 aT.da]at hlen;obtain⟨a,n,c,cur⟩:=os;cases a with
 |none=>have:=(db.nil rfl).1;simp only at this hlen;omega| some g=>
 obtain⟨eL,eV,fW,g4⟩:=db.cap g rfl;simp only at eL eV fW g4 ag hlen;refine a9.slice3 a8 rfl (by simp) (e:=66) rfl rfl rfl i (i+1) n (ad:=some ⟨g,0,none⟩) (n:=n) (c:=c) rfl rfl (by rfl) rfl (by omega) (by omega) eV ?_;refine a1.mk (λh=>?_) (λ_=>?_)
 ·have:(i:Int)=(i:Int)+1:=hX h;omega
 have ek:i<n:=by omega
 have pH:(⟨g,.cells cur.toArray 66 (0,0)⟩:aC)∈((⟨some g,n,c,cur⟩:bh).bF 66++M0):=.head _;have kT:((L.drop (i+1)).flatMap aT.cells).length=(n-(i+1))*3:=by rw[hf _ 3 aT.da,pD];omega
 have l2:cx I ((⟨some g,n,c,cur⟩:bh).bF 66++M0) ⟨g,if c=i+1 then 0 else(i+1)*3,none⟩ ((n-(i+1))*3) ((L.drop (i+1)).flatMap aT.cells):=by
  refine⟨rfl,cur.toArray,66,(0,0),.inr ⟨_,pH,rfl,rfl⟩,?_,kT⟩;by_cases aB:c=i+1
  ·have U:n-(i+1)=0:=by omega
   have h6:(L.drop (i+1)).flatMap aT.cells=[]:=h7 (by rw[kT,U]);rw[h6,U];simp
  ·rw[cd aB,WE _ 3 aT.da,<-g4,wB];congr 1;omega
 refine dt.draw a8 rfl rfl rfl ?_;refine h0.mk 0 i rfl rfl (gq _) (show i<=c by omega) ?_;refine h0.mk (i+1) n rfl rfl (by omega) (cK _) ?_;have WH:(Value.slice (if c=i+1 then some ⟨g,0,none⟩else(some (⟨g,0,none⟩:Addr)).map (·.add ((i+1)*3))) (n-(i+1)) (c-(i+1)))=.slice (some ⟨g,if c=i+1 then 0 else(i+1)*3,none⟩) (n-(i+1)) (c-(i+1)):=by
  by_cases aB:c=i+1;·rw[ck aB,ck aB]
  ·rw[cd aB,cd aB,gX,cY (⟨g,0,none⟩:Addr) rfl,dd]
 refine a9.TR a8 rfl (by simp) (e:=66) rfl rfl rfl (g:=g) (n:=i) (c:=c) (cur:=cur) rfl eL (ad:=⟨g,if c=i+1 then 0 else(i+1)*3,none⟩) (m:=n-(i+1)) (c':=c-(i+1)) (news:=(L.drop (i+1)).flatMap aT.cells) (congrArg b0.val WH) l2 (Gp aT.one _) (by omega) [] M0 rfl ?_;have dM:(bt cur (i*3) ((L.drop (i+1)).flatMap aT.cells)).length=cur.length:=by unfold bt;rw[cP,cP,kW,pD,kT];omega
 refine h0.mk (i+(n-(i+1))) n rfl rfl (by omega) (show n<=c by omega) ?_;have br:¬ c=i+(n-(i+1)):=by omega
 have WI:(Value.slice (if c=i+(n-(i+1))then some ⟨g,0,none⟩else(some (⟨g,0,none⟩:Addr)).map (·.add ((i+(n-(i+1)))*3))) (n-(i+(n-(i+1)))) (c-(i+(n-(i+1)))))=.slice (some ⟨g,(n-1)*3,none⟩) 1 (c-(n-1)):=by rw[cd br,gX,cY (⟨g,0,none⟩:Addr) rfl,dd,show i+(n-(i+1))=n-1 by omega,show n-(n-1)=1 by omega]
 refine a9.clear a8 rfl (by simp) (e:=66) rfl rfl rfl (g:=g) (off:=(n-1)*3) (n:=1) (c:=c-(n-1)) (cur:=bt cur (i*3) ((L.drop (i+1)).flatMap aT.cells)) (congrArg b0.val WI) (by decide) (by show(n-1)*3+1*3<=_;rw[dM,eL];omega) [] M0 rfl ?_;intro vU mv;refine⟨_,_,.refl,rfl,⟨some g,i+(n-(i+1)),c,bt (bt cur (i*3) ((L.drop (i+1)).flatMap aT.cells)) ((n-1)*3) vU⟩,rfl,by show i+(n-(i+1))=n-1;omega,⟨?_,(λh=>by cases h),λdA jw=>?_⟩,rfl⟩
 ·rw[hf _ 3 aT.da,List.length_eraseIdx,ck (by omega)];simp only;omega
 ·cases jw;have mv:vU.length=3:=mv;refine⟨?_,by simp only;omega,fW,?_⟩
  ·simp only;rw[<-eL,<-dM];unfold bt;simp only[cP,kW,pD];rw[dM]at *;omega
  ·simp only;have U:i+(n-(i+1))=n-1:=by omega
   have aa:∀ (l:List Value) (k:Nat) (v:List Value),k<=l.length->(bt l k v).take k=l.take k:=λl k v h=>by unfold bt;rw[hc,wz (by rw[kW];omega),ub,Nat.min_self]
   rw[U,aa _ _ _ (by rw[dM];omega)];have ak:((L.take i).flatMap aT.cells).length=i*3:=by rw[hf _ 3 aT.da,DE (by omega)]
   have aL:cur.take (i*3)=(L.take i).flatMap aT.cells:=by
    have:cur.take (i*3)=(cur.take (n*3)).take (i*3):=by rw[ub,qi (by omega)]
    have ax:L.flatMap aT.cells=(L.take i).flatMap aT.cells++(L.drop i).flatMap aT.cells:=by rw[<-oc,qH]
    rw[this,g4,ax,<-ak,zj]
   unfold bt;rw[aL,wz (by rw[cP,ak,kT];omega),kU (by rw[cP,ak,kT];omega),<-oc,MP]
set_option maxRecDepth 100000 in
def WJ(aw:g.ok I)(hu:u<g.ds.length)(aF:g.n<=1000000):Spec Tryz.prog 23 [g.val,.int .i64 u] I [] λv I' M'=>(∀ b o,I b=some o->I' b=some o)/\∃ (os:bh) (L:List aT),v=.tuple #[.agg #[os.val],.bool true]/\os.n=g.n-1/\os.ok 3 ((L.eraseIdx u).flatMap aT.cells)/\M'=os.bF 66/\L.map aT.bi=g.ds.map aT.bi/\∀ d∈L,d.ok I':=by
 refine cB [] a8 Tryz.func23 rfl rfl rfl ?_;intro B aD;have pP:=aw.n;refine b9.mk (λ_=>?_) (λh=>absurd h (by simp));refine a1.mk (λh=>?_) (λ_=>?_)
 ·have:(g.n:Int)<=(u:Int):=hX h;omega
 refine aY.whole _ (WD aw) ?_;rintro v J N -⟨fv,os,L,rfl,Bi,db,l4,ey,e1⟩;subst N;have Nt:L.length=g.ds.length:=by simpa using congrArg List.length ey
 refine bp.mk ((u:Int)+1) (by rw[wrap_i64 ⟨by omega,by omega⟩]) ?_;refine aY.whole _ (WG db (show u<L.length by omega) (by omega)) ?_;rintro v DX N -⟨rfl,rl,rfl,YI,WK,l4⟩;subst N;exact⟨_,_,.refl,fv,rl,L,rfl,by omega,WK,by rw[hd],ey,e1⟩
def Nu{β:Type}(f:α->β)(l:List α)(i:Nat):(l.eraseIdx i).map f=(l.map f).eraseIdx i:=by simp[MP,List.map_take,List.map_drop]
def WL(aw:g.ok I)(hu:u<g.ds.length)(aF:g.n<=1000000):Spec Tryz.prog 23 [g.val,.int .i64 u] I M0 λv I' M'=>(∀ b o,I b=some o->I' b=some o)/\M'=M0/\∃ h:cO,v=.tuple #[h.val,.bool true]/\h.ok I'/\h.n=g.n-1/\h.ds.map aT.bi=(g.ds.eraseIdx u).map aT.bi:=by refine Spec.mS (Spec.frame (Spec.hq (WJ aw hu aF))) ?_;rintro v J M⟨M',rfl,-,fv,rfl,-,I',M1,⟨U,os,L,rfl,Bi,db,rfl,ey,e1⟩,bM⟩;refine⟨fv,rfl,⟨L.eraseIdx u,os.a.map λg=>⟨g,0,none⟩,os.n,os.c⟩,rfl,⟨bh.hq bM db (λ_ h=>h) (by omega),λd ao=>(e1 d (List.mem_of_mem_eraseIdx ao)).mono bM.le⟩,Bi,?_⟩;rw[Nu,Nu,ey]
def WM(x:Int):0<=IntKind.u64.wrap x:=by unfold IntKind.wrap;simp only[IntKind.bits,IntKind.signed];simp;omega
def oM.Gt(aw:g.ok I):D4 g.ds:=λn aF=>by obtain⟨d,ao,bI⟩:=uL.1 aF;have:=((aw.ds d ao).t.ae _ bI).aV.len;simpa using this
def oM.WN(aw:g.ok I)(hm:oM g):∀ d∈g.ds,pY d.t/\∀ n∈d.t.ae,uX n/\n.kids.length=n.kn:=λd ao=>
 ⟨hm.r d ao,λn aF=>⟨hm.DW aw n (uL.2 ⟨d,ao,aF⟩),oM.Gt aw n (uL.2 ⟨d,ao,aF⟩)⟩⟩
def kz(w b c:Int){u:Int}(hu:jQ w b c=u)(hw:fG w)(ag:fG b)(aB:fG c):Spec Tryz.prog 13 [.int .i64 w,.int .i64 b,.int .i64 c] I M0 λv I' M'=>v=.int .i64 u/\I'=I/\M'=M0:=by subst hu;exact J3 w b c hw ag aB
def WO(bJ:fH I fp)(aw:g.ok I)(hm:dB fp g=js)(hw:(bif decide (js=0)then((bb (cw gu (dc g.ds)):Nat):Int)else 0)=w):Spec Tryz.prog 15 [g.val] I [] λv I' M'=>(∀ b o,I b=some o->I' b=some o)/\M'=[]/\v=.tuple #[.int .i64 w,.int .i64 js]:=by subst hm;subst hw;exact Sd bJ aw
def Gu(bJ:fH I fp)(aw:g.ok I){b c:Int}(hm:dB fp g=js)(hw:(bif decide (js=0)then mO g.ds b c else 0)=w)(ag:fG b)(aB:fG c):Spec Tryz.prog 16 [g.val,.int .i64 b,.int .i64 c] I [] λv I' M'=>(∀ b o,I b=some o->I' b=some o)/\M'=[]/\v=.tuple #[.int .i64 w,.int .i64 js]:=by subst hm;subst hw;exact Sg bJ aw ag aB
def WQ(aw:g.ok I)(hu:u<g.ds.length)(aF:g.n<=1000000)(b c:Int):Spec Tryz.prog 23 [g.val,.int .i64 u] I M0 λv I' M'=>(∀ b o,I b=some o->I' b=some o)/\M'=M0/\∃ (h:cO) (Bj y:Int),v=.tuple #[h.val,.bool true]/\h.ok I'/\h.ds.map aT.bi=(g.ds.eraseIdx u).map aT.bi /\
  dB fp h=Bj/\(bif decide (Bj=0)then mO h.ds b c else 0)=y:=by
 refine Spec.mS (WL aw hu aF) ?_;rintro v J M⟨U,aa,h,ak,aL,-,be⟩;exact⟨U,aa,h,_,_,ak,aL,be,rfl,rfl⟩
set_option maxRecDepth 100000 in
def WR(bJ:fH I fp)(p8:lW I g){b:Int}(ag:fG b){c:Int}(aB:fG c){e:Int}(he:fG e):ql Tryz.prog 5 [g.val,.int .i64 b,.int .i64 c,.int .i64 e] I [] λv _ _=>v=.bool true:=by
 obtain⟨gl,DM⟩:∃ w,IntKind.u64.wrap e=w:=⟨_,rfl⟩;have WS:0<=gl:=by rw[<-DM];exact WM e
 obtain⟨k,aj⟩:∃ k,gl.tmod 1000=k:=⟨_,rfl⟩;have uo:0<=k:=by rw[<-aj];exact Int.tmod_nonneg _ WS
 have pK:k<1000:=by rw[<-aj];exact Int.tmod_lt_of_pos _ (by decide)
 have WT:IntKind.i64.wrap (gl.tmod 1000)=k:=by rw[aj];exact wrap_i64 ⟨by omega,by omega⟩
 obtain⟨d,rfl⟩:∃ d:Nat,k=d:=⟨k.toNat,by omega⟩;obtain⟨js,uz⟩:∃ js,dB fp g=js:=⟨_,rfl⟩;obtain⟨W,e8,YJ⟩:∃ W:Nat,(bif decide (js=0)then((bb (cw gu (dc g.ds)):Nat):Int)else 0)=(W:Int)/\W<=1099511627776:=by
  cases decide (js=0)with
  |true=>exact⟨_,rfl,hO _⟩| false=>exact⟨0,rfl,by omega⟩
 obtain⟨x,ab⟩:∃ x:Int,(bif decide (js=0)then mO g.ds b c else 0)=x:=⟨_,rfl⟩;obtain⟨kk,mT⟩:∃ u,jQ (W:Int) b c=u:=⟨_,rfl⟩;obtain⟨lX,Bk⟩:∃ u,jQ ((W+d:Nat):Int) b c=u:=⟨_,rfl⟩;obtain⟨jN,rc⟩:∃ u,jQ (W:Int) ((min b.toNat 1099511627776+d:Nat):Int) c=u:=⟨_,rfl⟩;obtain⟨oG,re⟩:∃ u,jQ (W:Int) b ((min c.toNat 1099511627776+d:Nat):Int)=u:=⟨_,rfl⟩;obtain⟨M2,o2⟩:∃ x:Int,(bif decide (js=0)then mO g.ds ((min b.toNat 1099511627776+d:Nat):Int) c else 0)=x:=⟨_,rfl⟩;have gA:(!decide (js=js))=false:=by rw[dP rfl];rfl
 refine wc [] a8 Tryz.func5 rfl rfl rfl ?_;intro B aD;refine aY.mk [] [] _ (.refl _) (RC p8 ⟨#[]⟩) ?_;rintro v WU N -⟨⟨WV,rfl,nl⟩,yZ,l4⟩;subst WU;subst N;cases WV with
 |true=>refine b9.mk (λh=>absurd h (by simp)) (λ_=>?_);refine aY.mk [] [] _ (.refl _) (MZ bJ) ?_;rintro v WW N -⟨rfl,Gv,rfl⟩;exact⟨_,_,.refl,rfl⟩
 |false=>
 obtain⟨vT,-⟩:=nl rfl;have aw:=p8.xz vT;have pP:=aw.n;have pO:=vT.n;refine b9.mk (λ_=>?_) (λh=>absurd h (by simp));refine aY.mk [] [] _ (.refl _) (MZ bJ) ?_;rintro v DX N -⟨rfl,mN,rfl⟩;have sP:=bJ.mono mN;have gp:=aw.mono mN;refine a1.mk (λh=>by cases h) (λ_=>?_);refine aY.whole _ (WO sP gp uz e8) ?_;rintro v Se N -⟨Al,rfl,rfl⟩;have kf:=sP.mono Al;have jc:=gp.mono Al;refine aY.whole _ (Gu kf jc uz ab ag aB) ?_;rintro v WW N -⟨Gv,rfl,rfl⟩;have yt:=kf.mono Gv;have je:=jc.mono Gv;refine a1.mk (λh=>rL gA h) (λ_=>?_);by_cases yC:b<0\/c<0
 ·have dF:x=0:=by
   rw[<-ab];cases decide (js=0)with
   |false=>rfl
   |true=>
    rw[bn,mO];rcases yC with h | h;·rw[dP h];rfl
    ·rw[dP h,oH];rfl
  have uq:kk=0:=by
   rw[<-mT,jQ];rcases yC with h | h;·rw[dP h,Bool.true_or,oH];rfl
   ·rw[dP h,oH,oH];rfl
  have p7:decide (x=0)=true:=dP dF;refine b9.mk (λh=>?_) (λh=>?_)
  ·have U:decide (b<0)=false:=h;have tn:decide (c<0)=true:=by
    rcases yC with h | h;·rw[dP h]at U;cases U
    ·exact dP h
   refine a1.mk (λ_=>?_) (λh=>hS tn h);refine b9.mk (λ_=>?_) (λh=>hS p7 h);refine aY.whole _ (kz (W:Int) b c mT ⟨by omega,by omega⟩ ag aB) ?_;rintro v hT N -⟨rfl,rfl,rfl⟩;refine⟨_,_,.refl,?_⟩;show Value.bool (decide (kk=0))=_;rw[dP uq]
  ·refine b9.mk (λ_=>?_) (λh=>hS p7 h);refine aY.whole _ (kz (W:Int) b c mT ⟨by omega,by omega⟩ ag aB) ?_;rintro v hT N -⟨rfl,rfl,rfl⟩;refine⟨_,_,.refl,?_⟩;show Value.bool (decide (kk=0))=_;rw[dP uq]
 have jE:¬ b<0:=λh=>yC (.inl h);have kj:¬ c<0:=λh=>yC (.inr h);have YK:=ag.2;have YL:=aB.2;have Gw:∀ (w b c:Nat),jQ (w:Int) (b:Int) (c:Int)=((iq w b c:Nat):Int):=λw b c=>by rw[jQ,ef (by omega),ef (by omega),ef (by omega)];rfl
 have vl:b=(b.toNat:Int):=by omega
 have o0:c=(c.toNat:Int):=by omega
 have vB:∀ w:Nat,jQ (w:Int) b c=((iq w b.toNat c.toNat:Nat):Int):=λw=>by have:=Gw w b.toNat c.toNat;rwa [<-vl,<-o0]at this
 have Gx:kk<=lX:=by rw[<-mT,<-Bk,vB,vB];have:=D2 (w:=W) (w':=W+d) (by omega) (cK b.toNat) (cK c.toNat);omega
 have Gy:kk<=jN:=by have U:=Gw W (min b.toNat 1099511627776+d) c.toNat;rw[<-o0]at U;rw[<-mT,<-rc,vB,U];have:=Sp (w:=W) (b:=b.toNat) (d:=d) (c:=c.toNat);omega
 have Gz:kk<=oG:=by have U:=Gw W b.toNat (min c.toNat 1099511627776+d);rw[<-vl]at U;rw[<-mT,<-re,vB,U];have:=Sq (w:=W) (b:=b.toNat) (d:=d) (c:=c.toNat);omega
 have eg:kk<=1099511627776:=by rw[<-mT,vB];have:=hO (W*(b.toNat+1)*(b.toNat+4)+c.toNat);unfold iq;omega
 refine b9.mk (λ_=>?_) (λh=>rL (ef jE) h);refine a1.mk (λh=>rL (ef kj) h) (λ_=>?_);refine bp.mk gl DM ?_;refine qk.mk (by decide) ?_;refine bp.mk (d:Int) WT ?_;by_cases vC:js=0
 rotate_left
 ·refine a1.mk (λh=>rL (ef vC) h) (λ_=>?_);refine aY.whole _ (kz (W:Int) b c mT ⟨by omega,by omega⟩ ag aB) ?_;rintro v hT N -⟨rfl,rfl,rfl⟩;refine bp.mk ((W+d:Nat):Int) (gS (by omega) (by omega)) ?_;refine aY.whole _ (kz ((W+d:Nat):Int) b c Bk ⟨by omega,by omega⟩ ag aB) ?_;rintro v hT N -⟨rfl,rfl,rfl⟩;refine b9.mk (λ_=>?_) (λh=>hS (dP Gx) h);refine bp.mk ((min b.toNat 1099511627776+d:Nat):Int) (gS (by omega) (by omega)) ?_;refine aY.whole _ (kz (W:Int) ((min b.toNat 1099511627776+d:Nat):Int) c rc ⟨by omega,by omega⟩ ⟨by omega,by omega⟩ aB) ?_;rintro v hT N -⟨rfl,rfl,rfl⟩;refine b9.mk (λ_=>?_) (λh=>hS (dP Gy) h);refine bp.mk ((min c.toNat 1099511627776+d:Nat):Int) (gS (by omega) (by omega)) ?_;refine aY.whole _ (kz (W:Int) b ((min c.toNat 1099511627776+d:Nat):Int) re ⟨by omega,by omega⟩ ag ⟨by omega,by omega⟩) ?_;rintro v hT N -⟨rfl,rfl,rfl⟩;refine b9.mk (λ_=>?_) (λh=>hS (dP Gz) h);refine⟨_,_,.refl,?_⟩;show Value.bool (decide (kk<=1099511627776))=_;rw[dP eg]
 have xH:∀ d∈g.ds,d.t.ae.length=d.t.n:=λd ao=>(aw.ds d ao).t.n;have hm:=DU (uz.trans vC) xH;have GA:∀ (ds:List aT) (b c:Nat),mO ds (b:Int) (c:Int)=((jl ds b c:Nat):Int):=λds b c=>by rw[mO,ef (by omega),ef (by omega)];rfl
 have tq:x=((jl g.ds b.toNat c.toNat:Nat):Int):=by rw[<-ab,dP vC];have:=GA g.ds b.toNat c.toNat;rw[<-vl,<-o0]at this;exact this
 have WX:W=bb (cw gu (dc g.ds)):=by rw[dP vC]at e8;have:((bb (cw gu (dc g.ds)):Nat):Int)=(W:Int):=e8;omega
 have aI:decide (kk<x)=false:=ef (by rw[tq,<-mT,vB,WX];have:=Su (B:=b.toNat) (C:=c.toNat) (oM.WN aw hm);omega);have aQ:decide (M2<x)=false:=ef (by
  have U:=GA g.ds (min b.toNat 1099511627776+d) c.toNat;rw[<-o0]at U;rw[tq,<-o2,dP vC,bn,U];have:=So (ds:=g.ds) (b:=b.toNat) (d:=d) (C:=c.toNat);omega)
 have mw:=hm.n;refine a1.mk (λ_=>?_) (λh=>hS (dP vC) h);refine bp.mk ((min b.toNat 1099511627776+d:Nat):Int) (gS (by omega) (by omega)) ?_;refine aY.whole _ (Gu yt je (b:=((min b.toNat 1099511627776+d:Nat):Int)) uz o2 ⟨by omega,by omega⟩ aB) ?_;rintro v YM N -⟨Nv,rfl,rfl⟩;have WY:=yt.mono Nv;have WZ:=je.mono Nv;refine bp.mk ((g.n-1:Nat):Int) (gS (by omega) (by omega)) ?_;refine aY.whole _ (WQ WZ (u:=g.n-1) (by omega) (by omega) b c) ?_;rintro v YN N -⟨W0,rfl,q,Bj,y,rfl,aR,W1,W2,aE⟩;have W3:=WY.mono W0;refine aY.whole _ (Gu W3 aR W2 aE ag aB) ?_;rintro v YO N -⟨YP,rfl,rfl⟩;refine aY.whole _ (kz (W:Int) b c mT ⟨by omega,by omega⟩ ag aB) ?_;rintro v hT N -⟨rfl,rfl,rfl⟩;refine b9.mk (λ_=>?_) (λh=>rL aI h);refine b9.mk (λ_=>?_) (λh=>rL aQ h);refine b9.mk (λ_=>?_) (λh=>hS rfl h);by_cases GB:Bj=0
 ·have eU:decide (x<y)=false:=ef (by
   rw[dP GB]at aE;have U:=GA q.ds b.toNat c.toNat;rw[<-vl,<-o0]at U;have W4:y=((jl q.ds b.toNat c.toNat:Nat):Int):=by rw[<-aE,<-U];rfl
   rw[tq,W4];have:=Sw (B:=b.toNat) (C:=c.toNat) W1 (oM.Gt aw) (oM.Gt aR);omega)
  refine b9.mk (λ_=>?_) (λh=>hS (dP GB) h);refine a1.mk (λh=>rL eU h) (λ_=>?_);refine aY.whole _ (kz (W:Int) b c mT ⟨by omega,by omega⟩ ag aB) ?_;rintro v hT N -⟨rfl,rfl,rfl⟩;refine bp.mk ((W+d:Nat):Int) (gS (by omega) (by omega)) ?_;refine aY.whole _ (kz ((W+d:Nat):Int) b c Bk ⟨by omega,by omega⟩ ag aB) ?_;rintro v hT N -⟨rfl,rfl,rfl⟩;refine b9.mk (λ_=>?_) (λh=>hS (dP Gx) h);refine bp.mk ((min b.toNat 1099511627776+d:Nat):Int) (gS (by omega) (by omega)) ?_;refine aY.whole _ (kz (W:Int) ((min b.toNat 1099511627776+d:Nat):Int) c rc ⟨by omega,by omega⟩ ⟨by omega,by omega⟩ aB) ?_;rintro v hT N -⟨rfl,rfl,rfl⟩;refine b9.mk (λ_=>?_) (λh=>hS (dP Gy) h);refine bp.mk ((min c.toNat 1099511627776+d:Nat):Int) (gS (by omega) (by omega)) ?_;refine aY.whole _ (kz (W:Int) b ((min c.toNat 1099511627776+d:Nat):Int) re ⟨by omega,by omega⟩ ag ⟨by omega,by omega⟩) ?_;rintro v hT N -⟨rfl,rfl,rfl⟩;refine b9.mk (λ_=>?_) (λh=>hS (dP Gz) h);refine⟨_,_,.refl,?_⟩;show Value.bool (decide (kk<=1099511627776))=_;rw[dP eg]
 ·refine b9.mk (λh=>rL (ef GB) h) (λ_=>?_);refine aY.whole _ (kz (W:Int) b c mT ⟨by omega,by omega⟩ ag aB) ?_;rintro v hT N -⟨rfl,rfl,rfl⟩;refine bp.mk ((W+d:Nat):Int) (gS (by omega) (by omega)) ?_;refine aY.whole _ (kz ((W+d:Nat):Int) b c Bk ⟨by omega,by omega⟩ ag aB) ?_;rintro v hT N -⟨rfl,rfl,rfl⟩;refine b9.mk (λ_=>?_) (λh=>hS (dP Gx) h);refine bp.mk ((min b.toNat 1099511627776+d:Nat):Int) (gS (by omega) (by omega)) ?_;refine aY.whole _ (kz (W:Int) ((min b.toNat 1099511627776+d:Nat):Int) c rc ⟨by omega,by omega⟩ ⟨by omega,by omega⟩ aB) ?_;rintro v hT N -⟨rfl,rfl,rfl⟩;refine b9.mk (λ_=>?_) (λh=>hS (dP Gy) h);refine bp.mk ((min c.toNat 1099511627776+d:Nat):Int) (gS (by omega) (by omega)) ?_;refine aY.whole _ (kz (W:Int) b ((min c.toNat 1099511627776+d:Nat):Int) re ⟨by omega,by omega⟩ ag ⟨by omega,by omega⟩) ?_;rintro v hT N -⟨rfl,rfl,rfl⟩;refine b9.mk (λ_=>?_) (λh=>hS (dP Gz) h);refine⟨_,_,.refl,?_⟩;show Value.bool (decide (kk<=1099511627776))=_;rw[dP eg]
end Go.V
