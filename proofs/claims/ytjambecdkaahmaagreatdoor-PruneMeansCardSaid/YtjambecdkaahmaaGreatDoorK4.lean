/- Part 4 of what the proofs of this seat share: the executor, data in memory, walks.
-/
import Derived.Test.YtjambecdkaahmaaGreatDoorK3
import Derived.WideKeyArgs
import Derived.Below
import Derived.JoinedOf
import Derived.Test.YtjambecdkaahmaaGreatDoorK2
set_option linter.all false
set_option maxHeartbeats 16000000
set_option maxRecDepth 100000
namespace Go.V
open Go Go.Proofs
def dj:=@of_decide_eq_false
def re:=@List.getElem_of_mem
def r':=@List.getElem_range
def qk:=@List.perm_middle
def zg:=@List.perm_append_comm_assoc
def pD:=@Nat.sub_self
def zh:=@Nat.add_sub_cancel'
def xF:=@Nat.le_of_succ_le
def AX:=@List.singleton_append
def oA:=@Nat.ble_eq
def zi:=@Bool.eq_false_iff
def C7:=@List.set_append_right
def xG:=@Nat.sub_zero
def Gd:=@List.set_cons_zero
def Ge:=@List.mem_flatMap
def Od:=@List.getElem?_replicate
def JR:=@Nat.min_le_right
def JS:=@Nat.le_max_right
def Oe:=@List.pairwise_append
def C8:=@decide_true
def JT:=@Nat.le_max_left
def Gf:=@Nat.mod_lt
variable{I I':aZ}{size e eL be z hC ln lc eO:Nat}{vs cs xs:List Value}{d:aS}{g:bJ}{x y:Operand}{M M0:List aB}{os:a'}{α:Type}{cE:Array Field}{v:Value}{W:World}{p:List MemPlace}{hi lo:Int}{L:List (Nat×Nat)}{other:Prop}{s:ByteArray}{f:Bool}{dk tb:dU}{pl:List (ByteArray×Int)}{AY:Option Addr}{ax:List Int}
structure vP(I:aZ)(d:aS):Prop where
 k:0<=d.k/\d.k<256
 dT:gi d.dT
 s1:gi d.s1
 s2:gi d.s2
 ec:gi d.ec
 lo:iT d.lo
 hi:iT d.hi
 a8:eB I d.hk d.kn d.gR 1 0 (d.aL.map (.int .i64 ·))
 aL:∀ x∈d.aL,iT x
 ts:d.t.size<=9223372036854775807
structure xH(I:aZ)(t:cB):Prop where
 a8:eB I t.a t.n t.c 9 0 (t.ns.flatMap aS.cells)
 ns:∀ d∈t.ns,vP I d
 bD:iT t.bD
structure zj(I:aZ)(d:aQ):Prop where
 name:d.name.size<=9223372036854775807
 t:xH I d.t
structure sb(I:aZ)(g:bJ):Prop where
 a8:eB I g.a g.n g.c 3 0 (g.ds.flatMap aQ.cells)
 ds:∀ d∈g.ds,zj I d
def eB.AZ{a:Option Addr}{n c b hb:Nat}(h:eB I a n c size b vs)(ai:n*hb<=140737488355328):eB I a n c size hb vs:=⟨h.len,⟨h.cap.1,ai⟩,h.rd⟩
structure Of(d:aS):Prop where
 kn:d.kn<2500
structure VF(d:aQ):Prop where
 name:d.name.size<2500
 n:d.t.n<2500
 ns:∀ bT∈d.t.ns,Of bT
structure ags(g:bJ):Prop where
 n:g.n<2500
 ds:∀ d∈g.ds,VF d
def vP.ok(h:vP I d)(ap:Of d):d.ok I:=
 ⟨h.k,h.dT,h.s1,h.s2,h.ec,h.ts,h.lo,h.hi,h.a8.AZ (by have:=ap.kn;omega),h.aL⟩
def zj.ok{d:aQ}(h:zj I d)(ap:VF d):d.ok I:=
 ⟨by have:=ap.name;omega,⟨h.t.a8.AZ (by have:=ap.n;omega),λbT cg=>(h.t.ns bT cg).ok (ap.ns bT cg),h.t.bD⟩⟩
def sb.ok(h:sb I g)(ap:ags g):g.ok I:=
 ⟨h.a8.AZ (by have:=ap.n;omega),λd ah=>(h.ds d ah).ok (ap.ds d ah)⟩
def vP.mono(h:vP I d)(bA:∀ b o,I b=some o->I' b=some o):vP I' d:={ h with a8:=h.a8.mono bA }
def zj.mono{d:aQ}(h:zj I d)(bA:∀ b o,I b=some o->I' b=some o):zj I' d:=⟨h.name,h.t.a8.mono bA,λbT cg=>(h.t.ns bT cg).mono bA,h.t.bD⟩
def sb.mono(h:sb I g)(bA:∀ b o,I b=some o->I' b=some o):sb I' g:=⟨h.a8.mono bA,λd ah=>(h.ds d ah).mono bA⟩
def sb.n(h:sb I g):g.ds.length=g.n:=by have:=h.a8.len;rw[fQ _ 3 aQ.cD]at this;omega
def xH.n{t:cB}(h:xH I t):t.ns.length=t.n:=by have:=h.a8.len;rw[fQ _ 9 aS.cD]at this;omega
def gK{x r:Int}(h:x=r)(ak:-9223372036854775808<=r/\r<=9223372036854775807):IntKind.i64.wrap x=r:=by rw[h];exact wrap_i64 ak
def a'.Og{l:List Int}(h:os.ok 1 (l.map (.int .i64 ·)))(a1:∀ x∈os.aP e,x∈M){j:Nat}(an:j<l.length) :
  ∃ ad,(os.a.map λg=>(⟨g,0,none⟩:Addr))=some ad/\cr I M (ad.add (j*1)) 1 [.int .i64 l[j]]:=by
 obtain⟨a,n,c,aK⟩:=os;have av:=h.vM;simp only at av;cases a with
 |none=>have:=(h.nil rfl).1;simp only at this;omega
 |some g=>
  obtain⟨aa,ab,ag,aW⟩:=h.cap g rfl;simp only at aa ab aW;refine⟨⟨g,0,none⟩,rfl,?_⟩;rw[dL _ rfl];refine⟨rfl,_,_,_,.inr ⟨⟨g,.cells aK.toArray e (0,0)⟩,a1 _ (by simp[a'.aP]),rfl,rfl⟩,?_,rfl⟩;simp only[c0,fP];have hW:j<(l.map (Value.int .i64)).length:=by simpa using an
  have az:(aK.take (n*1))[j]?=some (.int .i64 l[j]):=by rw[aW];simp[an]
  rw[j9]at az;have nE:j<n*1:=by omega
  rw[cn nE]at az;have VG:j<aK.length:=(hT.1 az).1;rw[eE VG,nt,mK];rw[eb VG]at az;rw[kV az]
section
variable{H:Type}{enc:TypeId×Value->H}{P:Program}{W:World}{be:Nat}{eY:Nat->Bool}{held:Bool}
def VH{α:Type}{p:Nat->α->Prop}:∀ (n:Nat),(∀ i,i<n->∃ d,p i d)->∃ l:List α,l.length=n/\∀ i (h:i<l.length),p i l[i]
 |0,_=>⟨[],rfl,λi h=>by simp at h⟩
 |n+1,h=>by
  obtain⟨l,aa,ab⟩:=VH n λi hi=>h i (by omega);obtain⟨d,ah⟩:=h n (by omega);refine⟨l++[d],by simp[aa],λi hi=>?_⟩;by_cases aR:i<l.length;·rw[List.getElem_append_left aR];exact ab i aR
  ·have e:i=l.length:=by simp at hi;omega
   subst e;simpa[aa]using ah
def Oh{f:α->List Value}(ap:0<size)(aJ:∀ x,(f x).length=size)(ok:α->Prop){t e:TypeId}(ay:P.underlying t=some (.slice e))(aA:P.cellsOf e=size)(fK:∀ eL cs x,DataW.trod enc P W be eY held eL e cs=some x->∃ d,cs=f d/\ok d){x:DataW H×List MemPlace}(h:DataW.trod enc P W be eY held eL t cs=some x) :
  ∃ (a:Option Addr) (n c:Nat) (l:List α),cs=[.slice a n c]/\eB (rb W) a n c size 0 (l.flatMap f)/\l.length=n/\(∀ d∈l,ok d)/\(a=none->c=0)/\c<=maxLen:=by
 rcases DataW.trod_slice ay h with⟨rfl,_⟩ | ⟨a,len,cap,asq,bb,m,_,rfl,_,ai,av,hm,bQ,agt,_,_⟩
 ·exact⟨none,0,0,[],rfl,⟨by simp,⟨cj _,by omega⟩,.inl rfl⟩,rfl,λd ah=>by simp at ah,λ_=>rfl,by unfold maxLen;omega⟩
 have each:∀ i,i<len->∃ d,ok d/\W.cells? be (a.add (i*size)) size=some (f d):=λi hi=>by have aa:=agt i hi;rw[aA,eb (by omega)]at aa;obtain⟨cs',ab,ag⟩:=Ml.1 aa;obtain⟨d,rfl,ah⟩:=fK _ _ _ ag;exact⟨d,ah,ab⟩
 obtain⟨l,jf,Oi⟩:=VH len each;refine⟨some a,len,cap,l,rfl,⟨by rw[fQ f size aJ,jf],⟨av,by omega⟩,?_⟩,jf,λd ah=>?_,λh=>by simp at h,hm⟩
 ·by_cases ar:len=0
  ·exact .inl ar
  right
  have mU:=(Oi 0 (by omega)).2;obtain⟨-,-,Gg⟩:=World.cells?_some mU;have A0:=Gg 0 ap;rw[eb (by rw[aJ];exact ap)]at A0;have VI:a.spot=none:=by
   have:=World.cell?_spot A0;cases ch:a.spot with
   |none=>rfl| some s=>simp[Addr.add,ch]at this
  refine⟨a,rfl,VI,?_⟩;have VJ:∀ i (hi:i<l.length),∀ k,k<size->W.cell? ⟨a.block,a.off+(i*size+k),none⟩=(f l[i])[k]?:=λi hi k af=>by obtain⟨-,-,br⟩:=World.cells?_some (Oi i hi).2;have:=br k af;rw[dL _ VI,dL _ rfl]at this;rw[<-this];congr 2;simp only[];omega
  have Oj:∃ cs T al,W.heap[a.block]?=some (.cells cs T al):=by
   have aa:=VJ 0 (by omega) 0 ap;rw[eb (by rw[aJ];exact ap)]at aa;unfold World.cell? at aa;cases br:W.heap[a.block]? with
   |none=>simp[br]at aa
   |some o=>
    cases o with
    |cells cs T al=>exact⟨cs,T,al,rfl⟩| _=>simp[br]at aa
  obtain⟨cs,T,al,br⟩:=Oj;refine⟨cs,T,al,br,?_⟩;have lY:=fQ f size aJ l;apply yO;intro j;by_cases an:j<len*size
  ·have hdiv:j/size<l.length:=by rw[jf];exact Nat.div_lt_of_lt_mul (by rw[Nat.mul_comm];exact an)
   have xI:=Gf j ap;have e:=Nat.div_add_mod j size;rw[Nat.mul_comm]at e;have aa:=VJ (j/size) hdiv (j%size) xI;rw[e]at aa;have ab:=xm f size aJ l (j/size) hdiv;have ag:(l.flatMap f)[j]?=(f l[j/size])[j%size]?:=by rw[<-ab,j9,cn xI,nZ,e]
   rw[ag,<-aa,j9,cn an,nZ];simp[World.cell?,br]
  ·rw[oW (by rw[hh];omega),oW (by rw[lY,jf];omega)]
 ·obtain⟨i,hi,rfl⟩:=re ah;exact(Oi i hi).1
def C9{k:IntKind}{t:TypeId}{x:DataW H×List MemPlace}(ay:P.underlying t=some (.int k))(h:DataW.trod enc P W be eY held eL t cs=some x):∃ n,cs=[.int k n]/\(Lit.int k n).wf=true:=by obtain⟨n,aa,_,ab⟩:=DataW.trod_int ay h;exact⟨n,aa,ab⟩
def wf_i64{n:Int}(h:(Lit.int .i64 n).wf=true):iT n:=by simp[Lit.wf,IntKind.min,IntKind.max,IntKind.signed,IntKind.bits]at h;exact h
def wf_u64{n:Int}(h:(Lit.int .u64 n).wf=true):gi n:=by simp[Lit.wf,IntKind.min,IntKind.max,IntKind.signed,IntKind.bits]at h;unfold gi;omega
def wf_u8{n:Int}(h:(Lit.int .u8 n).wf=true):0<=n/\n<256:=by simp[Lit.wf,IntKind.min,IntKind.max,IntKind.signed,IntKind.bits]at h;omega
end
section
variable{H:Type}{enc:TypeId×Value->H}{W:World}{be:Nat}{eY:Nat->Bool}{held:Bool}
def agu{x:DataW H×List MemPlace}(h:DataW.trod enc Tryz.prog W be eY held eL 70 cs=some x) :
  ∃ (a:Option Addr) (n c:Nat) (l:List Int),cs=[.slice a n c]/\eB (rb W) a n c 1 0 (l.map (.int .i64 ·))/\l.length=n/\∀ k∈l,iT k:=by
 obtain⟨a,n,c,l,aa,ab,ag,aW,-,-⟩:=Oh (f:=λk=>[Value.int .i64 k]) (size:=1) (by decide) (λ_=>rfl) iT (show Tryz.prog.underlying 70=some (.slice 3) by kernel_rfl) (by kernel_rfl)
  (λeL cs x h=>by
   obtain⟨n,aa,ab⟩:=C9 (show Tryz.prog.underlying 3=some (.int .i64) by kernel_rfl) h;exact⟨n,aa,wf_i64 ab⟩) h
 refine⟨a,n,c,l,aa,?_,ag,aW⟩;rwa [<-List.map_eq_flatMap]at ab
def agv{l:List α}(h:l.length=4):∃ a b c d,l=[a,b,c,d]:=by
 match l,h with
 |[a,b,c,d],_=>exact⟨a,b,c,d,rfl⟩
def agw{l:List α}(h:l.length=9):∃ a b c d e f g i j,l=[a,b,c,d,e,f,g,i,j]:=by
 match l,h with
 |[a,b,c,d,e,f,g,i,j],_=>exact⟨a,b,c,d,e,f,g,i,j,rfl⟩
def agx{l:List α}(h:l.length=3):∃ a b c,l=[a,b,c]:=by
 match l,h with
 |[a,b,c],_=>exact⟨a,b,c,rfl⟩
def agy{l:List α}(h:l.length=2):∃ a b,l=[a,b]:=by
 match l,h with
 |[a,b],_=>exact⟨a,b,rfl⟩
def agz{l:List α}(h:l.length=1):∃ a,l=[a]:=by
 match l,h with
 |[a],_=>exact⟨a,rfl⟩
def agA{x:DataW H×List MemPlace}(h:DataW.trod enc Tryz.prog W be eY held eL 49 cs=some x) :
  ∃ a b c d:Int,cs=[.int .u64 a,.int .u64 b,.int .u64 c,.int .u64 d]/\gi a/\gi b/\gi c/\gi d:=by
 obtain⟨xs,m,_,_,av,fD,hi⟩:=NB (show Tryz.prog.underlying 49=some (.array 4 47) by kernel_rfl) h;rw[show Tryz.prog.cellsOf 49=4 by kernel_rfl]at av;rw[show Tryz.prog.cellsOf 47=1 by kernel_rfl]at hi;have hu:Tryz.prog.underlying 47=some (.int .u64):=by kernel_rfl
 obtain⟨a,b,c,d,rfl⟩:=agv av;have get:∀ i,(kM:i<4)->∃ n,(([a,b,c,d]:List Value).drop (i*1)).take 1=[.int .u64 n]/\gi n:=λi kM=>by have aa:=hi i kM;rw[eb (by omega)]at aa;obtain⟨n,ab,ag⟩:=C9 hu aa;exact⟨n,ab,wf_u64 ag⟩
 obtain⟨n0,cG,ql⟩:=get 0 (by decide);obtain⟨h0,az,eg⟩:=get 1 (by decide);obtain⟨lP,aE,cA⟩:=get 2 (by decide);obtain⟨JU,bz,gu⟩:=get 3 (by decide);simp at cG az aE bz;subst cG az aE bz;exact⟨_,_,_,_,rfl,ql,eg,cA,gu⟩
def Gh{P:Program}{t:Nat}{l:List (Nat×Nat)}(h:(match P.underlying t with
  |some (.struct cE)=>decide (cE.toList.map (λf=>(f.type,f.offset))=l)| _=>false)=true):∃ cE,P.underlying t=some (.struct cE)/\cE.toList.map (λf=>(f.type,f.offset))=l:=by
 split at h
 ·rename_i cE hu;exact⟨cE,hu,c1 h⟩
 ·cases h
def JV{P:Program}{l:List (Nat×Nat)}{q:Nat->Nat->Prop}(aJ:cE.toList.map (λf=>(f.type,f.offset))=l)(h:∀ (i:Nat) (f:Field),cE[i]?=some f->q f.type f.offset):∀ (i t o:Nat),l[i]?=some (t,o)->q t o:=by subst aJ;intro i t o hi;simp only[lE,u6,Prod.mk.injEq]at hi;obtain⟨f,aa,rfl,rfl⟩:=hi;exact h i f (by simpa using aa)
def JW{P:Program}{t:TypeId}{x:DataW H×List MemPlace}(ay:P.underlying t=some (.struct cE))(h:DataW.trod enc P W be eY held eL t cs=some x) :
  cs.length=P.cellsOf t/\∀ (i:Nat) (f:Field),cE[i]?=some f->∃ eL y,DataW.trod enc P W be eY held eL f.type ((cs.drop f.offset).take (P.cellsOf f.type))=some y:=by
 obtain⟨xs,m,_,_,av,fD,hi⟩:=DataW.trod_struct ay h;refine⟨av,λi f aJ=>?_⟩;have aR:=(lD.1 aJ).1;have aa:=hi i f aJ;rw[eb (by omega)]at aa;exact⟨_,_,aa⟩
def agB{x:DataW H×List MemPlace}(h:DataW.trod enc Tryz.prog W be eY held eL 83 cs=some x):∃ d:aS,cs=d.cells/\vP (rb W) d:=by obtain⟨cE,ay,aJ⟩:∃ cE,Tryz.prog.underlying 83=some (.struct cE)/\cE.toList.map (λf=>(f.type,f.offset))=[(5,0),(49,1),(9,5),(3,6),(3,7),(70,8)]:=Gh (by kernel_rfl);obtain⟨av,hi⟩:=JW ay h;have hi:∀ (i t o:Nat),[(5,0),(49,1),(9,5),(3,6),(3,7),(70,8)][i]?=some (t,o)->∃ eL y,DataW.trod enc Tryz.prog W be eY held eL t ((cs.drop o).take (Tryz.prog.cellsOf t))=some y:=JV (P:=Tryz.prog) aJ hi;rw[show Tryz.prog.cellsOf 83=9 by kernel_rfl]at av;obtain⟨mU,fB,fC,r6,JP,JQ,VD,asr,ass,rfl⟩:=agw av;obtain⟨_,_,ar⟩:=hi 0 _ _ rfl;obtain⟨_,_,aa⟩:=hi 1 _ _ rfl;obtain⟨_,_,ab⟩:=hi 2 _ _ rfl;obtain⟨_,_,ag⟩:=hi 3 _ _ rfl;obtain⟨_,_,aW⟩:=hi 4 _ _ rfl;obtain⟨_,_,bC⟩:=hi 5 _ _ rfl;rw[show Tryz.prog.cellsOf 5=1 by kernel_rfl]at ar;rw[show Tryz.prog.cellsOf 49=4 by kernel_rfl]at aa;rw[show Tryz.prog.cellsOf 9=1 by kernel_rfl]at ab;rw[show Tryz.prog.cellsOf 3=1 by kernel_rfl]at ag aW;rw[show Tryz.prog.cellsOf 70=1 by kernel_rfl]at bC;obtain⟨k,cG,agC⟩:=C9 (show Tryz.prog.underlying 5=some (.int .u8) by kernel_rfl) ar;obtain⟨a,b,c,d,az,hs,kj,lL,ia⟩:=agA aa;obtain⟨s,aE,-,ws⟩:=Jl (show Tryz.prog.underlying 9=some .string by kernel_rfl) ab;obtain⟨lo,bz,wl⟩:=C9 (show Tryz.prog.underlying 3=some (.int .i64) by kernel_rfl) ag;obtain⟨c7,cT,wh⟩:=C9 (show Tryz.prog.underlying 3=some (.int .i64) by kernel_rfl) aW;obtain⟨hk,kn,gR,aL,fT,lp,dS,q4⟩:=agu bC;simp at cG az aE bz cT fT;obtain⟨Ok,Ol,agD,agE⟩:=az;subst cG Ok Ol agD agE aE bz cT fT;exact⟨⟨k,a,b,c,d,s,lo,c7,hk,kn,gR,aL⟩,rfl,wf_u8 agC,hs,kj,lL,ia,wf_i64 wl,wf_i64 wh,lp,q4,by unfold maxLen at ws;omega⟩
def agF{x:DataW H×List MemPlace}(h:DataW.trod enc Tryz.prog W be eY held eL 28 cs=some x):∃ t:cB,cs=t.cells/\xH (rb W) t:=by obtain⟨cE,ay,aJ⟩:∃ cE,Tryz.prog.underlying 28=some (.struct cE)/\cE.toList.map (λf=>(f.type,f.offset))=[(26,0),(3,1)]:=Gh (by kernel_rfl);obtain⟨av,hi⟩:=JW ay h;have hi:∀ (i t o:Nat),[(26,0),(3,1)][i]?=some (t,o)->∃ eL y,DataW.trod enc Tryz.prog W be eY held eL t ((cs.drop o).take (Tryz.prog.cellsOf t))=some y:=JV (P:=Tryz.prog) aJ hi;rw[show Tryz.prog.cellsOf 28=2 by kernel_rfl]at av;obtain⟨mU,fB,rfl⟩:=agy av;obtain⟨_,_,ar⟩:=hi 0 _ _ rfl;obtain⟨_,_,aa⟩:=hi 1 _ _ rfl;rw[show Tryz.prog.cellsOf 26=1 by kernel_rfl]at ar;rw[show Tryz.prog.cellsOf 3=1 by kernel_rfl]at aa;obtain⟨a,n,c,l,cG,lp,aq,bj,-,-⟩:=Oh (f:=aS.cells) (size:=9) (by decide) aS.cD (vP (rb W)) (show Tryz.prog.underlying 26=some (.slice 83) by kernel_rfl) (by kernel_rfl) (λeL cs x h=>agB h) ar;obtain⟨r,az,wr⟩:=C9 (show Tryz.prog.underlying 3=some (.int .i64) by kernel_rfl) aa;simp at cG az;subst cG az;exact⟨⟨l,a,n,c,r⟩,rfl,lp,bj,wf_i64 wr⟩
def agG{x:DataW H×List MemPlace}(h:DataW.trod enc Tryz.prog W be eY held eL 58 cs=some x):∃ d:aQ,cs=d.cells/\zj (rb W) d:=by obtain⟨cE,ay,aJ⟩:∃ cE,Tryz.prog.underlying 58=some (.struct cE)/\cE.toList.map (λf=>(f.type,f.offset))=[(9,0),(28,1)]:=Gh (by kernel_rfl);obtain⟨av,hi⟩:=JW ay h;have hi:∀ (i t o:Nat),[(9,0),(28,1)][i]?=some (t,o)->∃ eL y,DataW.trod enc Tryz.prog W be eY held eL t ((cs.drop o).take (Tryz.prog.cellsOf t))=some y:=JV (P:=Tryz.prog) aJ hi;rw[show Tryz.prog.cellsOf 58=3 by kernel_rfl]at av;obtain⟨mU,fB,fC,rfl⟩:=agx av;obtain⟨_,_,ar⟩:=hi 0 _ _ rfl;obtain⟨_,_,aa⟩:=hi 1 _ _ rfl;rw[show Tryz.prog.cellsOf 9=1 by kernel_rfl]at ar;rw[show Tryz.prog.cellsOf 28=2 by kernel_rfl]at aa;obtain⟨s,cG,-,ws⟩:=Jl (show Tryz.prog.underlying 9=some .string by kernel_rfl) ar;obtain⟨t,az,ay⟩:=agF aa;simp[cB.cells]at cG az;obtain⟨Ok,Ol⟩:=az;subst cG Ok Ol;exact⟨⟨s,t⟩,rfl,by unfold maxLen at ws;exact ws,ay⟩
def agH{x:DataW H×List MemPlace}(h:DataW.trod enc Tryz.prog W be eY held eL 24 cs=some x):∃ g:bJ,cs=[.slice g.a g.n g.c]/\sb (rb W) g:=by obtain⟨cE,ay,aJ⟩:∃ cE,Tryz.prog.underlying 24=some (.struct cE)/\cE.toList.map (λf=>(f.type,f.offset))=[(22,0)]:=Gh (by kernel_rfl);obtain⟨av,hi⟩:=JW ay h;have hi:∀ (i t o:Nat),[(22,0)][i]?=some (t,o)->∃ eL y,DataW.trod enc Tryz.prog W be eY held eL t ((cs.drop o).take (Tryz.prog.cellsOf t))=some y:=JV (P:=Tryz.prog) aJ hi;rw[show Tryz.prog.cellsOf 24=1 by kernel_rfl]at av;obtain⟨mU,rfl⟩:=agz av;obtain⟨_,_,ar⟩:=hi 0 _ _ rfl;rw[show Tryz.prog.cellsOf 22=1 by kernel_rfl]at ar;obtain⟨a,n,c,l,cG,lp,aq,bj,-,-⟩:=Oh (f:=aQ.cells) (size:=3) (by decide) aQ.cD (zj (rb W)) (show Tryz.prog.underlying 22=some (.slice 58) by kernel_rfl) (by kernel_rfl) (λeL cs x h=>agG h) ar;exact⟨⟨l,a,n,c⟩,cG,lp,bj⟩
def agI{P:Program}{w:World}{r:Reach}{t:Nat}(ay:P.underlying t=some (.struct cE))(h:Value.okWide P w r be t v):∃ cs,v=.agg cs:=by obtain⟨cs,aa,-⟩:=Go.WideShapes.okWide_struct ay h;exact⟨cs,aa⟩
def agJ{d:DataW H}(h:DataW.Trod enc Tryz.prog W 0 (λ_=>true) true 24 v d p)(aj:Value.okWide Tryz.prog W .any be 24 v):∃ g:bJ,v=g.val/\sb (rb W) g:=by obtain⟨cE,ay,-⟩:=Gh (P:=Tryz.prog) (t:=24) (l:=[(22,0)]) (by kernel_rfl);obtain⟨cs,rfl⟩:=agI ay aj;obtain⟨eL,aJ⟩:=h;obtain⟨g,e,au⟩:=agH aJ;refine⟨g,?_,au⟩;have bq:cs.toList=[.slice g.a g.n g.c]:=e;cases cs;simp only at bq;subst bq;rfl
end
def VK{H:Type}{enc:TypeId×Value->H}{P:Program}(av:laidOutB P=true){W ku:World}(af:AU W ku):∀ {ts:List TypeId} {vs:List Value} {ds:List (DataW H)} {ps:List MemPlace},(∀ t∈ts,P.readableRec t=true/\t<P.types.size) -> DataW.TrodAll enc P W 0 (λ_=>true) true ts vs ds ps->(∀ p∈ps,p.block<W.heap.size)->∀ eY:Nat->Bool,(∀ p∈ps,eY p.block=true)->DataW.TrodAll enc P ku 0 eY true ts vs ds ps
 |[],[],[],_,_,h,_,_,_=>h
 |t::ts,v::vs,d::ds,_,ay,⟨p,q,aa,ab,e⟩,aR,eY,ap=>by
  subst e;refine⟨p,q,?_,?_,rfl⟩
  ·refine Go.WideElems.Trod_stays av (ay t (.head _)).1 (ay t (.head _)).2 aa (λx ae=>?_) (λx ae=>ap x (dQ.2 (.inl ae)));have bZ:=aR x (dQ.2 (.inl ae));cases x with
   |cell b o=>exact World.cell?_of_block (w:=W) (af.du b bZ)| map b=>exact af.du b bZ
  ·exact VK av af (λt h=>ay t (.tail _ h)) ab (λx ae=>aR x (dQ.2 (.inr ae))) eY (λx ae=>ap x (dQ.2 (.inr ae)))
def agK:mapsRowed Tryz.prog=true:=by kernel_rfl
def agL:Tryz.prog.stopsHeard=true:=by kernel_rfl
def agM:Tryz.prog.mayEnter=true:=by kernel_rfl
section
variable{H:Type}{enc:TypeId×Value->H}
def agN{d:DataW H}(h:DataW.Trod enc Tryz.prog W 0 (λ_=>true) true 9 v d p)(aj:Value.okWide Tryz.prog W .any be 9 v):∃ s:ByteArray,v=.string s/\s.size<=9223372036854775807:=by
 have ay:Tryz.prog.underlying 9=some .string:=by kernel_rfl
 obtain⟨n,rfl⟩:=Go.WideShapes.okWide_string ay aj;obtain⟨eL,aJ⟩:=h;obtain⟨i,cG,-,hw⟩:=Jl ay aJ;have az:[Value.string n]=[Value.string i]:=cG;simp only[y2,Value.string.injEq,and_true]at az;subst az;exact⟨n,rfl,by unfold maxLen at hw;exact hw⟩
end
structure qm where
 d:aS
 cf:List Nat
structure dg where
 n:Nat
 a0:Nat
 aG:Nat
structure uw where
 bT:Nat
 pl:Nat
 g9:Nat
 a0:Nat
 n:Nat
structure agO where
 kn:Nat->Nat->dg
 op:List uw
 rZ:Nat
structure dw where
 ns:List qm
 s:ByteArray
 be:Nat
def VL:aS:=⟨0,0,0,0,0,⟨#[]⟩,0,0,none,0,0,[]⟩
def dw.aO(P:dw)(k:Nat):qm:=P.ns.getD k ⟨VL,[]⟩
def nI:dg:=⟨0,0,0⟩
def mV:dg:=⟨0,0,2⟩
def tg(d:aS)(b:Nat):Bool:=([d.dT,d.s1,d.s2,d.ec].getD (b/64) 0).toNat.testBit (b%64)
def preB(s t:ByteArray)(aO:Nat):Bool:=decide (aO+t.size<=s.size)&&decide (s.extract aO (aO+t.size)=t)
structure JX(P:dw)(a:qm):Prop where
 k:0<=a.d.k/\a.d.k<10
 cf:∀ x∈a.cf,x<P.ns.length
 many:a.d.k=4\/a.d.k=5->0<a.cf.length
 one:a.d.k=3\/6<=a.d.k->a.cf.length=1
 qd:a.d.k=6->0<=a.d.lo/\a.d.lo<=99/\(a.d.hi=-1\/(a.d.lo<=a.d.hi/\a.d.hi<=99))
 len:a.cf.length<=1024
structure Da(P:dw):Prop where
 ns:∀ a∈P.ns,JX P a
 be:P.be<=P.s.size
 size:P.s.size<=4096
structure zk(P:dw)(pl:Nat)(c:dg):Prop where
 aG:c.aG<=3
 m:c.aG=3->pl<=c.a0/\c.a0<=P.s.size/\c.n<=65537
 f:c.aG≠3->c.n=0/\c.a0=0
def ff(c:dg):Prop:=c.aG=2\/c.aG=3
def dw.agP{P:dw}(h:Da P){k:Nat}(af:k<P.ns.length):JX P (P.aO k):=by
 have:P.aO k=P.ns[k]:=by simp[dw.aO,cC,af]
 rw[this];exact h.ns _ (cJ af)
def k1(kn:Nat->Nat->dg)(be:Nat):List Nat->Nat->List (Nat×Nat)
 |[],_=>[]| k::L,a=>bif Nat.beq (kn k (a-be)).aG 3 then(bif Nat.beq (kn k (a-be)).n 0 then k1 kn be L (kn k (a-be)).a0 else(k,a)::k1 kn be L (kn k (a-be)).a0)else k1 kn be L a
def rf(kn:Nat->Nat->dg)(be:Nat):List Nat->Nat->Nat
 |[],a=>a| k::L,a=>bif Nat.beq (kn k (a-be)).aG 3 then rf kn be L (kn k (a-be)).a0 else rf kn be L a
def mW(kn:Nat->Nat->dg)(be:Nat):List Nat->Nat->Nat
 |[],_=>0| k::L,a=>bif Nat.beq (kn k (a-be)).aG 3 then(kn k (a-be)).n+mW kn be L (kn k (a-be)).a0 else mW kn be L a
def allM(kn:Nat->Nat->dg)(be:Nat):List Nat->Nat->Prop
 |[],_=>True| k::L,a=>(kn k (a-be)).aG=3/\allM kn be L (kn k (a-be)).a0
def mu(kn:Nat->Nat->dg)(be:Nat):List Nat->Nat->List (Nat×Nat)
 |[],_=>[]| k::L,a=>bif Nat.beq (kn k (a-be)).aG 3 then(bif Nat.beq (kn k (a-be)).n 0 then []else [(k,a)])else mu kn be L a
def th(kn:Nat->Nat->dg)(be:Nat):List Nat->Nat->Prop
 |[],_=>False| k::L,a=>(kn k (a-be)).aG=3\/((kn k (a-be)).aG=2/\th kn be L a)
inductive k2(kn:Nat->Nat->dg)(be:Nat)(k:Nat)(hi:Int):Nat->Nat->List (Nat×Nat)->Prop
 |stop{t a:Nat}(h:(t:Int)=hi):k2 kn be k hi t a []| fail {t a:Nat} (h:(t:Int)≠hi) (ab:(kn k (a-be)).aG=2):k2 kn be k hi t a []| more {t a:Nat} {l:List (Nat×Nat)} (ai:t<=1000000) (h:(t:Int)≠hi) (ab:(kn k (a-be)).aG=3) (r:k2 kn be k hi (t+1) (kn k (a-be)).a0 l):k2 kn be k hi t a ((bif Nat.beq (kn k (a-be)).n 0 then []else [(k,a)])++l)
def ky(P:dw)(kn:Nat->Nat->dg)(k a:Nat)(l:List (Nat×Nat)):Prop:=
 if(P.aO k).d.k=6 then k2 kn P.be ((P.aO k).cf.getD 0 0) (P.aO k).d.hi 0 a l
 else if(P.aO k).d.k=5 then th kn P.be (P.aO k).cf a/\l=mu kn P.be (P.aO k).cf a else allM kn P.be (P.aO k).cf a/\l=k1 kn P.be (P.aO k).cf a
structure fg where
 name:ByteArray
 lo:Nat
 hi:Nat
def sc(P:dw)(kn:Nat->Nat->dg)(k a:Nat):List fg:=bif decide ((P.aO k).d.k=9)then [⟨(P.aO k).d.t,a,(kn k (a-P.be)).a0⟩]else []
inductive iD(P:dw)(kn:Nat->Nat->dg):Nat->List (Nat×Nat)->List fg->Prop
 |nil:iD P kn 0 [] []| zero {n k a bb l} (ag:(kn k (a-P.be)).aG=3) (h:(kn k (a-P.be)).n=0) (r:iD P kn n bb l):iD P kn (n+1) ((k,a)::bb) l| node {n k a parts bb l} (ag:(kn k (a-P.be)).aG=3) (h:(kn k (a-P.be)).n≠0) (aD:ky P kn k a parts) (r:iD P kn n (parts++bb) l):iD P kn (n+1) ((k,a)::bb) (sc P kn k a++l)
def iD.app{P:dw}{kn:Nat->Nat->dg}{n m:Nat}{a b:List (Nat×Nat)}{l cR:List fg}(h:iD P kn n a l)(aX:iD P kn m b cR):iD P kn (n+m) (a++b) (l++cR):=by
 induction h with
 |nil=>rw[c0];exact aX| @zero n k a bb l ag h r a7=>rw[Nat.add_right_comm];exact .zero ag h a7| @node n k a parts bb l ag h aD r a7=>rw[Nat.add_right_comm,fq];rw[fq]at a7;exact .node ag h aD a7
def lZ(l:List fg)(n:Nat):Prop:=(n<=65536->l.length=n)/\(65537<=n->65537<=l.length)
def lZ.app{l cR:List fg}{n m:Nat}(h:lZ l n)(aX:lZ cR m):lZ (l++cR) (n+m):=by unfold lZ at *;rw[cI];omega
def lZ.cut{l:List fg}{n:Nat}(h:lZ l n):lZ l (min n 65537):=by unfold lZ at *;omega
def A1(kn eX:Nat->Nat->dg):Prop:=∀ k p,ff (kn k p)->eX k p=kn k p
def VM{kn eX:Nat->Nat->dg}(h:A1 kn eX)(be:Nat):∀ (L:List Nat) (a:Nat),allM kn be L a->k1 eX be L a=k1 kn be L a/\rf eX be L a=rf kn be L a/\mW eX be L a=mW kn be L a/\allM eX be L a
 |[],a,_=>⟨rfl,rfl,rfl,trivial⟩
 |k::L,a,⟨aa,ab⟩=>by
  have e:=h k (a-be) (.inr aa);obtain⟨i1,i2,i3,i4⟩:=VM h be L _ ab;have ai:Nat.beq (kn k (a-be)).aG 3=true:=by rw[aa];rfl
  simp only[k1,rf,mW,allM,e,i1,i2,i3,ai,bl];exact⟨trivial,trivial,trivial,aa,i4⟩
def VN{kn eX:Nat->Nat->dg}(h:A1 kn eX)(be:Nat):∀ (L:List Nat) (a:Nat),th kn be L a->mu eX be L a=mu kn be L a/\th eX be L a
 |[],a,aa=>aa.elim| k::L,a,.inl aa=>by have e:=h k (a-be) (.inr aa);simp only[mu,th,e,aa];exact⟨rfl,.inl trivial⟩
 |k::L,a,.inr ⟨aa,ab⟩=>by have e:=h k (a-be) (.inl aa);obtain⟨i1,i2⟩:=VN h be L a ab;simp only[mu,th,e,aa,i1];exact⟨trivial,.inr ⟨trivial,i2⟩⟩
def k2.le{kn eX:Nat->Nat->dg}(h:A1 kn eX){k:Nat}{t a:Nat}{l:List (Nat×Nat)}(hw:k2 kn be k hi t a l):k2 eX be k hi t a l:=by
 induction hw with
 |stop aa=>exact .stop aa| fail aa ab=>exact .fail aa (by rw[h _ _ (.inl ab)];exact ab)| @more t a l ai aa ab r a7=>have e:=h k (a-be) (.inr ab);have:=k2.more (kn:=eX) (be:=be) (k:=k) (hi:=hi) (t:=t) (a:=a) (l:=l) ai aa (by rw[e];exact ab) (by rw[e];exact a7);rwa [e]at this
def ky.le{P:dw}{kn eX:Nat->Nat->dg}(h:A1 kn eX){k a:Nat}{l:List (Nat×Nat)}(aD:ky P kn k a l):ky P eX k a l:=by
 unfold ky at aD |-;by_cases bP:(P.aO k).d.k=6
 ·rw[cn bP]at aD |-;exact aD.le h
 ·rw[cb bP]at aD |-;by_cases bC:(P.aO k).d.k=5
  ·rw[cn bC]at aD |-;obtain⟨i1,i2⟩:=VN h P.be _ _ aD.1;exact⟨i2,by rw[i1];exact aD.2⟩
  ·rw[cb bC]at aD |-;obtain⟨i1,i2,i3,i4⟩:=VM h P.be _ _ aD.1;exact⟨i4,by rw[i1];exact aD.2⟩
def iD.le{P:dw}{kn eX:Nat->Nat->dg}(h:A1 kn eX){n:Nat}{l:List fg}(au:iD P kn n L l):iD P eX n L l:=by
 induction au with
 |nil=>exact .nil| @zero n k a bb l ag ar r a7=>have e:=h k (a-P.be) (.inr ag);exact .zero (by rw[e];exact ag) (by rw[e];exact ar) a7
 | @node n k a parts bb l ag ar aD r a7=>
  have e:=h k (a-P.be) (.inr ag);have aA:sc P kn k a=sc P eX k a:=by unfold sc;rw[e]
  rw[aA];exact .node (by rw[e];exact ag) (by rw[e];exact ar) (aD.le h) a7
inductive mX:Nat->Nat->List fg->Prop
 |nil{a b}(h:a<=b):mX a b []| app {a b c l cR} (h:mX a b l) (aX:mX b c cR):mX a c (l++cR)| cap {a b l nm} (h:mX a b l):mX a b (⟨nm,a,b⟩::l)
def mX.le{a b:Nat}{l:List fg}(h:mX a b l):a<=b:=by
 induction h with
 |nil h=>exact h| app _ _ aa ab=>exact lg aa ab| cap _ h=>exact h
def zl(P:dw)(kn:Nat->Nat->dg):Prop:=∀ k p,(kn k p).aG=3->∃ n l,iD P kn n [(k,P.be+p)] l/\lZ l (kn k p).n/\mX (P.be+p) (kn k p).a0 l
def VO{P:dw}{kn:Nat->Nat->dg}(af:∀ k p,zk P (P.be+p) (kn k p))(au:zl P kn):∀ (L:List Nat) (a:Nat),P.be<=a->allM kn P.be L a->∃ n l,iD P kn n (k1 kn P.be L a) l/\lZ l (mW kn P.be L a)/\mX a (rf kn P.be L a) l
 |[],a,_,_=>⟨0,[],.nil,⟨λ_=>rfl,λh=>by simp[mW]at h⟩,.nil (cj _)⟩
 |k::L,a,aC,⟨aa,ab⟩=>by
  have aA:=af k (a-P.be);have pE:=(aA.m aa).1;obtain⟨n,l,i1,i2,i3⟩:=VO af au L _ (by omega) ab;obtain⟨m,cR,iE,hO,i'⟩:=au k (a-P.be) aa;rw[zh aC]at iE i';simp only[k1,mW,rf,aa];rw[show Nat.beq 3 3=true from rfl,bl,bl,bl];cases ar:Nat.beq (kn k (a-P.be)).n 0 with
  |true=>rw[bl,c6 ar,c0];exact⟨n,l,i1,i2,.app (.nil (by rw[zh aC]at pE;exact pE)) i3⟩| false=>rw[bh];exact⟨m+n,cR++l,iE.app i1,hO.app i2,.app i' i3⟩
def VP(nm:ByteArray):∀ (ds:List aQ) (i:Nat),b2 nm ds i=bif decide (b2 nm ds 0<0)then -1 else b2 nm ds 0+i
 |[],i=>rfl
 |d::ds,i=>by
  unfold b2;cases h:decide (d.name=nm)with
  |true=>
   have:decide ((((0:Nat):Int))<0)=false:=by decide
   simp[this]
  |false=>
   rw[bh,bh,VP nm ds (i+1),VP nm ds (0+1)];have ak:b2 nm ds 0<0\/0<=b2 nm ds 0:=by omega
   rcases ak with ak | ak;·rw[eN ak];rfl
   ·have e:decide (b2 nm ds 0<0)=false:=de (by omega);rw[e,bh,bh];have aE:decide (b2 nm ds 0+((0+1:Nat):Int)<0)=false:=de (by omega);rw[aE,bh];omega
def VQ(nm:ByteArray)(ap cM:List aQ):b2 nm (ap++cM) 0=bif decide (b2 nm ap 0<0)then b2 nm cM ap.length else b2 nm ap 0:=by
 have key:∀ (ap:List aQ) (i:Nat),b2 nm (ap++cM) i=bif decide (b2 nm ap i<0)then b2 nm cM (i+ap.length)else b2 nm ap i:=by
  intro ap
  induction ap with
  |nil=>intro i;simp[b2]
  |cons d ap a7=>
   intro i;rw[qZ,b2,b2];cases decide (d.name=nm)with
   |true=>have:decide ((i:Int)<0)=false:=de (by omega);rw[bl,bl,this,bh]| false=>rw[bh,bh,a7 (i+1),ea];rw[show i+1+ap.length=i+(ap.length+1)from by omega]
 have:=key ap 0;rwa [c0]at this
structure Db(ap:List aQ)(a4:List (ByteArray×Int)):Prop where
 look:∀ nm,(ee nm a4).isSome=decide (0<=b2 nm ap 0)
def VR(nm:ByteArray)(p:ByteArray×Int):∀ a4:List (ByteArray×Int),(ee nm (a4++[p])).isSome=((ee nm a4).isSome||decide (nm=p.1))
 |[]=>by
  show(bif decide (nm=p.1)then some p.2 else none:Option Int).isSome=_;cases decide (nm=p.1)<;>rfl
 |q::a4=>by
  rw[qZ,ee,ee];cases decide (nm=q.1)with
  |true=>rfl| false=>rw[bh,bh,VR nm p a4]
def Db.snoc{ap:List aQ}{a4:List (ByteArray×Int)}(h:Db ap a4)(d:aQ)(v:Int):Db (ap++[d]) (a4++[(d.name,v)]):=by
 refine⟨λnm=>?_⟩;rw[VR,h.look,VQ];by_cases ak:b2 nm ap 0<0
 ·rw[eN ak,bl,de (by omega:¬ 0<=b2 nm ap 0),u7];unfold b2;have:decide (d.name=nm)=decide (nm=d.name):=decide_eq_decide.2 ⟨Eq.symm,Eq.symm⟩;rw[this];cases decide (nm=d.name)with
  |true=>simp| false=>rw[bh];rfl
 ·rw[de ak,bh,eN (by omega:0<=b2 nm ap 0),Bool.true_or]
def oB(ds:List aQ)(i:Nat):Bool:=match ds[i]? with
 |some d=>decide (b2 d.name ds 0=i)| none=>true
def agQ(d:aQ)(cM:List aQ)(i:Nat):b2 d.name (d::cM) i=i:=by rw[b2,eN rfl];rfl
def agR(cM:List aQ):∀ (ap:List aQ) (a4:List (ByteArray×Int)),Db ap a4->(∀ i,i<ap.length->oB (ap++cM) i=true) ->
  match ls a4 ap.length cM with
  |none=>∃ i,i<(ap++cM).length/\oB (ap++cM) i=false/\∀ k,k<i->oB (ap++cM) k=true| some r=>Db (ap++cM) r/\∀ i,i<(ap++cM).length->oB (ap++cM) i=true:=by
 induction cM with
 |nil=>intro ap a4 h aJ;rw[eh]at *;exact⟨h,aJ⟩
 |cons d cM a7=>
  intro ap a4 h aJ;have kt:(ap++d::cM)[ap.length]?=some d:=by simp
  have ma:oB (ap++d::cM) ap.length=!(ee d.name a4).isSome:=by
   unfold oB;rw[kt,h.look];simp only;rw[VQ];by_cases ak:b2 d.name ap 0<0;·rw[eN ak,bl,agQ];simp;omega
   ·rw[de ak,bh];have aR:b2 d.name ap 0<ap.length:=by
     have:∀ (ap:List aQ) (i:Nat),0<=b2 d.name ap i->b2 d.name ap i<i+ap.length:=by
      intro ap
      induction ap with
      |nil=>intro i h;simp[b2]at h
      |cons e ap agS=>
       intro i h;unfold b2 at h |-;cases aA:decide (e.name=d.name)with
       |true=>simp;omega| false=>rw[aA,bh]at h;rw[bh];have:=agS (i+1) h;simp;omega
     have:=this ap 0 (by omega);omega
    have az:decide (b2 d.name ap 0=(ap.length:Int))=false:=de (by omega);have aE:decide (0<=b2 d.name ap 0)=true:=eN (by omega);rw[az,aE];rfl
  rw[ls];cases av:(ee d.name a4).isSome with
  |true=>rw[av]at ma;exact⟨ap.length,by simp,ma,aJ⟩
  |false=>
   rw[av]at ma;have:=a7 (ap++[d]) (a4++[(d.name,(ap.length:Int))]) (h.snoc d _) (λi hi=>by
    rw[fq];simp at hi;rcases Nat.lt_or_eq_of_le (Nat.lt_succ_iff.1 (by omega:i<ap.length+1))with aa | aa;·exact aJ i aa
    ·rw[aa];exact ma)
   rw[cI,fq]at this;exact this
def agT:Db [] []:=⟨λnm=>by simp[ee,b2]⟩
def zm(ds:List aQ)(n:aS):Bool:=!decide (n.k=3)||decide (0<=b2 n.t ds 0)
def VS(p:aS->Bool):∀ (ds:List aQ) (i:Nat),((qi i ds).all λx=>p x.2)=ds.all λd=>d.t.ns.all p
 |[],i=>rfl| d::ds,i=>by rw[qi,FM,List.all_cons,VS p ds (i+1),List.all_map];rfl
def JY(ax:List Int)(g:bJ):Int:=
 bif decide ((g.n:Int)=0)then 4 else bif !ow g.ds then 4 else bif nF ax g then 40 else
 bif !(List.range g.ds.length).all (oB g.ds)then 6 else bif g.ds.all λd=>d.t.ns.all (zm g.ds)then 0 else 41
def VT(ax:List Int)(g:bJ):JY ax g=dF ax g:=by
 unfold JY dF;have h:=agR g.ds [] [] agT (λi hi=>by simp at hi);simp only[gV,jZ]at h;cases ah:ls [] 0 g.ds with
 |none=>
  rw[ah]at h;obtain⟨i,aa,ab,_⟩:=h;have:(List.range g.ds.length).all (oB g.ds)=false:=by rw[zi];intro hr;rw[eP]at hr;have:=hr i (lF.2 aa);rw[ab]at this;cases this
  rw[this];rfl
 |some a4=>
  rw[ah]at h;obtain⟨aa,ab⟩:=h;have ag:(List.range g.ds.length).all (oB g.ds)=true:=by rw[eP];intro i hi;exact ab i (lF.1 hi)
  rw[ag];have aW:(g.ds.all λd=>d.t.ns.all (zm g.ds))=q' a4 g.ds:=by unfold q';rw[VS];congr 1;funext d;congr 1;funext n;unfold zd zm;rw[aa.look]
  rw[aW];rfl
def Gi:gi 0:=⟨by decide,by decide⟩
def i0:iT 0:=⟨by decide,by decide⟩
def agU(k:Int)(s:ByteArray):aS:=⟨k,0,0,0,0,s,0,0,none,0,0,[]⟩
def JZ(d:aS):Bool:=decide (d.t=⟨#[]⟩)&&(decide (d.lo=0)&&decide (d.hi=0))
def agV(d:aS)(n:Int):Bool:=
 bif decide (d.k=0)then JZ d&&decide (n=0)else
 bif decide (d.k=1)then JZ d&&decide (n=0)else
 bif decide (d.k=2)then decide (d.lo=0)&&(decide (d.hi=0)&&(decide (n=0)&&(decide ((1:Int)<=d.t.size)&&decide ((d.t.size:Int)<=255))))else
 bif decide (d.k=3)then decide (d.lo=0)&&(decide (d.hi=0)&&(decide (n=0)&&kl d.t))else
 bif decide (d.k=4)||decide (d.k=5)then JZ d&&decide (2<=n)else
 bif decide (d.k=6)then decide (d.t=⟨#[]⟩)&&(decide (n=1)&&(decide (0<=d.lo)&&(decide (d.lo<=99)&&(decide (d.hi=-1)||(decide (d.lo<=d.hi)&&decide (d.hi<=99))))))else
 bif decide (d.k=7)||decide (d.k=8)then JZ d&&decide (n=1)else
 bif decide (d.k=9)then decide (d.lo=0)&&(decide (d.hi=0)&&(decide (n=1)&&kl d.t))else false
def Om{bD:Int}:∀ {s:List Bool} {i j:Nat},j<s.length->(s.getD j false == decide (((i+j:Nat):Int)=bD))=true->q1 bD i s=false
 |b::s,i,0,_,h=>by unfold q1;rw[show(b == decide ((i:Int)=bD))=true by simpa using h];rfl
 |b::s,i,j+1,an,h=>by
  unfold q1;cases b == decide ((i:Int)=bD)with
  |true=>rfl| false=>simp only[bh];refine Om (j:=j) (by simpa using an) ?_;rw[show i+1+j=i+(j+1) by omega];simpa using h
def VU{bD:Int}:∀ {s:List Bool} {i:Nat},(∀ j,j<s.length->(s.getD j false == decide (((i+j:Nat):Int)=bD))=false)->q1 bD i s=true
 |[],i,h=>rfl| b::s,i,h=>by unfold q1;have ar:=h 0 (by simp);rw[show(b == decide ((i:Int)=bD))=false by simpa using ar];simp only[bh];refine VU λj an=>?_;have:=h (j+1) (by simpa using an);rw[show i+1+j=i+(j+1) by omega];simpa using this
def bn.bT{X:c3}{o:Oper}{F:Fr}{C:dp}{K:fX}(h:bn X o F C I M (λF C I M=>(M.map (·.num)).Nodup->(∀ x∈M,I x.num=none)->K F C I M)):bn X o F C I M K:=
 ⟨λa w Q a5=>sE (λbY w'=>λ⟨cH,C',I',M',⟨β,ak⟩,af⟩=>⟨cH,C',I',M',⟨β,ak⟩,af ak.holds.bT ak.holds.d⟩) (h.1 a w Q a5)⟩
def VV{kz:List Value}(ca:os.ok size xs){g c:Nat}{aK:List Value}(aF:kz.length=size)(aa:aK.length=c*size)(ab:os.n+1<=c)(ag:c<=maxLen)(aW:aK.take ((os.n+1)*size)=xs++kz) :
  a'.ok ⟨some g,os.n+1,c,aK⟩ size (xs++kz):=by
 have av:=ca.len;refine⟨?_,(λh=>by cases h),λbI q6=>⟨aa,ab,ag,aW⟩⟩;rw[cI,av,aF];simp only;rw[kS,p6]
abbrev J0:=cB×Int×ByteArray
def J0.bT(x:J0):aS:=agU x.2.1 x.2.2
structure J0.ok(I:aZ)(x:J0):Prop where
 t:x.1.ok I
 ns:x.1.ns=[x.bT]
 bD:x.1.bD=0
 fits:agV x.bT 0=true
def nJ(ns:List aS):Int->Nat:=qc 0 (λd g=>1+gX g d.aL) ns
def J1{t:cB}(ak:right t=true){j:Nat}(an:j<t.ns.length):nJ t.ns j=1+gX (nJ t.ns) t.ns[j].aL:=
 FF (λd g dv h=>by rw[UY h]) ak an
def agW{t:cB}(ak:right t=true):nJ t.ns t.bD<=t.ns.length:=by
 have:=No ak (g:=nJ t.ns) (c:=λ_=>1) λj an=>by rw[J1 ak an];exact cj _
 rwa [Jp,p6]at this
def VW{i:Nat}:∀ {ks:List Int} {s cc:List Bool},km i ks s=some cc->∀ j,cc.getD j false=true->s.getD j false=true\/((j:Int)∈ks/\j<i)
 |[],s,cc,h,j,an=>by simp only[km,j']at h;subst h;exact .inl an
 |k::ks,s,cc,h,j,an=>by
  unfold km at h;cases ai:decide (k<0)||(decide ((i:Int)<=k)||s.getD k.toNat false)with
  |true=>rw[ai]at h;cases h
  |false=>
   rw[ai]at h;simp only[bh]at h;simp only[oa,nr]at ai;rcases VW h j an with aa | aa
   ·by_cases e:k.toNat=j
    ·right
     refine⟨?_,by omega⟩;have:(j:Int)=k:=by omega
     rw[this];exact .head _
    ·left
     simp only[cC,mh]at aa |-;rwa [cb e]at aa
   ·exact .inr ⟨.tail _ aa.1,aa.2⟩
def VX:∀ {ds:List aS} {i:Nat} {s cc:List Bool},iU i ds s=some cc->∀ j,cc.getD j false=true->s.getD j false=true\/∃ q,∃ h:q<ds.length,(j:Int)∈ds[q].aL/\j<i+q
 |[],i,s,cc,h,j,an=>by simp only[iU,j']at h;subst h;exact .inl an
 |d::ds,i,s,cc,h,j,an=>by
  unfold iU at h;cases aJ:fits d d.aL.length with
  |false=>rw[aJ]at h;cases h
  |true=>
   rw[aJ]at h;simp only[bl]at h;split at h
   ·rename_i s1 fs;rcases VX h j an with aa | ⟨q,aM,aa,ab⟩
    ·rcases VW fs j aa with ag | ⟨ag,aW⟩
     ·exact .inl ag
     ·exact .inr ⟨0,by simp,ag,by omega⟩
    ·exact .inr ⟨q+1,by simpa using aM,by simpa using aa,by omega⟩
   ·cases h
def VY{t:cB}(ak:right t=true){j:Nat}(an:j<t.ns.length)(bK:(j:Int)≠t.bD):∃ p,∃ h:p<t.ns.length,(j:Int)∈t.ns[p].aL/\j<p:=by
 unfold right at ak;simp only[b']at ak;obtain⟨_,_,ak⟩:=ak;split at ak
 ·rename_i s ap;have g6:=(Nn (g:=λ_=>0) (c:=λ_=>0) ap (by simp) (λj an=>by simp)).1;have hm:s.getD j false=true:=by
   cases ai:s.getD j false with
   |true=>rfl| false=>have:=Om (bD:=t.bD) (s:=s) (i:=0) (j:=j) (by rw[g6];simpa using an) (by rw[ai,c0];simp[bK]);rw[this]at ak;cases ak
  rcases VX ap j hm with aa | ⟨q,aM,aa,ab⟩;·simp[cC,an]at aa
  ·exact⟨q,aM,aa,by omega⟩
 ·cases ak
def VZ{g:Int->Nat}:∀ {ks:List Int} {k:Int},k∈ks->g k<=gX g ks
 |a::ks,k,h=>by
  simp only[gX,cY,oc];rcases ef.1 h with rfl | h;·omega
  ·have:=VZ (g:=g) h;simp only[gX]at this;omega
def V0{t:cB}(ak:right t=true):∀ (m j:Nat),j<t.ns.length->t.ns.length-j<=m->nJ t.ns j<=t.ns.length
 |0,j,an,hm=>by omega
 |m+1,j,an,hm=>by
  by_cases e:(j:Int)=t.bD;·rw[e];exact agW ak
  ·obtain⟨p,aD,af,aR⟩:=VY ak an e;have aa:=V0 ak m p aD (by omega);rw[J1 ak aD]at aa;have:=VZ (g:=nJ t.ns) af;omega
def Gj(g:Int->Nat)(a b:List Int):gX g (a++b)=gX g a+gX g b:=by simp[gX]
def On{t:cB}(ak:right t=true):∀ {l:List Int},valid t.ns.length l->l.length<=gX (nJ t.ns) l
 |[],_=>by simp
 |a::l,aj=>by have aa:=On ak (l:=l) λk af=>aj k (.tail _ af);have ab:=aj a (.head _);obtain⟨a,rfl⟩:=h' ab.1;have ag:=J1 ak (j:=a) (by omega);simp only[gX,cY,oc,ea]at aa |-;have aW:nJ t.ns (Int.ofNat a)=nJ t.ns a:=rfl;omega
def vQ(ns:List aS):Nat->List Int->List Int->List Int
 |0,_,b=>b
 |f+1,todo,b=>match todo.getLast? with
  |none=>b| some n=>vQ ns f (todo.dropLast++(nodeAt ns n.toNat).aL) (b++[n])
def Dc(ns:List aS)(node:Int):List Int:=vQ ns (ns.length+1) [node] []
def agX(ns:List aS)(f:Nat)(b:List Int):vQ ns f [] b=b:=by cases f<;>rfl
def agY(ns:List aS)(f:Nat)(todo:List Int)(n:Int)(b:List Int):vQ ns (f+1) (todo++[n]) b=vQ ns f (todo++(nodeAt ns n.toNat).aL) (b++[n]):=by rw[vQ];simp only[Nx,Ny]
def aS.ba(d:aS):aS:=⟨d.k,d.dT,d.s1,d.s2,d.ec,d.t,d.lo,d.hi,none,0,0,d.aL⟩
def aS.Gk(d:aS)(l:List Int):aS:=⟨d.k,d.dT,d.s1,d.s2,d.ec,d.t,d.lo,d.hi,none,0,0,l⟩
def Gl(ns:List aS)(aG:List Int×List aS)(b:Int):List Int×List aS:=
 (aG.1.set b.toNat aG.2.length,aG.2++[(nodeAt ns b.toNat).Gk ((nodeAt ns b.toNat).aL.map λk=>(aG.1.set b.toNat aG.2.length).getD k.toNat 0)])
def ux(ns:List aS)(node:Int):List aS:=((Dc ns node).reverse.foldl (Gl ns) (List.replicate ns.length 0,[])).2
def a'.pop{x:Value}(h:os.ok 1 (xs++[x])):a'.ok ⟨os.a,os.n-1,os.c,os.aK⟩ 1 xs:=by
 have av:=h.len;simp only[cI,ea,gV,fP]at av;refine⟨by simp only;omega,λaC=>?_,λg au=>?_⟩
 ·have:=h.nil aC;simp only;omega
 ·obtain⟨aa,ab,ag,aW⟩:=h.cap g au;refine⟨aa,by simp only;omega,ag,?_⟩;simp only;have e:os.n*1=xs.length+1:=by omega
  rw[e]at aW;have:os.aK.take xs.length=(os.aK.take (xs.length+1)).take xs.length:=by rw[rU];congr 1;omega
  rw[show(os.n-1)*1=xs.length by omega,this,aW,Ax]
structure agZ(t:cB)(node:Int)(x:a'×List Int×a'×List Int×Nat):Prop where
 todo:x.1.ok 1 (x.2.1.map (.int .i64 ·))
 back:x.2.2.1.ok 1 (x.2.2.2.1.map (.int .i64 ·))
 ast:valid t.ns.length x.2.1
 asu:valid t.ns.length x.2.2.2.1
 sum:gX (nJ t.ns) x.2.1+x.2.2.2.1.length=nJ t.ns node
 eL:gX (nJ t.ns) x.2.1+1<=x.2.2.2.2
 eq:Dc t.ns node=vQ t.ns x.2.2.2.2 x.2.1 x.2.2.2.1
structure ag0(I:aZ)(t:cB)(nK:List Int)(x:Nat×List Int×a'×List aS×aZ):Prop where
 j:x.1<=nK.length
 len:x.2.1.length=t.ns.length
 out:x.2.2.1.ok 9 (x.2.2.2.1.flatMap aS.cells)
 on:x.2.2.2.1.length=x.1
 eq:(nK.take x.1).foldl (Gl t.ns) (List.replicate t.ns.length 0,[])=(x.2.1,x.2.2.2.1.map aS.ba)
 ok:∀ d∈x.2.2.2.1,d.ok x.2.2.2.2
 le:∀ b o,I b=some o->x.2.2.2.2 b=some o
 A2:∀ c∈x.2.1,0<=c/\c<=nK.length
 kb:∀ d∈x.2.2.2.1,∀ k∈d.aL,0<=k/\k<=nK.length
structure a2 where
 z:Bool
 s:Bool
 f:Bool
 deriving DecidableEq
def a2.cells(x:a2):List Value:=[.bool x.z,.bool x.s,.bool x.f]
def a2.val(x:a2):Value:=.agg #[.bool x.z,.bool x.s,.bool x.f]
def a2.cD(x:a2):x.cells.length=3:=rfl
def a2.uy(x:a2):Bool:=x.z||x.s
def ag1(x y:a2)(p q:Operand)(w:World):(do eqGuard .neq 46 p q x.val y.val;binOp .neq 46 x.val y.val:Sem Value).run Tryz.prog w=.ok (.bool (!decide (x=y))) w:=by
 obtain⟨a,b,c⟩:=x;obtain⟨d,e,f⟩:=y;cases a<;>cases b<;>cases c<;>cases d<;>cases e<;>cases f<;>kernel_rfl
def e'.V1{p q:a2}{V:Value->Prop}(h:V (.bool (!decide (p=q)))):e' Tryz.prog .neq 46 x y (.val (.agg #[.bool p.z,.bool p.s,.bool p.f])) (.val (.agg #[.bool q.z,.bool q.s,.bool q.f])) V other:=
 .mk _ _ _ rfl rfl (λw=>ag1 p q x y w) h
def Oo{z s:Bool}{x:a2}(aa:z=x.z)(ab:s=x.s)(ag:f=x.f):Value.agg #[.bool z,.bool s,.bool f]=x.val:=by subst aa ab ag;rfl
def V2{z s:Bool}{x:a2}(aa:z=x.z)(ab:s=x.s)(ag:f=x.f):[Value.bool z,Value.bool s,Value.bool f]=x.cells:=by subst aa ab ag;rfl
def ag2{a b:Bool}(h:a=b):vi (.val (.bool a)) (.val (.bool b)):=by subst h;exact .refl
def J2{a b:Bool}(h:a=b):vi (.lit a) (.val (.bool b)):=by subst h;exact .lit
def perm_nil:M.Perm (M++[]):=by simp
def e'.ag3{P:Program}{E:Env}(aN:c2 P E){t:Nat}{aH:dU}(ay:E t=some dk)(dW:dk.bE=.array 4 e)(he:E e=some aH){k:IntKind}(lN:aH.bE=.int k)(au:P.eqGuardType P.depth t=false){fy cu dG dY rY b1 cd dN:Int}{V:Value->Prop}
  (h:V (.bool (!(fy == rY&&(cu == b1&&(dG == cd&&dY == dN)))))):e' P .neq t x y (.val (.agg #[.int k fy,.int k cu,.int k dG,.int k dY])) (.val (.agg #[.int k rY,.int k b1,.int k cd,.int k dN])) V other:=by
 obtain⟨d,fk,ft⟩:=(aN _ _ ay).fi;obtain⟨p8,M7,M8⟩:=(aN _ _ he).fi;obtain⟨inf,z,hi,fb,_⟩:=(aN _ _ he).inf;have aa:d=.array 4 e:=by rw[dW]at ft;cases d<;>simp_all[e8]
 have ab:p8=.int k:=by rw[lN]at M8;cases p8<;>simp_all[e8]
 subst aa;subst ab;have fs:inf.size=1:=by rw[fb];exact(aN _ _ he).It (by rw[lN];rfl)
 refine .mk _ _ _ rfl rfl (λw=>?_) h;simp only[cm,run_eqGuard_agg (hm:=au),b3,binOp,TX fk M7 hi fs,c9]
def Oq(x:a2):Spec Tryz.prog 212 [x.val] I M λv I' M'=>v=.bool x.uy/\I'=I/\M'=M:=by
 obtain⟨a,b,c⟩:=x;refine bN [] aV Tryz.func212 rfl rfl rfl ?_;intro B ar;refine b4.mk (λh=>?_) (λh=>?_)
 ·exact⟨_,_,.refl,by rw[show a=false from h];rfl,rfl,rfl⟩
 ·exact⟨_,_,.refl,by rw[show a=true from h];rfl,rfl,rfl⟩
structure mY(I:aZ)(M:List aB)(a:Option Addr)(n:Nat)(ks:List a2):Prop where
 n:ks.length=n
 rd:∀ j (h:j<ks.length),∃ ad,a=some ad/\cr I M (ad.add (j*3)) 3 ks[j].cells
def rh(aG:a2×Bool)(k:a2):a2×Bool:=(⟨aG.1.z&&k.z,aG.1.s||k.s,aG.1.f||(aG.2&&k.f)⟩,aG.2&&k.uy)
def ti(ks:List a2):a2×Bool:=ks.foldl rh (⟨true,false,false⟩,true)
def Gm(ks:List a2):a2:=⟨(ti ks).1.z,(ti ks).1.s&&(ti ks).2,(ti ks).1.f⟩
def vR(f k:a2):a2:=⟨f.z||(f.f&&k.z),f.s||(f.f&&k.s),f.f&&k.f⟩
def J3(ks:List a2):a2:=ks.foldl vR ⟨false,false,true⟩
def bL:a2:=⟨false,false,false⟩
def xJ(d:aS)(k:a2):a2:=bif decide (d.hi=0)then⟨true,false,false⟩else⟨k.z||(decide (d.lo=0)&&k.f),k.s,decide (0<d.lo)&&k.f⟩
def hP(d:aS)(ks:List a2):a2:=
 bif decide (d.k=0)then⟨true,false,false⟩else
 bif decide (d.k=1)then⟨false,!d.qa,true⟩else
 bif decide (d.k=2)then⟨false,true,true⟩else
 bif decide (d.k=3)then ks.headD bL else
 bif decide (d.k=4)then Gm ks else
 bif decide (d.k=5)then J3 ks else
 bif decide (d.k=6)then xJ d (ks.headD bL)else
 bif decide (d.k=7)then⟨(ks.headD bL).uy,false,(ks.headD bL).f⟩else
 bif decide (d.k=8)then⟨(ks.headD bL).f,false,(ks.headD bL).uy⟩else ks.headD bL
section
variable{I:aZ}{M:List aB}{d:aS}{a:Option Addr}{n c:Nat}{ks:List a2}
def mY.head(af:mY I M a n ks)(ar:0<n):∃ ad,a=some ad/\cr I M (ad.add (0*3)) 3 (ks.headD bL).cells:=by
 have aa:0<ks.length:=by rw[af.n];exact ar
 obtain⟨ad,ab,ag⟩:=af.rd 0 aa;refine⟨ad,ab,?_⟩;cases ks with
 |nil=>simp at aa| cons k ks=>exact ag
def ag4:Spec Tryz.prog 149 [d.val,.slice a n c] I M λv I' M'=>v=a2.val ⟨true,false,false⟩/\I'=I/\M'=M:=by refine bN [] aV Tryz.func149 rfl rfl rfl ?_;intro B ar;exact⟨_,_,.refl,rfl,rfl,rfl⟩
def ag5:Spec Tryz.prog 151 [d.val,.slice a n c] I M λv I' M'=>v=a2.val ⟨false,true,true⟩/\I'=I/\M'=M:=by refine bN [] aV Tryz.func151 rfl rfl rfl ?_;intro B ar;exact⟨_,_,.refl,rfl,rfl,rfl⟩
def V3(af:mY I M a n ks)(ar:0<n):Spec Tryz.prog 152 [d.val,.slice a n c] I M λv I' M'=>v=(ks.headD bL).val/\I'=I/\M'=M:=by refine bN [] aV Tryz.func152 rfl rfl rfl ?_;intro B hY;obtain⟨ad,bF,bk⟩:=af.head ar;refine bi.mk ad 0 bF rfl ar ?_;refine aI.mk _ bk ?_;exact⟨_,_,.refl,rfl,rfl,rfl⟩
def ag6(af:mY I M a n ks)(ar:0<n):Spec Tryz.prog 156 [d.val,.slice a n c] I M λv I' M'=>v=a2.val ⟨(ks.headD bL).uy,false,(ks.headD bL).f⟩/\I'=I/\M'=M:=by refine bN [] aV Tryz.func156 rfl rfl rfl ?_;intro B hY;obtain⟨ad,bF,bk⟩:=af.head ar;refine c5.draw aV rfl rfl rfl ?_;refine bi.mk ad 0 bF rfl ar ?_;refine aI.mk _ bk ?_;refine bi.mk ad 0 bF rfl ar ?_;refine aI.mk _ (bk.part (k:=2) (m:=1) (by decide)) ?_;refine hf.o5 M [] _ perm_nil (Oq (ks.headD bL)) (λv I' M' h x ae=>by rw[h.2.2];exact ae) ?_;rintro v I' M' -⟨rfl,rfl,rfl⟩;rw[eh];exact⟨_,_,.refl,rfl,rfl,rfl⟩
def ag7(af:mY I M a n ks)(ar:0<n):Spec Tryz.prog 157 [d.val,.slice a n c] I M λv I' M'=>v=a2.val ⟨(ks.headD bL).f,false,(ks.headD bL).uy⟩/\I'=I/\M'=M:=by refine bN [] aV Tryz.func157 rfl rfl rfl ?_;intro B hY;obtain⟨ad,bF,bk⟩:=af.head ar;refine c5.draw aV rfl rfl rfl ?_;refine bi.mk ad 0 bF rfl ar ?_;refine aI.mk _ (bk.part (k:=2) (m:=1) (by decide)) ?_;refine bi.mk ad 0 bF rfl ar ?_;refine aI.mk _ bk ?_;refine hf.o5 M [] _ perm_nil (Oq (ks.headD bL)) (λv I' M' h x ae=>by rw[h.2.2];exact ae) ?_;rintro v I' M' -⟨rfl,rfl,rfl⟩;rw[eh];exact⟨_,_,.refl,rfl,rfl,rfl⟩
def ag8:Spec Tryz.prog 150 [d.val,.slice a n c] I M λv I' M'=>v=a2.val ⟨false,!d.qa,true⟩/\I'=I/\M'=M:=by refine bN [] aV Tryz.func150 rfl rfl rfl ?_;intro B ar;refine e'.ag3 aV (e:=47) rfl rfl rfl rfl (by kernel_rfl) ?_;exact⟨_,_,.refl,rfl,rfl,rfl⟩
def ag9(af:mY I M a n ks)(ar:0<n):Spec Tryz.prog 155 [d.val,.slice a n c] I M λv I' M'=>v=(xJ d (ks.headD bL)).val/\I'=I/\M'=M:=by
 refine bN [] aV Tryz.func155 rfl rfl rfl ?_;intro B hY;obtain⟨ad,bF,bk⟩:=af.head ar;generalize ks.headD bL=k at bk;obtain⟨Ot,Ou,Ov⟩:=k;refine aU.mk (λh=>?_) (λh=>?_)
 ·refine⟨_,_,.refl,Oo ?_ ?_ ?_,rfl,rfl⟩<;>simp[xJ,h]
 refine bi.mk ad 0 bF rfl ar ?_;refine aI.mk _ bk ?_
 repeat' refine b4.mk (λh=>?_) (λh=>?_)
 all_goals refine⟨_,_,.refl,Oo ?_ ?_ ?_,rfl,rfl⟩
 all_goals first | (simp_all[xJ];done) | (simp_all[xJ];intros;omega)
def aha(af:mY I M a n ks)(aq:n<=140737488355328):Spec Tryz.prog 154 [d.val,.slice a n c] I M λv I' M'=>v=(J3 ks).val/\I'=I/\M'=M:=by
 refine bN [] aV Tryz.func154 rfl rfl rfl ?_;intro B hY;have dS:=af.n;refine c4.inv (ι:=Nat×a2) (λx=>{ bu:=[(4,.ref 4 0),(5,.ref 5 0),(9,.val (.slice a n c)),(10,.val (.int .i64 n)),(11,.val (.int .i64 x.1))],cl:=[(4,bL.cells),(5,x.2.cells)],cS:=I,db:=M }) (λx=>x.1<=n/\x.2=(ks.take x.1).foldl vR ⟨false,false,true⟩) (λx=>n-x.1) ?_ ?_
 ·exact⟨(0,⟨false,false,true⟩),⟨bw _,rfl⟩,.refl,gS,.cons rfl (.cons rfl .nil)⟩
 rintro⟨i,f⟩⟨hi,aJ⟩;simp only at hi aJ;refine aU.mk (λh=>?_) (λh=>?_)
 rotate_left
 ·have cP:n<=i:=by have:=dj h;omega
  refine⟨_,_,.refl,?_,rfl,rfl⟩;rw[eW (by omega)]at aJ;rw[J3,<-aJ];rfl
 have aR:i<n:=by have:=c1 h;omega
 obtain⟨ad,bF,bk⟩:=af.rd i (by omega);have dE:∀ g:a2,g=vR f (ks[i]'(by omega))->g=(ks.take (i+1)).foldl vR ⟨false,false,true⟩:=λg au=>by rw[gf (by omega),CV,<-aJ,au];rfl
 generalize ks[i]'(by omega)=k at bk dE;obtain⟨Ot,Ou,Ov⟩:=k;obtain⟨z,s,Ow⟩:=f;refine bi.mk ad i bF rfl aR ?_;refine aI.mk _ bk ?_
 repeat' refine b4.mk (λh=>?_) (λh=>?_)
 all_goals refine bd.mk _ (cx (i:=i) (by omega)) ?_
 all_goals refine⟨(i+1,_),⟨⟨by simp only;omega,dE _ rfl⟩,by simp only;omega⟩,.refl,gS,.cons rfl (.cons ?_ .nil)⟩
 all_goals clear dE aJ bk
 all_goals (refine congrArg some (V2 ?_ ?_ ?_)<;>simp_all[vR])
def ahb(l:List a2)(k:a2):ti (l++[k])=rh (ti l) k:=by simp[ti]
def ahc(af:mY I M a n ks)(aq:n<=140737488355328):Spec Tryz.prog 153 [d.val,.slice a n c] I M λv I' M'=>v=(Gm ks).val/\I'=I/\M'=M:=by
 refine bN [] aV Tryz.func153 rfl rfl rfl ?_;intro B hY;have dS:=af.n;refine c4.inv (ι:=Nat×a2×Bool) (λx=>{ bu:=[(4,.ref 4 0),(5,.ref 5 0),(6,.val (.bool x.2.2)),(10,.val (.slice a n c)),(11,.val (.int .i64 n)),(12,.val (.int .i64 x.1))],cl:=[(4,bL.cells),(5,x.2.1.cells)],cS:=I,db:=M }) (λx=>x.1<=n/\x.2=ti (ks.take x.1)) (λx=>n-x.1) ?_ ?_
 ·exact⟨(0,⟨true,false,false⟩,true),⟨bw _,rfl⟩,.refl,.cons .refl (.cons .refl (.cons .lit (fH))),.cons rfl (.cons rfl .nil)⟩
 rintro⟨i,f,V4⟩⟨hi,aJ⟩;simp only at hi aJ;refine aU.mk (λh=>?_) (λh=>?_)
 rotate_left
 ·have cP:n<=i:=by have:=dj h;omega
  rw[eW (by omega)]at aJ;obtain⟨z,s,Ow⟩:=f;have az:(ti ks).1=⟨z,s,Ow⟩:=by rw[<-aJ]
  have aE:(ti ks).2=V4:=by rw[<-aJ]
  refine b4.mk (λab=>?_) (λab=>?_)
  all_goals refine⟨_,_,.refl,Oo ?_ ?_ ?_,rfl,rfl⟩
  all_goals simp_all[Gm]
 have aR:i<n:=by have:=c1 h;omega
 obtain⟨ad,bF,bk⟩:=af.rd i (by omega);have dE:∀ g:a2×Bool,g=rh (f,V4) (ks[i]'(by omega))->g=ti (ks.take (i+1)):=λg au=>by rw[gf (by omega),ahb,<-aJ,au]
 generalize ks[i]'(by omega)=k at bk dE;obtain⟨Ot,Ou,Ov⟩:=k;obtain⟨z,s,Ow⟩:=f;refine bi.mk ad i bF rfl aR ?_;refine aI.mk _ bk ?_
 repeat' first
  |refine b4.mk (λh=>?_) (λh=>?_)|(refine a9.mk M [] _ perm_nil (Oq ⟨Ot,Ou,Ov⟩) ?_;rintro v I' M' -⟨rfl,rfl,rfl⟩;rw[eh])
 all_goals refine bd.mk _ (cx (i:=i) (by omega)) ?_
 all_goals refine⟨(i+1,_),⟨⟨by simp only;omega,dE _ rfl⟩,by simp only;omega⟩,.refl,.cons .refl (.cons .refl (.cons ?_ (fH))),.cons rfl (.cons ?_ .nil)⟩
 all_goals clear dE aJ bk
 all_goals first
  |(refine congrArg some (V2 ?_ ?_ ?_)<;>simp_all[rh])|(refine ag2 ?_;simp_all[rh])|(refine J2 ?_;simp_all[rh])
end
def cr.mono{a:Addr}{n:Nat}(h:cr I M a n vs)(bA:∀ b o,I b=some o->I' b=some o):cr I' M a n vs:=by obtain⟨aa,cs,T,al,ab,ag⟩:=h;exact⟨aa,cs,T,al,ab.imp (bA _ _) id,ag⟩
def cr.sub{I:aZ}{M M':List aB}{a:Addr}{n:Nat}{vs:List Value}(h:cr I M a n vs)(a1:∀ x∈M,x∈M'):cr I M' a n vs:=by obtain⟨aa,cs,T,al,ab,ag⟩:=h;refine⟨aa,cs,T,al,ab.imp id ?_,ag⟩;rintro⟨x,ae,az,aE⟩;exact⟨x,a1 x ae,az,aE⟩
section
variable{X:c3}{β:Nat->Nat}{a:Act}{w:World}{F:Fr}{C:dp}{I:aZ}{M:List aB}{o:Oper}{Q:Exit->Act->World->Prop}{K:fX}
def V5(aN:c2 X.P X.E){t:Nat}{k:Nat}(ay:X.E t=some dk)(dW:dk.bE=.map k e)(af:X.E k=some tb)(g7:tb.bE=.string)(bf:∀ w,(zeroValue e).run X.P w=.ok (.int .i64 0) w){g:Nat}{l:List (ByteArray×Int)}(au:w.heap[g]?=some (iW l))(ok:Bool) :
  (Instr.lookup t (.map (some g)) (.string s) ok).run X.P w=.ok (bif ok then .tuple #[.int .i64 ((ee s l).getD 0),.bool (ee s l).isSome]else .int .i64 ((ee s l).getD 0)) w:=by
 obtain⟨d,fk,ft⟩:=(aN _ _ ay).fi;have aa:d=.map k e:=by rw[dW]at ft;cases d<;>simp_all[e8]
 subst aa;obtain⟨kx,r7,jk⟩:=(aN _ _ af).fi;have ab:kx=.string:=by rw[g7]at jk;cases kx<;>simp_all[e8]
 subst ab;have au:w.heap[g]?=some (.map (ov l 0).toArray l.length):=au;obtain⟨r,ve,nG⟩:=Jy s l 0 0;have aA:(Instr.checkKey (ov l 0).toArray.isEmpty 10000 k (.string s)).run X.P w=.ok () w:=CS (k:=.string s) r7 (by simp[MapKept.IsKey]) _ 9999;have uo:(Instr.findKey k (.string s) (ov l 0)).run X.P w=.ok r w:=CT r7 ve;unfold Instr.lookup;simp only[cm,run_underlying fk,b3,CO au,c9,aA,uo];cases r with
 |none=>
  cases av:ee s l with
  |none=>cases ok<;>simp[bf]
  |some v=>rw[av]at nG;simp at nG
 |some p=>
  cases av:ee s l with
  |none=>rw[av]at nG;simp at nG
  |some v=>
   rw[av]at nG;simp only[ka,j']at nG;cases ok<;>simp[nG]
def bn.V6(aN:c2 X.P X.E){t:Nat}(aw:o.op=.lookup t x y true)(ah:∀ d,o.dst=some d->d<X.n){k:Nat}(ay:X.E t=some dk)(dW:dk.bE=.map k e)(af:X.E k=some tb)(g7:tb.bE=.string)(bf:∀ w,(zeroValue e).run X.P w=.ok (.int .i64 0) w){g:Nat}{l:List (ByteArray×Int)}(ae:bB F x=.val (.map (some g)))(aF:bB F y=.val (.string s))(a1:hH I M g (iW l))
  (h:K (put o.dst (.val (.tuple #[.int .i64 ((ee s l).getD 0),.bool (ee s l).isSome])) F) C I M):bn X o F C I M K:=by
 refine⟨λa w Q ⟨β,a5⟩=>?_⟩;have eV:=V5 aN ay dW af g7 bf (a1.heap a5.holds) (s:=s) true;have ex:=dh a5.al ae;have mM:=dh a5.al aF;refine vc a5 ah (by rw[aw];simp) ?_ h;unfold execOp;simp only[aw,ex,mM,cm,eV,b3,c9,bl]
def bn.ahd(aN:c2 X.P X.E){t:Nat}(aw:o.op=.lookup t x y false)(ah:∀ d,o.dst=some d->d<X.n){k:Nat}(ay:X.E t=some dk)(dW:dk.bE=.map k e)(af:X.E k=some tb)(g7:tb.bE=.string)(bf:∀ w,(zeroValue e).run X.P w=.ok (.int .i64 0) w){g:Nat}{l:List (ByteArray×Int)}(ae:bB F x=.val (.map (some g)))(aF:bB F y=.val (.string s))(a1:hH I M g (iW l))
  (h:K (put o.dst (.val (.int .i64 ((ee s l).getD 0))) F) C I M):bn X o F C I M K:=by
 refine⟨λa w Q ⟨β,a5⟩=>?_⟩;have eV:=V5 aN ay dW af g7 bf (a1.heap a5.holds) (s:=s) false;have ex:=dh a5.al ae;have mM:=dh a5.al aF;refine vc a5 ah (by rw[aw];simp) ?_ h;unfold execOp;simp only[aw,ex,mM,cm,eV,b3,c9,bh]
end
def ri:List (ByteArray×Int)->Nat->List aQ->List (ByteArray×Int)
 |a4,_,[]=>a4| a4,i,d::ds=>ri (bif (ee d.name a4).isSome then a4 else a4++[(d.name,(i:Int))]) (i+1) ds
def bR(ds:List aQ):List (ByteArray×Int):=ri [] 0 ds
def V7(au:g.ok I):Spec Tryz.prog 42 [g.val] I [] λv I' M'=>(∀ b o,I b=some o->I' b=some o)/\M'=[]/\∃ hC,v=.map (some hC)/\I' hC=some (iW (bR g.ds)):=by
 refine ME [] aV Tryz.func42 rfl rfl rfl ?_;intro B ar;have eH:=au.n;have hz:=au.a8.cap;refine bn.makeMap aV rfl (by simp) rfl rfl rfl λiX=>?_;refine c4.inv (ι:=Nat×List (ByteArray×Int)) (λx=>{ bu:=[(1,.ref 1 0),(3,.val (.map (some iX))),(13,.val (.slice g.a g.n g.c)),(14,.val (.int .i64 g.n)),(15,.val (.int .i64 x.1))],cl:=[(1,[.slice g.a g.n g.c])],cS:=I,db:=[⟨iX,iW x.2⟩] }) (λx=>x.1<=g.n/\bR g.ds=ri x.2 x.1 (g.ds.drop x.1)) (λx=>g.n-x.1) ?_ ?_
 ·exact⟨(0,[]),⟨bw _,rfl⟩,.refl,gS,.cons rfl .nil⟩
 rintro⟨i,a4⟩⟨hi,aD⟩;simp only at hi aD;refine aU.mk (λh=>?_) (λh=>?_)
 ·have aR:i<g.n:=by have:(i:Int)<(g.n:Int):=c1 h;omega
  have bZ:i<g.ds.length:=by omega
  obtain⟨ad,bF,bk⟩:=au.a8.row aQ.cD aR bZ;rw[eE bZ,ri]at aD;refine bi.mk ad i bF rfl aR ?_;refine aI.mk _ (bk _) ?_;refine bn.V6 aV rfl (by simp) rfl rfl rfl rfl (λw=>F3 w) (l:=a4) (g:=iX) rfl rfl (.inr ⟨_,.head _,rfl,rfl⟩) ?_;refine aU.mk (λag=>?_) (λag=>?_)
  ·have aq:(ee g.ds[i].name a4).isSome=false:=by simpa using ag
   have av:ee g.ds[i].name a4=none:=by simpa using aq
   rw[aq,bh]at aD;refine bn.Vc aV rfl rfl rfl rfl rfl rfl rfl rfl rfl av (Mr:=[]) (.refl _) ?_;refine bd.mk _ (cx (i:=i) (by omega)) ?_;exact⟨(i+1,_),⟨⟨by simp only;omega,aD⟩,by simp only;omega⟩,.refl,gS,.cons rfl .nil⟩
  ·have aq:(ee g.ds[i].name a4).isSome=true:=by simpa using ag
   rw[aq,bl]at aD;refine bd.mk _ (cx (i:=i) (by omega)) ?_;exact⟨(i+1,_),⟨⟨by simp only;omega,aD⟩,by simp only;omega⟩,.refl,gS,.cons rfl .nil⟩
 have cP:g.n<=i:=by have:¬ (i:Int)<(g.n:Int):=dj h;omega
 rw[ji (by omega),ri]at aD;intro iP;have ai:=iP.d ⟨iX,iW a4⟩ (.head _);exact⟨_,_,.nk rfl (by simp) .refl,lr ai,rfl,iX,rfl,by rw[aD];exact q5 ..⟩
def ahe:List Nat:=[149,150,151,152,153,154,155,156,157,152]
def Ox:List Value:=[.func (.func 149) #[] #[],.func (.func 150) #[] #[],.func (.func 151) #[] #[],.func (.func 152) #[] #[],.func (.func 153) #[] #[],.func (.func 154) #[] #[],.func (.func 155) #[] #[],.func (.func 156) #[] #[],.func (.func 157) #[] #[],.func (.func 152) #[] #[]]
def ahf:Spec Tryz.prog 95 [] I [] λv I' M'=>v=.agg Ox.toArray/\I'=I/\M'=[]:=by refine bN [] aV Tryz.func95 rfl rfl rfl ?_;intro B ar;exact⟨_,_,.refl,rfl,rfl,rfl⟩
def vS{a:Option Addr}{n c:Nat}{ks:List a2}(af:mY I M a n ks)(aq:n<=140737488355328)(j:Nat)(an:j<10)(ah:d.k=j)(ar:(j=3\/6<=j)->0<n) :
  Spec Tryz.prog (ahe.getD j 0) [d.val,.slice a n c] I M λv I' M'=>v=(hP d ks).val/\I'=I/\M'=M:=by
 match j,an,ah,ar with
 |0,_,ah,_=>rw[show hP d ks=⟨true,false,false⟩ by simp[hP,ah]];exact ag4 (I:=I) (M:=M) (d:=d) (a:=a) (n:=n) (c:=c)| 1,_,ah,_=>rw[show hP d ks=⟨false,!d.qa,true⟩ by simp[hP,ah]];exact ag8 (I:=I) (M:=M) (d:=d) (a:=a) (n:=n) (c:=c)| 2,_,ah,_=>rw[show hP d ks=⟨false,true,true⟩ by simp[hP,ah]];exact ag5 (I:=I) (M:=M) (d:=d) (a:=a) (n:=n) (c:=c)| 3,_,ah,ar=>rw[show hP d ks=ks.headD bL by simp[hP,ah]];exact V3 (d:=d) (c:=c) af (ar (by omega))| 4,_,ah,_=>rw[show hP d ks=Gm ks by simp[hP,ah]];exact ahc (d:=d) (c:=c) af aq| 5,_,ah,_=>rw[show hP d ks=J3 ks by simp[hP,ah]];exact aha (d:=d) (c:=c) af aq| 6,_,ah,ar=>rw[show hP d ks=xJ d (ks.headD bL) by simp[hP,ah]];exact ag9 (d:=d) (c:=c) af (ar (by omega))| 7,_,ah,ar=>rw[show hP d ks=⟨(ks.headD bL).uy,false,(ks.headD bL).f⟩ by simp[hP,ah]];exact ag6 (d:=d) (c:=c) af (ar (by omega))| 8,_,ah,ar=>rw[show hP d ks=⟨(ks.headD bL).f,false,(ks.headD bL).uy⟩ by simp[hP,ah]];exact ag7 (d:=d) (c:=c) af (ar (by omega))| 9,_,ah,ar=>rw[show hP d ks=ks.headD bL by simp[hP,ah]];exact V3 (d:=d) (c:=c) af (ar (by omega))
def fr(b:Nat)(l:List a2):aB:=⟨b,.cells (l.flatMap a2.cells).toArray 46 (0,0)⟩
def A3(l:List a2):(l.flatMap a2.cells).length=l.length*3:=fQ _ 3 a2.cD l
def Dd{b:Nat}{l:List a2}(a1:fr b l∈M){j:Nat}(an:j<l.length):cr I M ((⟨b,0,none⟩:Addr).add (j*3)) 3 l[j].cells:=by have h:=dO (I:=I) (cs:=l.flatMap a2.cells) (k:=j*3) (n:=3) a1 (by rw[A3];omega);rwa [xm a2.cells 3 a2.cD l j an]at h
def Oy(l:List a2)(j:Nat)(an:j<l.length)(x:a2):bo (l.flatMap a2.cells) (j*3) x.cells=(l.set j x).flatMap a2.cells:=by
 have e:l.flatMap a2.cells=(l.take j).flatMap a2.cells++(l[j].cells++(l.drop (j+1)).flatMap a2.cells):=by
  have aa:l=l.take j++(l[j]::l.drop (j+1)):=by rw[<-eE an,sV]
  have ab:=congrArg (λq:List a2=>q.flatMap a2.cells) aa;simp only[lS,ob]at ab;exact ab
 have av:((l.take j).flatMap a2.cells).length=j*3:=by rw[A3,hh];congr 1;omega
 unfold bo;rw[Fl,cn an,lS,ob,e,fq];congr 1
 ·rw[<-av,Ax]
 ·congr 1;rw[a2.cD,<-av,<-fq,CD (by rw[cI,a2.cD])]
def V8(l:List a2)(x:a2):(l++[x]).flatMap a2.cells=l.flatMap a2.cells++x.cells:=by simp
def a'.zero{os:a'}{size:Nat}{xs:List Value}(h:os.ok size xs):a'.ok ⟨os.a,0,os.c,os.aK⟩ size []:=by refine⟨by simp,λaC=>⟨rfl,(h.nil aC).2⟩,λg au=>?_⟩;obtain⟨aa,ab,ag,aW⟩:=h.cap g au;exact⟨aa,bw _,ag,by simp⟩
def a'.V9{l:List a2}(h:os.ok 3 (l.flatMap a2.cells))(a1:∀ x∈os.aP e,x∈M):mY I M (os.a.map λg=>⟨g,0,none⟩) os.n l:=by
 have av:=h.len;rw[A3]at av;refine⟨by omega,λj an=>?_⟩;obtain⟨a,n,c,aK⟩:=os;simp only at av;cases a with
 |none=>have:=(h.nil rfl).1;simp only at this;omega
 |some g=>
  obtain⟨aa,ab,ag,aW⟩:=h.cap g rfl;simp only at aa ab aW;refine⟨⟨g,0,none⟩,rfl,?_⟩;have hm:(⟨g,.cells aK.toArray e (0,0)⟩:aB)∈M:=a1 _ (by simp[a'.aP]);have ak:=dO (I:=I) (cs:=aK) (k:=j*3) (n:=3) hm (by omega);have az:(aK.drop (j*3)).take 3=((aK.take (n*3)).drop (j*3)).take 3:=by rw[xj,rU];congr 1;omega
  rw[az,aW,xm a2.cells 3 a2.cD l j an]at ak;exact ak
def sd(pl:List (ByteArray×Int))(bu a4:List a2)(d:aS):List a2:=
 d.aL.map (λk=>a4.getD k.toNat bL)++bif decide (d.k=3)then [bu.getD ((ee d.t pl).getD 0).toNat bL]else []
def ek(pl:List (ByteArray×Int))(bu:List a2):List aS->List a2->List a2
 |[],a4=>a4| d::ds,a4=>ek pl bu ds (a4++[hP d (sd pl bu a4 d)])
def Gn(pl:List (ByteArray×Int))(bu:List a2):∀ (ds:List aS) (a4:List a2),(ek pl bu ds a4).length=a4.length+ds.length
 |[],a4=>rfl| d::ds,a4=>by rw[ek,Gn];simp;omega
def V'(pl:List (ByteArray×Int))(n:Nat)(ns:List aS):Prop:=∀ d∈ns,d.k=3->∃ i:Nat,ee d.t pl=some (i:Int)/\i<n
def Wa{n:Int}(h:fits d n=true):d.k<10:=by apply Int.lt_of_not_ge;intro cP;have:(10:Int)<=d.k:=cP;simp[fits,this]at h
def Wb{n:Int}(ar:0<=d.k)(h:fits d n=true)(af:6<=d.k):0<n:=by
 have pi:=Wa h;have De:d.k=6\/d.k=7\/d.k=8\/d.k=9:=by omega
 rcases De with e | e | e | e<;>(simp[fits,e,s5,p',mN]at h;omega)
def ahg(a4:List a2)(n i:Nat)(av:a4.length=i)(hi:i<n)(x:a2):(a4++List.replicate (n-i) bL).set i x=(a4++[x])++List.replicate (n-(i+1)) bL:=by subst av;rw[C7 _ _ (cj _),pD,show n-a4.length=(n-(a4.length+1))+1 by omega,y1,Gd];simp
def Wc:∀ n:Nat,rowOf bL.cells (n*3)=(List.replicate n bL).flatMap a2.cells:=λn=>by
 apply xi
 ·rw[A3,vv];simp[w1,madeCells]
 intro i aa ab;have ag:∀ x∈(List.replicate n bL).flatMap a2.cells,x=Value.bool false:=λx ae=>by obtain⟨y,aF,ae⟩:=Ge.1 ae;have:=List.eq_of_mem_replicate aF;subst this;simpa[a2.cells,bL]using ae
 rw[ag _ (cJ ab)];have bf:∀ j,j<3->bL.cells[j]! = Value.bool false:=λj an=>by
  match j,an with
  |0,_=>rfl| 1,_=>rfl| 2,_=>rfl
 simp only[rowOf,lq,r'];exact bf _ (Gf _ (by decide))
def vT{a4:List a2}{n i:Nat}(lK:a4.length=i)(aR:i<n)(x:a2):Nat.ble (0+i*3+x.cells.length) ((a4++List.replicate (n-i) bL).flatMap a2.cells).length=true:=by rw[oA,A3,a2.cD,cI,vv];omega
def Wd{t:cB}(ay:t.ok I)(ak:right t=true)(hm:I hC=some (iW pl)){bu:List a2}(lY:mY I M0 AY ln bu)(aA:V' pl ln t.ns) :
  Spec Tryz.prog 44 [.map (some hC),.slice AY ln lc,t.val] I M0 λv I' M'=>I'=I/\∃ b,v=.slice (some ⟨b,0,none⟩) t.n t.n/\M'=fr b (ek pl bu t.ns [])::M0:=by
 refine bN [] aV Tryz.func44 rfl rfl rfl ?_;intro B ar;have lX:=ay.n;have hz:=ay.a8.cap;refine a9.mk [] M0 _ (.refl _) ahf ?_;rintro v cU M1 -⟨rfl,rfl,rfl⟩;refine n1.mk t.n t.n rfl rfl (cj _) (by show 3*t.n<=_;omega) (by omega) ?_;refine b8.mk λen We asv=>?_;refine c4.inv (ι:=Nat×List a2×a') (λx=>{ bu:=[(0,.val (.map (some hC))),(1,.val (.slice AY ln lc)),(5,.ref 5 0),(7,.ref 7 0),(8,.val (.slice (some ⟨en,0,none⟩) t.n t.n)),(9,.val x.2.2.val),(20,.val (.slice t.a t.n t.c)),(21,.val (.int .i64 t.n)),(22,.val (.int .i64 x.1))],cl:=[(5,t.cells),(7,Ox)],cS:=cU,db:=fr en (x.2.1++List.replicate (t.n-x.1) bL)::(x.2.2.aP 46++M0) }) (λx=>x.1<=t.n/\x.2.1.length=x.1/\ek pl bu t.ns []=ek pl bu (t.ns.drop x.1) x.2.1/\∃ ks,x.2.2.ok 3 ks) (λx=>t.n-x.1) ?_ ?_
 ·refine⟨(0,[],lu),⟨bw _,rfl,rfl,[],mT 3⟩,?_,o4,.cons rfl (.cons rfl .nil)⟩;have e:rowOf bL.cells (t.n*3)=(List.replicate t.n bL).flatMap a2.cells:=Wc t.n;simp only[fr,jZ,xG];rw[<-e];exact .refl
 rintro⟨i,a4,gk⟩⟨hi,lK,J4,asw,pA⟩;simp only at hi lK J4 pA;refine aU.mk (λh=>?_) (λh=>?_)
 rotate_left
 ·have cP:i=t.n:=by have:¬ (i:Int)<(t.n:Int):=dj h;omega
  subst cP;rw[ji (by omega),ek]at J4;refine⟨cU,fr en (a4++List.replicate (t.n-t.n) bL)::M0,.sub (.cons_cons _ (jY _ _)) .refl,rfl,en,rfl,?_⟩;rw[J4,pD,List.replicate_zero,eh]
 have aR:i<t.n:=by have:(i:Int)<(t.n:Int):=c1 h;omega
 have bZ:i<t.ns.length:=by omega
 obtain⟨ad,bF,bk⟩:=ay.a8.row aS.cD aR bZ;have eS:=cJ bZ;have ah:=ay.ns _ eS;have dS:=ah.kn;have A4:=ah.a8.cap;have lQ:=mm ak i bZ;have tj:=AH ak bZ;have Wf:=aA _ eS;have Wg:ek pl bu t.ns []=ek pl bu (t.ns.drop (i+1)) (a4++[hP t.ns[i] (sd pl bu a4 t.ns[i])]):=by rw[J4,eE bZ,ek]
 generalize t.ns[i]=d at bk ah dS A4 lQ tj Wf Wg;have e3:=ah.k.1;have Oz:=Wa tj;have oy:∀ {M:List aB} {q:Int},fr en (a4++List.replicate (t.n-i) bL)∈M->q∈d.aL->cr cU M ((⟨en,0,none⟩:Addr).add (q.toNat*3)) 3 (a4.getD q.toNat bL).cells:=fun {M q} a1 aM=>by
  have Gp:=lQ q aM;have fm:q.toNat<a4.length:=by omega
  have:=Dd (I:=cU) a1 (j:=q.toNat) (by rw[cI];omega);rw[List.getElem_append_left fm]at this;simpa[cC,fm]using this
 refine bi.mk ad i bF rfl aR ?_;refine aI.mk _ (bk _) ?_;refine ik.mk 0 0 rfl rfl (cj _) (bw _) ?_;refine c4.inv (ι:=Nat×a'×List a2) (λx=>{ bu:=[(0,.val (.map (some hC))),(1,.val (.slice AY ln lc)),(5,.ref 5 0),(7,.ref 7 0),(8,.val (.slice (some ⟨en,0,none⟩) t.n t.n)),(9,.val x.2.1.val),(10,.val (.int .i64 i)),(11,.ref 11 0),(20,.val (.slice t.a t.n t.c)),(21,.val (.int .i64 t.n)),(22,.val (.int .i64 i)),(30,.val (.slice d.hk d.kn d.gR)),(31,.val (.int .i64 d.kn)),(32,.val (.int .i64 x.1))],cl:=[(5,t.cells),(7,Ox),(11,d.cells)],cS:=cU,db:=fr en (a4++List.replicate (t.n-i) bL)::(x.2.1.aP 46++M0) }) (λx=>x.1<=d.kn/\x.2.1.ok 3 (x.2.2.flatMap a2.cells)/\x.2.2=(d.aL.take x.1).map λk=>a4.getD k.toNat bL) (λx=>d.kn-x.1) ?_ ?_
 ·exact⟨(0,⟨gk.a,0,gk.c,gk.aK⟩,[]),⟨bw _,a'.zero pA,rfl⟩,.refl,Tj,.cons rfl (.cons rfl (.cons rfl .nil))⟩
 rintro⟨k,cA,iR⟩⟨af,fI,cw⟩;simp only at af fI cw;have asx:cA.n=iR.length:=by have:=fI.len;rw[A3]at this;omega
 have OA:iR.length<=k:=by rw[cw,c8];exact Aw _ _
 refine aU.mk (λh=>?_) (λh=>?_)
 ·have hc:k<d.kn:=by have:(k:Int)<(d.kn:Int):=c1 h;omega
  have o1:k<d.aL.length:=by omega
  obtain⟨fR,fS,e2⟩:=ah.a8.one hc o1;have aM:=lQ _ (cJ o1);refine bi.mk fR k fS rfl hc ?_;refine aI.mk _ (e2 _) ?_;refine bi.mk ⟨en,0,none⟩ d.aL[k].toNat rfl (by omega) (by omega) ?_;refine aI.mk _ (oy (.head _) (cJ o1)) ?_;refine b8.mk λbW gJ te=>?_;refine bn.append aV rfl (by simp) (e:=46) rfl rfl rfl cA fI rfl (m:=1) rfl (bV:=(a4.getD d.aL[k].toNat bL).cells) (by decide) (dO (b:=bW) (cs:=(a4.getD d.aL[k].toNat bL).cells) (k:=0) (n:=3) (T:=46) (.head _) (bS rfl)) rfl (Mr:=⟨bW,.cells (a4.getD d.aL[k].toNat bL).cells.toArray 46 (0,0)⟩::fr en (a4++List.replicate (t.n-i) bL)::M0) (by
   have:=zg [(⟨bW,.cells (a4.getD d.aL[k].toNat bL).cells.toArray 46 (0,0)⟩:aB),fr en (a4++List.replicate (t.n-i) bL)] (cA.aP 46) M0;exact this) (by simp only[maxLen];omega) (by show(cA.n+1)*3<=_;omega) ?_
  intro a6 fC A5 h4 fM iF oz;refine bd.mk _ (cx (i:=k) (by omega)) ?_;refine⟨(k+1,⟨some a6,cA.n+1,fC,A5⟩,iR++[a4.getD d.aL[k].toNat bL]),⟨⟨by simp only;omega,?_,?_⟩,by simp only;omega⟩,.sub (M1:=[(⟨a6,.cells A5.toArray 46 (0,0)⟩:aB),fr en (a4++List.replicate (t.n-i) bL)]++M0) (.cons_cons _ (.cons _ (.refl _))) (.perm (List.Perm.swap _ _ _) .refl),Tj,.cons rfl (.cons rfl (.cons rfl .nil))⟩;·simp only;rw[V8];exact VV fI (a2.cD _) h4 fM iF oz
  ·simp only;rw[gf o1,e7,<-cw];rfl
 have cP:d.kn<=k:=by have:¬ (k:Int)<(d.kn:Int):=dj h;omega
 rw[eW (by omega)]at cw;have asy:iR.length=d.aL.length:=by rw[cw,c8]
 have gq:cA.n+1<=140737488355328:=by omega
 clear h af OA;have gU:∀ x:a2,bo ((a4++List.replicate (t.n-i) bL).flatMap a2.cells) (0+i*3) x.cells=((a4++[x])++List.replicate (t.n-(i+1)) bL).flatMap a2.cells:=λx=>by rw[c0,Oy _ _ (by simp;omega),ahg a4 t.n i lK aR]
 have hinv:∀ (A6:a') (OB:List Value),A6.ok 3 OB->((i+1<=t.n/\(a4++[hP d (sd pl bu a4 d)]).length=i+1/\ek pl bu t.ns []=ek pl bu (t.ns.drop (i+1)) (a4++[hP d (sd pl bu a4 d)])/\∃ ks,A6.ok 3 ks)/\t.n-(i+1)<t.n-i):=λA6 OB ab=>
  ⟨⟨aR,by simp[lK],Wg,OB,ab⟩,by omega⟩
 by_cases ag:d.k=3
 ·refine aU.mk (λ_=>?_) (λh=>absurd h (by simp[ag]));obtain⟨q,Gq,A7⟩:=Wf ag;have Gr:sd pl bu a4 d=iR++[bu.getD q bL]:=by rw[sd,<-cw,Gq,ag];rfl
  have fm:q<bu.length:=by rw[lY.n];exact A7
  obtain⟨iG,CZ,gW⟩:=lY.rd q fm;have ahh:bu.getD q bL=bu[q]:=by simp[cC,fm]
  refine bn.ahd aV rfl (by simp) rfl rfl rfl rfl (λw=>F3 w) (l:=pl) (g:=hC) rfl rfl (.inl hm) ?_;rw[Gq];refine bi.mk iG q CZ rfl A7 ?_;refine aI.mk _ (gW.sub λx ae=>by simp[ae]) ?_;refine b8.mk λbW gJ te=>?_;refine bn.append aV rfl (by simp) (e:=46) rfl rfl rfl cA fI rfl (m:=1) rfl (bV:=bu[q].cells) (by decide) (dO (b:=bW) (cs:=bu[q].cells) (k:=0) (n:=3) (T:=46) (.head _) (bS rfl)) rfl (Mr:=⟨bW,.cells bu[q].cells.toArray 46 (0,0)⟩::fr en (a4++List.replicate (t.n-i) bL)::M0) (by
   have:=zg [(⟨bW,.cells bu[q].cells.toArray 46 (0,0)⟩:aB),fr en (a4++List.replicate (t.n-i) bL)] (cA.aP 46) M0;exact this) (by simp only[maxLen];omega) (by show(cA.n+1)*3<=_;omega) ?_
  intro a6 fC A5 h4 fM iF oz;have gh:=VV (g:=a6) fI (a2.cD bu[q]) h4 fM iF oz;rw[<-V8,<-ahh,<-Gr]at gh;have g7:=a'.V9 (I:=cU) (M:=⟨a6,.cells A5.toArray 46 (0,0)⟩::⟨bW,.cells bu[q].cells.toArray 46 (0,0)⟩::fr en (a4++List.replicate (t.n-i) bL)::M0) (e:=46) gh (λx ae=>by
   simp only[a'.aP,fW]at ae;subst ae;exact .head _)
  refine c5.draw aV rfl rfl rfl ?_;obtain⟨kx,dT,s1,s2,ec,ib,lo,c7,tk,tl,tm,tn⟩:=d;simp only at ag;subst ag;refine dV.mk 3 rfl (by decide) ?_;refine hf.o5 _ [] _ perm_nil (vS (d:=⟨3,dT,s1,s2,ec,ib,lo,c7,tk,tl,tm,tn⟩) g7 gq 3 (by decide) rfl (λ_=>Nat.succ_pos _)) (λv I' M' h x ae=>by rw[h.2.2];exact ae) ?_;rintro v ev ez -⟨rfl,rfl,rfl⟩;rw[eh];refine bi.mk ⟨en,0,none⟩ i rfl rfl aR ?_;refine cp.jj [(⟨a6,.cells A5.toArray 46 (0,0)⟩:aB),⟨bW,.cells bu[q].cells.toArray 46 (0,0)⟩] M0 ((a4++List.replicate (t.n-i) bL).flatMap a2.cells) _ rfl (vT lK aR _) rfl _ (gU _) ?_;refine bd.mk _ (cx (i:=i) (by omega)) ?_;exact⟨(i+1,_,⟨some a6,cA.n+1,fC,A5⟩),hinv _ _ gh,.sub (M1:=[(⟨a6,.cells A5.toArray 46 (0,0)⟩:aB),fr en _]++M0) (.cons_cons _ (.cons _ (.refl _))) (.perm (List.Perm.swap _ _ _) .refl),o4,.cons rfl (.cons rfl .nil)⟩
 refine aU.mk (λh=>absurd (c1 h) ag) (λ_=>?_);have Gr:sd pl bu a4 d=iR:=by rw[sd,<-cw,de ag];simp
 rw[Gr]at hinv;have g7:=a'.V9 (I:=cU) (M:=fr en (a4++List.replicate (t.n-i) bL)::(cA.aP 46++M0)) (e:=46) fI (λx ae=>by simp[ae]);have jV:6<=d.k->0<cA.n:=λbP=>by have:=Wb e3 tj bP;omega
 have De:d.k=0\/d.k=1\/d.k=2\/d.k=4\/d.k=5\/d.k=6\/d.k=7\/d.k=8\/d.k=9:=by omega
 obtain⟨kx,dT,s1,s2,ec,ib,lo,c7,tk,tl,tm,tn⟩:=d;simp only at De jV ag;refine c5.draw aV rfl rfl rfl ?_;rcases De with rfl | rfl | rfl | rfl | rfl | rfl | rfl | rfl | rfl
 ·refine dV.mk 0 rfl (by decide) ?_;refine hf.o5 _ [] _ perm_nil (vS (d:=⟨0,dT,s1,s2,ec,ib,lo,c7,tk,tl,tm,tn⟩) g7 (xF gq) 0 (by decide) rfl (λh=>by omega)) (λv I' M' h x ae=>by rw[h.2.2];exact ae) ?_;rintro v ev ez -⟨rfl,rfl,rfl⟩;rw[eh];refine bi.mk ⟨en,0,none⟩ i rfl rfl aR ?_;refine cp.jj [] (cA.aP 46++M0) ((a4++List.replicate (t.n-i) bL).flatMap a2.cells) _ rfl (vT lK aR _) rfl _ (gU _) ?_;refine bd.mk _ (cx (i:=i) (by omega)) ?_;exact⟨(i+1,_,cA),hinv _ _ fI,.refl,o4,.cons rfl (.cons rfl .nil)⟩
 ·refine dV.mk 1 rfl (by decide) ?_;refine hf.o5 _ [] _ perm_nil (vS (d:=⟨1,dT,s1,s2,ec,ib,lo,c7,tk,tl,tm,tn⟩) g7 (xF gq) 1 (by decide) rfl (λh=>by omega)) (λv I' M' h x ae=>by rw[h.2.2];exact ae) ?_;rintro v ev ez -⟨rfl,rfl,rfl⟩;rw[eh];refine bi.mk ⟨en,0,none⟩ i rfl rfl aR ?_;refine cp.jj [] (cA.aP 46++M0) ((a4++List.replicate (t.n-i) bL).flatMap a2.cells) _ rfl (vT lK aR _) rfl _ (gU _) ?_;refine bd.mk _ (cx (i:=i) (by omega)) ?_;exact⟨(i+1,_,cA),hinv _ _ fI,.refl,o4,.cons rfl (.cons rfl .nil)⟩
 ·refine dV.mk 2 rfl (by decide) ?_;refine hf.o5 _ [] _ perm_nil (vS (d:=⟨2,dT,s1,s2,ec,ib,lo,c7,tk,tl,tm,tn⟩) g7 (xF gq) 2 (by decide) rfl (λh=>by omega)) (λv I' M' h x ae=>by rw[h.2.2];exact ae) ?_;rintro v ev ez -⟨rfl,rfl,rfl⟩;rw[eh];refine bi.mk ⟨en,0,none⟩ i rfl rfl aR ?_;refine cp.jj [] (cA.aP 46++M0) ((a4++List.replicate (t.n-i) bL).flatMap a2.cells) _ rfl (vT lK aR _) rfl _ (gU _) ?_;refine bd.mk _ (cx (i:=i) (by omega)) ?_;exact⟨(i+1,_,cA),hinv _ _ fI,.refl,o4,.cons rfl (.cons rfl .nil)⟩
 ·refine dV.mk 4 rfl (by decide) ?_;refine hf.o5 _ [] _ perm_nil (vS (d:=⟨4,dT,s1,s2,ec,ib,lo,c7,tk,tl,tm,tn⟩) g7 (xF gq) 4 (by decide) rfl (λh=>by omega)) (λv I' M' h x ae=>by rw[h.2.2];exact ae) ?_;rintro v ev ez -⟨rfl,rfl,rfl⟩;rw[eh];refine bi.mk ⟨en,0,none⟩ i rfl rfl aR ?_;refine cp.jj [] (cA.aP 46++M0) ((a4++List.replicate (t.n-i) bL).flatMap a2.cells) _ rfl (vT lK aR _) rfl _ (gU _) ?_;refine bd.mk _ (cx (i:=i) (by omega)) ?_;exact⟨(i+1,_,cA),hinv _ _ fI,.refl,o4,.cons rfl (.cons rfl .nil)⟩
 ·refine dV.mk 5 rfl (by decide) ?_;refine hf.o5 _ [] _ perm_nil (vS (d:=⟨5,dT,s1,s2,ec,ib,lo,c7,tk,tl,tm,tn⟩) g7 (xF gq) 5 (by decide) rfl (λh=>by omega)) (λv I' M' h x ae=>by rw[h.2.2];exact ae) ?_;rintro v ev ez -⟨rfl,rfl,rfl⟩;rw[eh];refine bi.mk ⟨en,0,none⟩ i rfl rfl aR ?_;refine cp.jj [] (cA.aP 46++M0) ((a4++List.replicate (t.n-i) bL).flatMap a2.cells) _ rfl (vT lK aR _) rfl _ (gU _) ?_;refine bd.mk _ (cx (i:=i) (by omega)) ?_;exact⟨(i+1,_,cA),hinv _ _ fI,.refl,o4,.cons rfl (.cons rfl .nil)⟩
 ·refine dV.mk 6 rfl (by decide) ?_;refine hf.o5 _ [] _ perm_nil (vS (d:=⟨6,dT,s1,s2,ec,ib,lo,c7,tk,tl,tm,tn⟩) g7 (xF gq) 6 (by decide) rfl (λ_=>jV (by decide))) (λv I' M' h x ae=>by rw[h.2.2];exact ae) ?_;rintro v ev ez -⟨rfl,rfl,rfl⟩;rw[eh];refine bi.mk ⟨en,0,none⟩ i rfl rfl aR ?_;refine cp.jj [] (cA.aP 46++M0) ((a4++List.replicate (t.n-i) bL).flatMap a2.cells) _ rfl (vT lK aR _) rfl _ (gU _) ?_;refine bd.mk _ (cx (i:=i) (by omega)) ?_;exact⟨(i+1,_,cA),hinv _ _ fI,.refl,o4,.cons rfl (.cons rfl .nil)⟩
 ·refine dV.mk 7 rfl (by decide) ?_;refine hf.o5 _ [] _ perm_nil (vS (d:=⟨7,dT,s1,s2,ec,ib,lo,c7,tk,tl,tm,tn⟩) g7 (xF gq) 7 (by decide) rfl (λ_=>jV (by decide))) (λv I' M' h x ae=>by rw[h.2.2];exact ae) ?_;rintro v ev ez -⟨rfl,rfl,rfl⟩;rw[eh];refine bi.mk ⟨en,0,none⟩ i rfl rfl aR ?_;refine cp.jj [] (cA.aP 46++M0) ((a4++List.replicate (t.n-i) bL).flatMap a2.cells) _ rfl (vT lK aR _) rfl _ (gU _) ?_;refine bd.mk _ (cx (i:=i) (by omega)) ?_;exact⟨(i+1,_,cA),hinv _ _ fI,.refl,o4,.cons rfl (.cons rfl .nil)⟩
 ·refine dV.mk 8 rfl (by decide) ?_;refine hf.o5 _ [] _ perm_nil (vS (d:=⟨8,dT,s1,s2,ec,ib,lo,c7,tk,tl,tm,tn⟩) g7 (xF gq) 8 (by decide) rfl (λ_=>jV (by decide))) (λv I' M' h x ae=>by rw[h.2.2];exact ae) ?_;rintro v ev ez -⟨rfl,rfl,rfl⟩;rw[eh];refine bi.mk ⟨en,0,none⟩ i rfl rfl aR ?_;refine cp.jj [] (cA.aP 46++M0) ((a4++List.replicate (t.n-i) bL).flatMap a2.cells) _ rfl (vT lK aR _) rfl _ (gU _) ?_;refine bd.mk _ (cx (i:=i) (by omega)) ?_;exact⟨(i+1,_,cA),hinv _ _ fI,.refl,o4,.cons rfl (.cons rfl .nil)⟩
 ·refine dV.mk 9 rfl (by decide) ?_;refine hf.o5 _ [] _ perm_nil (vS (d:=⟨9,dT,s1,s2,ec,ib,lo,c7,tk,tl,tm,tn⟩) g7 (xF gq) 9 (by decide) rfl (λ_=>jV (by decide))) (λv I' M' h x ae=>by rw[h.2.2];exact ae) ?_;rintro v ev ez -⟨rfl,rfl,rfl⟩;rw[eh];refine bi.mk ⟨en,0,none⟩ i rfl rfl aR ?_;refine cp.jj [] (cA.aP 46++M0) ((a4++List.replicate (t.n-i) bL).flatMap a2.cells) _ rfl (vT lK aR _) rfl _ (gU _) ?_;refine bd.mk _ (cx (i:=i) (by omega)) ?_;exact⟨(i+1,_,cA),hinv _ _ fI,.refl,o4,.cons rfl (.cons rfl .nil)⟩
structure a2.le(a b:a2):Prop where
 z:a.z=true->b.z=true
 s:a.s=true->b.s=true
 f:a.f=true->b.f=true
def a2.le_refl(a:a2):a.le a:=⟨id,id,id⟩
def a2.le.trans{a b c:a2}(h:a.le b)(aX:b.le c):a.le c:=⟨λx=>aX.z (h.z x),λx=>aX.s (h.s x),λx=>aX.f (h.f x)⟩
def a2.le.antisymm{a b:a2}(h:a.le b)(aX:b.le a):a=b:=by
 obtain⟨cu,dG,dY⟩:=a;obtain⟨b1,cd,dN⟩:=b;have e:∀ {x y:Bool},(x=true->y=true)->(y=true->x=true)->x=y:=fun {x y} h aX=>by cases x<;>cases y<;>simp_all
 have az:cu=b1:=e h.z aX.z;have aE:dG=cd:=e h.s aX.s;have bz:dY=dN:=e h.f aX.f;subst az aE bz;rfl
def a2.Gs(a:a2):bL.le a:=⟨(λh=>by cases h),(λh=>by cases h),(λh=>by cases h)⟩
def a2.OC{a b:a2}(h:a.le b):a.uy=true->b.uy=true:=by intro ap;simp only[a2.uy,kH]at ap |-;exact ap.imp h.z h.s
inductive ep:List a2->List a2->Prop
 |nil:ep [] []| cons {a b l m} (h:a2.le a b) (t:ep l m):ep (a::l) (b::m)
def ep.refl:∀ l,ep l l
 |[]=>.nil| a::l=>.cons a.le_refl (ep.refl l)
def ep.trans:∀ {a b c},ep a b->ep b c->ep a c
 |_,_,_,.nil,.nil=>.nil| _,_,_,.cons h t,.cons aX cZ=>.cons (h.trans aX) (t.trans cZ)
def ep.antisymm:∀ {a b},ep a b->ep b a->a=b
 |_,_,.nil,_=>rfl| _,_,.cons h t,.cons aX cZ=>by rw[h.antisymm aX,t.antisymm cZ]
def ep.len:∀ {a b},ep a b->a.length=b.length
 |_,_,.nil=>rfl| _,_,.cons h t=>by simp[t.len]
def ep.append:∀ {a b c d},ep a b->ep c d->ep (a++c) (b++d)
 |_,_,_,_,.nil,h=>h| _,_,_,_,.cons h t,aX=>.cons h (t.append aX)
def ep.getD:∀ {a b},ep a b->∀ i,(a.getD i bL).le (b.getD i bL)
 |_,_,.nil,i=>by simp;exact a2.le_refl _
 |_,_,.cons h t,0=>h| _,_,.cons h t,i+1=>by simpa using t.getD i
def ep.of:∀ {a b:List a2},a.length=b.length->(∀ i,i<a.length->(a.getD i bL).le (b.getD i bL))->ep a b
 |[],[],_,_=>.nil| x::a,y::b,av,h=>.cons (by simpa using h 0 (by simp)) (ep.of (by simpa using av) λi hi=>by simpa using h (i+1) (by simpa using hi))
def ep.map{α:Type}{f g:α->a2}:∀ {l:List α},(∀ x∈l,(f x).le (g x))->ep (l.map f) (l.map g)
 |[],_=>.nil| x::l,h=>.cons (h x (.head _)) (ep.map λy aF=>h y (.tail _ aF))
def ep.head{a b:List a2}(h:ep a b):(a.headD bL).le (b.headD bL):=by
 cases h with
 |nil=>exact a2.le_refl _| cons h _=>exact h
def ep.Gs:∀ l:List a2,ep (List.replicate l.length bL) l
 |[]=>.nil| a::l=>.cons a.Gs (ep.Gs l)
def Wh:∀ {a b:List a2},ep a b->∀ {x y:a2×Bool},x.1.le y.1->(x.2=true->y.2=true)->(a.foldl rh x).1.le (b.foldl rh y).1/\((a.foldl rh x).2=true->(b.foldl rh y).2=true)
 |_,_,.nil,_,_,aa,ab=>⟨aa,ab⟩
 |_,_,.cons h t,x,y,aa,ab=>by
  refine Wh t ⟨?_,?_,?_⟩ ?_;·simp only[rh,b'];exact λg=>⟨aa.z g.1,h.z g.2⟩
  ·simp only[rh,kH];exact λg=>g.imp aa.s h.s
  ·simp only[rh,kH,b'];exact λg=>g.imp aa.f λg=>⟨ab g.1,h.f g.2⟩
  ·simp only[rh,b'];exact λg=>⟨ab g.1,a2.OC h g.2⟩
def Wi:∀ {a b:List a2},ep a b->∀ {x y:a2},x.le y->(a.foldl vR x).le (b.foldl vR y)
 |_,_,.nil,_,_,aa=>aa
 |_,_,.cons h t,x,y,aa=>by
  refine Wi t ⟨?_,?_,?_⟩;·simp only[vR,kH,b'];exact λg=>g.imp aa.z λg=>⟨aa.f g.1,h.z g.2⟩
  ·simp only[vR,kH,b'];exact λg=>g.imp aa.s λg=>⟨aa.f g.1,h.s g.2⟩
  ·simp only[vR,b'];exact λg=>⟨aa.f g.1,h.f g.2⟩
def ahi(d:aS){a b:a2}(h:a.le b):(xJ d a).le (xJ d b):=by
 unfold xJ;cases decide (d.hi=0)with
 |true=>exact a2.le_refl _
 |false=>
  refine⟨?_,h.s,?_⟩;·simp only[bh,kH,b'];exact λg=>g.imp h.z λg=>⟨g.1,h.f g.2⟩
  ·simp only[bh,b'];exact λg=>⟨g.1,h.f g.2⟩
def ahj(d:aS){a b:List a2}(h:ep a b):(hP d a).le (hP d b):=by
 have br:=h.head;unfold hP;cases decide (d.k=0)with
 |true=>exact a2.le_refl _| false=>
 cases decide (d.k=1)with
 |true=>exact a2.le_refl _| false=>
 cases decide (d.k=2)with
 |true=>exact a2.le_refl _| false=>
 cases decide (d.k=3)with
 |true=>exact br| false=>
 cases decide (d.k=4)with
 |true=>have ap:=Wh h (x:=(⟨true,false,false⟩,true)) (y:=(⟨true,false,false⟩,true)) (a2.le_refl _) id;refine⟨ap.1.z,?_,ap.1.f⟩;simp only[bl,bh,Gm,ti,b'];exact λg=>⟨ap.1.s g.1,ap.2 g.2⟩
 |false=>
 cases decide (d.k=5)with
 |true=>exact Wi h (a2.le_refl _)| false=>
 cases decide (d.k=6)with
 |true=>exact ahi d br| false=>
 cases decide (d.k=7)with
 |true=>exact⟨a2.OC br,id,br.f⟩| false=>
 cases decide (d.k=8)with
 |true=>exact⟨br.f,id,a2.OC br⟩| false=>exact br
def ahk{bu zn a4 Gt:List a2}(h:ep bu zn)(aC:ep a4 Gt)(d:aS):ep (sd pl bu a4 d) (sd pl zn Gt d):=by
 unfold sd;refine(ep.map λk _=>aC.getD _).append ?_;cases decide (d.k=3)with
 |true=>exact .cons (h.getD _) .nil| false=>exact .nil
def Wj{pl:List (ByteArray×Int)}{bu zn:List a2}(h:ep bu zn):∀ (ds:List aS) {a4 Gt:List a2},ep a4 Gt->ep (ek pl bu ds a4) (ek pl zn ds Gt)
 |[],_,_,aC=>aC| d::ds,_,_,aC=>Wj h ds (aC.append (.cons (ahj d (ahk h aC d)) .nil))
def hQ(pl:List (ByteArray×Int))(bu:List a2)(d:aQ):a2:=(ek pl bu d.t.ns []).getD d.t.bD.toNat bL
def Gu{bu zn:List a2}(h:ep bu zn)(d:aQ):(hQ pl bu d).le (hQ pl zn d):=(Wj h d.t.ns .nil).getD _
def mZ(pl:List (ByteArray×Int)):Nat->List aQ->List a2->List a2
 |_,[],l=>l| i,d::ds,l=>mZ pl (i+1) ds (l.set i (hQ pl l d))
structure oC(ds:List aQ)(l:List a2):Prop where
 len:l.length=ds.length
 up:∀ i (h:i<ds.length),(l.getD i bL).le (hQ (bR ds) l ds[i])
 least:∀ m:List a2,m.length=ds.length->(∀ i (h:i<ds.length),(hQ (bR ds) m ds[i]).le (m.getD i bL))->ep l m
def Gv(l:List a2)(i j:Nat)(x:a2)(hi:i<l.length):(l.set i x).getD j bL=if i=j then x else l.getD j bL:=by
 simp only[cC,mh];by_cases e:i=j
 ·subst e;simp[hi]
 ·rw[cb e,cb e]
def oC.start(ds:List aQ):oC ds (List.replicate ds.length bL):=by
 refine⟨by simp,λi h=>?_,λm hm _=>by rw[<-hm];exact ep.Gs m⟩;have:(List.replicate ds.length bL).getD i bL=bL:=by simp[cC,h]
 rw[this];exact a2.Gs _
def oC.step{ds:List aQ}{l:List a2}(h:oC ds l){i:Nat}(hi:i<ds.length):oC ds (l.set i (hQ (bR ds) l ds[i]))/\ep l (l.set i (hQ (bR ds) l ds[i])):=by
 have fv:i<l.length:=by rw[h.len];exact hi
 have bs:ep l (l.set i (hQ (bR ds) l ds[i])):=ep.of (by simp) λj an=>by
  rw[Gv _ _ _ _ fv];by_cases e:i=j;·subst e;rw[cn rfl];exact h.up i hi
  ·rw[cb e];exact a2.le_refl _
 refine⟨⟨by simpa using h.len,λj an=>?_,λm hm aA=>?_⟩,bs⟩
 ·rw[Gv _ _ _ _ fv];by_cases e:i=j
  ·subst e;rw[cn rfl];exact Gu bs _
  ·rw[cb e];exact(h.up j an).trans (Gu bs _)
 ·have Wk:=h.least m hm aA;refine ep.of (by simp[h.len,hm]) λj an=>?_;rw[Gv _ _ _ _ fv];by_cases e:i=j
  ·subst e;rw[cn rfl];exact(Gu Wk _).trans (aA i hi)
  ·rw[cb e];exact Wk.getD j
def OD{ds:List aQ}:∀ (bb bc:List aQ) {l:List a2},ds=bc++bb->oC ds l->oC ds (mZ (bR ds) bc.length bb l)/\ep l (mZ (bR ds) bc.length bb l) /\ (mZ (bR ds) bc.length bb l=l->∀ i (h:i<ds.length),bc.length<=i->l.getD i bL=hQ (bR ds) l ds[i])
 |[],bc,l,e5,h=>⟨h,ep.refl l,λ_ i hi cP=>by rw[e5,eh]at hi;omega⟩
 |d::bb,bc,l,e5,h=>by
  have hi:bc.length<ds.length:=by rw[e5];simp
  have ah:ds[bc.length]=d:=by simp[e5]
  have fv:bc.length<l.length:=by rw[h.len];exact hi
  obtain⟨s1,s2⟩:=h.step hi;rw[ah]at s1 s2;obtain⟨h4,fM,iF⟩:=OD bb (bc++[d]) (by rw[e5];simp) s1;rw[cI,ea,gV,c0]at h4 fM iF;refine⟨h4,s2.trans fM,λe i hV cP=>?_⟩;have az:l.set bc.length (hQ (bR ds) l d)=l:=by refine ep.antisymm ?_ s2;have:mZ (bR ds) bc.length (d::bb) l=mZ (bR ds) (bc.length+1) bb (l.set bc.length (hQ (bR ds) l d)):=rfl;rw[this]at e;rw[e]at fM;exact fM
  have aE:mZ (bR ds) (bc.length+1) bb l=l:=by have:mZ (bR ds) bc.length (d::bb) l=mZ (bR ds) (bc.length+1) bb (l.set bc.length (hQ (bR ds) l d)):=rfl;rw[this,az]at e;exact e
  rw[az]at iF;by_cases aD:i=bc.length;·subst aD;have aW:=Gv l bc.length bc.length (hQ (bR ds) l d) fv;rw[az,cn rfl]at aW;rw[aW,ah]
  ·exact iF aE i hV (by omega)
structure k3(ds:List aQ)(l:List a2):Prop where
 len:l.length=ds.length
 fix:∀ i (h:i<ds.length),l.getD i bL=hQ (bR ds) l ds[i]
 least:∀ m:List a2,m.length=ds.length->(∀ i (h:i<ds.length),(hQ (bR ds) m ds[i]).le (m.getD i bL))->ep l m
def oC.done{ds:List aQ}{l:List a2}(h:oC ds l)(aJ:mZ (bR ds) 0 ds l=l):k3 ds l:=
 ⟨h.len,λi hi=>(OD ds [] rfl h).2.2 aJ i hi (bw _),h.least⟩
def k3.unique{ds:List aQ}{l cR:List a2}(h:k3 ds l)(aX:k3 ds cR):l=cR:=
 ep.antisymm (h.least cR aX.len λi hi=>by rw[<-aX.fix i hi];exact a2.le_refl _) (aX.least l h.len λi hi=>by rw[<-h.fix i hi];exact a2.le_refl _)
def Df(x:a2):Nat:=(bif x.z then 0 else 1)+((bif x.s then 0 else 1)+(bif x.f then 0 else 1))
def zo(l:List a2):Nat:=(l.map Df).sum
def ahl{a b:a2}(h:a.le b):Df b<=Df a/\(Df a<=Df b->a=b):=by
 obtain⟨cu,dG,dY⟩:=a;obtain⟨b1,cd,dN⟩:=b;obtain⟨aa,ab,ag⟩:=h;cases cu<;>cases b1<;>cases dG<;>cases cd<;>cases dY<;>cases dN<;>simp_all[Df]
def Wl:∀ {l m:List a2},ep l m->zo m<=zo l/\(zo l<=zo m->l=m)
 |_,_,.nil=>⟨cj _,λ_=>rfl⟩| _,_,.cons h t=>by obtain⟨aa,ab⟩:=ahl h;obtain⟨t1,t2⟩:=Wl t;simp only[zo,cY,oc]at t1 t2 |-;refine⟨by omega,λh=>?_⟩;rw[ab (by omega),t2 (by omega)]
def ahm{l m:List a2}(h:ep l m)(bK:m≠l):zo m<zo l:=by obtain⟨aa,ab⟩:=Wl h;apply Nat.lt_of_le_of_ne aa;intro e;exact bK (ab (by omega)).symm
def xK(nm:ByteArray):List aQ->Nat->Option Int
 |[],_=>none| d::ds,i=>bif decide (nm=d.name)then some (i:Int)else xK nm ds (i+1)
def Wm(s n:ByteArray)(v:Int):∀ l:List (ByteArray×Int),ee s (l++[(n,v)])=match ee s l with
  |some x=>some x| none=>bif decide (s=n)then some v else none
 |[]=>rfl
 |p::l=>by
  have a7:=Wm s n v l;simp only[qZ,ee];cases decide (s=p.1)with
  |true=>rfl| false=>simpa using a7
def Wn:∀ (ds:List aQ) (a4:List (ByteArray×Int)) (i:Nat) (nm:ByteArray),ee nm (ri a4 i ds)=match ee nm a4 with
  |some x=>some x| none=>xK nm ds i
 |[],a4,i,nm=>by rw[ri,xK];cases ee nm a4<;>rfl
 |d::ds,a4,i,nm=>by
  rw[ri,Wn ds,xK];cases ah:(ee d.name a4).isSome with
  |true=>
   simp only[bl];cases av:ee nm a4 with
   |some x=>rfl
   |none=>
    have:decide (nm=d.name)=false:=by rw[nr];intro e;rw[<-e,av]at ah;cases ah
    rw[this];rfl
  |false=>
   simp only[bh,Wm];cases av:ee nm a4 with
   |some x=>rfl| none=>cases decide (nm=d.name)<;>rfl
def OE(ds:List aQ)(nm:ByteArray):ee nm (bR ds)=xK nm ds 0:=Wn ds [] 0 nm
def OF:∀ {ds:List aQ} {i:Nat} {nm:ByteArray} {v:Int},xK nm ds i=some v->∃ j:Nat,v=((i+j:Nat):Int)/\j<ds.length
 |d::ds,i,nm,v,h=>by
  unfold xK at h;cases ah:decide (nm=d.name)with
  |true=>rw[ah]at h;simp only[bl,j']at h;exact⟨0,by rw[<-h];rfl,by simp⟩| false=>rw[ah]at h;obtain⟨j,aa,ab⟩:=OF h;exact⟨j+1,by rw[aa];congr 1;omega,by simpa using ab⟩
def vU(pl:List (ByteArray×Int))(ns:List aS):Bool:=ns.all λd=>!decide (d.k=3)||(ee d.t pl).isSome
def Wo{ds:List aQ}{ns:List aS}(h:vU (bR ds) ns=true):V' (bR ds) ds.length ns:=by intro d ah af;have:=eP.1 h d ah;simp only[af,C8,pT,u7]at this;obtain⟨v,aj⟩:=Option.isSome_iff_exists.1 this;have kL:=aj;rw[OE]at kL;obtain⟨j,aa,ab⟩:=OF kL;rw[c0]at aa;exact⟨j,by rw[aj,aa],ab⟩
def Wp:∀ (ds:List aQ) {a4 r:List (ByteArray×Int)} {i:Nat},ls a4 i ds=some r->ri a4 i ds=r
 |[],a4,r,i,h=>by simp only[ls,j']at h;exact h
 |d::ds,a4,r,i,h=>by
  unfold ls at h;cases ah:(ee d.name a4).isSome with
  |true=>rw[ah]at h;cases h| false=>rw[ah]at h;rw[ri,ah];exact Wp ds h
def ahn{d:aQ}{bT:aS}(aq:bT∈d.t.ns):∀ (ds:List aQ) (i:Nat),d∈ds->∃ j,(j,bT)∈qi i ds:=by
 intro ds
 induction ds with
 |nil=>intro i ah;cases ah
 |cons x ds a7=>
  intro i ah;rcases ef.1 ah with e | ah;·subst e;exact⟨i,dQ.2 (.inl (dA.2 ⟨bT,aq,rfl⟩))⟩
  ·obtain⟨j,an⟩:=a7 (i+1) ah;exact⟨j,dQ.2 (.inr an)⟩
def aho(h:dF ax g=0):∀ d∈g.ds,vU (bR g.ds) d.t.ns=true:=by
 unfold dF at h;cases aa:decide ((g.n:Int)=0)with
 |true=>rw[aa]at h;cases h| false=>
 cases ab:ow g.ds with
 |false=>rw[aa,ab]at h;cases h| true=>
 cases ag:nF ax g with
 |true=>rw[aa,ab,ag]at h;cases h| false=>
 rw[aa,ab,ag]at h;simp only[bh,pT]at h;split at h
 ·cases h
 ·rename_i a4 lK;have aD:bR g.ds=a4:=Wp g.ds lK;cases aW:q' a4 g.ds with
  |false=>rw[aW]at h;cases h| true=>intro d ah;rw[aD,vU,eP];intro bT cg;obtain⟨j,an⟩:=ahn cg g.ds 0 ah;exact eP.1 aW _ an
def ahp(h:dF ax g=0):ow g.ds=true:=by
 unfold dF at h;cases aa:decide ((g.n:Int)=0)with
 |true=>rw[aa]at h;cases h| false=>
 cases ab:ow g.ds with
 |false=>rw[aa,ab]at h;cases h| true=>rfl
def mY.mono{a:Option Addr}{n:Nat}{ks:List a2}(h:mY I M a n ks)(bA:∀ b o,I b=some o->I' b=some o):mY I' M a n ks:=
 ⟨h.n,λj an=>by
  obtain⟨ad,aa,ab⟩:=h.rd j an;exact⟨ad,aa,ab.mono bA⟩⟩
def J5{b:Nat}{l:List a2}(a1:fr b l∈M):mY I M (some ⟨b,0,none⟩) l.length l:=
 ⟨rfl,λj an=>⟨_,rfl,Dd a1 an⟩⟩
def zp(g:bJ)(bu:List a2)(t:cB):Option (List a2):=bif decide (bu.length=g.n)&&(right t&&vU (bR g.ds) t.ns)then some (ek (bR g.ds) bu t.ns [])else none
def ahq(bp:e4 I ax)(au:g.ok I){t:cB}(ay:t.ok I){bu:List a2}(lY:mY I M0 AY ln bu) :
  Spec Tryz.prog 45 [g.val,.slice AY ln lc,t.val] I M0 λv I' M'=>(∀ b o,I b=some o->I' b=some o) /\
   ((zp g bu t=none/\v=.tuple #[.slice none 0 0,.bool false]/\M'=M0)\/∃ r b,zp g bu t=some r/\v=.tuple #[.slice (some ⟨b,0,none⟩) t.n t.n,.bool true]/\M'=fr b r::M0):=by
 refine bN [] aV Tryz.func45 rfl rfl rfl ?_;intro B ar;have eH:=au.n;have lX:=ay.n;have hz:=ay.a8.cap;have OG:=lY.n;refine b4.mk (λh=>?_) (λh=>?_)
 rotate_left
 ·refine⟨_,_,.refl,λ_ _ h=>h,.inl ⟨?_,rfl,rfl⟩⟩;have bK:¬ (ln:Int)=(g.n:Int):=by simpa using h
  have:decide (bu.length=g.n)=false:=de (by omega);simp[zp,this]
 have Dg:ln=g.n:=by
  have:(ln:Int)=(g.n:Int):=by simpa using h
  omega
 have gY:decide (bu.length=g.n)=true:=eN (by omega);refine a9.mk [] M0 _ (.refl _) (xn bp.c ay) ?_;rintro v cU M1 -⟨rfl,rfl,rfl⟩;refine aU.mk (λh=>?_) (λh=>?_)
 ·refine⟨_,_,.refl,λ_ _ h=>h,.inl ⟨?_,rfl,rfl⟩⟩;have:right t=false:=by simpa using h
  simp[zp,this]
 have ak:right t=true:=by simpa using h
 refine a9.mk [] M0 _ (.refl _) (V7 au) ?_;rintro v ev ez -⟨eM,rfl,hC,rfl,Dh⟩;have nC:=ay.mono eM;refine c4.inv (ι:=Nat) (λx=>{ bu:=[(1,.val (.slice AY ln lc)),(3,.ref 3 0),(5,.ref 5 0),(8,.val (.map (some hC))),(27,.val (.slice t.a t.n t.c)),(28,.val (.int .i64 t.n)),(29,.val (.int .i64 x))],cl:=[(3,[.slice g.a g.n g.c]),(5,t.cells)],cS:=ev,db:=M0 }) (λx=>x<=t.n/\∀ d∈t.ns.take x,(!decide (d.k=3)||(ee d.t (bR g.ds)).isSome)=true) (λx=>t.n-x) ?_ ?_
 ·exact⟨0,⟨bw _,λd ah=>by simp at ah⟩,.refl,kg,.cons rfl (.cons rfl .nil)⟩
 rintro i⟨hi,n6⟩;refine aU.mk (λh=>?_) (λh=>?_)
 ·have aR:i<t.n:=by have:(i:Int)<(t.n:Int):=c1 h;omega
  have bZ:i<t.ns.length:=by omega
  obtain⟨ad,bF,bk⟩:=nC.a8.row aS.cD aR bZ;have kk:t.ns.take (i+1)=t.ns.take i++[t.ns[i]]:=gf bZ;have g4:=cJ bZ;have next:(!decide (t.ns[i].k=3)||(ee t.ns[i].t (bR g.ds)).isSome)=true->∀ d∈t.ns.take (i+1),(!decide (d.k=3)||(ee d.t (bR g.ds)).isSome)=true:=λh d ah=>by
   rw[kk]at ah;rcases dQ.1 ah with ah | ah;·exact n6 d ah
   ·simp only[fW]at ah;rw[ah];exact h
  refine bi.mk ad i bF rfl aR ?_;refine aI.mk _ (bk _) ?_;refine aU.mk (λag=>?_) (λag=>?_);·refine bd.mk _ (cx (i:=i) (by omega)) ?_;refine⟨i+1,⟨⟨by omega,next ?_⟩,by omega⟩,.refl,kg,.cons rfl (.cons rfl .nil)⟩;rw[show(!decide (t.ns[i].k=3))=true from ag];rfl
  ·refine bn.V6 aV rfl (by simp) rfl rfl rfl rfl (λw=>F3 w) (l:=bR g.ds) (g:=hC) rfl rfl (.inl Dh) ?_;refine aU.mk (λaW=>?_) (λaW=>?_)
   ·refine⟨_,_,.refl,eM,.inl ⟨?_,rfl,rfl⟩⟩;have bC:vU (bR g.ds) t.ns=false:=by
     rw[vU,Jk];refine⟨_,g4,?_⟩;have bP:(ee t.ns[i].t (bR g.ds)).isSome=false:=by simpa using aW
     rw[bP,show(!decide (t.ns[i].k=3))=false from ag];simp
    simp[zp,bC]
   ·refine bd.mk _ (cx (i:=i) (by omega)) ?_;refine⟨i+1,⟨⟨by omega,next ?_⟩,by omega⟩,.refl,kg,.cons rfl (.cons rfl .nil)⟩;have bP:(ee t.ns[i].t (bR g.ds)).isSome=true:=by simpa using aW
    rw[bP];simp
 have cP:i=t.n:=by have:¬ (i:Int)<(t.n:Int):=dj h;omega
 rw[eW (by omega)]at n6;have dB:vU (bR g.ds) t.ns=true:=eP.2 n6;have Di:=Wo dB;rw[eH,<-Dg]at Di;refine a9.mk M0 [] _ perm_nil (Wd nC ak Dh (lY.mono eM) Di) ?_;rintro v hK rV -⟨rfl,b,rfl,rfl⟩;rw[eh];exact⟨_,_,.refl,eM,.inr ⟨_,b,by rw[zp,gY,ak,dB];rfl,rfl,rfl⟩⟩
structure vV(g:bJ):Prop where
 n:g.ds.length=g.n
 right:∀ d∈g.ds,right d.t=true
 named:∀ d∈g.ds,vU (bR g.ds) d.t.ns=true
def J7(aq:g.ds.length=g.n)(h:dF ax g=0):vV g:=by refine⟨aq,λd ah=>?_,aho h⟩;have:=eP.1 (ahp h) d ah;simp only[normal,b']at this;exact this.2.1
def ofM(b6 hC eI gl b1:Nat)(g:bJ)(l:List a2):List aB:=[⟨b6,.cells #[.map (some hC)] 96 (0,0)⟩,⟨eI,.cells #[.slice (some ⟨gl,0,none⟩) g.n g.n] 34 (0,0)⟩,fr gl l,⟨b1,.cells #[.slice g.a g.n g.c] 24 (0,0)⟩]
def Gw(a b c d:α):[a,b,c,d].Perm ([c]++[a,b,d]):=qk (l₁:=[a,b]) (l₂:=[d])
def ahr(x a b c d:α):[x,a,b,c,d].Perm ([c]++[x,a,b,d]):=qk (l₁:=[x,a,b]) (l₂:=[d])
def J8{b:Nat}{f:a2}(a1:(⟨b,.cells f.cells.toArray 46 (0,0)⟩:aB)∈M):cr I M (⟨b,0,none⟩:Addr) 3 f.cells:=⟨rfl,_,_,_,.inr ⟨_,a1,rfl,rfl⟩,rfl,rfl⟩
def Wq{l:List a2}{i:Nat}(hi:i<l.length){x:a2}:Nat.ble (0+i*3+x.cells.length) (l.flatMap a2.cells).length=true:=by rw[oA,A3,a2.cD];omega
def cp.a0{a:Addr}{K:List aB->Prop}(bc post:List aB)(cs:Array Value)(T:Nat)(a1:M=bc++⟨a.block,.cells cs T (0,0)⟩::post)(ap:a.spot=none)(ai:Nat.ble (a.off+vs.length) cs.size=true)(aa:fO vs=true)(cs':List Value)(he:bo cs.toList a.off vs=cs')(k:K (bc++⟨a.block,.cells cs'.toArray T (0,0)⟩::post)):cp M a vs K:=
 ⟨bc,post,cs,T,a1,ap,bS ai,aa,by rw[he];exact k⟩
def ahs(au:g.ok I)(hm:vV g){b6 eI gl b1:Nat}(Dh:I hC=some (iW (bR g.ds))){dd:List a2}(Co:oC g.ds dd) :
  Spec Tryz.prog 43 [ptr b1,ptr b6,ptr eI] I (ofM b6 hC eI gl b1 g dd) λv I' M'=>v=.bool (decide (mZ (bR g.ds) 0 g.ds dd≠dd))/\I'=I/\M'=ofM b6 hC eI gl b1 g (mZ (bR g.ds) 0 g.ds dd):=by
 refine bN [] aV Tryz.func43 rfl rfl rfl ?_;intro B ar;have eH:=au.n;have hz:=au.a8.cap;have aht:∀ {M:List aB},(⟨b1,.cells #[.slice g.a g.n g.c] 24 (0,0)⟩:aB)∈M->cr I M ((⟨b1,0,none⟩:Addr).add 0) 1 [.slice g.a g.n g.c]:=λa1=>dO (cs:=[.slice g.a g.n g.c]) (k:=0) (n:=1) a1 (by simp);have ahu:∀ {M:List aB},(⟨b6,.cells #[.map (some hC)] 96 (0,0)⟩:aB)∈M->cr I M (⟨b6,0,none⟩:Addr) 1 [.map (some hC)]:=λa1=>⟨rfl,_,_,_,.inr ⟨_,a1,rfl,rfl⟩,rfl,rfl⟩;have Gx:∀ {M:List aB},(⟨eI,.cells #[.slice (some ⟨gl,0,none⟩) g.n g.n] 34 (0,0)⟩:aB)∈M->cr I M (⟨eI,0,none⟩:Addr) 1 [.slice (some ⟨gl,0,none⟩) g.n g.n]:=λa1=>⟨rfl,_,_,_,.inr ⟨_,a1,rfl,rfl⟩,rfl,rfl⟩;refine aI.mk _ (aht (by simp[ofM])) ?_;refine c4.inv (ι:=Nat×List a2) (λx=>{ bu:=[(0,.val (ptr b1)),(1,.val (ptr b6)),(2,.val (ptr eI)),(4,.val (.bool (decide (x.2≠dd)))),(9,.val (.slice g.a g.n g.c)),(10,.val (.int .i64 g.n)),(11,.val (.int .i64 x.1))],cS:=I,db:=ofM b6 hC eI gl b1 g x.2 }) (λx=>x.1<=g.n/\oC g.ds x.2/\ep dd x.2/\mZ (bR g.ds) 0 g.ds dd=mZ (bR g.ds) x.1 (g.ds.drop x.1) x.2) (λx=>g.n-x.1) ?_ ?_
 ·refine⟨(0,dd),⟨bw _,Co,ep.refl _,rfl⟩,.refl,.cons .refl (.cons .refl (.cons .refl (.cons ?_ (fH)))),.nil⟩;exact J2 (by simp)
 rintro⟨i,l⟩⟨hi,rj,bs,ic⟩;simp only at hi rj bs ic;have jf:=rj.len;refine aU.mk (λh=>?_) (λh=>?_)
 rotate_left
 ·have cP:i=g.n:=by have:¬ (i:Int)<(g.n:Int):=dj h;omega
  rw[ji (by omega),mZ]at ic;exact⟨_,_,.refl,by rw[ic],rfl,by rw[ic]⟩
 have aR:i<g.n:=by have:(i:Int)<(g.n:Int):=c1 h;omega
 have bZ:i<g.ds.length:=by omega
 have fv:i<l.length:=by omega
 obtain⟨ad,bF,bk⟩:=au.a8.row aQ.cD aR bZ;have eS:=cJ bZ;have ah:=au.ds _ eS;have ak:=hm.right _ eS;have Di:=Wo (hm.named _ eS);rw[show g.ds.length=l.length from jf.symm]at Di;obtain⟨zq,vd⟩:=rj.step bZ;have xL:mZ (bR g.ds) 0 g.ds dd=mZ (bR g.ds) (i+1) (g.ds.drop (i+1)) (l.set i (hQ (bR g.ds) l g.ds[i])):=by rw[ic,eE bZ,mZ]
 have Gy:hQ (bR g.ds) l g.ds[i]=(ek (bR g.ds) l g.ds[i].t.ns []).getD g.ds[i].t.bD.toNat bL:=rfl;generalize hQ (bR g.ds) l g.ds[i]=f at zq vd xL Gy;generalize g.ds[i]=d at bk ah ak Di Gy;have AG:=vG ak;have lX:=ah.t.n;have mg:=Gn (bR g.ds) l d.t.ns [];simp only[gV,c0]at mg;have gW:d.t.bD.toNat<(ek (bR g.ds) l d.t.ns []).length:=by omega
 have vg:(ek (bR g.ds) l d.t.ns [])[d.t.bD.toNat]=f:=by rw[Gy];simp[cC,gW]
 have OH:=Wd (M0:=[fr gl l]) (ln:=l.length) (lc:=g.n) ah.t ak Dh (J5 (I:=I) (fW.2 rfl)) Di;rw[show l.length=g.n by omega]at OH;refine bi.mk ad i bF rfl aR ?_;refine aI.mk _ (bk _) ?_;have ahv:l.getD i bL=l[i]:=by simp[cC,fv]
 have more:(!decide (f=l[i]))=true->decide (l.set i f≠dd)=true:=λh=>by
  have bK:f≠l[i]:=by simpa using h
  rw[eU];intro e;have aE:l.set i f=l:=by refine ep.antisymm ?_ vd;rw[e];exact bs
  have ag:=Gv l i i f fv;rw[aE,cn rfl,ahv]at ag;exact bK ag.symm
 have same:(!decide (f=l[i]))=false->l.set i f=l:=λh=>by
  have he:f=l[i]:=by simpa using h
  rw[he];exact List.set_getElem_self fv
 refine c5.draw aV rfl rfl rfl ?_;refine aI.mk _ (ahu (by simp[ofM])) ?_;refine aI.mk _ (Gx (by simp[ofM])) ?_;refine⟨?_,?_⟩
 ·refine hf.o5 [fr gl l] [⟨b6,.cells #[.map (some hC)] 96 (0,0)⟩,⟨eI,.cells #[.slice (some ⟨gl,0,none⟩) g.n g.n] 34 (0,0)⟩,⟨b1,.cells #[.slice g.a g.n g.c] 24 (0,0)⟩] _ (Gw ..) OH (λv I' M' h x ae=>by obtain⟨-,b,-,rfl⟩:=h;exact .tail _ ae) ?_;rintro v ev ez -⟨rfl,b,rfl,rfl⟩;refine bi.mk ⟨b,0,none⟩ d.t.bD.toNat rfl (by omega) (by omega) ?_;refine aI.mk _ (Dd (.head _) gW) ?_;rw[vg];refine b8.mk λb7 J9 OI=>?_;refine cp.a0 [] [fr b (ek (bR g.ds) l d.t.ns []),fr gl l,⟨b6,.cells #[.map (some hC)] 96 (0,0)⟩,⟨eI,.cells #[.slice (some ⟨gl,0,none⟩) g.n g.n] 34 (0,0)⟩,⟨b1,.cells #[.slice g.a g.n g.c] 24 (0,0)⟩] _ _ rfl rfl rfl rfl f.cells rfl ?_;refine c5.draw aV rfl rfl rfl ?_;refine aI.mk f.cells (J8 (by simp)) ?_;refine aI.mk _ (Gx (by simp)) ?_;refine bi.mk ⟨gl,0,none⟩ i rfl rfl aR ?_;refine aI.mk _ (Dd (by simp) fv) ?_;refine e'.V1 (p:=f) (q:=l[i]) ?_;refine aU.mk (λh=>?_) (λh=>?_)
  ·refine aI.mk _ (Gx (by simp)) ?_;refine aI.mk f.cells (J8 (by simp)) ?_;refine bi.mk ⟨gl,0,none⟩ i rfl rfl aR ?_;refine cp.jj [(⟨b7,.cells f.cells.toArray 46 (0,0)⟩:aB),fr b (ek (bR g.ds) l d.t.ns [])] [⟨b6,.cells #[.map (some hC)] 96 (0,0)⟩,⟨eI,.cells #[.slice (some ⟨gl,0,none⟩) g.n g.n] 34 (0,0)⟩,⟨b1,.cells #[.slice g.a g.n g.c] 24 (0,0)⟩] (l.flatMap a2.cells) _ rfl (Wq fv) rfl ((l.set i f).flatMap a2.cells) (by rw[c0];exact Oy l i fv f) ?_;refine bd.mk _ (cx (i:=i) (by omega)) ?_;refine⟨(i+1,l.set i f),⟨⟨by simp only;omega,zq,bs.trans vd,xL⟩,by simp only;omega⟩,.sub (M1:=[fr gl (l.set i f),⟨b6,.cells #[.map (some hC)] 96 (0,0)⟩,⟨eI,.cells #[.slice (some ⟨gl,0,none⟩) g.n g.n] 34 (0,0)⟩,⟨b1,.cells #[.slice g.a g.n g.c] 24 (0,0)⟩]) (by exact .cons _ (.cons _ (.refl _))) (.perm (Gw ..).symm .refl),.cons .refl (.cons .refl (.cons .refl (.cons (J2 (more h).symm) (fH)))),.nil⟩
  ·have he:l.set i f=l:=same h;rw[he]at xL;refine bd.mk _ (cx (i:=i) (by omega)) ?_;exact⟨(i+1,l),⟨⟨by simp only;omega,rj,bs,xL⟩,by simp only;omega⟩,.sub (M1:=[fr gl l,⟨b6,.cells #[.map (some hC)] 96 (0,0)⟩,⟨eI,.cells #[.slice (some ⟨gl,0,none⟩) g.n g.n] 34 (0,0)⟩,⟨b1,.cells #[.slice g.a g.n g.c] 24 (0,0)⟩]) (by exact .cons _ (.cons _ (.refl _))) (.perm (Gw ..).symm .refl),kg,.nil⟩
 ·refine b8.mk λb7 J9 OI=>?_;refine hf.o5 [fr gl l] [(⟨b7,.cells bL.cells.toArray 46 (0,0)⟩:aB),⟨b6,.cells #[.map (some hC)] 96 (0,0)⟩,⟨eI,.cells #[.slice (some ⟨gl,0,none⟩) g.n g.n] 34 (0,0)⟩,⟨b1,.cells #[.slice g.a g.n g.c] 24 (0,0)⟩] _ (ahr ..) OH (λv I' M' h x ae=>by obtain⟨-,b,-,rfl⟩:=h;exact .tail _ ae) ?_;rintro v ev ez -⟨rfl,b,rfl,rfl⟩;refine bi.mk ⟨b,0,none⟩ d.t.bD.toNat rfl (by omega) (by omega) ?_;refine aI.mk _ (Dd (.head _) gW) ?_;rw[vg];refine cp.a0 [fr b (ek (bR g.ds) l d.t.ns []),fr gl l] [⟨b6,.cells #[.map (some hC)] 96 (0,0)⟩,⟨eI,.cells #[.slice (some ⟨gl,0,none⟩) g.n g.n] 34 (0,0)⟩,⟨b1,.cells #[.slice g.a g.n g.c] 24 (0,0)⟩] _ _ rfl rfl rfl rfl f.cells rfl ?_;refine c5.draw aV rfl rfl rfl ?_;refine aI.mk f.cells (J8 (by simp)) ?_;refine aI.mk _ (Gx (by simp)) ?_;refine bi.mk ⟨gl,0,none⟩ i rfl rfl aR ?_;refine aI.mk _ (Dd (by simp) fv) ?_;refine e'.V1 (p:=f) (q:=l[i]) ?_;refine aU.mk (λh=>?_) (λh=>?_)
  ·refine aI.mk _ (Gx (by simp)) ?_;refine aI.mk f.cells (J8 (by simp)) ?_;refine bi.mk ⟨gl,0,none⟩ i rfl rfl aR ?_;refine cp.jj [fr b (ek (bR g.ds) l d.t.ns [])] [(⟨b7,.cells f.cells.toArray 46 (0,0)⟩:aB),⟨b6,.cells #[.map (some hC)] 96 (0,0)⟩,⟨eI,.cells #[.slice (some ⟨gl,0,none⟩) g.n g.n] 34 (0,0)⟩,⟨b1,.cells #[.slice g.a g.n g.c] 24 (0,0)⟩] (l.flatMap a2.cells) _ rfl (Wq fv) rfl ((l.set i f).flatMap a2.cells) (by rw[c0];exact Oy l i fv f) ?_;refine bd.mk _ (cx (i:=i) (by omega)) ?_;refine⟨(i+1,l.set i f),⟨⟨by simp only;omega,zq,bs.trans vd,xL⟩,by simp only;omega⟩,.sub (M1:=[fr gl (l.set i f),⟨b6,.cells #[.map (some hC)] 96 (0,0)⟩,⟨eI,.cells #[.slice (some ⟨gl,0,none⟩) g.n g.n] 34 (0,0)⟩,⟨b1,.cells #[.slice g.a g.n g.c] 24 (0,0)⟩]) (by exact .cons _ (.cons_cons _ (.cons _ (.refl _)))) (.perm (Gw ..).symm .refl),.cons .refl (.cons .refl (.cons .refl (.cons (J2 (more h).symm) (fH)))),.nil⟩
  ·have he:l.set i f=l:=same h;rw[he]at xL;refine bd.mk _ (cx (i:=i) (by omega)) ?_;exact⟨(i+1,l),⟨⟨by simp only;omega,rj,bs,xL⟩,by simp only;omega⟩,.sub (M1:=[fr gl l,⟨b6,.cells #[.map (some hC)] 96 (0,0)⟩,⟨eI,.cells #[.slice (some ⟨gl,0,none⟩) g.n g.n] 34 (0,0)⟩,⟨b1,.cells #[.slice g.a g.n g.c] 24 (0,0)⟩]) (by exact .cons _ (.cons_cons _ (.cons _ (.refl _)))) (.perm (Gw ..).symm .refl),kg,.nil⟩
def ahw(bp:e4 I ax)(au:g.ok I):Spec Tryz.prog 11 [g.val] I [] λv I' M'=>(∀ b o,I b=some o->I' b=some o) /\
  ((dF ax g≠0/\v=.tuple #[.slice none 0 0,.int .i64 (dF ax g)]/\M'=[])\/(dF ax g=0/\∃ b l,v=.tuple #[.slice (some ⟨b,0,none⟩) g.n g.n,.int .i64 0]/\M'=[fr b l]/\k3 g.ds l)):=by
 refine bN [1,5,6] aV Tryz.func11 rfl rfl rfl ?_;intro B ar;have eH:=au.n;have hz:=au.a8.cap;refine b8.mk λb1 nx OJ=>?_;refine aI.mk [.slice g.a g.n g.c] ⟨rfl,_,_,_,.inr ⟨_,.head _,rfl,rfl⟩,rfl,rfl⟩ ?_;refine a9.mk [] [⟨b1,.cells #[.slice g.a g.n g.c] 24 (0,0)⟩] _ (.refl _) (F4 bp au) ?_;rintro v cU M1 -⟨rfl,bO,rfl⟩;refine aU.mk (λh=>?_) (λh=>?_)
 ·have hm:dF ax g≠0:=by simpa using h
  exact⟨_,_,.sub (fZ _) .refl,bO,.inl ⟨hm,rfl,rfl⟩⟩
 have hm:dF ax g=0:=by simpa using h
 have a1:=J7 eH hm;refine aI.mk _ (dO (b:=b1) (cs:=[.slice g.a g.n g.c]) (k:=0) (n:=1) (T:=24) (.head _) (by simp)) ?_;refine n1.mk g.n g.n rfl rfl (cj _) (by show 3*g.n<=_;omega) (by omega) ?_;refine b8.mk λgl oe asz=>?_;have e:rowOf bL.cells (g.n*3)=(List.replicate g.ds.length bL).flatMap a2.cells:=by rw[eH];exact Wc g.n
 refine b8.mk λeI F6 Jz=>?_;refine cp.a0 [] _ _ _ rfl rfl rfl rfl [.slice (some ⟨gl,0,none⟩) g.n g.n] rfl ?_;refine aI.mk [.slice g.a g.n g.c] ⟨rfl,_,_,_,.inr ⟨_,.tail _ (.tail _ (.head _)),rfl,rfl⟩,rfl,rfl⟩ ?_;refine a9.mk [] _ _ (.refl _) (V7 (au.mono bO)) ?_;rintro v ev ez -⟨eM,rfl,hC,rfl,Dh⟩;refine b8.mk λb6 FX NQ=>?_;refine cp.a0 [] _ _ _ rfl rfl rfl rfl [.map (some hC)] rfl ?_;refine c4.inv (ι:=List a2) (λl=>{ bu:=[(5,.val (ptr eI)),(7,.val (.func (.func 43) #[] #[ptr b1,ptr b6,ptr eI]))],cS:=ev,db:=ofM b6 hC eI gl b1 g l }) (oC g.ds) zo ?_ ?_
 ·refine⟨List.replicate g.ds.length bL,.start g.ds,?_,xb,.nil⟩;simp only[ofM,fr];rw[<-e];exact .refl
 intro l av;refine a9.mk (ofM b6 hC eI gl b1 g l) [] _ (.refl _) (ahs ((au.mono bO).mono eM) a1 Dh av) ?_;rintro v hK rV -⟨rfl,rfl,rfl⟩;obtain⟨h4,fM,-⟩:=OD g.ds [] rfl av;refine aU.mk (λh=>?_) (λh=>?_)
 ·exact⟨_,⟨h4,ahm fM (c1 h)⟩,.refl,xb,.nil⟩
 ·have aJ:mZ (bR g.ds) 0 g.ds l=l:=by have:=dj h;exact Classical.not_not.1 this
  rw[aJ];refine aI.mk [.slice (some ⟨gl,0,none⟩) g.n g.n] ⟨rfl,_,_,_,.inr ⟨_,.tail _ (.head _),rfl,rfl⟩,rfl,rfl⟩ ?_;refine⟨hK,[fr gl l],.sub (.cons _ (.cons _ (.cons_cons _ (fZ _)))) .refl,λb o h=>eM _ _ (bO _ _ h),.inr ⟨hm,gl,l,rfl,rfl,av.done aJ⟩⟩
def cB.ba(t:cB):cB:=⟨t.ns.map aS.ba,none,t.n,0,t.bD⟩
def aQ.ba(d:aQ):aQ:=⟨d.name,d.t.ba⟩
def bJ.ba(g:bJ):bJ:=⟨g.ds.map aQ.ba,none,g.n,0⟩
def Wr:∀ (ds:List aS) (i:Nat) (s:List Bool),iU i (ds.map aS.ba) s=iU i ds s
 |[],i,s=>rfl| d::ds,i,s=>by have h:∀ cc,iU (i+1) (ds.map aS.ba) cc=iU (i+1) ds cc:=λcc=>Wr ds (i+1) cc;rw[cY,iU,iU];simp only[h];rfl
def A8(t:cB):right t.ba=right t:=by unfold right cB.ba;simp only[Wr,c8]
def Ws(ns:List aS)(k:Int):kW (ns.map aS.ba) k=kW ns k:=by unfold kW;rw[jl];rfl
def Wt(ns:List aS)(kind:Int):∀ ks,lV (ns.map aS.ba) kind ks=lV ns kind ks
 |[]=>rfl| k::ks=>by rw[lV,lV,Ws,Wt ns kind ks]
def Wu(ns:List aS):∀ ds:List aS,lW (ns.map aS.ba) (ds.map aS.ba)=lW ns ds
 |[]=>rfl| d::ds=>by have h:=Wt ns d.k d.aL;rw[cY,lW,lW,Wu ns ds];show(bif !decide (d.k=4) && !decide (d.k=5)then lW ns ds else bif lV (ns.map aS.ba) d.k d.aL then lW ns ds else false)=_;rw[h]
def ahx(t:cB):normal t.ba=normal t:=by unfold normal;rw[A8];congr 1;exact Wu t.ns t.ns
def Wv:∀ (ds:List aS) (i:Nat) (gH:List Int),vH i (ds.map aS.ba) gH=vH i ds gH
 |[],i,gH=>rfl| d::ds,i,gH=>by rw[cY,vH,vH,Wv ds];rfl
def ahy(t:cB):depth t.ba=depth t:=by unfold depth;rw[A8];simp only[cB.ba,Wv,c8]
def ahz(t:cB):pj t.ba=pj t:=by unfold pj;rw[A8,ahy];rfl
def J'{α:Type}{z:α}{f g:aS->(Int->α)->α}(h:∀ d q,f d.ba q=g d q):∀ (ds:List aS) (a4:List α),mo z f (ds.map aS.ba) a4=mo z g ds a4
 |[],a4=>rfl| d::ds,a4=>by rw[cY,mo,mo,h,J' h ds]
def ahA(ax:List Int)(ns:List aS)(k:Int):kw ax (ns.map aS.ba) k=kw ax ns k:=by unfold kw qc;rw[J' (g:=y7 ax ns) (λd q=>?_)];show kv ax d++(qg (px d) (λk=>paren (g1 d.k (kW (ns.map aS.ba) k)) (q k)) false d.aL++jI d)=_;simp only[Ws];rfl
def ahB(ax:List Int)(t:cB):kX ax t.ba=kX ax t:=by unfold kX;rw[A8];have:kw ax t.ba.ns t.ba.bD=kw ax t.ns t.bD:=ahA ax t.ns t.bD;rw[this]
def ahC(ax:List Int)(d:aQ):kZ ax d.ba=kZ ax d:=by unfold kZ;have:kX ax d.ba.t=kX ax d.t:=ahB ax d.t;rw[this];rfl
def Ww(ax:List Int):∀ (ds:List aQ) (a4:List UInt8),mS ax (ds.map aQ.ba) a4=mS ax ds a4
 |[],a4=>rfl| d::ds,a4=>by rw[cY,mS,mS,ahC,Ww ax ds]
def ahD(g:bJ):um g.ba=um g:=by unfold um bJ.ba;rw[jl];congr 1;refine rT λd _=>?_;show qh d.t.ba=qh d.t;unfold qh;rw[A8];rfl
def Wx{q:aQ->Bool}(h:∀ d,q d.ba=q d)(ds:List aQ):(ds.map aQ.ba).all q=ds.all q:=by rw[List.all_map];congr 1;funext d;exact h d
def ahE(ax:List Int)(g:bJ):nF ax g.ba=nF ax g:=by unfold nF;rw[ahD];have aa:(g.ba.ds.all λd=>pj d.t)=g.ds.all λd=>pj d.t:=Wx (λd=>ahz d.t) g.ds;have ab:mS ax g.ba.ds []=mS ax g.ds []:=Ww ax g.ds [];rw[aa,ab];rfl
def ahF(ds:List aQ):ow (ds.map aQ.ba)=ow ds:=Wx (q:=λd=>kl d.name&&normal d.t) (λd=>by
 show(kl d.name&&normal d.t.ba)=_;rw[ahx]) ds
def Wy:∀ (ds:List aQ) (a4:List (ByteArray×Int)) (i:Nat),ls a4 i (ds.map aQ.ba)=ls a4 i ds
 |[],a4,i=>rfl| d::ds,a4,i=>by rw[cY,ls,ls];show(bif (ee d.name a4).isSome then none else ls (a4++[(d.name,(i:Int))]) (i+1) (ds.map aQ.ba))=_;rw[Wy ds]
def Wz:∀ (ds:List aQ) (i:Nat),qi i (ds.map aQ.ba)=(qi i ds).map λp=>(p.1,p.2.ba)
 |[],i=>rfl| d::ds,i=>by rw[cY,qi,qi,Wz ds,e7,jl];show(d.t.ns.map aS.ba).map (λn=>(i,n))++_=_;rw[jl];rfl
def ahG(a4:List (ByteArray×Int))(ds:List aQ):q' a4 (ds.map aQ.ba)=q' a4 ds:=by unfold q';rw[Wz,List.all_map];rfl
def Dj(ax:List Int)(g:bJ):dF ax g.ba=dF ax g:=by unfold dF;rw[ahE];have aa:ow g.ba.ds=ow g.ds:=ahF g.ds;have ab:ls [] 0 g.ba.ds=ls [] 0 g.ds:=Wy g.ds [] 0;have ag:∀ a4,q' a4 g.ba.ds=q' a4 g.ds:=λa4=>ahG a4 g.ds;rw[aa,ab];simp only[ag];rfl
def WA(ns:List aS)(j:Nat):(nodeAt (ns.map aS.ba) j).ba=(nodeAt ns j).ba:=by
 unfold nodeAt;simp only[cC,lE];cases ns[j]?<;>rfl
def WB(ns:List aS)(j:Nat):(nodeAt (ns.map aS.ba) j).aL=(nodeAt ns j).aL:=by have h:=congrArg aS.aL (WA ns j);exact h
def WC(ns:List aS):∀ (f:Nat) (todo b:List Int),vQ (ns.map aS.ba) f todo b=vQ ns f todo b
 |0,todo,b=>rfl
 |f+1,todo,b=>by
  unfold vQ;cases todo.getLast? with
  |none=>rfl| some n=>simp only;rw[WB,WC ns f]
def WD(d:aS)(l:List Int):d.ba.Gk l=d.Gk l:=rfl
def ahH(ns:List aS):Gl (ns.map aS.ba)=Gl ns:=by funext aG b;unfold Gl;rw[WB,<-WD (nodeAt (ns.map aS.ba) b.toNat),WA,WD]
def WE(ns:List aS)(node:Int):ux (ns.map aS.ba) node=ux ns node:=by unfold ux Dc;rw[ahH,WC,c8]
def WG(pl:List (ByteArray×Int))(bu:List a2):∀ (ds:List aS) (a4:List a2),ek pl bu (ds.map aS.ba) a4=ek pl bu ds a4
 |[],a4=>rfl| d::ds,a4=>by rw[cY,ek,ek,WG pl bu ds];rfl
def WH:∀ (ds:List aQ) (a4:List (ByteArray×Int)) (i:Nat),ri a4 i (ds.map aQ.ba)=ri a4 i ds
 |[],a4,i=>rfl| d::ds,a4,i=>by rw[cY,ri,ri,WH ds];rfl
def Dk(ds:List aQ):bR (ds.map aQ.ba)=bR ds:=WH ds [] 0
def Ka(pl:List (ByteArray×Int))(bu:List a2)(d:aQ):hQ pl bu d.ba=hQ pl bu d:=by unfold hQ;have:ek pl bu d.ba.t.ns []=ek pl bu d.t.ns []:=WG pl bu d.t.ns [];rw[this];rfl
def ahI{ds:List aQ}{l:List a2}(h:k3 ds l):k3 (ds.map aQ.ba) l:=by
 refine⟨by rw[h.len,c8],λi hi=>?_,λm hm aA=>?_⟩
 ·have c7:i<ds.length:=by simpa using hi
  rw[Dk,lq,Ka];exact h.fix i c7
 ·refine h.least m (by rw[hm,c8]) λi hi=>?_;have:=aA i (by simpa using hi);rwa [Dk,lq,Ka]at this
structure WI(I:aZ)(t:cB)(l:List aS):Prop where
 ok:t.ok I
 ba:t.ns.map aS.ba=l
 bD:t.bD=(l.length:Int)-1
def WI.len{t:cB}{l:List aS}(h:WI I t l):t.n=l.length:=by rw[<-h.ok.n,<-h.ba,c8]
def vW(ns:List aS):List Int:=ns.flatMap (·.aL)
def xM(l:List Int):Prop:=l.Pairwise (·≠·)
def Dl(s:List Bool)(l:List Int):Prop:=∀ j,s.getD j false=true ↔ ((j:Int)∈l/\j<s.length)
def WJ{i:Nat}:∀ {ks seen:List Int} {s:List Bool},i<=s.length->Dl s seen->xM seen -> ((∃ cc,km i ks s=some cc) ↔ ((∀ k∈ks,0<=k/\k<i)/\xM (seen++ks)))/\∀ cc,km i ks s=some cc->cc.length=s.length/\Dl cc (seen++ks)
 |[],seen,s,hi,hm,ah=>by refine⟨⟨λ_=>⟨λk af=>by(cases af),by simpa using ah⟩,λ_=>⟨s,rfl⟩⟩,λcc h=>?_⟩;simp only[km,j']at h;subst h;exact⟨rfl,by simpa using hm⟩
 |k::ks,seen,s,hi,hm,ah=>by
  unfold km;cases ai:decide (k<0)||(decide ((i:Int)<=k)||s.getD k.toNat false)with
  |true=>
   refine⟨⟨λ⟨cc,h⟩=>(by cases h),λ⟨aa,ab⟩=>?_⟩,λcc h=>by cases h⟩;exfalso;have ag:=aa k (.head _);simp only[kH,eU]at ai;rcases ai with ai | ai | ai;·omega
   ·omega
   ·have:=(hm _).1 ai;rw[yN ag.1]at this;exact(Oe.1 ab).2.2 k this.1 k (.head _) rfl
  |false=>
   simp only[oa,nr]at ai;obtain⟨b1,cd,dN⟩:=ai;have af:k.toNat<s.length:=by omega
   have g7:k ∉ seen:=λh=>by have:=(hm k.toNat).2 ⟨by rw[yN (by omega)];exact h,af⟩;rw[dN]at this;cases this
   have nq:Dl (s.set k.toNat true) (seen++[k]):=λj=>by
    have:=hm j;simp only[cC,mh,lT,dQ,fW]at this |-;by_cases e:k.toNat=j;·subst e;rw[cn rfl,cn af];simp only[jS,true_iff];exact⟨.inr (by omega),af⟩
    ·rw[cb e,this];constructor
     ·rintro⟨aa,ab⟩;exact⟨.inl aa,ab⟩
     ·rintro⟨aa | aa,ab⟩
      ·exact⟨aa,ab⟩
      ·omega
   have hd:xM (seen++[k]):=Oe.2 ⟨ah,by simp,λa aC b ai e=>by
    simp only[fW]at ai;subst ai;subst e;exact g7 aC⟩
   have a7:=WJ (i:=i) (ks:=ks) (seen:=seen++[k]) (s:=s.set k.toNat true) (by simpa using hi) nq hd;simp only[bh];rw[fq,AX]at a7;refine⟨a7.1.trans ⟨λ⟨aa,ab⟩=>⟨λx ae=>?_,ab⟩,λ⟨aa,ab⟩=>⟨λx ae=>aa x (.tail _ ae),ab⟩⟩,λcc h=>?_⟩
   ·rcases ef.1 ae with rfl | ae
    ·omega
    ·exact aa x ae
   ·have:=a7.2 cc h;simpa using this
def WK:∀ {ds:List aS} {i:Nat} {seen:List Int} {s:List Bool},i+ds.length<=s.length->Dl s seen->xM seen -> ((∃ cc,iU i ds s=some cc) ↔ ((∀ j (h:j<ds.length),fits ds[j] ds[j].aL.length=true/\∀ k∈ds[j].aL,0<=k/\k<i+j)/\xM (seen++vW ds)))/\∀ cc,iU i ds s=some cc->cc.length=s.length/\Dl cc (seen++vW ds)
 |[],i,seen,s,hi,hm,ah=>by refine⟨⟨λ_=>⟨λj an=>by simp at an,by simpa[vW]using ah⟩,λ_=>⟨s,rfl⟩⟩,λcc h=>?_⟩;simp only[iU,j']at h;subst h;exact⟨rfl,by simpa[vW]using hm⟩
 |d::ds,i,seen,s,hi,hm,ah=>by
  unfold iU;have af:=WJ (i:=i) (ks:=d.aL) (by simp at hi;omega) hm ah;have hr:vW (d::ds)=d.aL++vW ds:=rfl;cases aJ:fits d d.aL.length with
  |false=>refine⟨⟨λ⟨cc,h⟩=>(by cases h),λ⟨aa,ab⟩=>?_⟩,λcc h=>by cases h⟩;have:=(aa 0 (by simp)).1;simp only[xh]at this;rw[aJ]at this;cases this
  |true=>
   simp only[bl];cases aM:km i d.aL s with
   |none=>
    refine⟨⟨λ⟨cc,h⟩=>(by cases h),λ⟨aa,ab⟩=>?_⟩,λcc h=>by cases h⟩;exfalso;have:∃ cc,km i d.aL s=some cc:=af.1.2 ⟨λk af=>by
     have:=(aa 0 (by simp)).2 k af;omega,by
     rw[hr,<-fq]at ab;exact(Oe.1 ab).1⟩
    obtain⟨cc,h⟩:=this;rw[aM]at h;cases h
   |some s1=>
    obtain⟨rk,dH⟩:=af.2 s1 aM;obtain⟨h4,d1⟩:=af.1.1 ⟨s1,aM⟩;have a7:=WK (ds:=ds) (i:=i+1) (seen:=seen++d.aL) (s:=s1) (by simp at hi;omega) dH d1;rw[fq,<-hr]at a7;simp only;refine⟨a7.1.trans ⟨λ⟨aa,ab⟩=>⟨λj an=>?_,ab⟩,λ⟨aa,ab⟩=>⟨λj an=>?_,ab⟩⟩,λcc h=>?_⟩
    ·cases j with
     |zero=>exact⟨aJ,λk af=>by have:=h4 k af;omega⟩| succ j=>have:=aa j (by simpa using an);refine⟨this.1,λk af=>?_⟩;have:=this.2 k af;omega
    ·have:=aa (j+1) (by simpa using an);refine⟨this.1,λk af=>?_⟩;have:=this.2 k af;omega
    ·have:=a7.2 cc h;exact⟨this.1.trans rk,this.2⟩
def ahJ(n:Nat):Dl (List.replicate n false) []:=λj=>by
 by_cases h:j<n<;>simp[cC,Od,h]
structure WL(t:cB):Prop where
 bD:0<=t.bD/\t.bD<t.ns.length
 fits:∀ j (h:j<t.ns.length),fits t.ns[j] t.ns[j].aL.length=true
 aL:∀ j (h:j<t.ns.length),∀ k∈t.ns[j].aL,0<=k/\k<j
 diff:xM (vW t.ns)
 all:∀ j:Nat,j<t.ns.length->((j:Int)∈vW t.ns ↔ (j:Int)≠t.bD)
def ahK{t:cB}:right t=true ↔ WL t:=by
 have h:=WK (ds:=t.ns) (i:=0) (seen:=[]) (s:=List.replicate t.ns.length false) (by simp) (ahJ _) (by simp[xM]);simp only[jZ,c0,vv]at h;unfold right;constructor
 ·intro ak;simp only[b',eU]at ak;obtain⟨h4,fM,iF⟩:=ak;split at iF
  ·rename_i s ap;obtain⟨ej,ed⟩:=h.1.1 ⟨s,ap⟩;obtain⟨dH,m2⟩:=h.2 s ap;refine⟨⟨h4,fM⟩,λj an=>(ej j an).1,λj an k af=>(by have:=(ej j an).2 k af;omega),ed,λj an=>?_⟩;have ai:(s.getD j false == decide (((0+j:Nat):Int)=t.bD))=false:=by
    cases ai:(s.getD j false == decide (((0+j:Nat):Int)=t.bD))with
    |false=>rfl| true=>have:=Om (by omega) ai;rw[this]at iF;cases iF
   rw[c0]at ai;have hm:=m2 j;constructor;·intro ae e;have:=hm.2 ⟨ae,by omega⟩;rw[this,eN e]at ai;cases ai
   ·intro bK;rw[de bK]at ai;have:s.getD j false=true:=by
     revert ai;cases s.getD j false<;>simp
    exact(hm.1 this).1
  ·cases iF
 ·intro ak;obtain⟨s,ap⟩:=h.1.2 ⟨λj an=>⟨ak.fits j an,λk af=>by have:=ak.aL j an k af;omega⟩,ak.diff⟩;obtain⟨dH,m2⟩:=h.2 s ap;rw[ap];simp only[b',eU];refine⟨ak.bD.1,ak.bD.2,VU λj an=>?_⟩;rw[c0];have aC:=ak.all j (by omega);have hm:=m2 j;by_cases e:(j:Int)=t.bD
  ·have aJ:s.getD j false=false:=by
    cases ai:s.getD j false with
    |false=>rfl| true=>exact absurd e (aC.1 (hm.1 ai).1)
   rw[aJ,eN e];rfl
  ·have:=hm.2 ⟨aC.2 e,by omega⟩;rw[this,de e];rfl
section
end
def pF:Nat->List aQ->List (Nat×aS)
 |_,[]=>[]| b,d::ds=>d.t.ns.map (λn=>(b,n))++pF (b+d.t.ns.length) ds
def hR:Nat->List aQ->List Nat
 |_,[]=>[]| b,d::ds=>(b+d.t.bD.toNat)::hR (b+d.t.ns.length) ds
def cL(ds:List aQ):Nat:=(ds.map λd=>d.t.ns.length).sum
def iH(ds:List aQ)(b:Nat)(n:aS):List Nat:=bif decide (n.k=3)then [(hR 0 ds).getD (b2 n.t ds 0).toNat 0]else n.aL.map λk=>b+k.toNat
def qn(ds:List aQ):List qm:=(pF 0 ds).map λp=>⟨p.2,iH ds p.1 p.2⟩
def xN(g:bJ)(s:ByteArray)(aO:Nat):dw:=⟨qn g.ds,s,aO⟩
def Kb:∀ (b:Nat) (ds:List aQ),(pF b ds).length=cL ds
 |b,[]=>rfl| b,d::ds=>by have:=Kb (b+d.t.ns.length) ds;simp only[pF,cL,cI,c8,cY,oc]at this |-;omega
def Dm:∀ (b:Nat) (ds:List aQ),(hR b ds).length=ds.length
 |b,[]=>rfl| b,d::ds=>by simp only[hR,ea,Dm _ ds]
def Kc:∀ (b:Nat) (ds:List aQ),(∀ d∈ds,0<=d.t.bD/\d.t.bD<d.t.ns.length)->∀ x∈hR b ds,x<b+cL ds
 |b,[],_,x,ae=>by cases ae
 |b,d::ds,h,x,ae=>by
  have ah:=h d (.head _);have e:cL (d::ds)=d.t.ns.length+cL ds:=by simp[cL]
  rcases ef.1 ae with rfl | ae;·omega
  ·have:=Kc (b+d.t.ns.length) ds (λd ah=>h d (.tail _ ah)) x ae;omega
def WM:∀ (b:Nat) (ds:List aQ) (p:Nat×aS),p∈pF b ds->∃ d∈ds,p.2∈d.t.ns/\p.1+d.t.ns.length<=b+cL ds
 |b,[],p,h=>by cases h
 |b,d::ds,p,h=>by
  have e:cL (d::ds)=d.t.ns.length+cL ds:=by simp[cL]
  rcases dQ.1 h with h | h;·obtain⟨n,aq,rfl⟩:=dA.1 h;exact⟨d,.head _,aq,by show b+d.t.ns.length<=_;omega⟩
  ·obtain⟨A9,aa,ab,ag⟩:=WM _ ds p h;exact⟨A9,.tail _ aa,ab,by omega⟩
def OK:∀ (n:Nat) (l:List Int),xM l->(∀ k∈l,0<=k/\k<n)->l.length<=n
 |0,[],_,_=>cj _| 0,k::l,_,h=>by have:=h k (.head _);omega
 |n+1,l,ah,h=>by
  have aa:=OK n (l.filter λk=>decide (k≠(n:Int))) (ah.filter _) λk af=>by have ab:=sD.1 af;have ag:=c1 ab.2;have aW:=h k ab.1;omega
  have ab:∀ l:List Int,xM l->l.length<=(l.filter λk=>decide (k≠(n:Int))).length+1:=by
   intro l
   induction l with
   |nil=>intro _;simp
   |cons a l a7=>
    intro ah;obtain⟨d1,d2⟩:=List.pairwise_cons.1 ah;by_cases e:a=(n:Int);·have:l.filter (λk=>decide (k≠(n:Int)))=l:=List.filter_eq_self.2 λk af=>eN λaE=>d1 k af (e.trans aE.symm);rw[List.filter_cons_of_neg (by simp[e]),this,ea];exact cj _
    ·have:=a7 d2;rw[List.filter_cons_of_pos (by simp[e]),ea,ea];omega
  have:=ab l ah;omega
def OL{nm:ByteArray}:∀ (ds:List aQ) (i:Nat),0<=b2 nm ds i->b2 nm ds i<((i+ds.length:Nat):Int)
 |[],i,h=>by simp[b2]at h
 |d::ds,i,h=>by
  unfold b2 at h |-;cases aA:decide (d.name=nm)with
  |true=>simp only[bl,ea];omega| false=>rw[aA,bh]at h;have:=OL ds (i+1) h;simp only[bh,ea];omega
structure qo(g:bJ):Prop where
 n:g.n≠0
 r:∀ d∈g.ds,WL d.t
 find:∀ d∈g.ds,∀ n∈d.t.ns,n.k=3->0<=b2 n.t g.ds 0
 WN:cL g.ds<=1024
 asA:g.n<=64
def Kd(h:dF ax g=0)(aq:∀ d∈g.ds,d.t.ns.length=d.t.n):qo g:=by
 rw[<-VT]at h;unfold JY at h;cases aa:decide ((g.n:Int)=0)with
 |true=>rw[aa]at h;cases h
 |false=>
  rw[aa,bh]at h;cases ab:ow g.ds with
  |false=>rw[ab]at h;cases h
  |true=>
   rw[ab,pT,bh]at h;cases ag:nF ax g with
   |true=>rw[ag]at h;cases h
   |false=>
    rw[ag,bh]at h;cases aW:!(List.range g.ds.length).all (oB g.ds)with
    |true=>rw[aW]at h;cases h
    |false=>
     rw[aW,bh]at h;cases bC:g.ds.all λd=>d.t.ns.all (zm g.ds)with
     |false=>rw[bC]at h;cases h
     |true=>
      have ak:∀ d∈g.ds,right d.t=true:=λd ah=>by have:=eP.1 ab d ah;simp only[normal,b']at this;exact this.2.1
      refine⟨λe=>by have:=dj aa;omega,λd ah=>ahK.1 (ak d ah),λd ah n aq ag=>?_,?_,?_⟩;·have:=eP.1 (eP.1 bC d ah) n aq;simp only[zm,ag,C8,pT,u7,eU]at this;exact this
      ·have e:cL g.ds=um g:=by unfold cL um;congr 1;refine rT λd ah=>?_;rw[qh,ak d ah,bl];exact aq d ah
       unfold nF at ag;simp only[oa,nr]at ag;omega
      ·unfold nF at ag;simp only[oa,nr]at ag;omega
def ahL(ar:0<=d.k){n:Nat}(h:fits d n=true):d.k<10/\(d.k=4\/d.k=5->2<=n)/\(6<=d.k->n=1)/\(d.k=6->0<=d.lo/\d.lo<=99/\(d.hi=-1\/(d.lo<=d.hi/\d.hi<=99)))/\(d.k=9->kl d.t=true)/\(d.k=2->d.t.size<=255):=by
 unfold fits at h;cases aa:decide (10<=d.k)with
 |true=>rw[aa]at h;cases h
 |false=>
  have pi:d.k<10:=by have:=dj aa;omega
  rw[aa,bh]at h;cases ab:decide ((n:Int)<s5 d.k.toNat)||(decide (0<=p' d.k.toNat)&&decide (p' d.k.toNat<(n:Int)))with
  |true=>rw[ab]at h;cases h
  |false=>
   rw[ab,bh]at h;simp only[oa,Nw,nr]at ab;refine⟨pi,λaf=>?_,λaf=>?_,λaf=>?_,λaf=>?_,λaf=>?_⟩
   ·have:s5 d.k.toNat=2:=by rcases af with e | e<;>rw[e]<;>rfl
    omega
   ·have iI:d.k=6\/d.k=7\/d.k=8\/d.k=9:=by omega
    have az:s5 d.k.toNat=1:=by rcases iI with e | e | e | e<;>rw[e]<;>rfl
    have aE:p' d.k.toNat=1:=by rcases iI with e | e | e | e<;>rw[e]<;>rfl
    omega
   ·rw[af]at h;have aX:((!(decide (d.lo<0)||(decide (99<d.lo)||(decide (d.hi≠-1)&&(decide (d.hi<d.lo)||decide (99<d.hi))))))&&(d.qa&&decide (d.t=⟨#[]⟩)))=true:=h;simp only[b',oX,oa,Nw,nr,Decidable.not_not]at aX;omega
   ·rw[af]at h;have aX:(kl d.t&&(d.qa&&(decide (d.lo=0)&&decide (d.hi=0))))=true:=h;simp only[b']at aX;exact aX.1
   ·rw[af]at h;have aX:((!(decide (d.t=⟨#[]⟩)||decide (255<d.t.size)))&&(d.qa&&(decide (d.lo=0)&&decide (d.hi=0))))=true:=h;simp only[b',oX,oa,nr]at aX;omega
def OM:∀ {ns:List aS} {n:aS},n∈ns->n.aL.Sublist (vW ns)
 |d::ns,n,h=>by
  unfold vW;rw[ob];rcases ef.1 h with rfl | h;·exact FL _ _
  ·exact(OM h).trans (jY _ _)
def ahM(hm:qo g)(e3:∀ d∈g.ds,∀ n∈d.t.ns,0<=n.k){aO:Nat}{a:qm}(aC:a∈qn g.ds):JX (xN g s aO) a:=by
 have bQ:(xN g s aO).ns.length=cL g.ds:=by simp[xN,qn,Kb]
 obtain⟨p,aD,rfl⟩:=dA.1 aC;obtain⟨d,ah,aq,ai⟩:=WM _ _ _ aD;have ak:=hm.r d ah;obtain⟨j,an,e⟩:=re aq;have aJ:=ak.fits j an;rw[e]at aJ;obtain⟨f1,f2,f3,f4,-,-⟩:=ahL (e3 d ah _ aq) aJ;have q4:=ak.aL j an;rw[e]at q4;have cw:p.2.aL.length<=j:=OK j _ (ak.diff.sublist (OM aq)) q4;have Dn:=hm.WN;by_cases ag:p.2.k=3
 ·have to:iH g.ds p.1 p.2=[(hR 0 g.ds).getD (b2 p.2.t g.ds 0).toNat 0]:=by rw[iH,eN ag,bl]
  have aM:=hm.find d ah _ aq ag;have A7:=OL g.ds 0 aM;have fm:(b2 p.2.t g.ds 0).toNat<(hR 0 g.ds).length:=by rw[Dm];omega
  refine⟨⟨e3 d ah _ aq,f1⟩,λx ae=>?_,λh=>?_,λ_=>by simp only[to];rfl,λh=>?_,by simp only[to];exact bS rfl⟩;·simp only[to,fW]at ae;rw[bQ,ae,cC,eb fm,jS];have:=Kc 0 g.ds (λd ah=>(hm.r d ah).bD) _ (cJ fm);omega
  ·have aX:p.2.k=4\/p.2.k=5:=h;omega
  ·have aX:p.2.k=6:=h;omega
 ·have to:iH g.ds p.1 p.2=p.2.aL.map λk=>p.1+k.toNat:=by rw[iH,de ag,bh]
  refine⟨⟨e3 d ah _ aq,f1⟩,λx ae=>?_,λh=>?_,λh=>?_,λh=>f4 h,?_⟩;·simp only[to]at ae;obtain⟨k,af,rfl⟩:=dA.1 ae;have:=q4 k af;rw[bQ];omega
  ·have:=f2 h;simp only[to,c8];omega
  ·have aX:p.2.k=3\/6<=p.2.k:=h;have:=f3 (by omega);simp only[to,c8];exact this
  ·simp only[to,c8];have:d.t.ns.length<=cL g.ds:=by omega
   omega
def ON(hm:qo g)(e3:∀ d∈g.ds,∀ n∈d.t.ns,0<=n.k){aO:Nat}(aa:aO<=s.size)(ab:s.size<=4096):Da (xN g s aO):=
 ⟨λa aC=>ahM hm e3 aC,aa,ab⟩
def qp(g:bJ)(rule:Nat):Nat:=(hR 0 g.ds).getD rule 0
def m0:agO:=⟨λ_ _=>nI,[],0⟩
def k2.A'{kn:Nat->Nat->dg}{k:Nat}{t a:Nat}{l cR:List (Nat×Nat)}(h:k2 kn be k hi t a l)(aX:k2 kn be k hi t a cR):l=cR:=by
 induction h generalizing cR with
 |stop aa=>
  cases aX with
  |stop=>rfl| fail ab=>exact absurd aa ab| more _ ab=>exact absurd aa ab
 |fail aa ab=>
  cases aX with
  |stop ag=>exact absurd ag aa| fail=>rfl| more _ ag aW=>rw[ab]at aW;cases aW
 |more _ aa ab r a7=>
  cases aX with
  |stop ag=>exact absurd ag aa| fail ag aW=>rw[ab]at aW;cases aW| more _ ag aW tV=>rw[a7 tV]
def ky.A'{P:dw}{kn:Nat->Nat->dg}{k a:Nat}{l cR:List (Nat×Nat)}(h:ky P kn k a l)(aX:ky P kn k a cR):l=cR:=by
 unfold ky at h aX;by_cases bP:(P.aO k).d.k=6
 ·rw[cn bP]at h aX;exact h.A' aX
 ·rw[cb bP]at h aX;by_cases bC:(P.aO k).d.k=5
  ·rw[cn bC]at h aX;exact h.2.trans aX.2.symm
  ·rw[cb bC]at h aX;exact h.2.trans aX.2.symm
def iD.A'{P:dw}{kn:Nat->Nat->dg}{n m:Nat}{l cR:List fg}(h:iD P kn n L l)(aX:iD P kn m L cR):l=cR:=by
 induction h generalizing m cR with
 |nil=>cases aX;rfl
 |zero ag ar r a7=>
  cases aX with
  |zero gv hY tV=>exact a7 tV| node gv hY=>exact absurd ar hY
 |node ag ar aD r a7=>
  cases aX with
  |zero gv hY=>exact absurd hY ar| node gv hY zf tV=>cases aD.A' zf;rw[a7 tV]
structure tp where
 ok:Bool
 a0:Nat
 rl:List fg
def gx(a b:Nat):Nat:=min (a+b) 1099511627776
def h5(m:Nat->Nat->dg):List Nat->Nat->Nat->dg
 |[],a,n=>⟨n,a,3⟩| q::L,a,n=>bif Nat.beq (m q a).aG 3 then h5 m L (m q a).a0 (gx n (m q a).n)else⟨0,0,(m q a).aG⟩
def ie(m:Nat->Nat->dg):List Nat->Nat->dg
 |[],_=>mV| q::L,a=>bif Nat.beq (m q a).aG 2 then ie m L a else m q a
def gd(m:Nat->Nat->dg)(q:Nat)(lo hi:Int):Nat->Nat->Nat->Nat->dg
 |0,_,a,n=>bif decide (hi=-1)then nI else⟨n,a,3⟩
 |j+1,i,a,n=>bif Nat.beq (m q a).aG 2 then(bif decide ((i:Int)<lo)then mV else⟨n,a,3⟩)else
   bif Nat.beq (m q a).aG 3 then(bif decide (hi=-1)&&decide ((m q a).a0=a)then nI else gd m q lo hi j (i+1) (m q a).a0 (gx n (m q a).n))else nI
def Ba(P:dw)(d:aS)(a:Nat):Nat:=bif decide (d.hi=-1)then P.s.size+1-a else d.hi.toNat
def er(P:dw)(m:Nat->Nat->dg)(k a:Nat):dg:=
 let d:=(P.aO k).d
 let q:=(P.aO k).cf.getD 0 0
 bif decide (d.k=0)then⟨0,a,3⟩else
 bif decide (d.k=1)then(match P.s.data[a]? with
  |some b=>bif tg d b.toNat then⟨0,a+1,3⟩else mV| none=>mV)else
 bif decide (d.k=2)then(bif preB P.s d.t a then⟨0,a+d.t.size,3⟩else mV)else
 bif decide (d.k=3)then m q a else
 bif decide (d.k=4)then h5 m (P.aO k).cf a 0 else
 bif decide (d.k=5)then ie m (P.aO k).cf a else
 bif decide (d.k=6)then gd m q d.lo d.hi (Ba P d a) 0 a 0 else
 bif decide (d.k=7)then(bif Nat.beq (m q a).aG 3 then⟨0,a,3⟩else m q a)else
 bif decide (d.k=8)then(bif Nat.beq (m q a).aG 2 then⟨0,a,3⟩else bif Nat.beq (m q a).aG 3 then mV else nI)else
 (bif Nat.beq (m q a).aG 3 then⟨gx (m q a).n 1,(m q a).a0,3⟩else m q a)
section
variable{P:dw}{m m':Nat->Nat->dg}{k a lo:Nat}
def xO(h:(P.aO k).d.k=0):er P m k a=⟨0,a,3⟩:=by simp[er,h]
def xP(h:(P.aO k).d.k=1):er P m k a=match P.s.data[a]? with
  |some b=>bif tg (P.aO k).d b.toNat then⟨0,a+1,3⟩else mV| none=>mV:=by simp[er,h]
def xQ(h:(P.aO k).d.k=2):er P m k a=bif preB P.s (P.aO k).d.t a then⟨0,a+(P.aO k).d.t.size,3⟩else mV:=by simp[er,h]
def xR(h:(P.aO k).d.k=3):er P m k a=m ((P.aO k).cf.getD 0 0) a:=by simp[er,h]
def xS(h:(P.aO k).d.k=4):er P m k a=h5 m (P.aO k).cf a 0:=by simp[er,h]
def xT(h:(P.aO k).d.k=5):er P m k a=ie m (P.aO k).cf a:=by simp[er,h]
def uz(h:(P.aO k).d.k=6):er P m k a=gd m ((P.aO k).cf.getD 0 0) (P.aO k).d.lo (P.aO k).d.hi (Ba P (P.aO k).d a) 0 a 0:=by simp[er,h]
def xU(h:(P.aO k).d.k=7):er P m k a=bif Nat.beq (m ((P.aO k).cf.getD 0 0) a).aG 3 then⟨0,a,3⟩else m ((P.aO k).cf.getD 0 0) a:=by simp[er,h]
def xV(h:(P.aO k).d.k=8):er P m k a=bif Nat.beq (m ((P.aO k).cf.getD 0 0) a).aG 2 then⟨0,a,3⟩else bif Nat.beq (m ((P.aO k).cf.getD 0 0) a).aG 3 then mV else nI:=by simp[er,h]
def xW(ar:(P.aO k).d.k≠0)(aa:(P.aO k).d.k≠1)(ab:(P.aO k).d.k≠2)(ag:(P.aO k).d.k≠3)(aW:(P.aO k).d.k≠4)(bC:(P.aO k).d.k≠5)(bP:(P.aO k).d.k≠6)(eo:(P.aO k).d.k≠7)(fo:(P.aO k).d.k≠8) : er P m k a=bif Nat.beq (m ((P.aO k).cf.getD 0 0) a).aG 3 then⟨gx (m ((P.aO k).cf.getD 0 0) a).n 1,(m ((P.aO k).cf.getD 0 0) a).a0,3⟩else m ((P.aO k).cf.getD 0 0) a:=by simp[er,ar,aa,ab,ag,aW,bC,bP,eo,fo]
def Bb(d:Int):d=0\/d=1\/d=2\/d=3\/d=4\/d=5\/d=6\/d=7\/d=8\/(d≠0/\d≠1/\d≠2/\d≠3/\d≠4/\d≠5/\d≠6/\d≠7/\d≠8):=by omega
def nL(lo:Nat)(m m':Nat->Nat->dg):Prop:=∀ q b,lo<=b->ff (m q b)->m' q b=m q b
def Dp(m:Nat->Nat->dg):Prop:=∀ q b,(m q b).aG=3->b<=(m q b).a0
def nL.trans{WO:Nat->Nat->dg}(h:nL lo m m')(aX:nL lo m' WO):nL lo m WO:=λq b ai ah=>by have e:=h q b ai ah;rw[aX q b ai (by rw[e];exact ah),e]
def tq{c:dg}(h:Nat.beq c.aG 3=true):ff c:=.inr (c6 h)
def Bc{c:dg}(h:Nat.beq c.aG 2=true):ff c:=.inl (c6 h)
def rm:¬ ff nI:=λh=>by rcases h with h | h<;>cases h
def OO(h:nL lo m m')(au:Dp m):∀ (L:List Nat) (a n:Nat),lo<=a->ff (h5 m L a n)->h5 m' L a n=h5 m L a n
 |[],a,n,_,_=>rfl
 |q::L,a,n,aC,ah=>by
  cases ag:Nat.beq (m q a).aG 3 with
  |true=>have e:=h q a aC (tq ag);simp only[h5,e,ag,bl]at ah |-;exact OO h au L _ _ (lg aC (au q a (c6 ag))) ah| false=>simp only[h5,ag,bh]at ah;have e:=h q a aC ah;simp only[h5,e,ag,bh]
def OP(h:nL lo m m'):∀ (L:List Nat) (a:Nat),lo<=a->ff (ie m L a)->ie m' L a=ie m L a
 |[],a,_,_=>rfl
 |q::L,a,aC,ah=>by
  cases ab:Nat.beq (m q a).aG 2 with
  |true=>have e:=h q a aC (Bc ab);simp only[ie,e,ab,bl]at ah |-;exact OP h L a aC ah| false=>simp only[ie,ab,bh]at ah;have e:=h q a aC ah;simp only[ie,e,ab,bh]
def OQ(h:nL lo m m')(au:Dp m){q:Nat}{l u:Int}:∀ (j i a n:Nat),lo<=a->ff (gd m q l u j i a n)->gd m' q l u j i a n=gd m q l u j i a n
 |0,i,a,n,_,_=>rfl
 |j+1,i,a,n,aC,ah=>by
  cases ab:Nat.beq (m q a).aG 2 with
  |true=>have e:=h q a aC (Bc ab);simp only[gd,e,ab,bl]
  |false=>
   cases ag:Nat.beq (m q a).aG 3 with
   |true=>
    have e:=h q a aC (tq ag);simp only[gd,e,ab,ag,bl,bh]at ah |-;cases hu:decide (u=-1)&&decide ((m q a).a0=a)with
    |true=>rfl| false=>rw[hu,bh]at ah;exact OQ h au j _ _ _ (lg aC (au q a (c6 ag))) ah
   |false=>simp only[gd,ab,ag,bh]at ah;exact absurd ah rm
def Gz(h:nL lo m m')(au:Dp m)(aC:lo<=a)(ah:ff (er P m k a)):er P m' k a=er P m k a:=by
 have one:∀ q:Nat,ff (m q a)->m' q a=m q a:=λq aM=>h q a aC aM;rcases Bb (P.aO k).d.k with e | e | e | e | e | e | e | e | e | ⟨cG,az,aE,bz,cT,fT,hD,m1,nM⟩
 ·rw[xO e,xO e]
 ·rw[xP e,xP e]
 ·rw[xQ e,xQ e]
 ·rw[xR e]at ah |-;rw[xR e];exact one _ ah
 ·rw[xS e]at ah |-;rw[xS e];exact OO h au _ _ _ aC ah
 ·rw[xT e]at ah |-;rw[xT e];exact OP h _ _ aC ah
 ·rw[uz e]at ah |-;rw[uz e];exact OQ h au _ _ _ _ aC ah
 ·rw[xU e]at ah |-;rw[xU e];generalize(P.aO k).cf.getD 0 0=q at ah |-;cases ag:Nat.beq (m q a).aG 3 with
  |true=>rw[one q (tq ag),ag]| false=>rw[ag,bh]at ah;rw[one q ah,ag]
 ·rw[xV e]at ah |-;rw[xV e];generalize(P.aO k).cf.getD 0 0=q at ah |-;cases ab:Nat.beq (m q a).aG 2 with
  |true=>rw[one q (Bc ab),ab]
  |false=>
   cases ag:Nat.beq (m q a).aG 3 with
   |true=>rw[one q (tq ag),ab,ag]| false=>rw[ab,ag]at ah;exact absurd ah rm
 ·rw[xW cG az aE bz cT fT hD m1 nM]at ah |-;rw[xW cG az aE bz cT fT hD m1 nM];generalize(P.aO k).cf.getD 0 0=q at ah |-;cases ag:Nat.beq (m q a).aG 3 with
  |true=>rw[one q (tq ag),ag]| false=>rw[ag,bh]at ah;rw[one q ah,ag]
end
def jL(z a:Nat)(c:dg):Prop:=c=nI\/c=mV\/(c.aG=3/\a<=c.a0/\(a<=z->c.a0<=z)/\c.n<=1099511627776)
def jL.m{a a0 n:Nat}(aa:a<=a0)(ab:a<=z->a0<=z)(ag:n<=1099511627776):jL z a ⟨n,a0,3⟩:=.inr (.inr ⟨rfl,aa,ab,ag⟩)
def jL.ge{a:Nat}{c:dg}(h:jL z a c)(ag:c.aG=3):a<=c.a0/\(a<=z->c.a0<=z)/\c.n<=1099511627776:=by
 rcases h with rfl | rfl | h
 ·cases ag
 ·cases ag
 ·exact h.2
def jL.aG{a:Nat}{c:dg}(h:jL z a c):c.aG=0\/c.aG=2\/c.aG=3:=by
 rcases h with rfl | rfl | h
 ·exact .inl rfl
 ·exact .inr (.inl rfl)
 ·exact .inr (.inr h.1)
def jL.zero{z a:Nat}{c:dg}(h:jL z a c)(ab:¬ ff c):c=nI:=by
 rcases h with rfl | rfl | h
 ·rfl
 ·exact absurd (.inl rfl) ab
 ·exact absurd (.inr h.1) ab
def jL.ahN{a:Nat}{c:dg}(h:jL z a c)(ag:Nat.beq c.aG 3=false):(⟨0,0,c.aG⟩:dg)=c:=by
 rcases h with rfl | rfl | h
 ·rfl
 ·rfl
 ·rw[h.1]at ag;cases ag
def jL.IG{a b:Nat}{c:dg}(h:jL z b c)(jJ:a<=b)(bf:a<=z->b<=z):jL z a c:=by
 rcases h with h | h | ⟨aa,ab,ag,aW⟩
 ·exact .inl h
 ·exact .inr (.inl h)
 ·exact .inr (.inr ⟨aa,by omega,λh=>ag (bf h),aW⟩)
def uA(a b:Nat):gx a b<=1099511627776:=JR _ _
section
variable{z:Nat}{m:Nat->Nat->dg}(hm:∀ q b,jL z b (m q b))
include hm
def WQ:∀ (L:List Nat) (a n:Nat),n<=1099511627776->jL z a (h5 m L a n)
 |[],a,n,aq=>.m (cj _) id aq
 |q::L,a,n,aq=>by
  cases ag:Nat.beq (m q a).aG 3 with
  |true=>simp only[h5,ag,bl];obtain⟨a3,a6,bI⟩:=(hm q a).ge (c6 ag);exact(WQ L _ _ (uA _ _)).IG a3 a6
  |false=>simp only[h5,ag,bh];rw[(hm q a).ahN ag];exact hm q a
def WR:∀ (L:List Nat) (a:Nat),jL z a (ie m L a)
 |[],a=>.inr (.inl rfl)
 |q::L,a=>by
  cases ab:Nat.beq (m q a).aG 2 with
  |true=>simp only[ie,ab,bl];exact WR L a| false=>simp only[ie,ab,bh];exact hm q a
def WS{q:Nat}{l u:Int}:∀ (j i a n:Nat),n<=1099511627776->jL z a (gd m q l u j i a n)
 |0,i,a,n,aq=>by
  unfold gd;cases decide (u=-1);·exact .m (cj _) id aq
  ·exact .inl rfl
 |j+1,i,a,n,aq=>by
  cases ab:Nat.beq (m q a).aG 2 with
  |true=>
   simp only[gd,ab,bl];cases decide ((i:Int)<l);·exact .m (cj _) id aq
   ·exact .inr (.inl rfl)
  |false=>
   cases ag:Nat.beq (m q a).aG 3 with
   |true=>
    simp only[gd,ab,ag,bl,bh];obtain⟨a3,a6,bI⟩:=(hm q a).ge (c6 ag);cases decide (u=-1)&&decide ((m q a).a0=a)with
    |true=>exact .inl rfl| false=>exact(WS j _ _ _ (uA _ _)).IG a3 a6
   |false=>simp only[gd,ab,ag,bh];exact .inl rfl
def OR{P:dw}(bf:P.s.size=z)(k a:Nat):jL z a (er P m k a):=by
 rcases Bb (P.aO k).d.k with e | e | e | e | e | e | e | e | e | ⟨cG,az,aE,bz,cT,fT,hD,m1,nM⟩
 ·rw[xO e];exact .m (cj _) id (by omega)
 ·rw[xP e];cases ai:P.s.data[a]? with
  |none=>exact .inr (.inl rfl)
  |some b=>
   have aR:a<P.s.data.size:=(lD.1 ai).1;have:P.s.data.size=P.s.size:=rfl;simp only;cases tg (P.aO k).d b.toNat;·exact .inr (.inl rfl)
   ·exact .m (by omega) (by omega) (by omega)
 ·rw[xQ e];cases aD:preB P.s (P.aO k).d.t a with
  |false=>exact .inr (.inl rfl)| true=>simp only[preB,b',eU]at aD;exact .m (by omega) (by omega) (by omega)
 ·rw[xR e];exact hm _ a
 ·rw[xS e];exact WQ hm _ _ _ (by omega)
 ·rw[xT e];exact WR hm _ _
 ·rw[uz e];exact WS hm _ _ _ _ (by omega)
 ·rw[xU e];cases Nat.beq (m ((P.aO k).cf.getD 0 0) a).aG 3
  ·exact hm _ a
  ·exact .m (cj _) id (by omega)
 ·rw[xV e];cases Nat.beq (m ((P.aO k).cf.getD 0 0) a).aG 2 with
  |true=>exact .m (cj _) id (by omega)
  |false=>
   cases Nat.beq (m ((P.aO k).cf.getD 0 0) a).aG 3;·exact .inl rfl
   ·exact .inr (.inl rfl)
 ·rw[xW cG az aE bz cT fT hD m1 nM];cases ag:Nat.beq (m ((P.aO k).cf.getD 0 0) a).aG 3 with
  |false=>exact hm _ a| true=>obtain⟨a3,a6,bI⟩:=(hm _ a).ge (c6 ag);exact .m a3 a6 (uA _ _)
end
def g'(P:dw):Nat->Nat->Nat->dg
 |0,_,_=>nI| n+1,k,a=>er P (g' P n) k a
def Ke(P:dw):∀ (n k a:Nat),jL P.s.size a (g' P n k a)
 |0,_,_=>.inl rfl| n+1,k,a=>OR (Ke P n) rfl k a
def GA(P:dw)(n:Nat):Dp (g' P n):=λq b ag=>((Ke P n q b).ge ag).1
def OS(P:dw):∀ n,nL 0 (g' P n) (g' P (n+1))
 |0=>λq b _ ah=>absurd ah rm
 |n+1=>λq b ai ah=>Gz (OS P n) (GA P n) ai ah
def Dq(P:dw){n:Nat}(h:n<=eO):nL 0 (g' P n) (g' P eO):=by
 induction h with
 |refl=>exact λ_ _ _ _=>rfl
 |step _ a7=>exact a7.trans (OS P _)
open Classical in
noncomputable def cO(P:dw)(k a:Nat):dg:=if h:∃ n,ff (g' P n k a)then g' P h.choose k a else nI
def Dr{P:dw}{n k a:Nat}(h:ff (g' P n k a)):cO P k a=g' P n k a:=by have ae:∃ n,ff (g' P n k a):=⟨n,h⟩;unfold cO;rw[dif_pos ae];have aA:=ae.choose_spec;have az:=Dq P (JT n ae.choose) k a (bw _) h;have aE:=Dq P (JS n ae.choose) k a (bw _) aA;rw[<-az,<-aE]
def rn{P:dw}{k a:Nat}(h:ff (cO P k a)):∃ n,g' P n k a=cO P k a:=by
 by_cases ae:∃ n,ff (g' P n k a)
 ·obtain⟨n,aq⟩:=ae;exact⟨n,(Dr aq).symm⟩
 ·unfold cO at h;rw[dif_neg ae]at h;exact absurd h rm
def WT(P:dw)(n:Nat):nL 0 (g' P n) (cO P):=λ_ _ _ ah=>Dr ah
def zr(P:dw)(k a:Nat):jL P.s.size a (cO P k a):=by
 by_cases ah:ff (cO P k a)
 ·obtain⟨n,aq⟩:=rn ah;rw[<-aq];exact Ke P n k a
 ·by_cases ae:∃ n,ff (g' P n k a)
  ·obtain⟨n,aq⟩:=ae;rw[Dr aq]at ah;exact absurd aq ah
  ·unfold cO;rw[dif_neg ae];exact .inl rfl
section
variable{P:dw}
def OT{n q b:Nat}(h:n<=eO)(e:g' P n q b=cO P q b)(ah:ff (cO P q b)):g' P eO q b=cO P q b:=by rw[<-e]at ah |-;exact Dq P h q b (bw _) ah
def WU:∀ (L:List Nat) (a n:Nat),ff (h5 (cO P) L a n)->∃ N,h5 (g' P N) L a n=h5 (cO P) L a n
 |[],a,n,_=>⟨0,rfl⟩
 |q::L,a,n,ah=>by
  cases ag:Nat.beq (cO P q a).aG 3 with
  |true=>obtain⟨h0,az⟩:=rn (tq ag);simp only[h5,ag,bl]at ah |-;obtain⟨lP,aE⟩:=WU L _ _ ah;refine⟨max h0 lP,?_⟩;simp only[OT (JT h0 lP) az (tq ag),ag,bl];rw[<-aE]at ah |-;exact OO (Dq P (JS h0 lP)) (GA P lP) _ _ _ (bw _) ah
  |false=>simp only[h5,ag,bh]at ah |-;obtain⟨h0,az⟩:=rn ah;exact⟨h0,by simp only[az,ag,bh]⟩
def WV:∀ (L:List Nat) (a:Nat),ff (ie (cO P) L a)->∃ N,ie (g' P N) L a=ie (cO P) L a
 |[],a,_=>⟨0,rfl⟩
 |q::L,a,ah=>by
  cases ab:Nat.beq (cO P q a).aG 2 with
  |true=>obtain⟨h0,az⟩:=rn (Bc ab);simp only[ie,ab,bl]at ah |-;obtain⟨lP,aE⟩:=WV L _ ah;refine⟨max h0 lP,?_⟩;simp only[OT (JT h0 lP) az (Bc ab),ab,bl];rw[<-aE]at ah |-;exact OP (Dq P (JS h0 lP)) _ _ (bw _) ah
  |false=>simp only[ie,ab,bh]at ah |-;obtain⟨h0,az⟩:=rn ah;exact⟨h0,by simp only[az,ab,bh]⟩
def WW{q:Nat}{l u:Int}:∀ (j i a n:Nat),ff (gd (cO P) q l u j i a n)->∃ N,gd (g' P N) q l u j i a n=gd (cO P) q l u j i a n
 |0,i,a,n,_=>⟨0,rfl⟩
 |j+1,i,a,n,ah=>by
  cases ab:Nat.beq (cO P q a).aG 2 with
  |true=>obtain⟨h0,az⟩:=rn (Bc ab);exact⟨h0,by simp only[gd,az,ab,bl]⟩
  |false=>
   cases ag:Nat.beq (cO P q a).aG 3 with
   |true=>
    obtain⟨h0,az⟩:=rn (tq ag);simp only[gd,ab,ag,bl,bh]at ah |-;cases hu:decide (u=-1)&&decide ((cO P q a).a0=a)with
    |true=>rw[hu]at ah;exact absurd ah rm| false=>rw[hu,bh]at ah;obtain⟨lP,aE⟩:=WW j _ _ _ ah;refine⟨max h0 lP,?_⟩;simp only[OT (JT h0 lP) az (tq ag),ab,ag,hu,bl,bh];rw[<-aE]at ah |-;exact OQ (Dq P (JS h0 lP)) (GA P lP) _ _ _ _ (bw _) ah
   |false=>simp only[gd,ab,ag,bh]at ah;exact absurd ah rm
def ahO{k a:Nat}(ah:ff (er P (cO P) k a)):∃ N,er P (g' P N) k a=er P (cO P) k a:=by
 rcases Bb (P.aO k).d.k with e | e | e | e | e | e | e | e | e | ⟨cG,az,aE,bz,cT,fT,hD,m1,nM⟩
 ·exact⟨0,by rw[xO e,xO e]⟩
 ·exact⟨0,by rw[xP e,xP e]⟩
 ·exact⟨0,by rw[xQ e,xQ e]⟩
 ·rw[xR e]at ah |-;obtain⟨n,aq⟩:=rn ah;exact⟨n,by rw[xR e,aq]⟩
 ·rw[xS e]at ah |-;obtain⟨n,aq⟩:=WU _ _ _ ah;exact⟨n,by rw[xS e,aq]⟩
 ·rw[xT e]at ah |-;obtain⟨n,aq⟩:=WV _ _ ah;exact⟨n,by rw[xT e,aq]⟩
 ·rw[uz e]at ah |-;obtain⟨n,aq⟩:=WW _ _ _ _ ah;exact⟨n,by rw[uz e,aq]⟩
 ·rw[xU e]at ah |-;have aa:ff (cO P ((P.aO k).cf.getD 0 0) a):=by
   cases ag:Nat.beq (cO P ((P.aO k).cf.getD 0 0) a).aG 3 with
   |true=>exact tq ag| false=>rwa [ag,bh]at ah
  obtain⟨n,aq⟩:=rn aa;exact⟨n,by rw[xU e,aq]⟩
 ·rw[xV e]at ah |-;have aa:ff (cO P ((P.aO k).cf.getD 0 0) a):=by
   cases ab:Nat.beq (cO P ((P.aO k).cf.getD 0 0) a).aG 2 with
   |true=>exact Bc ab
   |false=>
    cases ag:Nat.beq (cO P ((P.aO k).cf.getD 0 0) a).aG 3 with
    |true=>exact tq ag| false=>rw[ab,ag]at ah;exact absurd ah rm
  obtain⟨n,aq⟩:=rn aa;exact⟨n,by rw[xV e,aq]⟩
 ·rw[xW cG az aE bz cT fT hD m1 nM]at ah |-;have aa:ff (cO P ((P.aO k).cf.getD 0 0) a):=by
   cases ag:Nat.beq (cO P ((P.aO k).cf.getD 0 0) a).aG 3 with
   |true=>exact tq ag| false=>rwa [ag,bh]at ah
  obtain⟨n,aq⟩:=rn aa;exact⟨n,by rw[xW cG az aE bz cT fT hD m1 nM,aq]⟩
def OU{k a:Nat}(ah:ff (er P (cO P) k a)):cO P k a=er P (cO P) k a:=by
 obtain⟨N,e⟩:=ahO ah;have:ff (g' P (N+1) k a):=by show ff (er P (g' P N) k a);rw[e];exact ah
 rw[Dr this];exact e
def ahP{k a:Nat}(ah:ff (cO P k a)):er P (cO P) k a=cO P k a:=by
 obtain⟨n,aq⟩:=rn ah;cases n with
 |zero=>rw[<-aq]at ah;exact absurd ah rm| succ n=>rw[<-aq]at ah |-;exact Gz (WT P n) (GA P n) (bw _) ah
def ahQ{k a:Nat}:er P (cO P) k a=cO P k a:=by
 by_cases ah:ff (cO P k a)
 ·exact ahP ah
 ·by_cases hd:ff (er P (cO P) k a)
  ·exact(OU hd).symm
  ·rw[(zr P k a).zero ah,(OR (zr P) rfl k a).zero hd]
def ahR{m:Nat->Nat->dg}{lo:Nat}(h:∀ k a,lo<=a->ff (er P m k a)->m k a=er P m k a):nL lo (cO P) m:=by
 have step:∀ n,nL lo (g' P n) m:=λn=>by
  induction n with
  |zero=>exact λ_ _ _ ah=>absurd ah rm
  |succ n a7=>
   intro k a aC ah;have e:=Gz a7 (GA P n) aC ah;have hd:ff (er P m k a):=by rw[e];exact ah
   rw[h k a aC hd,e];rfl
 intro k a aC ah;obtain⟨n,aq⟩:=rn ah;rw[<-aq]at ah |-;exact step n k a aC ah
end
structure cv where
 n:Nat
 a0:Nat
 aG:Nat
 g9:Nat
def jo:cv:=⟨0,0,0,0⟩
def oD(a0:Nat):cv:=⟨0,a0,2,0⟩
def vX:cv:=⟨0,0,1,0⟩
def cv.ce(c:cv):dg:=bif Nat.beq c.aG 2 then⟨c.n,c.a0,3⟩else bif Nat.beq c.aG 1 then mV else nI
def qq(T:Nat->Nat->cv):List Nat->Nat->Nat->cv
 |[],a,n=>⟨n,a,2,0⟩| q::L,a,n=>bif Nat.beq (T q a).aG 2 then qq T L (T q a).a0 (gx n (T q a).n)else⟨0,0,(T q a).aG,0⟩
def qs(T:Nat->Nat->cv):List Nat->Nat->cv
 |[],_=>vX| q::L,a=>bif Nat.beq (T q a).aG 1 then qs T L a else T q a
def pG(T:Nat->Nat->cv)(q:Nat)(lo:Int):Nat->Nat->Nat->Nat->cv
 |0,_,a,n=>⟨n,a,2,0⟩
 |j+1,i,a,n=>bif Nat.beq (T q a).aG 0||(Nat.beq (T q a).aG 1&&decide ((i:Int)<lo))then⟨0,0,(T q a).aG,0⟩else
   bif Nat.beq (T q a).aG 1 then⟨n,a,2,0⟩else pG T q lo j (i+1) (T q a).a0 (gx n (T q a).n)
def nO(lo:Int)(c:cv):cv:=bif decide ((c.g9:Int)<lo)then { c with aG:=1 }else c
def xX(T:Nat->Nat->cv)(k q:Nat)(lo:Int)(a:Nat):cv:=
 bif Nat.beq (T q a).aG 0||(Nat.beq (T q a).aG 2&&Nat.beq (T q a).a0 a)then jo else
 bif Nat.beq (T q a).aG 2 then(bif Nat.beq (T k (T q a).a0).aG 0 then jo else nO lo ⟨gx (T q a).n (T k (T q a).a0).n,(T k (T q a).a0).a0,2,min ((T k (T q a).a0).g9+1) 99⟩)else nO lo (oD a)
def dZ(P:dw)(T:Nat->Nat->cv)(k a:Nat):cv:=
 let d:=(P.aO k).d
 let q:=(P.aO k).cf.getD 0 0
 bif decide (d.k=0)then oD a else
 bif decide (d.k=1)then(match P.s.data[a]? with
  |some b=>bif tg d b.toNat then oD (a+1)else vX| none=>vX)else
 bif decide (d.k=2)then(bif preB P.s d.t a then oD (a+d.t.size)else vX)else
 bif decide (d.k=3)then T q a else
 bif decide (d.k=4)then qq T (P.aO k).cf a 0 else
 bif decide (d.k=5)then qs T (P.aO k).cf a else
 bif decide (d.k=6)then(bif decide (d.hi=-1)then xX T k q d.lo a else pG T q d.lo d.hi.toNat 0 a 0)else
 bif decide (d.k=7)then(bif Nat.beq (T q a).aG 2 then oD a else⟨0,0,(T q a).aG,0⟩)else
 bif decide (d.k=8)then(bif Nat.beq (T q a).aG 1 then oD a else bif Nat.beq (T q a).aG 2 then vX else jo)else
 (bif Nat.beq (T q a).aG 2 then { T q a with n:=gx (T q a).n 1 }else T q a)
def hv(T:Nat->Nat->cv):Nat->Nat->dg:=λk a=>(T k a).ce
def rp{c:cv}(h:c.aG<=2):(c.aG=0/\c.ce=nI)\/(c.aG=1/\c.ce=mV)\/(c.aG=2/\c.ce=⟨c.n,c.a0,3⟩):=by
 have:c.aG=0\/c.aG=1\/c.aG=2:=by omega
 rcases this with e | e | e
 ·exact .inl ⟨e,by simp only[cv.ce,e];rfl⟩
 ·exact .inr (.inl ⟨e,by simp only[cv.ce,e];rfl⟩)
 ·exact .inr (.inr ⟨e,by simp only[cv.ce,e];rfl⟩)
def Bd{c:cv}(h:c.aG<=2):ff c.ce ↔ c.aG≠0:=by
 rcases rp h with⟨e,bq⟩ | ⟨e,bq⟩ | ⟨e,bq⟩<;>rw[bq]<;>simp[ff,nI,mV,e]
section
variable{T:Nat->Nat->cv}(bp:∀ k a,(T k a).aG<=2)
include bp
def WX:∀ (L:List Nat) (a n:Nat),(qq T L a n).ce=h5 (hv T) L a n
 |[],a,n=>rfl
 |q::L,a,n=>by
  rcases rp (bp q a)with⟨e,bq⟩ | ⟨e,bq⟩ | ⟨e,bq⟩;·simp only[qq,h5,hv,e,bq];rfl
  ·simp only[qq,h5,hv,e,bq];rfl
  ·have a7:=WX L (T q a).a0 (gx n (T q a).n);simp only[qq,h5,hv,e,bq]at a7 |-;exact a7
def WY:∀ (L:List Nat) (a:Nat),(qs T L a).ce=ie (hv T) L a
 |[],a=>rfl
 |q::L,a=>by
  rcases rp (bp q a)with⟨e,bq⟩ | ⟨e,bq⟩ | ⟨e,bq⟩;·simp only[qs,ie,hv,e,bq];exact bq
  ·have a7:=WY L a;simp only[qs,ie,hv,e,bq]at a7 |-;exact a7
  ·simp only[qs,ie,hv,e,bq];exact bq
def WZ{q:Nat}{lo hi:Int}(br:hi≠-1):∀ (j i a n:Nat),(pG T q lo j i a n).ce=gd (hv T) q lo hi j i a n
 |0,i,a,n=>by simp only[pG,gd,de br,bh];rfl
 |j+1,i,a,n=>by
  rcases rp (bp q a)with⟨e,bq⟩ | ⟨e,bq⟩ | ⟨e,bq⟩;·simp only[pG,gd,hv,e,bq];rfl
  ·simp only[pG,gd,hv,e,bq];cases decide ((i:Int)<lo)<;>rfl
  ·have a7:=WZ (q:=q) (lo:=lo) br j (i+1) (T q a).a0 (gx n (T q a).n);simp only[pG,gd,hv,e,bq,de br]at a7 |-;exact a7
def W0{P:dw}{k a:Nat}(h:(P.aO k).d.k=6->(P.aO k).d.hi≠-1):(dZ P T k a).ce=er P (hv T) k a:=by
 rcases Bb (P.aO k).d.k with e | e | e | e | e | e | e | e | e | ⟨cG,az,aE,bz,cT,fT,hD,m1,nM⟩
 ·rw[xO e];simp only[dZ,e];rfl
 ·rw[xP e];simp only[dZ,e];cases ai:P.s.data[a]? with
  |none=>rfl
  |some b=>
   simp only;cases tg (P.aO k).d b.toNat<;>rfl
 ·rw[xQ e];simp only[dZ,e];cases preB P.s (P.aO k).d.t a<;>rfl
 ·rw[xR e];simp[dZ,e,hv]
 ·rw[xS e,<-WX bp];simp[dZ,e]
 ·rw[xT e,<-WY bp];simp[dZ,e]
 ·have br:=h e;rw[uz e,<-WZ bp br];simp[dZ,e,br,Ba]
 ·rw[xU e];generalize aM:(P.aO k).cf.getD 0 0=q;rcases rp (bp q a)with⟨g,dv⟩ | ⟨g,dv⟩ | ⟨g,dv⟩
  ·simp only[dZ,e,aM,g,hv,dv];rfl
  ·simp only[dZ,e,aM,g,hv,dv];rfl
  ·simp only[dZ,e,aM,g,hv,dv];rfl
 ·rw[xV e];generalize aM:(P.aO k).cf.getD 0 0=q;rcases rp (bp q a)with⟨g,dv⟩ | ⟨g,dv⟩ | ⟨g,dv⟩
  ·simp only[dZ,e,aM,g,hv,dv];rfl
  ·simp only[dZ,e,aM,g,hv,dv];rfl
  ·simp only[dZ,e,aM,g,hv,dv];rfl
 ·rw[xW cG az aE bz cT fT hD m1 nM];generalize aM:(P.aO k).cf.getD 0 0=q;have aw:dZ P T k a=bif Nat.beq (T q a).aG 2 then { T q a with n:=gx (T q a).n 1 }else T q a:=by simp only[dZ,aM,de cG,de az,de aE,de bz,de cT,de fT,de hD,de m1,de nM,bh]
  rw[aw];rcases rp (bp q a)with⟨g,dv⟩ | ⟨g,dv⟩ | ⟨g,dv⟩;·simp only[g,hv,dv];exact dv
  ·simp only[g,hv,dv];exact dv
  ·simp only[g,hv,dv];simp[cv.ce,g]
end
inductive m3(m:Nat->Nat->dg)(q:Nat):Nat->Nat->Nat->Nat->Prop
 |stop{a}(h:(m q a).aG=2):m3 m q a 0 a 0| more {a t a0 n} (h:(m q a).aG=3) (aq:(m q a).a0≠a) (r:m3 m q (m q a).a0 t a0 n):m3 m q a (t+1) a0 (gx (m q a).n n)
def ahS(a b c:Nat):gx a (gx b c)=gx (gx a b) c:=by unfold gx;omega
def m3.mono{m m':Nat->Nat->dg}{q a t a0 n lo:Nat}(h:nL lo m m')(au:Dp m)(aA:m3 m q a t a0 n)(aC:lo<=a):m3 m' q a t a0 n:=by
 induction aA with
 |stop aa=>exact .stop (by rw[h q _ aC (.inl aa)];exact aa)| @more a t a0 n aa aq r a7=>have e:=h q a aC (.inr aa);have:=m3.more (m:=m') (q:=q) (a:=a) (by rw[e];exact aa) (by rw[e];exact aq) (by rw[e];exact a7 (lg aC (au q a aa)));rwa [e]at this
def m3.len{m:Nat->Nat->dg}{q a t a0 n:Nat}(hm:∀ q b,jL z b (m q b))(aA:m3 m q a t a0 n):a+t<=a0/\(a<=z->a0<=z)/\n<=1099511627776:=by
 induction aA with
 |stop aa=>exact⟨cj _,id,bw _⟩| @more a t a0 n aa aq r a7=>obtain⟨a3,a6,bI⟩:=(hm q a).ge aa;obtain⟨i1,i2,i3⟩:=a7;exact⟨by omega,λh=>i2 (a6 h),uA _ _⟩
def ahT{m:Nat->Nat->dg}{q:Nat}{a t a0 c:Nat}(aA:m3 m q a t a0 c):∀ (j i n:Nat),t<j->n<=1099511627776 ->
  gd m q lo (-1) j i a n=bif decide (((i+t:Nat):Int)<lo)then mV else⟨gx n c,a0,3⟩:=by
 induction aA with
 | @stop a aa=>
  intro j i n an aq;obtain⟨j,rfl⟩:∃ x,j=x+1:=⟨j-1,by omega⟩;have e:gx n 0=n:=by unfold gx;omega
  simp only[gd,aa,e];rfl
 | @more a t a0 c aa bK r a7=>intro j i n an aq;obtain⟨j,rfl⟩:∃ x,j=x+1:=⟨j-1,by omega⟩;have ab:=a7 j (i+1) (gx n (m q a).n) (by omega) (uA _ _);simp only[gd,aa,de bK];rw[show Nat.beq 3 2=false from rfl,bh,show Nat.beq 3 3=true from rfl,bl,CW,bh,ab,<-ahS];rw[show i+1+t=i+(t+1) by omega]
def W1{m:Nat->Nat->dg}{q:Nat}{lo:Int}:∀ (j i a n:Nat),ff (gd m q lo (-1) j i a n)->∃ t a0 c,m3 m q a t a0 c/\t<j
 |0,i,a,n,ah=>absurd ah rm
 |j+1,i,a,n,ah=>by
  cases ab:Nat.beq (m q a).aG 2 with
  |true=>exact⟨0,a,0,.stop (c6 ab),by omega⟩
  |false=>
   cases ag:Nat.beq (m q a).aG 3 with
   |false=>simp only[gd,ab,ag,bh]at ah;exact absurd ah rm
   |true=>
    simp only[gd,ab,ag,bh,bl]at ah;cases he:decide ((m q a).a0=a)with
    |true=>rw[he]at ah;exact absurd ah rm| false=>rw[he]at ah;obtain⟨t,a0,c,h,aR⟩:=W1 j _ _ _ ah;exact⟨t+1,a0,_,.more (c6 ag) (dj he) h,by omega⟩
def W2{P:dw}{k a t a0 c:Nat}(bP:(P.aO k).d.k=6)(br:(P.aO k).d.hi=-1)(aC:a<=P.s.size)(aA:m3 (cO P) ((P.aO k).cf.getD 0 0) a t a0 c) :
  cO P k a=bif decide ((t:Int)<(P.aO k).d.lo)then mV else⟨c,a0,3⟩:=by
 obtain⟨rk,mv,asB⟩:=aA.len (zr P);have bf:=mv aC;rw[<-ahQ,uz bP,br,Ba,br,eN rfl,bl,ahT aA _ _ _ (by omega) (by omega),c0];rw[show gx 0 c=c by unfold gx;omega]
structure ja(P:dw)(N:Nat)(T:Nat->Nat->cv):Prop where
 aG:∀ k a,(T k a).aG<=2
 snd:∀ k a,(T k a).aG≠0->cO P k a=(T k a).ce
 yF:∀ k a,k<N->a<=P.s.size->(P.aO k).d.k=6->(P.aO k).d.hi=-1->(T k a).aG≠0->∃ t,m3 (cO P) ((P.aO k).cf.getD 0 0) a t (T k a).a0 (T k a).n/\(T k a).g9=min t 99
 rg:∀ k a,k<N->a<=P.s.size->(T k a).n<=1099511627776/\(T k a).a0<=P.s.size/\(T k a).g9<=99
 out:∀ k a,¬ (k<N/\a<=P.s.size)->(T k a).ce=cO P k a
def gm(T:Nat->Nat->cv)(k p:Nat)(c:cv):Nat->Nat->cv:=λdJ pW=>bif Nat.beq dJ k&&Nat.beq pW p then c else T dJ pW
def Ds(T:Nat->Nat->cv)(k p:Nat)(c:cv):gm T k p c k p=c:=by simp[gm]
def xY{T:Nat->Nat->cv}{k p dJ pW:Nat}{c:cv}(h:¬ (dJ=k/\pW=p)):gm T k p c dJ pW=T dJ pW:=by
 unfold gm;have:(Nat.beq dJ k&&Nat.beq pW p)=false:=by rw[zi];intro e;simp only[b',Nat.beq_eq]at e;exact h e
 rw[this];rfl
structure vY(P:dw)(N:Nat)(k:Nat):Prop where
 ql:0<=(P.aO k).d.k
 one:(P.aO k).d.k=3\/6<=(P.aO k).d.k->(P.aO k).cf.getD 0 0<N
 cf:∀ q∈(P.aO k).cf,q<N
 qd:(P.aO k).d.k=6->(P.aO k).d.lo<=99
section
variable{P:dw}{N:Nat}{T:Nat->Nat->cv}
def ja.le(h:ja P N T):nL 0 (hv T) (cO P):=λq b _ ah=>h.snd q b ((Bd (h.aG q b)).1 ah)
def ja.ba(h:ja P N T)(q b:Nat):jL P.s.size b (hv T q b):=by
 by_cases e:(T q b).aG=0
 ·rcases rp (h.aG q b)with⟨_,bq⟩ | ⟨aE,_⟩ | ⟨aE,_⟩
  ·exact .inl bq
  ·omega
  ·omega
 ·show jL _ _ (T q b).ce;rw[<-h.snd q b e];exact zr P q b
def ja.ge(h:ja P N T):Dp (hv T):=λq b ag=>((h.ba q b).ge ag).1
def ahU{t:Nat}(h:lo<=99):decide (((min t 99:Nat):Int)<lo)=decide ((t:Int)<lo):=by rw[oY];simp only[eU];omega
def W3(lo:Int)(n a0 t:Nat):(nO lo ⟨n,a0,2,t⟩).ce=bif decide ((t:Int)<lo)then mV else⟨n,a0,3⟩:=by
 unfold nO;cases decide ((t:Int)<lo)<;>rfl
def W4(lo:Int)(c:cv):(nO lo c).n=c.n/\(nO lo c).a0=c.a0/\(nO lo c).g9=c.g9:=by
 unfold nO;cases decide ((c.g9:Int)<lo)<;>exact⟨rfl,rfl,rfl⟩
def W5(lo:Int)(c:cv)(h:c.aG=2):(nO lo c).aG<=2:=by
 unfold nO;cases decide ((c.g9:Int)<lo)
 ·exact Nat.le_of_eq h
 ·show 1<=2;omega
def ahV(h:ja P N T){k a:Nat}(af:k<N)(aC:a<=P.s.size)(aq:vY P N k)(bP:(P.aO k).d.k=6)(br:(P.aO k).d.hi=-1){c:cv}(aA:xX T k ((P.aO k).cf.getD 0 0) (P.aO k).d.lo a=c) :
  c.aG<=2/\c.n<=1099511627776/\c.a0<=P.s.size/\c.g9<=99/\(c.aG≠0->cO P k a=c.ce/\∃ t,m3 (cO P) ((P.aO k).cf.getD 0 0) a t c.a0 c.n/\c.g9=min t 99):=by
 have e9:=aq.qd bP;have ahW:=aq.one (.inr (by omega));generalize aM:(P.aO k).cf.getD 0 0=q at aA ahW |-;have GB:=fun {t a0 c} (h:m3 (cO P) q a t a0 c)=>W2 bP br aC (by rw[aM];exact h);unfold xX at aA;rcases rp (h.aG q a)with⟨e,bq⟩ | ⟨e,bq⟩ | ⟨e,bq⟩
 ·simp only[e]at aA;subst aA;exact⟨bw _,bw _,bw _,bw _,λh=>absurd rfl h⟩
 ·have av:=h.snd q a (by omega);rw[bq]at av;have fB:m3 (cO P) q a 0 a 0:=.stop (by rw[av];rfl);simp only[e]at aA;have rQ:nO (P.aO k).d.lo (oD a)=c:=aA;obtain⟨f1,f2,f3⟩:=W4 (P.aO k).d.lo (oD a);rw[<-rQ];refine⟨W5 _ _ rfl,by rw[f1];exact bw _,by rw[f2];exact aC,by rw[f3];exact bw _,λ_=>⟨?_,0,by rw[f1,f2];exact fB,by rw[f3];rfl⟩⟩;rw[GB fB];exact(W3 _ 0 a 0).symm
 ·have av:=h.snd q a (by omega);rw[bq]at av;have dz:=zr P q a;rw[av]at dz;obtain⟨a3,a6,bI⟩:=dz.ge rfl;simp only at a3 a6 bI;simp only[e]at aA;cases ai:Nat.beq (T q a).a0 a with
  |true=>rw[ai]at aA;have rQ:jo=c:=aA;subst rQ;exact⟨bw _,bw _,bw _,bw _,λh=>absurd rfl h⟩
  |false=>
   have bK:(T q a).a0≠a:=λe=>by rw[e]at ai;simp at ai
   rw[ai]at aA;have rQ:(bif Nat.beq (T k (T q a).a0).aG 0 then jo else nO (P.aO k).d.lo ⟨gx (T q a).n (T k (T q a).a0).n,(T k (T q a).a0).a0,2,min ((T k (T q a).a0).g9+1) 99⟩)=c:=aA;cases ar:Nat.beq (T k (T q a).a0).aG 0 with
   |true=>rw[ar,bl]at rQ;subst rQ;exact⟨bw _,bw _,bw _,bw _,λh=>absurd rfl h⟩
   |false=>
    rw[ar,bh]at rQ;have pE:=a6 aC;obtain⟨t,fC,ay⟩:=h.yF k (T q a).a0 af pE bP br λe=>by rw[e]at ar;cases ar
    rw[aM]at fC;obtain⟨h4,fM,iF⟩:=h.rg k (T q a).a0 af pE;have fB:m3 (cO P) q a (t+1) (T k (T q a).a0).a0 (gx (T q a).n (T k (T q a).a0).n):=by have:=m3.more (m:=cO P) (q:=q) (a:=a) (by rw[av]) (by rw[av];exact bK) (by rw[av];exact fC);rwa [av]at this
    generalize ae:(⟨gx (T q a).n (T k (T q a).a0).n,(T k (T q a).a0).a0,2,min ((T k (T q a).a0).g9+1) 99⟩:cv)=x at rQ;obtain⟨f1,f2,f3⟩:=W4 (P.aO k).d.lo x;rw[<-rQ];subst ae;have hm:min ((T k (T q a).a0).g9+1) 99=min (t+1) 99:=by omega
    refine⟨W5 _ _ rfl,by rw[f1];exact uA _ _,by rw[f2];exact fM,by rw[f3];exact JR _ _,λ_=>⟨?_,t+1,by rw[f1,f2];exact fB,by rw[f3];exact hm⟩⟩;rw[GB fB,W3,hm,ahU e9]
def W6(h:ja P N T):∀ (L:List Nat) (a n:Nat),(∀ q∈L,q<N)->a<=P.s.size->n<=1099511627776->(qq T L a n).aG<=2/\(qq T L a n).n<=1099511627776/\(qq T L a n).a0<=P.s.size/\(qq T L a n).g9<=99
 |[],a,n,_,aC,aq=>⟨cj _,aq,aC,bw _⟩
 |q::L,a,n,b9,aC,aq=>by
  unfold qq;cases Nat.beq (T q a).aG 2 with
  |true=>exact W6 h L _ _ (λq aM=>b9 q (.tail _ aM)) (h.rg q a (b9 q (.head _)) aC).2.1 (uA _ _)| false=>exact⟨h.aG q a,bw _,bw _,bw _⟩
def W7(h:ja P N T):∀ (L:List Nat) (a:Nat),(∀ q∈L,q<N)->a<=P.s.size->(qs T L a).aG<=2/\(qs T L a).n<=1099511627776/\(qs T L a).a0<=P.s.size/\(qs T L a).g9<=99
 |[],a,_,aC=>⟨by show 1<=2;omega,bw _,bw _,bw _⟩
 |q::L,a,b9,aC=>by
  unfold qs;cases Nat.beq (T q a).aG 1 with
  |true=>exact W7 h L _ (λq aM=>b9 q (.tail _ aM)) aC| false=>exact⟨h.aG q a,h.rg q a (b9 q (.head _)) aC⟩
def W8(h:ja P N T){q:Nat}(aM:q<N){lo:Int}:∀ (j i a n:Nat),a<=P.s.size->n<=1099511627776->(pG T q lo j i a n).aG<=2/\(pG T q lo j i a n).n<=1099511627776/\(pG T q lo j i a n).a0<=P.s.size/\(pG T q lo j i a n).g9<=99
 |0,i,a,n,aC,aq=>⟨cj _,aq,aC,bw _⟩
 |j+1,i,a,n,aC,aq=>by
  unfold pG;cases Nat.beq (T q a).aG 0||(Nat.beq (T q a).aG 1&&decide ((i:Int)<lo))with
  |true=>exact⟨h.aG q a,bw _,bw _,bw _⟩
  |false=>
   cases Nat.beq (T q a).aG 1 with
   |true=>exact⟨cj _,aq,aC,bw _⟩| false=>exact W8 h aM j _ _ _ (h.rg q a aM aC).2.1 (uA _ _)
def OV(h:ja P N T){k a:Nat}(af:k<N)(aC:a<=P.s.size)(aq:vY P N k){c:cv}(aA:dZ P T k a=c) :
  c.aG<=2/\c.n<=1099511627776/\c.a0<=P.s.size/\c.g9<=99/\(c.aG≠0->cO P k a=c.ce/\((P.aO k).d.k=6->(P.aO k).d.hi=-1->∃ t,m3 (cO P) ((P.aO k).cf.getD 0 0) a t c.a0 c.n/\c.g9=min t 99)):=by
 by_cases aN:(P.aO k).d.k=6/\(P.aO k).d.hi=-1
 ·have e:dZ P T k a=xX T k ((P.aO k).cf.getD 0 0) (P.aO k).d.lo a:=by simp[dZ,aN.1,aN.2]
  rw[e]at aA;obtain⟨aa,ab,ag,aW,bC⟩:=ahV h af aC aq aN.1 aN.2 aA;exact⟨aa,ab,ag,aW,λar=>⟨(bC ar).1,λ_ _=>(bC ar).2⟩⟩
 have OW:(P.aO k).d.k=6->(P.aO k).d.hi≠-1:=λaa ab=>aN ⟨aa,ab⟩;have ak:c.aG<=2/\c.n<=1099511627776/\c.a0<=P.s.size/\c.g9<=99:=by
  subst aA;rcases Bb (P.aO k).d.k with e | e | e | e | e | e | e | e | e | ⟨cG,az,aE,bz,cT,fT,hD,m1,nM⟩;·simp only[dZ,e];exact⟨cj _,bw _,aC,bw _⟩
  ·simp only[dZ,e];cases ai:P.s.data[a]? with
   |none=>exact⟨by show 1<=2;omega,bw _,bw _,bw _⟩
   |some b=>
    have aR:a<P.s.data.size:=(lD.1 ai).1;have aE:P.s.data.size=P.s.size:=rfl;simp only;cases tg (P.aO k).d b.toNat;·exact⟨by show 1<=2;omega,bw _,bw _,bw _⟩
    ·exact⟨cj _,bw _,by show a+1<=_;omega,bw _⟩
  ·simp only[dZ,e];cases aD:preB P.s (P.aO k).d.t a with
   |false=>exact⟨by show 1<=2;omega,bw _,bw _,bw _⟩| true=>simp only[preB,b',eU]at aD;exact⟨cj _,bw _,aD.1,bw _⟩
  ·simp only[dZ,e];exact⟨h.aG _ _,h.rg _ _ (aq.one (.inl e)) aC⟩
  ·simp only[dZ,e];exact W6 h _ _ _ aq.cf aC (bw _)
  ·simp only[dZ,e];exact W7 h _ _ aq.cf aC
  ·simp only[dZ,e,de (OW e)];exact W8 h (aq.one (.inr (by omega))) _ _ _ _ aC (bw _)
  ·simp only[dZ,e];have:=h.aG ((P.aO k).cf.getD 0 0) a;cases Nat.beq (T ((P.aO k).cf.getD 0 0) a).aG 2
   ·exact⟨this,bw _,bw _,bw _⟩
   ·exact⟨cj _,bw _,aC,bw _⟩
  ·simp only[dZ,e];cases Nat.beq (T ((P.aO k).cf.getD 0 0) a).aG 1 with
   |true=>exact⟨cj _,bw _,aC,bw _⟩
   |false=>
    cases Nat.beq (T ((P.aO k).cf.getD 0 0) a).aG 2;·exact⟨bw _,bw _,bw _,bw _⟩
    ·exact⟨by show 1<=2;omega,bw _,bw _,bw _⟩
  ·have aw:dZ P T k a=bif Nat.beq (T ((P.aO k).cf.getD 0 0) a).aG 2 then { T ((P.aO k).cf.getD 0 0) a with n:=gx (T ((P.aO k).cf.getD 0 0) a).n 1 }else T ((P.aO k).cf.getD 0 0) a:=by simp only[dZ,de cG,de az,de aE,de bz,de cT,de fT,de hD,de m1,de nM,bh]
   rw[aw];by_cases bP:6<=(P.aO k).d.k
   ·have aa:=h.aG ((P.aO k).cf.getD 0 0) a;obtain⟨ab,ag,aW⟩:=h.rg ((P.aO k).cf.getD 0 0) a (aq.one (.inr bP)) aC;cases Nat.beq (T ((P.aO k).cf.getD 0 0) a).aG 2
    ·exact⟨aa,ab,ag,aW⟩
    ·exact⟨aa,uA _ _,ag,aW⟩
   ·have:=aq.ql;omega
 refine⟨ak.1,ak.2.1,ak.2.2.1,ak.2.2.2,λar=>⟨?_,λbP br=>absurd br (OW bP)⟩⟩;have ah:ff c.ce:=(Bd ak.1).2 ar;rw[<-aA,W0 h.aG OW]at ah |-;have:=Gz h.le h.ge (bw _) ah;rw[<-this]at ah |-;exact OU ah
def ja.set(h:ja P N T){k a:Nat}(af:k<N)(aC:a<=P.s.size)(aq:vY P N k){c:cv}(aA:dZ P T k a=c)(ar:c.aG≠0):ja P N (gm T k a c):=by
 obtain⟨zt,OX,W9,W',Be⟩:=OV h af aC aq aA;obtain⟨Be,ahX⟩:=Be ar;refine⟨λdJ bY=>?_,λdJ bY=>?_,λdJ bY=>?_,λdJ bY=>?_,λdJ bY=>?_⟩
 ·by_cases e:dJ=k/\bY=a
  ·obtain⟨rfl,rfl⟩:=e;rw[Ds];exact zt
  ·rw[xY e];exact h.aG _ _
 ·by_cases e:dJ=k/\bY=a
  ·obtain⟨rfl,rfl⟩:=e;rw[Ds];exact λ_=>Be
  ·rw[xY e];exact h.snd _ _
 ·by_cases e:dJ=k/\bY=a
  ·obtain⟨rfl,rfl⟩:=e;rw[Ds];exact λ_ _ bP br _=>ahX bP br
  ·rw[xY e];exact h.yF _ _
 ·by_cases e:dJ=k/\bY=a
  ·obtain⟨rfl,rfl⟩:=e;rw[Ds];exact λ_ _=>⟨OX,W9,W'⟩
  ·rw[xY e];exact h.rg _ _
 ·intro ae;rw[xY λe=>ae (by rw[e.1,e.2];exact⟨af,aC⟩)];exact h.out _ _ ae
def Xa{k a:Nat}(bP:(P.aO k).d.k=6)(br:(P.aO k).d.hi=-1):dZ P T k a=xX T k ((P.aO k).cf.getD 0 0) (P.aO k).d.lo a:=by simp[dZ,bP,br]
def Xb(lo:Int)(c:cv)(h:c.aG=2):(nO lo c).aG≠0:=by
 unfold nO;cases decide ((c.g9:Int)<lo)
 ·rw[bh,h];omega
 ·exact λh=>by cases h
def Xc{k q a:Nat}(h:(T q a).aG=1\/((T q a).aG=2/\(T q a).a0≠a/\(T k (T q a).a0).aG≠0)):(xX T k q lo a).aG≠0:=by
 unfold xX;rcases h with h | ⟨aa,ab,ag⟩
 ·simp only[h];exact Xb _ _ rfl
 ·have ai:Nat.beq (T q a).a0 a=false:=by rw[zi];exact λe=>ab (c6 e)
  have xv:Nat.beq (T k (T q a).a0).aG 0=false:=by rw[zi];exact λe=>ag (c6 e)
  simp only[aa,ai,xv];exact Xb _ _ rfl
def ahY(h:ja P N T)(aq:∀ k,k<N->vY P N k){a:Nat}(Bf:∀ k b,a<b->(T k b).ce=cO P k b)(eA:∀ k,k<N->(T k a).aG=0->(dZ P T k a).aG=0)(aC:a<=P.s.size)(k:Nat):(T k a).ce=cO P k a:=by
 have bs:nL a (cO P) (hv T):=ahR λk b ai ah=>by
  have az:er P (cO P) k b=er P (hv T) k b:=Gz h.le h.ge (bw _) ah;have av:cO P k b=er P (hv T) k b:=by rw[<-az];exact OU (by rw[az];exact ah)
  by_cases xZ:b=a
  ·subst xZ;by_cases ar:(T k b).aG=0
   ·exfalso;by_cases af:k<N
    ·have aA:=eA k af ar;by_cases aN:(P.aO k).d.k=6/\(P.aO k).d.hi=-1
     ·rw[Xa aN.1 aN.2]at aA;rw[uz aN.1,aN.2]at ah;obtain⟨t,a0,c,GB,-⟩:=W1 _ _ _ _ ah;generalize aM:(P.aO k).cf.getD 0 0=q at GB aA;cases GB with
      |stop aa=>
       refine Xc (.inl ?_) aA;rcases rp (h.aG q b)with⟨e,bq⟩ | ⟨e,bq⟩ | ⟨e,bq⟩;·simp only[hv,bq,nI]at aa;cases aa
       ·exact e
       ·simp only[hv,bq]at aa;cases aa
      |more aa bK r=>
       rcases rp (h.aG q b)with⟨e,bq⟩ | ⟨e,bq⟩ | ⟨e,bq⟩;·simp only[hv,bq,nI]at aa;cases aa
       ·simp only[hv,bq,mV]at aa;cases aa
       ·have dz:=h.ba q b;simp only[hv,bq]at dz bK r;obtain⟨a3,a6,bI⟩:=dz.ge rfl;simp only at a3 a6;refine Xc (.inr ⟨e,bK,λcG=>?_⟩) aA;have fM:=r.mono h.le h.ge (bw _);have aE:=W2 aN.1 aN.2 (a6 aC) (by rw[aM];exact fM);have bz:=Bf k (T q b).a0 (by omega);have mq:ff (cO P k (T q b).a0):=by
         rw[aE];cases decide ((_:Int)<(P.aO k).d.lo);·exact .inr rfl
         ·exact .inl rfl
        rw[<-bz]at mq;exact(Bd (h.aG _ _)).1 mq cG
     ·rw[<-W0 h.aG λaa ab=>aN ⟨aa,ab⟩]at ah;obtain⟨zt,-⟩:=OV h af aC (aq k af) rfl;exact(Bd zt).1 ah aA
    ·have:=h.out k b λe=>af e.1;rw[av]at this;rw[<-this]at ah;exact(Bd (h.aG _ _)).1 ah ar
   ·show(T k b).ce=_;rw[<-h.snd k b ar];exact av
  ·show(T k b).ce=_;rw[Bf k b (by omega)];exact av
 by_cases ah:ff (cO P k a)
 ·exact bs k a (cj _) ah
 ·by_cases ar:(T k a).aG=0
  ·rw[(zr P k a).zero ah];rcases rp (h.aG k a)with⟨e,bq⟩ | ⟨e,bq⟩ | ⟨e,bq⟩
   ·exact bq
   ·omega
   ·omega
  ·exact(h.snd k a ar).symm
def ahZ(h:ja P N T){k a:Nat}(af:k<N)(aC:a<=P.s.size)(aq:vY P N k)(he:(T k a).ce=cO P k a)(ar:(T k a).aG=0):(dZ P T k a).aG=0:=by obtain⟨zt,OX,W9,W',Be⟩:=OV h af aC aq rfl;refine Cd λbK=>?_;have e:=(Be bK).1;rw[<-he]at e;have ah:=(Bd zt).2 bK;rw[<-e]at ah;exact(Bd (h.aG _ _)).1 ah ar
end
end Go.V
