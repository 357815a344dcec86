/- Part 3 of what the proofs of this seat share: the executor, data in memory, walks.
-/
import Derived.Test.YthnoknnlcnikbaaGreatDoorK2
import Derived.Lib.Builder
import Derived.Lib.Bytealg
import Derived.Laws.Pointers
import Derived.Laws.StructEq
import Derived.WideMake
set_option linter.all false
set_option maxHeartbeats 8000000
set_option maxRecDepth 100000
namespace Go.V
open Go Go.Proofs
def eF:=@Int.eq_ofNat_of_zero_le
def eT:=@List.perm_append_comm
def ec:=@List.append_assoc
def fS:=@List.take_of_length_le
def fT:=@List.map_congr_left
def fX:=@List.flatMap_append
def dj:=@Nat.zero_le
def fo:=@decide_eq_false
def gg:=@List.getElem_map
def lx:=@List.getElem?_append_right
def g3:=@List.length_nil
def iv:=@List.getElem?_set
def hz:=@List.sum_cons
def iQ:=@decide_eq_true
def pM:=@List.take_append_drop
def pN:=@List.cons_append
def tI:=@Bool.or_eq_false_iff
def pO:=@List.sum_append
def wK:=@List.sublist_cons_self
def u5:=@List.mem_of_mem_take
def sK:=@List.take_left'
def zP:=@List.reverse_singleton
def qJ:=@Bool.true_and
def zQ:=@List.length_replicate
def zR:=@List.eq_nil_or_concat
def zS:=@Int.toNat_of_nonneg
def zT:=@List.filter_sublist
def BZ:=@Int.ofNat_eq_natCast
def D7:=@MapKept.run_getObj_map
def zU:=@List.ext_getElem?
def D8:=@MapKept.run_checkKey
def D9:=@List.length_take_le
def zV:=@List.cons.injEq
def D':=@MapKept.run_findKey
def K8:=@Int.fdiv_eq_ediv_of_nonneg
def Hf:=@ByteArray.size_append
def Hg:=@List.drop_eq_nil_iff
def PB:=@List.perm_append_singleton
def B0:=@List.sum_nil
def Hh:=@List.drop_left'
def Hi:=@List.all_append
def PC:=@MapKept.run_setObj_map
def K9:=@List.all_eq_false
def K':=@BitVec.toNat_and
def Hj:=@List.set_set
def PD:=@List.getElem_set
def PE:=@List.flatMap_nil
def PF:=@Bool.false_and
variable{I:aJ}{b j g c bf e T k i:Nat}{s:ByteArray}{v pK p:Value}{t:bn}{P:Program}{w:Bool}{sa:Option Addr}{x y:Operand}{c6 tJ:dR}{cs:List Value}{ay:List Int}{os:aQ}{α:Type}{F:Fr}{C:dO}{l:List (ByteArray×Int)}
def dL(b:Nat)(s:List Int):aF:=⟨b,.cells (s.map (Value.int .i64)).toArray 3 (0,0)⟩
def Hk{M:List aF}{s:List Int}(bb:dL b s∈M)(ak:j<s.length):cY I M ((⟨b,0,none⟩:Addr).add (j*1)) 1 [.int .i64 s[j]]:=by
 rw[eO _ rfl];refine⟨rfl,_,3,(0,0),.inr ⟨_,bb,rfl,rfl⟩,?_,rfl⟩;have aa:j<(s.map (Value.int .i64)).length:=by simpa using ak
 simp only[dp,gP];rw[fi aa,ry,qx];simp
def Hl{M:List aF}{s:List Int}{v:Int}(ak:j<s.length)(aj:s[j]=v)(bb:dL b s∈M):cY I M ((⟨b,0,none⟩:Addr).add (j*1)) 1 [.int .i64 v]:=aj ▸ Hk bb ak
def oT(s:List Int)(j:Nat)(ak:j<s.length)(b:Int):cq (s.map (Value.int .i64)) j [.int .i64 b]=(s.set j b).map (Value.int .i64):=by unfold cq;rw[qy,GQ];simp[ak]
def aiR(ao:m5 I)(au:t.ok I):Spec Tryz.prog 104 [t.val] I [] (λv I' M'=>v=.int .i64 (bif right t then(t.n:Int)else 0)/\I'=I/\M'=[]):=by
 refine b0 [] a3 Tryz.func104 rfl rfl rfl ?_;intro B aw;refine bc.mk [] [] _ (.refl _) (oR ao au) ?_;rintro v I' M' -⟨rfl,rfl,rfl⟩;refine a5.mk (λh=>?_) (λh=>?_)
 ·refine⟨_,_,.refl,?_,rfl,rfl⟩;rw[show right t=false by simpa using h];rfl
 ·refine⟨_,_,.refl,?_,rfl,rfl⟩;rw[show right t=true by simpa using h];rfl
def Xc{i:Nat}:∀ {ks:List Int} {s cn:List Bool},kU i ks s=some cn->∀ k∈ks,0<=k/\k<i
 |[],s,cn,_,k,ae=>by cases ae
 |x::ks,s,cn,h,k,ae=>by
  unfold kU at h;cases ag:(decide (x<0)||(decide ((i:Int)<=x)||s.getD x.toNat false))with
  |true=>rw[ag]at h;cases h
  |false=>
   rw[ag]at h;simp only[tI,sE]at ag;rcases eA.1 ae with rfl | ae;·omega
   ·exact Xc h k ae
def Xd:∀ {i:Nat} {ds:List al} {s cn:List Bool},jz i ds s=some cn->∀ j (h:j<ds.length),∀ k∈ds[j].aq,0<=k/\k<(i+j:Nat)
 |i,[],s,cn,_,j,ak,_,_=>by cases ak
 |i,d::ds,s,cn,h,j,ak,k,ae=>by
  unfold jz at h;cases aB:fits d d.aq.length with
  |false=>rw[aB]at h;cases h
  |true=>
   rw[aB]at h;simp only[cp]at h;cases aC:kU i d.aq s with
   |none=>rw[aC]at h;cases h
   |some s1=>
    rw[aC]at h;cases j with
    |zero=>exact Xc aC k (by simpa using ae)| succ j=>have:=Xd h j (by simpa using ak) k (by simpa using ae);omega
def ly(h:right t=true):∀ j (ak:j<t.ns.length),∀ k∈t.ns[j].aq,0<=k/\k<j:=by
 unfold right at h;simp only[cw]at h;obtain⟨_,_,h⟩:=h;split at h
 ·rename_i s av;intro j ak k ae;have:=Xd av j ak k ae;omega
 ·cases h
def lZ(h:right t=true):0<=t.br/\t.br<t.ns.length:=by unfold right at h;simp only[cw,hS]at h;exact⟨h.1,h.2.1⟩
def Hm(g4:List Int):List Int->Int->Int
 |[],m=>m| k::ks,m=>Hm g4 ks (max m (g4.getD k.toNat 0))
def wL:Nat->List al->List Int->List Int
 |_,[],g4=>g4| i,d::ds,g4=>wL (i+1) ds (g4.set i (Hm g4 d.aq 0+1))
def depth(t:bn):Int:=bif right t then(wL 0 t.ns (List.replicate t.ns.length 0)).getD t.br.toNat 0 else 0
def aiS(ao:m5 I)(au:t.ok I):Spec Tryz.prog 194 [t.val] I [] (λv I' M'=>v=.int .i64 (depth t)/\I'=I/\M'=[]):=by
 refine b0 [] a3 Tryz.func194 rfl rfl rfl ?_;intro B aw;have aD:=au.n;have hy:=au.ba.cap;refine bc.mk [] [] _ (.refl _) (oR ao au) ?_;rintro v I' M' -⟨rfl,rfl,rfl⟩;refine a5.mk (λh=>?_) (λh=>?_)
 ·refine⟨_,_,.refl,?_,rfl,rfl⟩;simp[depth,show right t=false by simpa using h]
 ·have af:right t=true:=by simpa using h
  have rM:=ly af;obtain⟨a',bg⟩:=lZ af;refine pE.mk t.n t.n rfl rfl (b2 _) (by show 8*t.n<=_;omega) (by omega) ?_;refine bZ.mk λb ag wJ=>?_;refine dx.inv (ι:=Nat×List Int) (λx=>{ bp:=[(1,.ref 1 0),(3,.val (.slice (some ⟨b,0,none⟩) t.n t.n)),(16,.val (.slice t.a t.n t.c)),(17,.val (.int .i64 t.n)),(18,.val (.int .i64 x.1))],cl:=[(1,t.cells)],cP:=I',da:=[dL b x.2] }) (λx=>x.1<=t.n/\x.2.length=t.n/\(∀ j,0<=x.2.getD j 0/\x.2.getD j 0<=x.1)/\(∀ j,x.1<=j->x.2.getD j 0=0)/\wL 0 t.ns (List.replicate t.ns.length 0)=wL x.1 (t.ns.drop x.1) x.2) (λx=>t.n-x.1) ?_ ?_
  ·have z:∀ j,(List.replicate t.n (0:Int)).getD j 0=0:=λj=>by
    by_cases ak:j<t.n<;>simp[bM,ak]
   refine⟨(0,List.replicate t.n 0),⟨by omega,by simp,λj=>by rw[z];simp,λj _=>z j,by simp[aD]⟩,?_,il,.cons rfl .nil⟩;show h6 _ _ [⟨b,.cells (rowOf [Value.int .i64 0] (t.n*1)).toArray 3 (0,0)⟩] _ [dL b (List.replicate t.n 0)];rw[BX,gP];simp only[dL,BI];exact .refl
  ·rintro⟨i,g4⟩⟨fv,hW,ik,j4,BD⟩;simp only at fv hW ik j4 BD;refine a5.mk (λh=>?_) (λh=>?_)
   ·have a4:i<t.n:=by simpa using h
    have cJ:i<t.ns.length:=by omega
    obtain⟨aP,bI,bt⟩:=au.ba.row al.cH a4 cJ;have gu:=au.ns t.ns[i] (bJ cJ);have fh:=gu.az;have lY:t.ns.drop i=t.ns[i]::t.ns.drop (i+1):=fi cJ;refine bA.mk aP i bI rfl a4 ?_;refine aV.mk t.ns[i].cells (bt _) ?_;refine dx.inv (ι:=Nat×Int) (λx=>{ bp:=[(1,.ref 1 0),(3,.val (.slice (some ⟨b,0,none⟩) t.n t.n)),(4,.val (.int .i64 i)),(16,.val (.slice t.a t.n t.c)),(17,.val (.int .i64 t.n)),(18,.val (.int .i64 i)),(24,.val (.slice t.ns[i].cf t.ns[i].az t.ns[i].cx)),(25,.val (.int .i64 t.ns[i].az)),(26,.val (.int .i64 x.1))],cl:=[(1,t.cells)],cP:=I',da:=[dL b (g4.set i x.2)] }) (λx=>x.1<=t.ns[i].az/\0<=x.2/\x.2<=i/\Hm g4 t.ns[i].aq 0=Hm g4 (t.ns[i].aq.drop x.1) x.2) (λx=>t.ns[i].az-x.1) ?_ ?_
    ·refine⟨(0,0),⟨by omega,by omega,by simp,rfl⟩,?_,mS,.cons rfl .nil⟩;have e:g4.set i 0=g4:=by
      have aa:=j4 i (b2 _);rw[bM]at aa;apply zU;intro j;rw[iv];split
      ·rename_i e;subst e;have:i<g4.length:=by omega
       simp[this]at aa |-;exact aa.symm
      ·rfl
     simp only;rw[e];exact .refl
    ·rintro⟨j,m⟩⟨K7,tH,D5,PG⟩;simp only at K7 tH D5 PG;refine a5.mk (λh=>?_) (λh=>?_)
     ·have gn:j<t.ns[i].az:=by simpa using h
      have oS:j<t.ns[i].aq.length:=by omega
      obtain⟨gv,fm,fe⟩:=gu.ba.one gn oS;have jQ:t.ns[i].aq.drop j=t.ns[i].aq[j]::t.ns[i].aq.drop (j+1):=fi oS;have ae:=rM i cJ t.ns[i].aq[j] (bJ oS);have lv:t.ns[i].aq[j]=((t.ns[i].aq[j].toNat:Nat):Int):=by omega
      have cW:t.ns[i].aq[j].toNat<t.n:=by omega
      refine bA.mk gv j fm rfl gn ?_;refine aV.mk [.int .i64 t.ns[i].aq[j]] (fe _) ?_;refine c2.draw a3 rfl rfl rfl ?_;have ed:i<(g4.set i m).length:=by simp;omega
      have yd:t.ns[i].aq[j].toNat<(g4.set i m).length:=by simp;omega
      have PH:(g4.set i m)[i]=m:=by simp
      have e0:(g4.set i m)[t.ns[i].aq[j].toNat]=g4.getD t.ns[i].aq[j].toNat 0:=by
       have bD:i≠t.ns[i].aq[j].toNat:=by omega
       have dT:t.ns[i].aq[j].toNat<g4.length:=by omega
       rw[PD,bP bD];simp[bM,dT]
      refine bA.mk ⟨b,0,none⟩ i rfl rfl a4 ?_;refine aV.mk [.int .i64 m] (Hl ed PH (by simp)) ?_;refine bA.mk ⟨b,0,none⟩ t.ns[i].aq[j].toNat rfl lv cW ?_;refine aV.mk [.int .i64 (g4.getD t.ns[i].aq[j].toNat 0)] (Hl yd e0 (by simp)) ?_;refine bA.mk ⟨b,0,none⟩ i rfl rfl a4 ?_;refine cd.add [] [] _ 3 rfl ?_ rfl ?_;·simp only[tz,bE];show 0+i*1+1<=_;simp;omega
      have gR:IntKind.i64.wrap ((j:Int)+1)=((j+1:Nat):Int):=by rw[wrap_i64 ⟨by omega,by have:=gu.ba.cap;omega⟩];omega
      refine be.mk _ gR ?_;have awV:=ik t.ns[i].aq[j].toNat;refine⟨(j+1,max m (g4.getD t.ns[i].aq[j].toNat 0)),⟨⟨by omega,by simp only;omega,by simp only;omega,?_⟩,by show _<_;simp only;omega⟩,?_,mS,.cons rfl .nil⟩;·simp only;rw[PG,jQ];rfl
      ·have e:=oT (g4.set i m) i ed (max m (g4.getD t.ns[i].aq[j].toNat 0));simp only[dL];rw[Hj]at e;rw[<-e];simp only[dp,gP];exact .refl
     ·have gn:¬ j<t.ns[i].az:=by simpa using h
      have BY:t.ns[i].aq.drop j=[]:=mr (by omega);have hm:Hm g4 t.ns[i].aq 0=m:=by rw[PG,BY];rfl
      have ed:i<(g4.set i m).length:=by simp;omega
      have PH:(g4.set i m)[i]=m:=by simp
      have PI:IntKind.i64.wrap (m+1)=m+1:=wrap_i64 ⟨by omega,by omega⟩;have gR:IntKind.i64.wrap ((i:Int)+1)=((i+1:Nat):Int):=by rw[wrap_i64 ⟨by omega,by omega⟩];omega
      refine bA.mk ⟨b,0,none⟩ i rfl rfl a4 ?_;refine aV.mk [.int .i64 m] (Hl ed PH (by simp)) ?_;refine be.mk _ PI ?_;refine bA.mk ⟨b,0,none⟩ i rfl rfl a4 ?_;refine cd.add [] [] _ 3 rfl ?_ rfl ?_;·simp only[tz,bE];show 0+i*1+1<=_;omega
      refine be.mk _ gR ?_;refine⟨(i+1,g4.set i (m+1)),⟨⟨by omega,by simp[hW],?_,?_,?_⟩,by show _<_;simp only;omega⟩,?_,il,.cons rfl .nil⟩
      ·intro q;have aiT:=ik q;simp only[bM,iv]at aiT |-;split
       ·rename_i e;subst e;have:i<g4.length:=by omega
        simp[this];omega
       ·omega
      ·intro q aM;have Xe:=j4 q (by omega);simp only at aM;simp only[bM,iv]at Xe |-;rw[bP (by omega)];exact Xe
      ·simp only;rw[BD,lY];simp only[wL,hm]
      ·have e:=oT (g4.set i m) i ed (m+1);simp only[dL];rw[Hj]at e;rw[<-e];simp only[dp,gP];exact .refl
   ·have c8:¬ i<t.n:=by simpa using h
    have h8:t.ns.drop i=[]:=mr (by omega);have eI:wL 0 t.ns (List.replicate t.ns.length 0)=g4:=by rw[BD,h8];rfl
    have n7:t.br=((t.br.toNat:Nat):Int):=by omega
    have eJ:t.br.toNat<g4.length:=by omega
    refine bA.mk ⟨b,0,none⟩ t.br.toNat rfl n7 (by omega) ?_;refine aV.mk [.int .i64 g4[t.br.toNat]] (Hl eJ rfl (by simp)) ?_;refine⟨_,_,.sub (fC _) .refl,?_,rfl,rfl⟩;have:depth t=g4[t.br.toNat]:=by unfold depth;rw[af,eI];simp[bM,eJ]
    rw[this];rfl
def pP(t:bn):Bool:=decide (t.n<=1024)&&(right t&&decide (depth t<=32))
def aiU(ao:m5 I)(au:t.ok I):Spec Tryz.prog 131 [t.val] I [] (λv I' M'=>v=.bool (pP t)/\I'=I/\M'=[]):=by
 refine b0 [] a3 Tryz.func131 rfl rfl rfl ?_;intro B aw;refine cT.mk (λaa=>?_) (λaa=>?_)
 ·refine bc.mk [] [] _ (.refl _) (oR ao au) ?_;rintro v I' M' -⟨rfl,rfl,rfl⟩;refine cT.mk (λab=>?_) (λab=>?_)
  ·refine bc.mk [] [] _ (.refl _) (aiS ao au) ?_;rintro v I' M' -⟨rfl,rfl,rfl⟩;refine⟨_,_,.refl,?_,rfl,rfl⟩;have tK:t.n<=1024:=by simp at aa;omega
   simp[pP,tK,ab]
  ·refine⟨_,_,.refl,?_,rfl,rfl⟩;have m4:right t=false:=ab;simp[pP,m4]
 ·refine⟨_,_,.refl,?_,rfl,rfl⟩;have tK:¬ t.n<=1024:=by simp at aa;omega
  simp[pP,tK]
def fH{α:Type}(z:α)(f:al->(Int->α)->α):List al->List α->List α
 |[],aZ=>aZ| d::ds,aZ=>fH z f ds (aZ++[f d λk=>aZ.getD k.toNat z])
section
variable{α:Type}{z:α}{f:al->(Int->α)->α}
def PJ:∀ (ds:List al) (aZ:List α),(fH z f ds aZ).length=aZ.length+ds.length
 |[],aZ=>by simp[fH]
 |d::ds,aZ=>by rw[fH,PJ ds];simp;omega
def PK:∀ (ds:List al) (aZ:List α) (j:Nat),j<aZ.length->(fH z f ds aZ)[j]?=aZ[j]?
 |[],aZ,j,_=>rfl| d::ds,aZ,j,h=>by rw[fH,PK ds _ j (by simp;omega),qu h]
def La:∀ (ds:List al) (aZ:List α) (j:Nat) (h:j<ds.length),(fH z f ds aZ)[aZ.length+j]?=some (f ds[j] λk=>((fH z f ds aZ).take (aZ.length+j)).getD k.toNat z)
 |d::ds,aZ,0,_=>by
  rw[fH,pD,PK ds _ aZ.length (by simp)];simp only[List.getElem?_concat_length,tw,kJ];congr 1;funext k;have:(fH z f ds (aZ++[f d λk=>aZ.getD k.toNat z])).take aZ.length=aZ:=by
   apply zU;intro i;rw[k9];split;·rename_i hi;rw[PK ds _ i (by simp;omega),qu hi]
   ·rw[qv (by omega)]
  rw[this]
 |d::ds,aZ,j+1,h=>by have:=La ds (aZ++[f d λk=>aZ.getD k.toNat z]) j (by simpa using h);rw[fH];simp only[cm,eo,g3,dp,GS]at this |-;rw[show aZ.length+(j+1)=aZ.length+1+j from by omega];exact this
def mv(z:α)(f:al->(Int->α)->α)(ns:List al)(k:Int):α:=(fH z f ns []).getD k.toNat z
def Ea(aB:∀ d g eu,(∀ k∈d.aq,g k=eu k)->f d g=f d eu)(af:right t=true)(ak:j<t.ns.length):mv z f t.ns j=f t.ns[j] (mv z f t.ns):=by have h:=La (z:=z) (f:=f) t.ns [] j ak;simp only[g3,dp]at h;unfold mv;rw[bM,show((j:Int).toNat)=j from by omega,h,kK];refine aB _ _ _ λk ae=>?_;have:=ly af j ak k ae;rw[bM,bM,k9,bT (by omega)]
end
def free(g:Nat->Nat)(s:List Bool):Nat->Nat
 |0=>0| i+1=>free g s i+(bif s.getD i false then 0 else g i)
def Xf{g:Nat->Nat}{s:List Bool}{k:Nat}:∀ {i:Nat},i<=k->free g (s.set k true) i=free g s i
 |0,_=>rfl| i+1,h=>by unfold free;rw[Xf (by omega)];simp only[bM,iv];rw[bP (by omega)]
def Xg{g:Nat->Nat}{s:List Bool}{k:Nat}(av:s.getD k false=false)(aA:k<s.length):∀ {i:Nat},k<i->free g (s.set k true) i+g k=free g s i
 |i+1,h=>by
  unfold free;by_cases e:i=k;·subst e;rw[Xf (b2 _),av];simp[bM,aA]
  ·have:=Xg (g:=g) av aA (i:=i) (by omega);simp only[bM,iv]at this |-;rw[bP (by omega)];omega
def gS(g:Int->Nat)(ks:List Int):Nat:=(ks.map g).sum
def Xh{g:Nat->Nat}{i:Nat}:∀ {ks:List Int} {s cn:List Bool},kU i ks s=some cn->i<=s.length->cn.length=s.length/\free g cn i+gS (λk=>g k.toNat) ks=free g s i
 |[],s,cn,h,_=>by simp only[kU,kJ]at h;subst h;exact⟨rfl,rfl⟩
 |x::ks,s,cn,h,aA=>by
  unfold kU at h;cases ag:(decide (x<0)||(decide ((i:Int)<=x)||s.getD x.toNat false))with
  |true=>rw[ag]at h;cases h| false=>rw[ag]at h;simp only[tI,sE]at ag;obtain⟨aa,ab,ai⟩:=ag;obtain⟨aK,a7⟩:=Xh (g:=g) h (by simpa using aA);have ck:=Xg (g:=g) ai (by omega) (i:=i) (by omega);refine⟨by simpa using aK,?_⟩;simp only[gS,ca,hz]at a7 |-;omega
def PL{g:Nat->Nat}{c:al->Nat}:∀ {ds:List al} {i:Nat} {s cn:List Bool},jz i ds s=some cn->i+ds.length<=s.length->(∀ j (h:j<ds.length),g (i+j)<=c ds[j]+gS (λk=>g k.toNat) ds[j].aq) -> cn.length=s.length/\free g cn (i+ds.length)<=free g s i+(ds.map c).sum
 |[],i,s,cn,h,_,_=>by simp only[jz,kJ]at h;subst h;simp
 |d::ds,i,s,cn,h,aA,ax=>by
  unfold jz at h;cases aB:fits d d.aq.length with
  |false=>rw[aB]at h;cases h
  |true=>
   rw[aB]at h;simp only[cp]at h;cases aC:kU i d.aq s with
   |none=>rw[aC]at h;cases h
   |some s1=>
    rw[aC]at h;simp only[eo]at aA;obtain⟨aK,a7⟩:=Xh (g:=g) aC (by omega);obtain⟨ck,dM⟩:=PL (g:=g) (c:=c) h (by omega) (λj ak=>by
     have:=ax (j+1) (by simp;omega);simp only[GS]at this;rw[show i+1+j=i+(j+1)from by omega];exact this)
    have aw:=ax 0 (by simp);simp only[pD,tw]at aw;refine⟨by omega,?_⟩;have jR:free g s1 (i+1)<=free g s1 i+g i:=by
     show free g s1 i+_<=_;cases s1.getD i false<;>simp
    simp only[eo,ca,hz];rw[show i+(ds.length+1)=i+1+ds.length from by omega];omega
def Xi{br:Int}:∀ {s:List Bool} {i:Nat},rJ br i s=true->∀ j,j<s.length->(i+j:Nat)=br->s.getD j false=false
 |b::s,i,h,j,ak,e=>by
  unfold rJ at h;cases ag:(b == decide ((i:Int)=br))with
  |true=>rw[ag]at h;cases h
  |false=>
   rw[ag]at h;cases j with
   |zero=>
    have:decide ((i:Int)=br)=true:=by simpa using e
    rw[this]at ag;simpa using ag
   |succ j=>have:=Xi (i:=i+1) h j (by simpa using ak) (by omega);simpa using this
def Xj{g:Nat->Nat}{s:List Bool}{k:Nat}(ae:s.getD k false=false):∀ {n:Nat},k<n->g k<=free g s n
 |n+1,h=>by
  unfold free;by_cases e:n=k;·subst e;rw[ae];simp
  ·have:=Xj (g:=g) ae (n:=n) (by omega);omega
def PM(af:right t=true){g:Int->Nat}{c:al->Nat}(h:∀ j (ak:j<t.ns.length),g j<=c t.ns[j]+gS g t.ns[j].aq):g t.br<=(t.ns.map c).sum:=by
 have pQ:=lZ af;have ae:=ly af;unfold right at af;simp only[cw]at af;obtain⟨_,_,af⟩:=af;split at af
 ·rename_i s av;obtain⟨aK,a7⟩:=PL (g:=λk=>g k) (c:=c) av (by simp) (λj ak=>by refine ja (by rw[dp];exact h j ak) (Nat.le_of_eq ?_);congr 1;unfold gS;congr 1;refine fT λk e0=>?_;have:=ae j ak k e0;rw[zS this.1]);simp only[zQ,dp]at aK a7;have bd:=Xi af t.br.toNat (by omega) (by omega);have:=Xj (g:=λk=>g k) bd (n:=t.ns.length) (by omega);rw[zS pQ.1]at this;simp only[free]at a7;omega
 ·cases af
def Eb(af:right t=true)(ak:j<t.ns.length):fits t.ns[j] t.ns[j].aq.length=true:=by
 have aux:∀ {ds:List al} {i:Nat} {s cn:List Bool},jz i ds s=some cn->∀ j (h:j<ds.length),fits ds[j] ds[j].aq.length=true:=by
  intro ds
  induction ds with
  |nil=>intro i s cn _ j ak;cases ak
  |cons d ds aN=>
   intro i s cn h j ak;unfold jz at h;cases aB:fits d d.aq.length with
   |false=>rw[aB]at h;cases h
   |true=>
    rw[aB]at h;simp only[cp]at h;cases aC:kU i d.aq s with
    |none=>rw[aC]at h;cases h
    |some s1=>
     rw[aC]at h;cases j with
     |zero=>exact aB| succ j=>exact aN h j (by simpa using ak)
 unfold right at af;simp only[cw]at af;obtain⟨_,_,af⟩:=af;split at af
 ·rename_i s av;exact aux av j ak
 ·cases af
def Xk{w:World}(t u ty e:Nat)(i:TypeInfo)(au:P.underlying t=some (.slice e)){mu:TypeDesc}(hu:P.underlying u=some mu)(n5:∀ k,mu≠.int k)(hi:P.info? e=some i)
 {n:Nat} (m0:n<=c) (aw:(∃ b c,pK=.slice b 0 c)\/pK=.string .empty):(Builtin.append_ #[t,u] ty #[.slice sa n c,pK]).run P w=.ok (.slice sa n c) w:=by
 have He:(match mu with | .int _=>true | _=>false)=false:=by cases mu<;>first | rfl | exact(n5 _ rfl).elim
 rcases aw with⟨b,c',rfl⟩ | rfl
 ·cases b<;>cases sa<;>simp[Builtin.append_,run_underlying au,run_underlying hu,sizeOf,typeInfo,hi,He,Builtin.lenOf,m0,Builtin.firstCells,Builtin.zeroCells,loadCells,loadCellsFrom,storeCells]
 ·cases sa<;>simp[Builtin.append_,run_underlying au,run_underlying hu,sizeOf,typeInfo,hi,He,Builtin.lenOf,m0,Builtin.firstCells,loadCells,storeCells]
section
variable{X:c1}{β:Nat->Nat}{a:Act}{w:World}{F:Fr}{C:dO}{I:aJ}{M:List aF}{o:Oper}{K:gr}
def bF.bin{op:BinOp}{t:Nat}(aC:o.op=.binOp op t x y bf)(ah:∀ d,o.dst=some d->d<X.n){q:Value}(ad:bH F x=.val p)(aE:bH F y=.val q)
  (ax:∀ w,(eqGuard op t x y p q).run X.P w=.ok () w) (af:∀ w,eN I M w->(binOp op t p q).run X.P w=.ok v w) (h:K (put o.dst (.val v) F) C I M):bF X o F C I M K:=by
 refine⟨λac w Q ⟨β,aX⟩=>?_⟩;have ex:=dh aX.an ad;have oP:=dh aX.an aE;refine wk aX ah (by rw[aC];simp) ?_ h;unfold execOp;simp only[aC,cu,ex,oP,ax,bY,af w aX.holds,c7]
def bF.conv{s t:Nat}(aC:o.op=.convert s t x)(ah:∀ d,o.dst=some d->d<X.n)(ad:bH F x=.val p)
  (af:∀ w,eN I M w->(convert s t p).run X.P w=.ok v w) (h:K (put o.dst (.val v) F) C I M):bF X o F C I M K:=by
 refine⟨λac w Q ⟨β,aX⟩=>?_⟩;have ex:=dh aX.an ad;refine wk aX ah (by rw[aC];simp) ?_ h;unfold execOp;simp only[aC,cu,ex,bY,af w aX.holds,c7]
def bF.un{op:UnOp}{t:Nat}(aC:o.op=.unOp op t x)(ah:∀ d,o.dst=some d->d<X.n)(ad:bH F x=.val p)
  (af:∀ w,eN I M w->(Op.unary op p).run X.P w=.ok v w) (h:K (put o.dst (.val v) F) C I M):bF X o F C I M K:=by
 refine⟨λac w Q ⟨β,aX⟩=>?_⟩;have ex:=dh aX.an ad;refine wk aX ah (by rw[aC];simp) ?_ h;unfold execOp;simp only[aC,cu,ex,bY,af w aX.holds,c7]
def jA(x:Int):Int:=IntKind.u64.wrap (BitVec.ofInt 64 IntKind.u64.max ^^^ BitVec.ofInt 64 x).toNat
def bF.Hn{t:Nat}(aC:o.op=.unOp .xor t x)(ah:∀ d,o.dst=some d->d<X.n){n:Int}(ad:bH F x=.val (.int .u64 n))(h:K (put o.dst (.val (.int .u64 (jA n))) F) C I M):bF X o F C I M K:=
 .un aC ah ad (λw _=>rfl) h
def bF.PN(aO:cX X.P X.E){s:Operand}{t u:Nat}(aC:o.op=.call { callee:=.builtin .append,args:=#[s,x],argTypes:=#[t,u] })(ah:∀ d,o.dst=some d->d<X.n)
 {lU aG:dR} (au:X.E t=some c6) (dz:c6.bQ=.slice e) (hu:X.E u=some lU) (fK:∀ k,lU.bQ≠.int k) (he:X.E e=some aG)
 {n:Nat} (av:bH F s=.val (.slice sa n c)) (m0:n<=c)
 (ad:bH F x=.val pK) (aw:(∃ b c,pK=.slice b 0 c)\/pK=.string .empty)
  (h:K (put o.dst (.val (.slice sa n c)) F) C I M):bF X o F C I M K:=by
 refine⟨λa w Q ⟨β,aX⟩=>?_⟩;obtain⟨inf,z,hi,fv,hW,ik,j4⟩:=(aO _ _ he).inf;obtain⟨d,fM,fk⟩:=(aO _ _ hu).ft;obtain⟨g2,iO,kS⟩:=(aO _ _ au).ft;have oO:g2=.slice e:=by rw[dz]at kS;cases g2<;>simp_all[fs]
 subst oO;have e':=Xk (w:=w) t u o.type e inf iO fM (λk cU=>fK k (by rw[<-fk,cU];rfl)) hi (sa:=sa) m0 aw;have es:=dh aX.an av;have ex:=dh aX.an ad;refine wk aX ah (by rw[aC];simp) ?_ h;unfold execOp;simp only[aC,resolve,invoke,builtin,cu,c7,bY,rz,ca,hH,es,ex,e']
def Xl(op:BinOp)(t:Nat)(x y:Operand)(p q:Option Addr)(P:Program)(w:World):(eqGuard op t x y (.pointer p) (.pointer q)).run P w=.ok () w:=by
 unfold eqGuard;cases op<;>rfl
def bF.Lb(aO:cX X.P X.E){t:Nat}(aC:o.op=.binOp .eql t x y bf)(ah:∀ d,o.dst=some d->d<X.n)(au:X.E t=some c6)(dz:c6.bQ=.pointer e)
  {p:Option Addr} (ad:bH F x=.val (.pointer p)) (aE:bH F y=.val (.pointer none)) (h:K (put o.dst (.val (.bool p.isNone)) F) C I M):bF X o F C I M K:=by
 obtain⟨d,fM,fk⟩:=(aO _ _ au).ft;have aa:d=.pointer e:=by rw[dz]at fk;cases d<;>simp_all[fs]
 subst aa;exact .bin aC ah ad aE (λw=>Xl ..) (λw _=>run_eql_pointer_nil w t p (by simp[Program.pointee,fM])) h
def bF.Xm(aO:cX X.P X.E){t:Nat}(aC:o.op=.binOp .neq t x y bf)(ah:∀ d,o.dst=some d->d<X.n){aiV:dR}(au:X.E t=some c6)(dz:c6.bQ=.pointer e)(he:X.E e=some aiV)
  {p:Addr} (ad:bH F x=.val (.pointer (some p))) (aE:bH F y=.val (.pointer (some p))) (h:K (put o.dst (.val (.bool false)) F) C I M):bF X o F C I M K:=by
 obtain⟨d,fM,fk⟩:=(aO _ _ au).ft;have aa:d=.pointer e:=by rw[dz]at fk;cases d<;>simp_all[fs]
 subst aa;obtain⟨inf,z,hi,_⟩:=(aO _ _ he).inf;exact .bin aC ah ad aE (λw=>Xl ..) (λw _=>Lib.run_neq_ptr_same w p fM hi) h
end
def Xn{f:Nat}{fn:Func}{e:Array Value->Sem Value}{args:List Value}{M:List aF}(aB:P.funcs[f]?=some fn)(aiW:(fn.name == "runtime.NumGoroutine")=false)
  (ag:fn.body.isNone=true) (aD:Extern.findNext fn=none) (he:Extern.find fn=some e) (af:∀ w,(e args.toArray).run P w=.ok v w):Spec P f args I M λr I' M'=>r=v/\I'=I/\M'=M:=by
 refine .inr λw hw=>⟨v,w,I,M,?_,⟨rfl,rfl,rfl⟩,hw,λ_ _ h=>h,λ_ _ h=>.inl h,λx ad=>.inl ⟨x,ad,rfl⟩,λ_ _ _=>rfl,.refl _,b2 _⟩;rw[run_callFunc_extern aB aiW ag aD he,af];rfl
def zW(l:List UInt8):List Value:=l.map λb=>.int .u8 b.toNat
structure gw where
 mw:Bool
 os:aQ
 cB:List UInt8
def gw.ar(b:Nat)(x:gw):aF:=⟨b,.cells #[.pointer (bif x.mw then some ⟨b,0,none⟩else none),x.os.val] 320 (0,0)⟩
def gw.M(b:Nat)(x:gw):List aF:=x.ar b::x.os.ar 5
structure gw.ok(x:gw):Prop where
 os:x.os.ok 1 (zW x.cB)
 ne:∀ g,x.os.a=some g->x.cB≠[]
def gw.new:gw:=⟨false,⟨none,0,0,[]⟩,[]⟩
def gw.Lc:gw.new.ok:=⟨⟨rfl,λ_=>⟨rfl,rfl⟩,λg h=>by cases h⟩,λg h=>by cases h⟩
def gw.ok.n{x:gw}(h:x.ok):x.os.n=x.cB.length:=by have:=h.os.len;simp[zW]at this;omega
def ptr(b:Nat):Value:=.pointer (some ⟨b,0,none⟩)
def dq{M:List aF}(bb:(⟨b,.cells cs.toArray T (0,0)⟩:aF)∈M){n:Nat}(h:k+n<=cs.length):cY I M ((⟨b,0,none⟩:Addr).add k) n ((cs.drop k).take n):=by
 rw[eO _ rfl];refine⟨rfl,_,T,(0,0),.inr ⟨_,bb,rfl,rfl⟩,?_,?_⟩
 ·simp
 ·simp;omega
def PO{M:List aF}(v:Value):Spec Tryz.prog 322 [v] I M λr I' M'=>r=v/\I'=I/\M'=M:=
 Xn Tryz.func322 (by kernel_rfl) (by kernel_rfl) (by kernel_rfl) (e:=Extern.AbiNoEscape.same) (by kernel_rfl) (λw=>Lib.run_noEscape w _)
def Xo{M:List aF}(s:ByteArray)(c:UInt8):Spec Tryz.prog 364 [.string s,.int .u8 c.toNat] I M λr I' M'=>r=.int .i64 (Lib.indexByte s.data.toList c)/\I'=I/\M'=M:=
 Xn Tryz.func364 (by kernel_rfl) (by kernel_rfl) (by kernel_rfl) (e:=Extern.BytealgIndexByte.indexByte) (by kernel_rfl) (λw=>by
  have:=Lib.run_indexByteString (P:=Tryz.prog) s (c.toNat:Int) w;simpa using this)
def aiX(s:ByteArray)(c:UInt8):Spec Tryz.prog 346 [.string s,.int .u8 c.toNat] I [] λr I' M'=>r=.int .i64 (Lib.indexByte s.data.toList c)/\I'=I/\M'=[]:=by refine b0 [] a3 Tryz.func346 rfl rfl rfl ?_;intro B aw;refine bc.mk [] [] _ (.refl _) (Xo s c) ?_;rintro v I' M' -⟨rfl,rfl,rfl⟩;exact⟨_,_,.refl,rfl,rfl,rfl⟩
def Xp(s:ByteArray)(c:UInt8):Spec Tryz.prog 330 [.string s,.int .u8 c.toNat] I [] λr I' M'=>r=.int .i64 (Lib.indexByte s.data.toList c)/\I'=I/\M'=[]:=by refine b0 [] a3 Tryz.func330 rfl rfl rfl ?_;intro B aw;refine bc.mk [] [] _ (.refl _) (aiX s c) ?_;rintro v I' M' -⟨rfl,rfl,rfl⟩;exact⟨_,_,.refl,rfl,rfl,rfl⟩
def Ld{M:List aF}{w:World}(h:eN I M w){cs:Array Value}{an:Nat×Nat}(bb:(⟨b,.cells cs T an⟩:aF)∈M):w.shape? b=some (T,cs.size):=by have:=h.m _ bb;simp only at this;simp[World.shape?,this]
def Xq(b:Nat)(x:gw):Spec Tryz.prog 300 [ptr b] I [x.ar b] λr I' M'=>r=.tuple #[]/\I'=I/\M'=[{ x with mw:=true:gw }.ar b]:=by
 obtain⟨mw,os,cB⟩:=x;obtain⟨inf,z,hi,fv,_⟩:=(a3 320 _ rfl).inf;refine b0 [] a3 Tryz.func300 rfl rfl rfl ?_;intro B aw;cases mw with
 |false=>refine aV.mk [.pointer none] (dq (cs:=[.pointer none,os.val]) (k:=0) (n:=1) (T:=320) (eC.2 rfl) (by simp)) ?_;refine .other (bF.Lb a3 rfl (by simp) rfl rfl rfl rfl ?_);refine a5.mk (λ_=>?_) (λh=>by cases h);refine bF.conv rfl (by simp) rfl (λw hw=>Lib.run_to_unsafe (t:=320) (e:=320) (cells:=2) w ⟨b,0,none⟩ (by kernel_rfl) (by kernel_rfl) (j:=inf) hi (by rw[fv];decide) (Ld (cs:=#[.pointer none,os.val]) hw (eC.2 rfl)) (by simp)) ?_;refine bc.mk [gw.ar b ⟨false,os,cB⟩] [] _ (by simp) (PO _) ?_;rintro v I' M' -⟨rfl,rfl,rfl⟩;refine bF.conv rfl (by simp) rfl (λw hw=>Lib.run_from_unsafe (u:=320) (e:=320) (cells:=2) w ⟨b,0,none⟩ (by kernel_rfl) (by kernel_rfl) (j:=inf) hi (Ld (cs:=#[.pointer none,os.val]) hw (eC.2 rfl)) (by kernel_rfl)) ?_;refine cd.add [] [] _ _ rfl (bK rfl) rfl ?_;exact⟨_,_,.refl,rfl,rfl,rfl⟩
 |true=>refine aV.mk [ptr b] (dq (cs:=[ptr b,os.val]) (k:=0) (n:=1) (T:=320) (eC.2 rfl) (by simp)) ?_;refine .other (bF.Lb a3 rfl (by simp) rfl rfl rfl rfl ?_);refine a5.mk (λh=>by cases h) (λ_=>?_);refine aV.mk [ptr b] (dq (cs:=[ptr b,os.val]) (k:=0) (n:=1) (T:=320) (eC.2 rfl) (by simp)) ?_;refine .other (bF.Xm a3 rfl (by simp) rfl rfl rfl rfl rfl ?_);refine a5.mk (λh=>by cases h) (λ_=>?_);exact⟨_,_,.refl,rfl,rfl,rfl⟩
def pR(b:Nat){x:gw}(ad:x.ok)(c:UInt8)(aA:x.cB.length<70368744177664):Spec Tryz.prog 318 [ptr b,.int .u8 c.toNat] I (x.M b)
  λr I' M'=>r=.nilIface/\I'=I/\∃ y:gw,y.ok/\y.cB=x.cB++[c]/\M'=y.M b:=by
 refine b0 [] a3 Tryz.func318 rfl rfl rfl ?_;intro B aw;have aD:=ad.n;refine bc.mk [x.ar b] (x.os.ar 5) _ (.refl _) (Xq b x) ?_;rintro v I' M' -⟨rfl,rfl,rfl⟩;refine aV.mk [x.os.val] (dq (cs:=[ptr b,x.os.val]) (k:=1) (n:=1) (T:=320) (.head _) (by simp)) ?_;refine bZ.mk λg ax Ec=>?_;refine bF.append a3 rfl (by simp) (e:=5) rfl rfl rfl x.os (xs:=zW x.cB) ad.os rfl (m:=1) rfl (b3:=[.int .u8 c.toNat]) (by decide) ?_ rfl (Mr:=[⟨g,.cells #[.int .u8 c.toNat] 5 (0,0)⟩,{ x with mw:=true:gw }.ar b]) ?_ ?_ ?_ ?_
 ·exact dq (cs:=[.int .u8 c.toNat]) (k:=0) (n:=1) (T:=5) (.head _) (by simp)
 ·exact eT (l₁:=[_,_]) (l₂:=x.os.ar 5)
 ·simp only[maxLen];omega
 ·show(x.os.n+1)*1<=_;omega
 ·intro eu c' aU aa ab ai aL;refine cd.add [⟨eu,.cells aU.toArray 5 (0,0)⟩,⟨g,.cells #[.int .u8 c.toNat] 5 (0,0)⟩] [] _ _ rfl (bK rfl) rfl ?_;refine⟨_,_,.perm (M1:=[⟨g,.cells #[.int .u8 c.toNat] 5 (0,0)⟩]++gw.M b ⟨true,⟨some eu,x.os.n+1,c',aU⟩,x.cB++[c]⟩) ?_ (.sub (mT _ _) .refl),rfl,rfl,_,?_,rfl,rfl⟩
  ·exact eT (l₁:=[_]) (l₂:=[_,_])
  ·refine⟨⟨?_,λh=>by simp at h,?_⟩,by simp⟩
   ·simp[zW,aD]
   ·intro bg m6;refine⟨aa,ab,ai,?_⟩;rw[aL];simp[zW]
def u6(b:Nat){x:gw}(ad:x.ok)(s:ByteArray)(aA:x.cB.length+s.size<=70368744177664):Spec Tryz.prog 279 [ptr b,.string s] I (x.M b)
  λr I' M'=>r=.tuple #[.int .i64 s.size,.nilIface]/\I'=I/\∃ y:gw,y.ok/\y.cB=x.cB++s.data.toList/\M'=y.M b:=by
 refine b0 [] a3 Tryz.func279 rfl rfl rfl ?_;intro B aw;have aD:=ad.n;refine bc.mk [x.ar b] (x.os.ar 5) _ (.refl _) (Xq b x) ?_;rintro v I' M' -⟨rfl,rfl,rfl⟩;refine aV.mk [x.os.val] (dq (cs:=[ptr b,x.os.val]) (k:=1) (n:=1) (T:=320) (.head _) (by simp)) ?_;by_cases av:s.size=0
 ·have he:s=.empty:=we (O0 av);subst he;have m0:x.os.n<=x.os.c:=by
   cases a6:x.os.a with
   |none=>obtain⟨aa,ab⟩:=ad.os.nil a6;omega
   |some g=>exact(ad.os.cap g a6).2.1
  refine bF.PN a3 rfl (by simp) (e:=5) rfl rfl rfl (by simp) rfl rfl m0 rfl (.inr rfl) ?_;refine cd.add [] (x.os.ar 5) _ _ rfl (bK rfl) rfl ?_;exact⟨_,_,.refl,rfl,rfl,⟨true,x.os,x.cB⟩,⟨ad.os,ad.ne⟩,by simp,rfl⟩
 ·refine bF.aiG a3 rfl (by simp) (e:=5) rfl rfl rfl rfl rfl rfl x.os (xs:=zW x.cB) ad.os rfl rfl (by omega) (Mr:=[{ x with mw:=true:gw }.ar b]) (eT (l₁:=[_])) ?_ ?_ ?_
  ·simp only[maxLen];omega
  ·show(x.os.n+s.size)*1<=_;omega
  ·intro eu c' aU aa ab ai aL;refine cd.add [⟨eu,.cells aU.toArray 5 (0,0)⟩] [] _ _ rfl (bK rfl) rfl ?_;refine⟨_,_,.perm (M1:=gw.M b ⟨true,⟨some eu,x.os.n+s.size,c',aU⟩,x.cB++s.data.toList⟩) ?_ .refl,rfl,rfl,_,?_,rfl,rfl⟩
   ·exact eT (l₁:=[_]) (l₂:=[_])
   ·refine⟨⟨?_,λh=>by simp at h,?_⟩,λg _ h=>?_⟩
    ·simp[zW,aD]
    ·intro bg m6;refine⟨aa,ab,ai,?_⟩;rw[aL];simp[zW,lu]
    ·have bq:=congrArg List.length (List.append_eq_nil_iff.1 h).2;exact av (by simpa using bq)
def ye(b:Nat){x:gw}(ad:x.ok)(aA:x.cB.length<=70368744177664):Spec Tryz.prog 280 [ptr b] I (x.M b)
  λr I' M'=>r=.string ⟨x.cB.toArray⟩/\I'=I/\M'=[]:=by
 refine b0 [] a3 Tryz.func280 rfl rfl rfl ?_;intro B aw;have aD:=ad.n;obtain⟨mw,⟨a,n,c,aU⟩,cB⟩:=x;simp only at aD aA;subst aD;refine c2.draw a3 rfl rfl rfl ?_;cases a with
 |none=>obtain⟨aa,ab⟩:=ad.os.nil rfl;simp only at aa ab;have u7:cB=[]:=iD aa;subst u7;subst ab;refine aV.mk [.slice none 0 0] (dq (cs:=[.pointer (bif mw then some ⟨b,0,none⟩else none),.slice none 0 0]) (k:=1) (n:=1) (T:=320) (.head _) (by simp)) ?_;refine aV.mk [.slice none 0 0] (dq (cs:=[.pointer (bif mw then some ⟨b,0,none⟩else none),.slice none 0 0]) (k:=1) (n:=1) (T:=320) (.head _) (by simp)) ?_;refine bF.WS rfl (by simp) rfl rfl ?_;exact⟨_,_,.sub (fC _) .refl,rfl,rfl,rfl⟩
 |some g=>
  obtain⟨aa,ab,ai,aL⟩:=ad.os.cap g rfl;have bD:=ad.ne g rfl;simp only at aa ab ai aL bD;have mo:cB.length≠0:=λh=>bD (iD h);refine aV.mk [.slice (some ⟨g,0,none⟩) cB.length c] (dq (cs:=[.pointer (bif mw then some ⟨b,0,none⟩else none),.slice (some ⟨g,0,none⟩) cB.length c]) (k:=1) (n:=1) (T:=320) (.head _) (by simp)) ?_;refine uL.mk (by omega) ?_;refine aV.mk [.slice (some ⟨g,0,none⟩) cB.length c] (dq (cs:=[.pointer (bif mw then some ⟨b,0,none⟩else none),.slice (some ⟨g,0,none⟩) cB.length c]) (k:=1) (n:=1) (T:=320) (.head _) (by simp)) ?_;refine bF.Pr a3 rfl (by simp) (e:=5) rfl rfl rfl rfl (l:=cB) (g:=g) (cs:=aU.toArray) rfl rfl bD (by omega) (Mr:=[gw.ar b ⟨mw,⟨some g,cB.length,c,aU⟩,cB⟩]) (eT (l₁:=[_]) (l₂:=[_])) ?_ ?_;·rw[gP]at aL;exact aL
  ·exact⟨_,_,.sub (fC _) .refl,rfl,rfl,rfl⟩
def B1(c:UInt8)(left:ByteArray):Bool:=decide ((32:Int)<=c.toNat)&&(decide ((c.toNat:Int)<=126)&&(!decide ((c.toNat:Int)=92)&&decide (Lib.indexByte left.data.toList c<0)))
def aiY(c:UInt8)(left:ByteArray):Spec Tryz.prog 367 [.int .u8 c.toNat,.string left] I [] λr I' M'=>r=.bool (B1 c left)/\I'=I/\M'=[]:=by
 refine b0 [] a3 Tryz.func367 rfl rfl rfl ?_;intro B aw;refine cT.mk (λaa=>?_) (λaa=>?_)
 ·refine cT.mk (λab=>?_) (λab=>?_)
  ·refine cT.mk (λai=>?_) (λai=>?_)
   ·refine bc.mk [] [] _ (.refl _) (Xp left c) ?_;rintro v I' M' -⟨rfl,rfl,rfl⟩;refine⟨_,_,.refl,?_,rfl,rfl⟩;simp only[B1,aa,ab,ai,qJ]
   ·refine⟨_,_,.refl,?_,rfl,rfl⟩;simp only[B1,aa,ab,ai,qJ,wx,PF]
  ·refine⟨_,_,.refl,?_,rfl,rfl⟩;simp only[B1,aa,ab,qJ,wx,PF]
 ·refine⟨_,_,.refl,?_,rfl,rfl⟩;simp only[B1,aa,qJ,wx,PF]
def Ed:ByteArray:=⟨#[48,49,50,51,52,53,54,55,56,57,97,98,99,100,101,102]⟩
def zX(n:Nat):UInt8:=Ed.data.toList.getD n 0
def oU(c:UInt8)(left:ByteArray):List UInt8:=
 bif B1 c left then [c]else
 bif decide ((c.toNat:Int)=10)then [92,110]else
 bif decide ((c.toNat:Int)=13)then [92,114]else
 bif decide ((c.toNat:Int)=9)then [92,116]else
 bif decide ((c.toNat:Int)=92)||decide ((0:Int)<=Lib.indexByte left.data.toList c)then [92,c]else [92,120,zX (c.toNat/16),zX (c.toNat%16)]
def Ho(c:UInt8)(left:ByteArray):(oU c left).length<=4:=by
 unfold oU;cases B1 c left<;>cases decide ((c.toNat:Int)=10)<;>cases decide ((c.toNat:Int)=13)<;>cases decide ((c.toNat:Int)=9)<;>cases(decide ((c.toNat:Int)=92)||decide ((0:Int)<=Lib.indexByte left.data.toList c))<;>simp
def aiZ:∀ n:Nat,n<256->IntKind.u8.wrap ((BitVec.ofInt 8 (n:Int)) &&& (BitVec.ofInt 8 15)).toNat=((n%16:Nat):Int):=by decide +kernel
def Xr(ak:j<Ed.size):Ed[j]=zX j:=by have:j<Ed.data.toList.length:=ak;simp only[zX,bM,dt this,kK];rfl
def Le(b:Nat){x:gw}(ad:x.ok)(c:UInt8)(left:ByteArray)(aA:x.cB.length<=70368744177600):Spec Tryz.prog 353 [ptr b,.int .u8 c.toNat,.string left] I (x.M b)
  λr I' M'=>I'=I/\∃ y:gw,y.ok/\y.cB=x.cB++oU c left/\M'=y.M b:=by
 refine b0 [] a3 Tryz.func353 rfl rfl rfl ?_;intro B aw;refine bc.mk [] (x.M b) _ (.refl _) (aiY c left) ?_;rintro v I' M' -⟨rfl,rfl,rfl⟩;refine a5.mk (λaa=>?_) (λaa=>?_)
 ·refine bc.mk (x.M b) [] _ (by simp) (pR b ad c (by omega)) ?_;rintro v I' M' -⟨rfl,rfl,y,aE,g5,rfl⟩;refine⟨_,_,.refl,rfl,y,aE,?_,by simp⟩;rw[g5,oU,aa];rfl
 ·refine a5.mk (λab=>?_) (λab=>?_)
  ·refine bc.mk (x.M b) [] _ (by simp) (u6 b ad _ (by show _+2<=_;omega)) ?_;rintro v I' M' -⟨rfl,rfl,y,aE,g5,rfl⟩;refine⟨_,_,.refl,rfl,y,aE,?_,by simp⟩;rw[g5,oU,aa,ab];rfl
  ·refine a5.mk (λai=>?_) (λai=>?_)
   ·refine bc.mk (x.M b) [] _ (by simp) (u6 b ad _ (by show _+2<=_;omega)) ?_;rintro v I' M' -⟨rfl,rfl,y,aE,g5,rfl⟩;refine⟨_,_,.refl,rfl,y,aE,?_,by simp⟩;rw[g5,oU,aa,ab,ai];rfl
   ·refine a5.mk (λaL=>?_) (λaL=>?_)
    ·refine bc.mk (x.M b) [] _ (by simp) (u6 b ad _ (by show _+2<=_;omega)) ?_;rintro v I' M' -⟨rfl,rfl,y,aE,g5,rfl⟩;refine⟨_,_,.refl,rfl,y,aE,?_,by simp⟩;rw[g5,oU,aa,ab,ai,aL];rfl
    ·have two:∀ (I1:aJ),(decide ((c.toNat:Int)=92)||decide ((0:Int)<=Lib.indexByte left.data.toList c))=true->oU c left=[92,c]:=λ_ h=>by rw[oU,aa,ab,ai,aL,h];rfl
     have other:(decide ((c.toNat:Int)=92)||decide ((0:Int)<=Lib.indexByte left.data.toList c))=false->oU c left=[92,120,zX (c.toNat/16),zX (c.toNat%16)]:=λh=>by rw[oU,aa,ab,ai,aL,h];rfl
     have ao:=c.toNat_lt;refine cT.mk (λbq=>?_) (λbq=>?_)
     ·refine bc.mk [] (x.M b) _ (.refl _) (Xp left c) ?_;rintro v I' M' -⟨rfl,rfl,rfl⟩;refine a5.mk (λb'=>?_) (λb'=>?_)
      ·refine bc.mk (x.M b) [] _ (by simp) (pR b ad 92 (by omega)) ?_;rintro v I' M' -⟨rfl,rfl,y,aE,g5,rfl⟩;refine bc.mk (y.M b) [] _ (by simp) (pR b aE c (by rw[g5];simp;omega)) ?_;rintro v I' M' -⟨rfl,rfl,z,bd,tL,rfl⟩;refine⟨_,_,.refl,rfl,z,bd,?_,by simp⟩;rw[tL,g5,two I' (by rw[bq];exact b')];simp
      ·refine bc.mk (x.M b) [] _ (by simp) (u6 b ad _ (by show _+2<=_;omega)) ?_;rintro v I' M' -⟨rfl,rfl,y,aE,g5,rfl⟩;have Hp:y.cB.length=x.cB.length+2:=by rw[g5];simp
       refine sy.mk 4 rfl ?_;refine tm.mk (s:=Ed) (c.toNat/16) ?_ (by show _<16;omega) ?_
       ·show(c.toNat:Int).fdiv (2^(min 4 (IntKind.u8.bits)))=_;have ai0:((2:Int)^(min 4 IntKind.u8.bits))=16:=by decide
        rw[ai0,K8 _ (by omega)];omega
       rw[Xr];refine bc.mk (y.M b) [] _ (by simp) (pR b aE (zX (c.toNat/16)) (by omega)) ?_;rintro v I' M' -⟨rfl,rfl,z,bd,tL,rfl⟩;have yf:z.cB.length=x.cB.length+3:=by rw[tL];simp;omega
       refine tm.mk (s:=Ed) (c.toNat%16) (aiZ c.toNat ao) (by show _<16;omega) ?_;rw[Xr];refine bc.mk (z.M b) [] _ (by simp) (pR b bd (zX (c.toNat%16)) (by omega)) ?_;rintro v I' M' -⟨rfl,rfl,u,hu,yg,rfl⟩;refine⟨_,_,.refl,rfl,u,hu,?_,by simp⟩;rw[yg,tL,g5,other (by rw[bq];exact b')];simp
     ·refine bc.mk (x.M b) [] _ (by simp) (pR b ad 92 (by omega)) ?_;rintro v I' M' -⟨rfl,rfl,y,aE,g5,rfl⟩;refine bc.mk (y.M b) [] _ (by simp) (pR b aE c (by rw[g5];simp;omega)) ?_;rintro v I' M' -⟨rfl,rfl,z,bd,tL,rfl⟩;refine⟨_,_,.refl,rfl,z,bd,?_,by simp⟩;rw[tL,g5,two I' (by rw[bq];rfl)];simp
def nG(n:Nat):List UInt8:=bif Nat.blt n 10 then [UInt8.ofNat (48+n)]else [UInt8.ofNat (48+n/10),UInt8.ofNat (48+n%10)]
def zY(n:Nat):ByteArray:=⟨(nG n).toArray⟩
def Xs:ByteArray:=⟨((List.range 10).map (λn=>UInt8.ofNat (48+n))++(List.range 26).map (λn=>UInt8.ofNat (97+n))).toArray⟩
def Xt:ByteArray:=⟨((List.range 100).flatMap λn=>[UInt8.ofNat (48+n/10),UInt8.ofNat (48+n%10)]).toArray⟩
def ai1:∀ n:Fin 10,(Xs.extract n.val (n.val+1)).data.toList=nG n.val:=by decide +kernel
def ai2:∀ n:Fin 100,10<=n.val->(Xt.extract (n.val*2) (n.val*2+2)).data.toList=nG n.val:=by decide +kernel
def Ee{a b:ByteArray}(h:a.data.toList=b.data.toList):a=b:=we (gX h)
def Hq(n:Nat):(nG n).length<=2:=by
 unfold nG;cases Nat.blt n 10<;>simp
def ai3(n:Nat)(aD:n<100):Spec Tryz.prog 384 [.int .i64 n] I [] λr I' M'=>r=.string (zY n)/\I'=I/\M'=[]:=by
 refine b0 [] a3 Tryz.func384 rfl rfl rfl ?_;intro B aw;refine a5.mk (λh=>?_) (λh=>?_)
 ·have a4:n<10:=by simp at h;omega
  refine be.mk ((n+1:Nat):Int) (by rw[wrap_i64 ⟨by omega,by omega⟩];omega) ?_;refine lf.mk n (n+1) rfl rfl (by omega) (by show _<=36;omega) ?_;refine⟨_,_,.refl,?_,rfl,rfl⟩;have:Xs.extract n (n+1)=zY n:=Ee (ai1 ⟨n,a4⟩);rw[<-this];rfl
 ·have c8:10<=n:=by simp at h;omega
  refine be.mk ((n*2:Nat):Int) (by rw[wrap_i64 ⟨by omega,by omega⟩];omega) ?_;refine be.mk ((n*2:Nat):Int) (by rw[wrap_i64 ⟨by omega,by omega⟩];omega) ?_;refine be.mk ((n*2+2:Nat):Int) (by rw[wrap_i64 ⟨by omega,by omega⟩];omega) ?_;refine lf.mk (n*2) (n*2+2) rfl rfl (by omega) (by show _<=200;omega) ?_;refine⟨_,_,.refl,?_,rfl,rfl⟩;have:Xt.extract (n*2) (n*2+2)=zY n:=Ee (ai2 ⟨n,aD⟩ c8);rw[<-this];rfl
def ai4(n:Nat)(aD:n<100):Spec Tryz.prog 382 [.int .i64 n,.int .i64 10] I [] λr I' M'=>r=.string (zY n)/\I'=I/\M'=[]:=by refine b0 [] a3 Tryz.func382 rfl rfl rfl ?_;intro B aw;refine a5.mk (λh=>?_) (λh=>by cases h);refine cT.mk (λh=>?_) (λh=>by simp at h;try omega);refine a5.mk (λh=>?_) (λh=>by simp at h;try omega);refine bc.mk [] [] _ (.refl _) (ai3 n aD) ?_;rintro v I' M' -⟨rfl,rfl,rfl⟩;exact⟨_,_,.refl,rfl,rfl,rfl⟩
def ai5(n:Nat)(aD:n<100):Spec Tryz.prog 377 [.int .i64 n] I [] λr I' M'=>r=.string (zY n)/\I'=I/\M'=[]:=by refine b0 [] a3 Tryz.func377 rfl rfl rfl ?_;intro B aw;refine bc.mk [] [] _ (.refl _) (ai4 n aD) ?_;rintro v I' M' -⟨rfl,rfl,rfl⟩;exact⟨_,_,.refl,rfl,rfl,rfl⟩
def ai6(n:Nat)(aD:n<100):Spec Tryz.prog 369 [.int .i64 n] I [] λr I' M'=>r=.string (zY n)/\I'=I/\M'=[]:=by refine b0 [] a3 Tryz.func369 rfl rfl rfl ?_;intro B aw;refine bc.mk [] [] _ (.refl _) (ai5 n aD) ?_;rintro v I' M' -⟨rfl,rfl,rfl⟩;exact⟨_,_,.refl,rfl,rfl,rfl⟩
def Lf(n:Nat)(aD:n<100):Spec Tryz.prog 355 [.int .i64 n] I [] λr I' M'=>r=.string (zY n)/\I'=I/\M'=[]:=by refine b0 [] a3 Tryz.func355 rfl rfl rfl ?_;intro B aw;refine bc.mk [] [] _ (.refl _) (ai6 n aD) ?_;rintro v I' M' -⟨rfl,rfl,rfl⟩;exact⟨_,_,.refl,rfl,rfl,rfl⟩
def hK(node m7:Int):Bool:=
 bif decide (node=5)then decide (m7=5)else
 bif decide (node=4)||(decide (node=7)||decide (node=8))then decide (m7=4)||decide (m7=5)else
 bif decide (node=6)then decide (m7=4)||(decide (m7=5)||(decide (m7=6)||(decide (m7=7)||decide (m7=8))))else false
def PP(a b:Int):Spec Tryz.prog 320 [.int .u8 a,.int .u8 b] I [] λr I' M'=>r=.bool (hK a b)/\I'=I/\M'=[]:=by
 refine b0 [] a3 Tryz.func320 rfl rfl rfl ?_;intro B aw;refine a5.mk (λaa=>?_) (λaa=>?_)
 ·refine⟨_,_,.refl,?_,rfl,rfl⟩;simp only[hK,aa];rfl
 ·have two:∀ (I1:aJ) (h:(decide (a=4)||(decide (a=7)||decide (a=8)))=true),hK a b=(decide (b=4)||decide (b=5)):=λ_ h=>by simp only[hK,aa,h];rfl
  have PQ:(decide (a=4)||(decide (a=7)||decide (a=8)))=true->cT (decide (b=4)) false (wq [] I [] λI' M'=>Value.bool (decide (b=5))=.bool (hK a b)/\I'=I/\M'=[]) (wq [] I [] λI' M'=>Value.bool true=.bool (hK a b)/\I'=I/\M'=[]):=λh=>by
   refine cT.mk (λaL=>?_) (λaL=>?_);·refine⟨_,_,.refl,?_,rfl,rfl⟩;rw[two I h,aL];rfl
   ·refine⟨_,_,.refl,?_,rfl,rfl⟩;rw[two I h,aL];rfl
  refine a5.mk (λab=>?_) (λab=>?_);·refine a5.mk (λ_=>?_) (λh=>by rw[ab]at h;cases h);exact PQ (by rw[ab];rfl)
  ·refine a5.mk (λai=>?_) (λai=>?_)
   ·refine a5.mk (λ_=>?_) (λh=>by rw[ai]at h;cases h);exact PQ (by rw[ai];simp)
   ·refine a5.mk (λaL=>?_) (λaL=>?_)
    ·exact PQ (by rw[aL];simp)
    ·have hw:hK a b=(bif decide (a=6)then decide (b=4)||(decide (b=5)||(decide (b=6)||(decide (b=7)||decide (b=8))))else false):=by simp only[hK,aa,ab,ai,aL];rfl
     refine a5.mk (λbq=>?_) (λbq=>?_)
     ·rw[bq]at hw;simp only[cp]at hw;refine cT.mk (λeK=>?_) (λeK=>?_)
      ·refine cT.mk (λcR=>?_) (λcR=>?_)
       ·refine cT.mk (λg'=>?_) (λg'=>?_)
        ·refine cT.mk (λmy=>?_) (λmy=>?_)
         ·refine⟨_,_,.refl,?_,rfl,rfl⟩;rw[hw,eK,cR,g',my];rfl
         ·refine⟨_,_,.refl,?_,rfl,rfl⟩;rw[hw,eK,cR,g',my];rfl
        ·refine⟨_,_,.refl,?_,rfl,rfl⟩;rw[hw,eK,cR,g'];rfl
       ·refine⟨_,_,.refl,?_,rfl,rfl⟩;rw[hw,eK,cR];rfl
      ·refine⟨_,_,.refl,?_,rfl,rfl⟩;rw[hw,eK];rfl
     ·refine⟨_,_,.refl,?_,rfl,rfl⟩;rw[hw,bq];rfl
def wrap_u64(x:Int):fl (IntKind.u64.wrap x):=by unfold IntKind.wrap fl;simp only[IntKind.bits,IntKind.signed];simp;omega
def wrap_u8(x:Int):0<=IntKind.u8.wrap x/\IntKind.u8.wrap x<256:=by unfold IntKind.wrap;simp only[IntKind.bits,IntKind.signed];simp;omega
def Xu{x:Int}(h:fl x):IntKind.u64.wrap x=x:=by obtain⟨aa,ab⟩:=h;unfold IntKind.wrap;simp only[IntKind.bits,IntKind.signed];simp;omega
def sL(I:aJ)(ay:List Int):Prop:=ay.length=64/\(∀ x∈ay,0<=x/\x<256)/\∃ T an,I 4=some (.cells (ay.map (Value.int .u8)).toArray T an)
def sL.rd(h:sL I ay)(M:List aF)(ak:j<64):cY I M (Addr.add ⟨4,0,none⟩ (j*1)) 1 [.int .u8 (ay.getD j 0)]:=by
 obtain⟨aA,_,T,an,h⟩:=h;rw[eO _ rfl];refine⟨rfl,_,T,an,.inl h,?_,rfl⟩;have aa:j<(ay.map (Value.int .u8)).length:=by simp[aA,ak]
 have ab:j<ay.length:=by omega
 simp only[dp,gP];rw[fi aa,ry,qx];simp[bM,ab]
def sL.at(h:sL I ay)(j:Nat):0<=ay.getD j 0/\ay.getD j 0<256:=by
 rw[bM];by_cases ak:j<ay.length
 ·rw[dt ak];exact h.2.1 _ (bJ ak)
 ·simp[ak]
def Hr(x y:Int):Int:=IntKind.u64.wrap (BitVec.ofInt 64 x &&& BitVec.ofInt 64 y).toNat
def tM(x:Int):Int:=IntKind.u64.wrap (Hr x (IntKind.u64.wrap (0-x))*285870213051353865)
def u9(ay:List Int)(x:Int):Int:=bif decide (x=0)then 64 else ay.getD ((tM x).toNat/2^58) 0
def ai7(h:sL I ay)(x:Int):0<=u9 ay x/\u9 ay x<256:=by
 unfold u9;cases decide (x=0)
 ·exact h.at _
 ·simp
def ai8(ag:sL I ay)(x:Int):Spec Tryz.prog 376 [.int .u64 x] I [] λr I' M'=>r=.int .i64 (u9 ay x)/\I'=I/\M'=[]:=by
 refine b0 [] a3 Tryz.func376 rfl rfl rfl ?_;intro B aw;refine a5.mk (λh=>?_) (λh=>?_)
 ·refine⟨_,_,.refl,?_,rfl,rfl⟩;simp only[u9,h];rfl
 ·have a6:=wrap_u64 (Hr x (IntKind.u64.wrap (0-x))*285870213051353865);refine be.mk _ rfl ?_;refine be.mk (tM x) rfl ?_;refine sy.mk 58 rfl ?_;have aK:((2:Int)^(min 58 IntKind.u64.bits))=2^58:=by decide
  rw[aK];obtain⟨Ef,Eg⟩:=a6;have a7:(tM x).fdiv (2^58)=(((tM x).toNat/2^58:Nat):Int):=by rw[K8 _ (by decide)];have:tM x=((tM x).toNat:Int):=(zS Ef).symm;omega
  rw[a7];have ak:(tM x).toNat/2^58<64:=by have:tM x<18446744073709551616:=Eg;omega
  refine cA.mk ((tM x).toNat/2^58) rfl ak ?_;refine aV.mk [.int .u8 (ay.getD ((tM x).toNat/2^58) 0)] (ag.rd _ ak) ?_;have ah:=ag.at ((tM x).toNat/2^58);refine be.mk (ay.getD ((tM x).toNat/2^58) 0) (wrap_i64 ⟨by omega,by omega⟩) ?_;refine⟨_,_,.refl,?_,rfl,rfl⟩;simp only[u9,h];rfl
def ai9(a b c d:Int):Nat->List Value
 |0=>[.int .u64 (a),.int .u64 (b),.int .u64 (c),.int .u64 (d)]| 1=>[.int .u64 (jA a),.int .u64 (b),.int .u64 (c),.int .u64 (d)]| 2=>[.int .u64 (jA a),.int .u64 (jA b),.int .u64 (c),.int .u64 (d)]| 3=>[.int .u64 (jA a),.int .u64 (jA b),.int .u64 (jA c),.int .u64 (d)]| _=>[.int .u64 (jA a),.int .u64 (jA b),.int .u64 (jA c),.int .u64 (jA d)]
def aja(a b c d:Int):Spec Tryz.prog 363 [.agg #[.int .u64 a,.int .u64 b,.int .u64 c,.int .u64 d]] I [] λr I' M'=>r=.agg #[.int .u64 (jA a),.int .u64 (jA b),.int .u64 (jA c),.int .u64 (jA d)]/\I'=I/\M'=[]:=by
 refine b0 [] a3 Tryz.func363 rfl rfl rfl ?_;intro B aw;refine dx.inv (ι:=Nat) (λi=>{ bp:=[(1,.ref 1 0),(2,.ref 2 0),(5,.val (.agg #[.int .u64 a,.int .u64 b,.int .u64 c,.int .u64 d])),(6,.val (.int .i64 i))],cl:=[(1,ai9 a b c d i),(2,[.int .u64 0,.int .u64 0,.int .u64 0,.int .u64 0])],cP:=I }) (λi=>i<=4) (λi=>4-i) ?_ ?_
 ·exact⟨0,by simp,.refl,dY,.cons rfl (.cons rfl .nil)⟩
 ·intro i hi
  match i,hi with
  |0,_=>refine a5.mk (λ_=>?_) (λh=>by simp at h);refine cA.mk 0 rfl (by decide) ?_;refine bF.Hn rfl (by simp) rfl ?_;refine cA.mk 0 rfl (by decide) ?_;refine be.mk 1 (by decide) ?_;exact⟨1,⟨by simp,by simp⟩,.refl,dY,.cons rfl (.cons rfl .nil)⟩| 1,_=>refine a5.mk (λ_=>?_) (λh=>by simp at h);refine cA.mk 1 rfl (by decide) ?_;refine bF.Hn rfl (by simp) rfl ?_;refine cA.mk 1 rfl (by decide) ?_;refine be.mk 2 (by decide) ?_;exact⟨2,⟨by simp,by simp⟩,.refl,dY,.cons rfl (.cons rfl .nil)⟩| 2,_=>refine a5.mk (λ_=>?_) (λh=>by simp at h);refine cA.mk 2 rfl (by decide) ?_;refine bF.Hn rfl (by simp) rfl ?_;refine cA.mk 2 rfl (by decide) ?_;refine be.mk 3 (by decide) ?_;exact⟨3,⟨by simp,by simp⟩,.refl,dY,.cons rfl (.cons rfl .nil)⟩| 3,_=>refine a5.mk (λ_=>?_) (λh=>by simp at h);refine cA.mk 3 rfl (by decide) ?_;refine bF.Hn rfl (by simp) rfl ?_;refine cA.mk 3 rfl (by decide) ?_;refine be.mk 4 (by decide) ?_;exact⟨4,⟨by simp,by simp⟩,.refl,dY,.cons rfl (.cons rfl .nil)⟩| 4,_=>refine a5.mk (λh=>by simp at h) (λ_=>?_);exact⟨_,_,.refl,rfl,rfl,rfl⟩
def ajb:Spec Tryz.prog 344 [] I [] λr I' M'=>r=.agg #[.int .u64 (jA 0),.int .u64 (jA 0),.int .u64 (jA 0),.int .u64 (jA 0)]/\I'=I/\M'=[]:=by refine b0 [] a3 Tryz.func344 rfl rfl rfl ?_;intro B aw;refine bc.mk [] [] _ (.refl _) (aja 0 0 0 0) ?_;rintro v I' M' -⟨rfl,rfl,rfl⟩;exact⟨_,_,.refl,rfl,rfl,rfl⟩
def pS(I:aJ)(b:Nat)(o:Obj):ins I b o b=some o:=by simp[ins]
def mz{o:Obj}(ag:I b=none):∀ c p,I c=some p->ins I b o c=some p:=by
 intro c p h;unfold ins;cases e:Nat.beq c b with
 |false=>exact h| true=>have:=dJ e;subst this;rw[ag]at h;cases h
def ajc{x y:Int}(ad:fl x)(aE:fl y):Hr x y=((x.toNat &&& y.toNat:Nat):Int):=by
 obtain⟨x,rfl⟩:=eF ad.1;obtain⟨y,rfl⟩:=eF aE.1;have aa:x<18446744073709551616:=by have:=ad.2;omega
 have ab:y<18446744073709551616:=by have:=aE.2;omega
 have e:∀ z:Nat,z<18446744073709551616->(BitVec.ofInt 64 (z:Int)).toNat=z:=λz bd=>by rw[BitVec.toNat_ofInt];omega
 unfold Hr;rw[K',e x aa,e y ab,Xu]
 ·simp
 ·have:=Nat.and_le_left (n:=x) (m:=y);exact⟨by omega,by omega⟩
def zZ(x:Int):Int:=Hr x (IntKind.u64.wrap (x-1))
def B2(n:Nat):Nat:=((List.range 64).filter n.testBit).length
def ajd(n:Nat):B2 n<=64:=by have:=DR n.testBit (List.range 64);simpa[B2]using this
def aje{x:Int}(ad:fl x)(aw:x≠0):fl (zZ x)/\B2 (zZ x).toNat<B2 x.toNat:=by
 obtain⟨n,rfl⟩:=eF ad.1;have aa:n<18446744073709551616:=by have:=ad.2;omega
 have mo:0<n:=by omega
 have av:fl ((n:Int)-1):=⟨by omega,by omega⟩;have e:zZ (n:Int)=((n &&& (n-1):Nat):Int):=by unfold zZ;rw[Xu av,ajc ad av];congr 2;omega
 have bk:n &&& (n-1)<=n-1:=Nat.and_le_right;refine⟨by rw[e];exact⟨by omega,by omega⟩,?_⟩;rw[e];simp only[gN];unfold B2;have j9:List.Sublist ((List.range 64).filter (n &&& (n-1)).testBit) ((List.range 64).filter n.testBit):=by
  have:(List.range 64).filter (n &&& (n-1)).testBit=((List.range 64).filter n.testBit).filter (n-1).testBit:=by rw[List.filter_filter];congr 1;funext i;rw[Nat.testBit_and,Bool.and_comm]
  rw[this];exact zT
 rcases Nat.lt_or_eq_of_le j9.length_le with h | h
 ·exact h
 ·exfalso;have B3:=j9.eq_of_length h;have:n &&& (n-1)=n:=by
   apply Nat.eq_of_testBit_eq;intro i;by_cases hi:i<64
   ·have hm:i∈(List.range 64).filter (n &&& (n-1)).testBit ↔ i∈(List.range 64).filter n.testBit:=by rw[B3]
    simp only[n4,j0,hi,true_and]at hm;cases aa:(n &&& (n-1)).testBit i<;>cases ab:n.testBit i<;>simp_all
   ·have ab:2^64<=2^i:=Nat.pow_le_pow_right (by omega) (by omega);rw[Nat.testBit_lt_two_pow (by omega),Nat.testBit_lt_two_pow (by omega)]
  omega
def byteOf(ay:List Int)(i:Nat)(w:Int):UInt8:=UInt8.ofNat (IntKind.u8.wrap ((i:Int)*64+u9 ay w)).toNat
def ajf(ay:List Int)(i:Nat)(w:Int):((byteOf ay i w).toNat:Int)=IntKind.u8.wrap ((i:Int)*64+u9 ay w):=by have:=wrap_u8 ((i:Int)*64+u9 ay w);unfold byteOf;rw[UInt8.toNat_ofNat'];omega
def u'(ay:List Int)(i:Nat):Nat->Int->List UInt8
 |0,_=>[]| f+1,w=>bif decide (w=0)then []else byteOf ay i w::u' ay i f (zZ w)
def jj(ay:List Int):Nat->List Int->List UInt8
 |_,[]=>[]| i,w::ws=>u' ay i 64 w++jj ay (i+1) ws
def Xv(ay:List Int)(i:Nat):∀ f w,(u' ay i f w).length<=f
 |0,_=>by simp[u']
 |f+1,w=>by
  unfold u';have:=Xv ay i f (zZ w);cases decide (w=0)<;>simp
  exact this
def PR(ay:List Int):∀ ws i,(jj ay i ws).length<=64*ws.length
 |[],_=>by simp[jj]
 |w::ws,i=>by have aa:=Xv ay i 64 w;have ab:=PR ay ws (i+1);simp only[jj,cm,eo];omega
def tN(l:List UInt8):List (List Value):=l.map λc=>[.int .u8 c.toNat]
def Eh(a b c d:Int):List Value:=[.int .u64 a,.int .u64 b,.int .u64 c,.int .u64 d]
def ajg(a b c d:Int):Spec Tryz.prog 368 [.agg #[.int .u64 a,.int .u64 b,.int .u64 c,.int .u64 d]] I [] λr I' M'=>∃ g,r=.func (.func 375) #[] #[ptr g]/\I' g=some (.cells (Eh a b c d).toArray 62 (0,0))/\(∀ b o,I b=some o->I' b=some o)/\M'=[]:=by refine b0 [1] a3 Tryz.func368 rfl rfl rfl ?_;intro B aw;refine bZ.mk λg ax Ec=>?_;exact⟨_,_,.n1 rfl (by simp) .refl,g,rfl,pS ..,mz ax,rfl⟩
def ajh(B4:sL I ay){a b c d:Int}(rN:∀ x∈[a,b,c,d],fl x)(ax:I g=some (.cells (Eh a b c d).toArray 62 (0,0))) :
  Iter Tryz.prog 375 [ptr g] I (tN (jj ay 0 [a,b,c,d])):=by
 intro l R lr rO dS M0 oV iM;refine BF [] a3 Tryz.func375 rfl rfl rfl ?_;intro B aw;have bt:∀ (I1:aJ) (M:List aF),(∀ b o,I b=some o->I1 b=some o)->cY I1 M ⟨g,0,none⟩ 4 (Eh a b c d):=λI1 M h=>⟨rfl,_,_,_,.inl (h _ _ ax),rfl,rfl⟩;refine aV.mk _ (bt _ _ oV) ?_;refine dx.inv (ι:=Nat×Nat×aJ×List aF) (λx=>{ bp:=[(0,.val (.func (.yield l) #[] #[])),(5,.val (.agg (Eh a b c d).toArray)),(6,.val (.int .i64 x.1))],cP:=x.2.2.1,da:=x.2.2.2 }) (λx=>x.1<=4/\(∀ b o,I b=some o->x.2.2.1 b=some o)/\R x.2.1 x.2.2.1 x.2.2.2/\x.2.1<=(jj ay 0 [a,b,c,d]).length/\(jj ay 0 [a,b,c,d]).drop x.2.1=jj ay x.1 ([a,b,c,d].drop x.1)) (λx=>4-x.1) ?_ ?_
 ·exact⟨(0,0,dS,M0),⟨by simp,oV,iM,by simp,rfl⟩,.refl,fw,.nil⟩
 ·rintro⟨i,k,I1,M1⟩⟨hi,db,h',cW,iR⟩;simp only at hi db h' cW iR;refine a5.mk (λh=>?_) (λh=>?_)
  ·have a4:i<4:=by simp at h;omega
   have cJ:i < [a,b,c,d].length:=a4;refine cA.mk i rfl a4 ?_;have B5:pack false ((((Eh a b c d).toArray).toList.drop (i*1)).take 1)=.int .u64 [a,b,c,d][i]:=by
    match i,a4 with
    |0,_=>rfl| 1,_=>rfl| 2,_=>rfl| 3,_=>rfl
   have lY:[a,b,c,d].drop i=[a,b,c,d][i]::[a,b,c,d].drop (i+1):=fi cJ;refine dx.inv (ι:=Int×Nat×Nat×aJ×List aF) (λx=>{ bp:=[(0,.val (.func (.yield l) #[] #[])),(3,.val (.int .i64 i)),(4,.val (.int .u64 x.1)),(5,.val (.agg (Eh a b c d).toArray)),(6,.val (.int .i64 i))],cP:=x.2.2.2.1,da:=x.2.2.2.2 }) (λx=>fl x.1/\B2 x.1.toNat<=x.2.1/\(∀ b o,I b=some o->x.2.2.2.1 b=some o)/\R x.2.2.1 x.2.2.2.1 x.2.2.2.2/\x.2.2.1<=(jj ay 0 [a,b,c,d]).length/\(jj ay 0 [a,b,c,d]).drop x.2.2.1=u' ay i x.2.1 x.1++jj ay (i+1) ([a,b,c,d].drop (i+1))) (λx=>B2 x.1.toNat) ?_ ?_
   ·refine⟨([a,b,c,d][i],64,k,I1,M1),⟨rN _ (bJ cJ),ajd _,db,h',cW,?_⟩,.refl,.cons .refl (.cons .refl (.cons ?_ (x3))),.nil⟩
    ·simp only;rw[iR,lY];rfl
    ·simp only;rw[<-B5];exact .refl
   ·rintro⟨w,f,k,I1,M1⟩⟨hw,aB,db,h',cW,iR⟩;simp only at hw aB db h' cW iR;refine a5.mk (λh=>?_) (λh=>?_)
    ·have z0:w≠0:=by simpa using h
     obtain⟨qK,j'⟩:=aje hw z0;obtain⟨f,rfl⟩:∃ tO,f=tO+1:=⟨f-1,by omega⟩;have ag:u' ay i (f+1) w=byteOf ay i w::u' ay i f (zZ w):=by simp[u',z0]
     rw[ag,pN]at iR;have ae:k<(jj ay 0 [a,b,c,d]).length:=by apply Nat.lt_of_not_le;intro bk;rw[mr bk]at iR;cases iR
     have gu:=fi ae;rw[iR]at gu;obtain⟨tP,e1⟩:=List.cons.inj gu;have hZ:k<(tN (jj ay 0 [a,b,c,d])).length:=by simpa[tN]using ae
     have aj:(tN (jj ay 0 [a,b,c,d]))[k]=[.int .u8 (IntKind.u8.wrap ((i:Int)*64+u9 ay w))]:=by simp only[tN,gg,<-tP,ajf]
     have Xw:sL I1 ay:=by obtain⟨ew,e9,T,an,fb⟩:=B4;exact⟨ew,e9,T,an,db _ _ fb⟩
     have awW:=ai7 Xw w;refine be.mk ((i:Int)*64) (wrap_i64 ⟨by omega,by omega⟩) ?_;refine bc.mk [] M1 _ (.refl _) (ai8 Xw w) ?_;rintro v I' M' -⟨rfl,rfl,rfl⟩;refine be.mk ((i:Int)*64+u9 ay w) (wrap_i64 ⟨by omega,by omega⟩) ?_;refine be.mk _ rfl ?_;refine bF.yield rfl (by simp) rfl rfl ?_;have aE:=rO k hZ I' M1 db h';rw[aj]at aE;refine BQ.mk M1 [] _ (by simp) aE ?_;rintro v eE dy gx (⟨rfl,m3⟩ | ⟨rfl,ad⟩);·refine a5.mk (λh=>by simp at h) (λ_=>?_);refine be.mk _ rfl ?_;exact⟨(zZ w,f,k+1,eE,dy),⟨⟨qK,by simp only;omega,λb o h=>gx b o (db b o h),m3,ae,e1.symm⟩,by simp only;exact j'⟩,.perm (by simp) .refl,il,.nil⟩
     ·refine a5.mk (λ_=>?_) (λh=>by simp at h);exact⟨_,_,.perm (by simp) .refl,.inr ad⟩
    ·have z0:w=0:=by simpa using h
     have gR:IntKind.i64.wrap ((i:Int)+1)=((i+1:Nat):Int):=by rw[wrap_i64 ⟨by omega,by omega⟩];omega
     refine be.mk _ gR ?_;have ag:u' ay i f w=[]:=by cases f<;>simp[u',z0]
     rw[ag,hX]at iR;exact⟨(i+1,k,I1,M1),⟨⟨by simp only;omega,db,h',cW,iR⟩,by simp only;omega⟩,.refl,fw,.nil⟩
  ·have j4:i=4:=by simp at h;omega
   subst j4;refine⟨_,_,.refl,.inl ?_⟩;have lq:(jj ay 0 [a,b,c,d]).drop k=[]:=by rw[iR];rfl
   have va:k=(tN (jj ay 0 [a,b,c,d])).length:=by have:=Hg.1 lq;simp only[tN,bE];omega
   rw[<-va];exact h'
def vb(l:List (UInt8×UInt8))(b:UInt8):List (UInt8×UInt8):=match l.getLast? with
 |some p=>bif decide ((p.2.toNat:Int)+1=b.toNat)then l.dropLast++[(p.1,b)]else l++[(b,b)]| none=>[(b,b)]
def pT(l:List UInt8):List (UInt8×UInt8):=l.foldl vb []
def ka(p:UInt8×UInt8):List Value:=[.int .u8 p.1.toNat,.int .u8 p.2.toNat]
def pU(l:List (UInt8×UInt8)):List Value:=l.flatMap ka
def Lg(l:List (UInt8×UInt8)):(pU l).length=l.length*2:=gL ka 2 (λ_=>rfl) l
def aji(l:List (UInt8×UInt8))(b:UInt8):(vb l b).length<=l.length+1:=by
 unfold vb;split
 ·rename_i p h;cases decide ((p.2.toNat:Int)+1=b.toNat)<;>simp
 ·simp
def Xx(l:List UInt8):(pT l).length<=l.length:=by
 have:∀ (l:List UInt8) (aZ:List (UInt8×UInt8)),(l.foldl vb aZ).length<=aZ.length+l.length:=by
  intro l
  induction l with
  |nil=>intro aZ;simp| cons b l aN=>intro aZ;have aa:=aN (vb aZ b);have ab:=aji aZ b;simp only[kl,eo];omega
 simpa[pT]using this l []
def z1:((⟨b,0,none⟩:Addr).add i).add j=(⟨b,0,none⟩:Addr).add (i+j):=by rw[eO ⟨_,0,none⟩ rfl i,eO _ rfl j,eO _ rfl (i+j)];simp
def nH{M:List aF}(bb:(⟨b,.cells cs.toArray T (0,0)⟩:aF)∈M)(h:cs[i+j]?=some v):cY I M (((⟨b,0,none⟩:Addr).add i).add j) 1 [v]:=by obtain⟨aA,rfl⟩:=iz.1 h;have:=dq (I:=I) bb (k:=i+j) (n:=1) (by omega);rw[fi aA,ry,qx]at this;rw[z1];exact this
def Xy(a9:List Value)(u v z:Value)(bo:List Value)(k:Nat)(ae:k=a9.length+1):cq (a9++([u,v]++bo)) k [z]=a9++([u,z]++bo):=by
 subst ae;unfold cq;have aK:(a9++([u,v]++bo)).take (a9.length+1)=a9++[u]:=by rw[show a9++([u,v]++bo)=(a9++[u])++(v::bo)from by simp];exact sK (by simp)
 have a7:(a9++([u,v]++bo)).drop (a9.length+1+[z].length)=bo:=by rw[show a9++([u,v]++bo)=(a9++[u,v])++bo from by simp];exact Hh (by simp)
 rw[aK,a7];simp
def PS{ba:List (UInt8×UInt8)}{x:UInt8}(cc:os.ok 2 (pU ba)){aU:List Value}(aa:aU.length=c*2)(ab:os.n+1<=c)(ai:c<=maxLen)(aL:aU.take ((os.n+1)*2)=pU ba++ka (x,x)) :
  aQ.ok ⟨some g,os.n+1,c,aU⟩ 2 (pU (ba++[(x,x)])):=by
 have yh:pU (ba++[(x,x)])=pU ba++ka (x,x):=by simp[pU]
 have aA:=cc.len;refine⟨?_,(λh=>by cases h),λb5 sM=>⟨aa,ab,ai,by rw[yh];exact aL⟩⟩;rw[yh,cm,aA];simp[ka];omega
def ajj(l:List UInt8)(x:UInt8):pT (l++[x])=vb (pT l) x:=by simp[pT]
def ajk(B4:sL I ay){a b c d:Int}(rN:∀ x∈[a,b,c,d],fl x):Spec Tryz.prog 354 [.agg #[.int .u64 a,.int .u64 b,.int .u64 c,.int .u64 d]] I []
  λr I' M'=>(∀ b o,I b=some o->I' b=some o)/\∃ os:aQ,r=os.val/\os.ok 2 (pU (pT (jj ay 0 [a,b,c,d])))/\M'=os.ar 386:=by
 refine b0 [3] a3 Tryz.func354 rfl rfl rfl ?_;intro B aw;refine bZ.mk λg ax Ec=>?_;refine bc.mk [] [⟨g,.cells #[.slice none 0 0] 384 (0,0)⟩] _ (.refl _) (ajg a b c d) ?_;rintro v I1 M1 -⟨a',rfl,rP,db,rfl⟩;have ajl:sL I1 ay:=by obtain⟨ew,e9,T,an,fb⟩:=B4;exact⟨ew,e9,T,an,db _ _ fb⟩
 have b8:=PR ay [a,b,c,d] 0;refine c2.range a3 rfl rfl rfl .refl (ajh ajl rN rP) (λvs h=>?_) (λk I' M'=>(∀ b o,I1 b=some o->I' b=some o)/\∃ os:aQ,os.ok 2 (pU (pT ((jj ay 0 [a,b,c,d]).take k)))/\M'=⟨g,.cells #[os.val] 384 (0,0)⟩::os.ar 386) (λ_ _ _=>False) ⟨λ_ _ h=>h,⟨none,0,0,[]⟩,⟨rfl,λ_=>⟨rfl,rfl⟩,λg h=>by cases h⟩,rfl⟩ ?_ ?_ (λ_ _ _ _ h=>h.elim)
 ·obtain⟨c,_,rfl⟩:=c0.1 h;rfl
 ·rintro k ae I' M' -⟨kV,os,cc,rfl⟩l B aw hx;have ajm:k<(jj ay 0 [a,b,c,d]).length:=by simpa[tN]using ae
  generalize awX:jj ay 0 [a,b,c,d]=L at *;generalize ad:L[k]=x;have aj:(tN L)[k]=[.int .u8 x.toNat]:=by simp[tN,ad]
  rw[aj];have m1:pT (L.take (k+1))=vb (pT (L.take k)) x:=by rw[gH ajm,ad,ajj]
  rw[m1];have eJ:(pT (L.take k)).length<=256:=by have aa:=Xx (L.take k);have ab:=D9 k L;simp only[eo,g3]at b8;omega
  generalize dr:pT (L.take k)=ba at *;have kb:=x.toNat_lt;obtain⟨B6,n,fp,aU⟩:=os;have aD:ba.length=n:=by have:=cc.len;rw[Lg]at this;simp only at this;omega
  cases B6 with
  |none=>
   obtain⟨aK,a7⟩:=cc.nil rfl;simp only at aK a7;subst aK;subst a7;have n7:ba=[]:=iD aD;have iS:vb ba x=ba++[(x,x)]:=by rw[n7];rfl
   refine aV.mk [.slice none 0 0] (dq (cs:=[.slice none 0 0]) (k:=0) (n:=1) (T:=384) (.head _) (by simp)) ?_;refine be.mk (-1) (by decide) ?_;refine cT.mk (λh=>by simp at h) (λ_=>?_);refine aV.mk [.slice none 0 0] (dq (cs:=[.slice none 0 0]) (k:=0) (n:=1) (T:=384) (.head _) (by simp)) ?_;refine bZ.mk λbg m6 Xz=>?_;refine bF.append a3 rfl (by simp) (e:=386) rfl rfl rfl (⟨none,0,0,aU⟩:aQ) cc rfl (m:=1) rfl (b3:=ka (x,x)) (by decide) (dq (cs:=ka (x,x)) (k:=0) (n:=2) (T:=386) (.head _) (by simp[ka])) rfl (Mr:=[⟨bg,.cells (ka (x,x)).toArray 386 (0,0)⟩,⟨g,.cells #[.slice none 0 0] 384 (0,0)⟩]) (eT (l₁:=[_,_])) (by simp only[maxLen];omega) (by show(_+1)*2<=_;simp only;omega) ?_;intro eu c' kc ew e9 fb jS;refine cd.mk [⟨eu,.cells kc.toArray 386 (0,0)⟩,⟨bg,.cells (ka (x,x)).toArray 386 (0,0)⟩] [] _ _ rfl rfl (bK rfl) rfl ?_;refine⟨_,_,.perm (M1:=[⟨bg,.cells (ka (x,x)).toArray 386 (0,0)⟩]++(⟨g,.cells #[aQ.val ⟨some eu,(⟨none,0,0,aU⟩:aQ).n+1,c',kc⟩] 384 (0,0)⟩::aQ.ar ⟨some eu,(⟨none,0,0,aU⟩:aQ).n+1,c',kc⟩ 386)) (eT (l₁:=[_]) (l₂:=[_,_])) (.sub (mT _ _) .refl),kV,⟨some eu,(⟨none,0,0,aU⟩:aQ).n+1,c',kc⟩,?_,rfl⟩;rw[iS];exact PS cc ew e9 fb jS
  |some c3=>
   obtain⟨dm,m0,lX,ey⟩:=cc.cap c3 rfl;simp only at dm m0 lX ey;refine aV.mk [.slice (some ⟨c3,0,none⟩) n fp] (dq (cs:=[.slice (some ⟨c3,0,none⟩) n fp]) (k:=0) (n:=1) (T:=384) (.head _) (by simp)) ?_;refine be.mk ((n:Int)-1) (wrap_i64 ⟨by omega,by omega⟩) ?_;refine cT.mk (λaa=>?_) (λaa=>?_)
   ·have mo:1<=n:=by simp at aa;omega
    obtain⟨vc,p,rfl⟩:∃ vc p,ba=vc++[p]:=by
     rcases zR ba with h | ⟨r,p,h⟩;·subst h;simp at aD;omega
     ·exact⟨r,p,by simpa using h⟩
    have qG:vc.length=n-1:=by simp at aD;omega
    have gC:(pU vc).length=(n-1)*2:=by rw[Lg,qG]
    obtain⟨bo,nI⟩:∃ bo,aU=pU vc++([.int .u8 p.1.toNat,.int .u8 p.2.toNat]++bo):=by refine⟨aU.drop (n*2),?_⟩;have ab:=pM (n*2) aU;rw[ey]at ab;rw[<-ab,Hh (by rw[Lg,aD])];simp[pU,ka]
    have eU:aU[(n-1)*2+1*1]?=some (.int .u8 p.2.toNat):=by rw[nI,<-gC,lx (by omega)];simp
    have rQ:=p.2.toNat_lt;refine aV.mk [.slice (some ⟨c3,0,none⟩) n fp] (dq (cs:=[.slice (some ⟨c3,0,none⟩) n fp]) (k:=0) (n:=1) (T:=384) (.head _) (by simp)) ?_;refine bA.mk ⟨c3,0,none⟩ (n-1) rfl (by omega) (by omega) ?_;refine cA.mk 1 rfl (by decide) ?_;refine aV.mk [.int .u8 p.2.toNat] (nH (b:=c3) (cs:=aU) (T:=386) (by simp[aQ.ar]) eU) ?_;refine be.mk (p.2.toNat:Int) (wrap_i64 ⟨by omega,by omega⟩) ?_;refine be.mk ((p.2.toNat:Int)+1) (wrap_i64 ⟨by omega,by omega⟩) ?_;refine be.mk (x.toNat:Int) (wrap_i64 ⟨by omega,by omega⟩) ?_;have iS:vb (vc++[p]) x=bif decide ((p.2.toNat:Int)+1=x.toNat)then vc++[(p.1,x)]else vc++[p]++[(x,x)]:=by simp[vb]
    refine a5.mk (λab=>?_) (λab=>?_)
    ·rw[ab]at iS;refine aV.mk [.slice (some ⟨c3,0,none⟩) n fp] (dq (cs:=[.slice (some ⟨c3,0,none⟩) n fp]) (k:=0) (n:=1) (T:=384) (.head _) (by simp)) ?_;refine bA.mk ⟨c3,0,none⟩ (n-1) rfl (by omega) (by omega) ?_;refine cA.mk 1 rfl (by decide) ?_;rw[z1];refine cd.add [⟨g,.cells #[.slice (some ⟨c3,0,none⟩) n fp] 384 (0,0)⟩] [] aU.toArray _ rfl ?_ rfl ?_
     ·simp only[tz];show 0+((n-1)*2+1)+1<=_;omega
     ·refine⟨_,_,.refl,kV,⟨some c3,n,fp,cq aU (0+((n-1)*2+1*1)) [.int .u8 x.toNat]⟩,?_,rfl⟩;have de:cq aU (0+((n-1)*2+1*1)) [.int .u8 x.toNat]=pU vc++([.int .u8 p.1.toNat,.int .u8 x.toNat]++bo):=by rw[nI];exact Xy _ _ _ _ _ _ (by omega)
      rw[iS,de];have yh:pU (vc++[(p.1,x)])=pU vc++[.int .u8 p.1.toNat,.int .u8 x.toNat]:=by simp[pU,ka]
      refine⟨?_,(λh=>by cases h),λb5 sM=>⟨?_,m0,lX,?_⟩⟩;·simp only[cp];rw[yh,cm,gC];simp;omega
      ·simp only;rw[<-dm,nI];simp
      ·simp only[cp];rw[yh,<-ec];refine sK ?_;rw[cm,gC];simp;omega
    ·rw[ab]at iS;simp only[cb]at iS;refine aV.mk [.slice (some ⟨c3,0,none⟩) n fp] (dq (cs:=[.slice (some ⟨c3,0,none⟩) n fp]) (k:=0) (n:=1) (T:=384) (.head _) (by simp)) ?_;refine bZ.mk λbg m6 Xz=>?_;refine bF.append a3 rfl (by simp) (e:=386) rfl rfl rfl (⟨some c3,n,fp,aU⟩:aQ) cc rfl (m:=1) rfl (b3:=ka (x,x)) (by decide) (dq (cs:=ka (x,x)) (k:=0) (n:=2) (T:=386) (.head _) (by simp[ka])) rfl (Mr:=[⟨bg,.cells (ka (x,x)).toArray 386 (0,0)⟩,⟨g,.cells #[.slice (some ⟨c3,0,none⟩) n fp] 384 (0,0)⟩]) (eT (l₁:=[_,_])) (by simp only[maxLen];omega) (by show(_+1)*2<=_;simp only;omega) ?_;intro eu c' kc ew e9 fb jS;refine cd.mk [⟨eu,.cells kc.toArray 386 (0,0)⟩,⟨bg,.cells (ka (x,x)).toArray 386 (0,0)⟩] [] _ _ rfl rfl (bK rfl) rfl ?_;refine⟨_,_,.perm (M1:=[⟨bg,.cells (ka (x,x)).toArray 386 (0,0)⟩]++(⟨g,.cells #[aQ.val ⟨some eu,(⟨some c3,n,fp,aU⟩:aQ).n+1,c',kc⟩] 384 (0,0)⟩::aQ.ar ⟨some eu,(⟨some c3,n,fp,aU⟩:aQ).n+1,c',kc⟩ 386)) (eT (l₁:=[_]) (l₂:=[_,_])) (.sub (mT _ _) .refl),kV,⟨some eu,(⟨some c3,n,fp,aU⟩:aQ).n+1,c',kc⟩,?_,rfl⟩;rw[iS];exact PS cc ew e9 fb jS
   ·have qG:n=0:=by simp at aa;omega
    have n7:ba=[]:=iD (by omega);have iS:vb ba x=ba++[(x,x)]:=by rw[n7];rfl
    refine aV.mk [.slice (some ⟨c3,0,none⟩) n fp] (dq (cs:=[.slice (some ⟨c3,0,none⟩) n fp]) (k:=0) (n:=1) (T:=384) (.head _) (by simp)) ?_;refine bZ.mk λbg m6 Xz=>?_;refine bF.append a3 rfl (by simp) (e:=386) rfl rfl rfl (⟨some c3,n,fp,aU⟩:aQ) cc rfl (m:=1) rfl (b3:=ka (x,x)) (by decide) (dq (cs:=ka (x,x)) (k:=0) (n:=2) (T:=386) (.head _) (by simp[ka])) rfl (Mr:=[⟨bg,.cells (ka (x,x)).toArray 386 (0,0)⟩,⟨g,.cells #[.slice (some ⟨c3,0,none⟩) n fp] 384 (0,0)⟩]) (eT (l₁:=[_,_])) (by simp only[maxLen];omega) (by show(_+1)*2<=_;simp only;omega) ?_;intro eu c' kc ew e9 fb jS;refine cd.mk [⟨eu,.cells kc.toArray 386 (0,0)⟩,⟨bg,.cells (ka (x,x)).toArray 386 (0,0)⟩] [] _ _ rfl rfl (bK rfl) rfl ?_;refine⟨_,_,.perm (M1:=[⟨bg,.cells (ka (x,x)).toArray 386 (0,0)⟩]++(⟨g,.cells #[aQ.val ⟨some eu,(⟨some c3,n,fp,aU⟩:aQ).n+1,c',kc⟩] 384 (0,0)⟩::aQ.ar ⟨some eu,(⟨some c3,n,fp,aU⟩:aQ).n+1,c',kc⟩ 386)) (eT (l₁:=[_]) (l₂:=[_,_])) (.sub (mT _ _) .refl),kV,⟨some eu,(⟨some c3,n,fp,aU⟩:aQ).n+1,c',kc⟩,?_,rfl⟩;rw[iS];exact PS cc ew e9 fb jS
 ·rintro I' M' -⟨kV,os,cc,rfl⟩;refine aV.mk [os.val] (dq (cs:=[os.val]) (k:=0) (n:=1) (T:=384) (.head _) (by simp)) ?_;refine⟨_,_,.sub (wK _ _) .refl,λb o h=>kV _ _ (db _ _ h),os,rfl,?_,rfl⟩;have:(jj ay 0 [a,b,c,d]).take (tN (jj ay 0 [a,b,c,d])).length=jj ay 0 [a,b,c,d]:=fS (by simp[tN]);rw[this]at cc;exact cc
def aQ.ok.row{M:List aF}{f:α->List Value}{size:Nat}(aB:∀ x,(f x).length=size)(aw:0<size){l:List α}(h:os.ok size (l.flatMap f))(bb:∀ x∈os.ar e,x∈M)(ak:j<l.length) :
  ∃ aP,os.a.map (λg=>(⟨g,0,none⟩:Addr))=some aP/\cY I M (aP.add (j*size)) size (f l[j]):=by
 have aD:l.length=os.n:=by have aa:=h.len;rw[gL f size aB]at aa;exact Nat.eq_of_mul_eq_mul_right aw aa
 cases a6:os.a with
 |none=>have:=(h.nil a6).1;omega
 |some g=>
  obtain⟨aa,ab,ai,aL⟩:=h.cap g a6;refine⟨⟨g,0,none⟩,rfl,?_⟩;have bk:j*size+size<=os.n*size:=by have:=qn size (show j+1<=os.n by omega);rw[lT,oI]at this;exact this
  have dm:os.n*size<=os.aU.length:=by rw[aa];exact qn _ ab
  have:=dq (I:=I) (M:=M) (b:=g) (T:=e) (cs:=os.aU) (bb _ (by simp[aQ.ar,a6])) (k:=j*size) (n:=size) (by omega);have aK:(os.aU.drop (j*size)).take size=f l[j]:=by rw[<-D4 f size aB l j ak,<-aL,DT,zA];congr 1;omega
  rw[aK]at this;exact this
def B7:ByteArray:=⟨#[34]⟩
def z2:ByteArray:=⟨#[93,45,94]⟩
def Hs(s:ByteArray):List UInt8:=[34]++s.data.toList.flatMap (oU · B7)++[34]
def strOf(l:List UInt8):ByteArray:=⟨l.toArray⟩
def Ht{α β:Type}(f:α->List β)(m:Nat)(aB:∀ x,(f x).length<=m):∀ l:List α,(l.flatMap f).length<=m*l.length
 |[]=>by simp
 |x::l=>by have aa:=Ht f m aB l;have ab:=aB x;simp only[jf,cm,eo,Nat.mul_add];omega
def XA(s:ByteArray)(av:s.size<=1099511627776):Spec Tryz.prog 337 [.string s] I [] λr I' M'=>r=.string (strOf (Hs s))/\I'=I/\M'=[]:=by
 refine b0 [3] a3 Tryz.func337 rfl rfl rfl ?_;intro B aw;refine bZ.mk λb ag wJ=>?_;refine bc.mk (gw.new.M b) [] _ (.refl _) (pR b gw.Lc 34 (by decide)) ?_;rintro v I' M' -⟨rfl,rfl,wE,fQ,PT,rfl⟩;refine dx.inv (ι:=Nat×gw) (λp=>{ bp:=[(0,.val (.string s)),(3,.val (ptr b)),(4,.val (.int .i64 p.1))],cP:=I',da:=p.2.M b }) (λp=>p.1<=s.size/\p.2.ok/\p.2.cB=[34]++(s.data.toList.take p.1).flatMap (oU · B7)) (λp=>s.size-p.1) ?_ ?_
 ·exact⟨(0,wE),⟨by simp,fQ,by simp[PT,gw.new]⟩,.perm (by simp) .refl,fw,.nil⟩
 ·rintro⟨i,x⟩⟨hi,ad,ku⟩;simp only at hi ad ku;have cQ:x.cB.length<=1+4*i:=by rw[ku];have:=Ht (oU · B7) 4 (λc=>Ho c B7) (s.data.toList.take i);have ab:=D9 i s.data.toList;simp only[cm,eo,g3];omega
  refine a5.mk (λh=>?_) (λh=>?_)
  ·have a4:i<s.size:=by simpa using h
   have cJ:i<s.data.toList.length:=a4;refine tm.mk i rfl a4 ?_;refine bc.mk (x.M b) [] _ (by simp) (Le b ad s[i] B7 (by omega)) ?_;rintro v I' M' -⟨rfl,y,aE,g5,rfl⟩;have gR:IntKind.i64.wrap ((i:Int)+1)=((i+1:Nat):Int):=by rw[wrap_i64 ⟨by omega,by omega⟩];omega
   refine be.mk _ gR ?_;refine⟨(i+1,y),⟨⟨by simp only;omega,aE,?_⟩,by simp only;omega⟩,.perm (by simp) .refl,fw,.nil⟩;simp only;rw[g5,ku,gH cJ,fX,ec];congr 1;simp;rfl
  ·have c8:s.size<=i:=by simpa using h
   have eI:s.data.toList.take i=s.data.toList:=fS c8;refine bc.mk (x.M b) [] _ (by simp) (pR b ad 34 (by omega)) ?_;rintro v I' M' -⟨rfl,rfl,y,aE,g5,rfl⟩;refine bc.mk (y.M b) [] _ (by simp) (ye b aE (by rw[g5];simp;omega)) ?_;rintro v I' M' -⟨rfl,rfl,rfl⟩;refine⟨_,_,.refl,?_,rfl,by simp⟩;rw[g5,ku,eI];rfl
def vd(p:UInt8×UInt8):List UInt8:=
 oU p.1 z2++((bif decide (1<IntKind.u8.wrap ((p.2.toNat:Int)-p.1.toNat))then [45]else [])++(bif !decide ((p.2.toNat:Int)=p.1.toNat)then oU p.2 z2 else []))
def B8(ay:List Int)(a b c d:Int):List UInt8:=
 bif (a == jA 0&&(b == jA 0&&(c == jA 0&&d == jA 0)))then [46]else [91]++(pT (jj ay 0 [a,b,c,d])).flatMap vd++[93]
def XB(p:UInt8×UInt8):(vd p).length<=9:=by
 have aa:=Ho p.1 z2;have ab:=Ho p.2 z2;unfold vd;cases decide (1<IntKind.u8.wrap ((p.2.toNat:Int)-p.1.toNat))<;>cases decide ((p.2.toNat:Int)=p.1.toNat)<;>simp<;>omega
def XC(ay:List Int)(a b c d:Int):(pT (jj ay 0 [a,b,c,d])).length<=256:=by have aa:=PR ay [a,b,c,d] 0;have ab:=Xx (jj ay 0 [a,b,c,d]);simp only[eo,g3]at aa;omega
def ajn(ay:List Int)(a b c d:Int):(B8 ay a b c d).length<=2306:=by
 have aa:=XC ay a b c d;have ab:=Ht vd 9 XB (pT (jj ay 0 [a,b,c,d]));unfold B8;cases(a == jA 0&&(b == jA 0&&(c == jA 0&&d == jA 0)))
 ·simp only[cb,cm,eo,g3];omega
 ·simp
def ajo(B4:sL I ay){a b c d:Int}(rN:∀ x∈[a,b,c,d],fl x):Spec Tryz.prog 338 [.agg #[.int .u64 a,.int .u64 b,.int .u64 c,.int .u64 d]] I []
  λr I' M'=>r=.string (strOf (B8 ay a b c d))/\(∀ b o,I b=some o->I' b=some o)/\M'=[]:=by
 refine b0 [3] a3 Tryz.func338 rfl rfl rfl ?_;intro B aw;refine c2.draw a3 rfl rfl rfl ?_;refine eH.mk _ ajb ?_;rintro v I' M' -⟨rfl,rfl,rfl⟩;refine fW.Po a3 (e:=60) rfl rfl rfl rfl (by kernel_rfl) ?_;refine a5.mk (λh=>?_) (λh=>?_)
 ·refine⟨_,_,.refl,?_,λ_ _ h=>h,rfl⟩;simp only[B8,h];rfl
 ·refine bZ.mk λg ax Ec=>?_;refine bc.mk (gw.new.M g) [] _ (.refl _) (pR g gw.Lc 91 (by decide)) ?_;rintro v I' M' -⟨rfl,rfl,wE,fQ,PT,rfl⟩;refine bc.mk [] (wE.M g) _ (by simp) (ajk B4 rN) ?_;rintro v I1 M1 -⟨db,os,rfl,cc,rfl⟩;have eJ:=XC ay a b c d;have dm:B8 ay a b c d=[91]++(pT (jj ay 0 [a,b,c,d])).flatMap vd++[93]:=by simp only[B8,h];rfl
  generalize dr:pT (jj ay 0 [a,b,c,d])=ba at *;have aD:ba.length=os.n:=by have:=cc.len;rw[Lg]at this;omega
  refine dx.inv (ι:=Nat×gw) (λp=>{ bp:=[(3,.val (ptr g)),(11,.val os.val),(12,.val (.int .i64 os.n)),(13,.val (.int .i64 p.1))],cP:=I1,da:=p.2.M g++os.ar 386 }) (λp=>p.1<=os.n/\p.2.ok/\p.2.cB=[91]++(ba.take p.1).flatMap vd) (λp=>os.n-p.1) ?_ ?_;·exact⟨(0,wE),⟨by simp,fQ,by simp[PT,gw.new]⟩,.perm (by simpa using eT) .refl,dY,.nil⟩
  ·rintro⟨i,x⟩⟨hi,ad,ku⟩;simp only at hi ad ku;have cQ:x.cB.length<=1+9*i:=by rw[ku];have:=Ht vd 9 XB (ba.take i);have ab:=D9 i ba;simp only[cm,eo,g3];omega
   refine a5.mk (λh=>?_) (λh=>?_)
   ·have a4:i<os.n:=by simpa using h
    have cJ:i<ba.length:=by omega
    obtain⟨aP,bI,bt⟩:=aQ.ok.row (I:=I1) (M:=x.M g++os.ar 386) (f:=ka) (λ_=>rfl) (by decide) cc (e:=386) (λy aE=>by simp[aE]) cJ;refine bA.mk aP i bI rfl a4 ?_;refine aV.mk _ bt ?_;generalize aH:ba[i]=p;refine cA.mk 0 rfl (by decide) ?_;refine bc.mk (x.M g) (os.ar 386) _ (.refl _) (Le g ad p.1 z2 (by omega)) ?_;rintro v I' M' -⟨rfl,y,aE,g5,rfl⟩;have Hp:y.cB.length<=5+9*i:=by rw[g5,cm];have:=Ho p.1 z2;omega
    refine cA.mk 1 rfl (by decide) ?_;refine cA.mk 0 rfl (by decide) ?_;refine be.mk _ rfl ?_;refine a5.mk (λeK=>?_) (λeK=>?_)
    ·refine bc.mk (y.M g) (os.ar 386) _ (by simp) (pR g aE 45 (by omega)) ?_;rintro v I' M' -⟨rfl,rfl,u,hu,yg,rfl⟩;have Hu:u.cB.length<=6+9*i:=by rw[yg];simp;omega
     refine cA.mk 1 rfl (by decide) ?_;refine cA.mk 0 rfl (by decide) ?_;refine a5.mk (λcR=>?_) (λcR=>?_)
     ·refine cA.mk 1 rfl (by decide) ?_;refine bc.mk (u.M g) (os.ar 386) _ (by simp) (Le g hu p.2 z2 (by omega)) ?_;rintro v I' M' -⟨rfl,z,bd,tL,rfl⟩;have gR:IntKind.i64.wrap ((i:Int)+1)=((i+1:Nat):Int):=by rw[wrap_i64 ⟨by omega,by omega⟩];omega
      refine be.mk _ gR ?_;refine⟨(i+1,z),⟨⟨by simp only;omega,bd,?_⟩,by simp only;omega⟩,.perm (by simp) .refl,dY,.nil⟩;simp only;rw[tL,yg,g5,ku,gH cJ,fX,aH];simp[vd,eK,cR]
     ·have gR:IntKind.i64.wrap ((i:Int)+1)=((i+1:Nat):Int):=by rw[wrap_i64 ⟨by omega,by omega⟩];omega
      refine be.mk _ gR ?_;refine⟨(i+1,u),⟨⟨by simp only;omega,hu,?_⟩,by simp only;omega⟩,.perm (by simp) .refl,dY,.nil⟩;simp only;rw[yg,g5,ku,gH cJ,fX,aH];simp[vd,eK,cR]
    ·refine cA.mk 1 rfl (by decide) ?_;refine cA.mk 0 rfl (by decide) ?_;refine a5.mk (λcR=>?_) (λcR=>?_)
     ·refine cA.mk 1 rfl (by decide) ?_;refine bc.mk (y.M g) (os.ar 386) _ (by simp) (Le g aE p.2 z2 (by omega)) ?_;rintro v I' M' -⟨rfl,z,bd,tL,rfl⟩;have gR:IntKind.i64.wrap ((i:Int)+1)=((i+1:Nat):Int):=by rw[wrap_i64 ⟨by omega,by omega⟩];omega
      refine be.mk _ gR ?_;refine⟨(i+1,z),⟨⟨by simp only;omega,bd,?_⟩,by simp only;omega⟩,.perm (by simp) .refl,dY,.nil⟩;simp only;rw[tL,g5,ku,gH cJ,fX,aH];simp[vd,eK,cR]
     ·have gR:IntKind.i64.wrap ((i:Int)+1)=((i+1:Nat):Int):=by rw[wrap_i64 ⟨by omega,by omega⟩];omega
      refine be.mk _ gR ?_;refine⟨(i+1,y),⟨⟨by simp only;omega,aE,?_⟩,by simp only;omega⟩,.perm (by simp) .refl,dY,.nil⟩;simp only;rw[g5,ku,gH cJ,fX,aH];simp[vd,eK,cR]
   ·have c8:os.n<=i:=by simpa using h
    have eI:ba.take i=ba:=fS (by omega);refine bc.mk (x.M g) (os.ar 386) _ (.refl _) (pR g ad 93 (by omega)) ?_;rintro v I' M' -⟨rfl,rfl,y,aE,g5,rfl⟩;refine bc.mk (y.M g) (os.ar 386) _ (.refl _) (ye g aE (by rw[g5];simp;omega)) ?_;rintro v I' M' -⟨rfl,rfl,rfl⟩;refine⟨_,_,.sub (fC _) .refl,?_,db,rfl⟩;rw[g5,ku,eI,dm];rfl
structure Lh(d:al):Prop where
 k:d.k<10
 t:d.t.size<=255
 Hv:d.k=6->0<=d.lo/\d.lo<=99/\(d.hi=-1\/(d.lo<=d.hi/\d.hi<=99))
def PU{d:al}{n:Int}(h:fits d n=true):Lh d:=by
 unfold fits at h;cases aa:decide (10<=d.k)with
 |true=>rw[aa]at h;cases h
 |false=>
  rw[aa]at h;simp only[cb]at h;have ae:d.k<10:=by simpa using aa
  cases ab:(decide (n<oQ d.k.toNat)||(decide (0<=nF d.k.toNat)&&decide (nF d.k.toNat<n)))with
  |true=>rw[ab]at h;cases h
  |false=>
   rw[ab]at h;simp only[cb]at h;have di:d.t=⟨#[]⟩->d.t.size<=255:=λe=>by rw[e];decide
   cases ai:decide (d.k=1)with
   |true=>rw[ai]at h;simp only[cp,cw,hS]at h;exact⟨ae,di h.1,λe=>by simp at ai;omega⟩
   |false=>
    rw[ai]at h;simp only[cb]at h;cases aL:decide (d.k=2)with
    |true=>rw[aL]at h;simp only[cp,cw,tx,tI,sE]at h;exact⟨ae,by omega,λe=>by simp at aL;omega⟩
    |false=>
     rw[aL]at h;simp only[cb]at h;cases bq:(decide (d.k=3)||decide (d.k=9))with
     |true=>rw[bq]at h;simp only[cp,cw]at h;refine⟨ae,?_,λe=>by simp at bq;omega⟩;have:=h.1;unfold nE at this;simp only[cw,hS]at this;omega
     |false=>
      rw[bq]at h;simp only[cb]at h;cases b':decide (d.k=6)with
      |true=>
       rw[b']at h;simp only[cp,cw,hS,tx,tI,sE,Bool.and_eq_false_iff]at h;refine⟨ae,di h.2.2,λ_=>?_⟩;obtain⟨⟨a',bg,b5⟩,_⟩:=h;refine⟨by omega,by omega,?_⟩;rcases b5 with b5 | b5
       ·left
        simpa using b5
       ·right
        omega
      |false=>rw[b']at h;simp only[cb,cw,hS]at h;exact⟨ae,di h.2.1,λe=>by simp at b';omega⟩
def Hw:List Value:=[.int .i64 0,.int .i64 1,.string ⟨#[63]⟩,.int .i64 0,.int .i64 (-1),.string ⟨#[42]⟩,.int .i64 1,.int .i64 (-1),.string ⟨#[43]⟩]
def PV(I:aJ):Prop:=∃ T an,I 2=some (.cells Hw.toArray T an)
def B9(lo:Nat)(hi:Int):List UInt8:=
 bif decide (hi=lo)then [123]++nG lo++[125]else
 bif decide (hi=-1)then [123]++nG lo++[44,125]else [123]++nG lo++[44]++nG hi.toNat++[125]
def tQ(lo:Nat)(hi:Int):List UInt8:=
 bif decide ((0:Int)=lo)&&decide (1=hi)then [63]else
 bif decide ((0:Int)=lo)&&decide (-1=hi)then [42]else
 bif decide ((1:Int)=lo)&&decide (-1=hi)then [43]else B9 lo hi
def ajp(lo:Nat)(hi:Int):(B9 lo hi).length<=7:=by
 have aa:=Hq lo;have ab:=Hq hi.toNat;unfold B9;cases decide (hi=lo)<;>cases decide (hi=-1)<;>simp<;>omega
def ajq(lo:Nat)(hi:Int):(tQ lo hi).length<=7:=by
 have aa:=ajp lo hi;unfold tQ;cases(decide ((0:Int)=lo)&&decide (1=hi))<;>cases(decide ((0:Int)=lo)&&decide (-1=hi))<;>cases(decide ((1:Int)=lo)&&decide (-1=hi))<;>simp<;>omega
def XD(n:Nat):(zY n).size<=2:=Hq n
def qL(lo hi:Int):al:=⟨6,0,0,0,0,⟨#[]⟩,lo,hi,none,0,0,[]⟩
def ajr{lo:Nat}{hi:Int}(eZ:lo<=99)(gI:hi=-1\/((lo:Int)<=hi/\hi<=99)):fits (qL lo hi) 1=true:=by
 have aK:oQ 6=1:=by decide
 have a7:nF 6=1:=by decide
 rcases gI with rfl | ⟨aa,ab⟩
 ·simp[fits,qL,aK,a7,al.kT];exact⟨fo (by omega),fo (by omega)⟩
 ·simp[fits,qL,aK,a7,al.kT];exact⟨fo (by omega),fo (by omega),.inr ⟨fo (by omega),fo (by omega)⟩⟩
def ajs(a b:List UInt8):strOf a++strOf b=strOf (a++b):=by apply Ee;simp[strOf]
def fW.z3{t:Nat}{a b:List UInt8}(av:a.length+b.length<=9223372036854775807){V:Value->Prop}{other:Prop}(h:V (.string (strOf (a++b)))):fW P .add t x y (.val (.string (strOf a))) (.val (.string (strOf b))) V other:=
 fW.concat (a:=strOf a) (b:=strOf b) av (by rw[ajs];exact h)
def ajt(ao:m5 I)(aH:PV I)(lo:Nat)(hi:Int)(eZ:lo<=99)(gI:hi=-1\/((lo:Int)<=hi/\hi<=99)):Spec Tryz.prog 339 [.int .i64 lo,.int .i64 hi] I []
  λr I' M'=>r=.string (strOf (tQ lo hi))/\I'=I/\M'=[]:=by
 refine b0 [] a3 Tryz.func339 rfl rfl rfl ?_;intro B aw;have bi:(qL lo hi).ok I:=⟨by simp[qL],by simp[qL,fl],by simp[qL,fl],by simp[qL,fl],by simp[qL,fl],by show(0:Nat)<=_;omega,⟨by simp only[qL];omega,by simp only[qL];omega⟩,⟨by simp only[qL];omega,by simp only[qL];omega⟩,⟨rfl,⟨b2 _,by simp[qL]⟩,.inl rfl⟩,by simp[qL]⟩;refine bc.mk [] [] _ (.refl _) (PA ao bi 1) ?_;rintro v I' M' -⟨rfl,rfl,rfl⟩;rw[ajr eZ gI];refine a5.mk (λh=>by cases h) (λ_=>?_);have bt:cY I' ([]++[]) ⟨2,0,none⟩ 9 Hw:=by obtain⟨T,an,aH⟩:=aH;exact⟨rfl,_,T,an,.inl aH,rfl,rfl⟩
 refine aV.mk _ bt ?_;refine dx.inv (ι:=Nat) (λi=>{ bp:=[(0,.val (.int .i64 lo)),(1,.val (.int .i64 hi)),(12,.val (.agg Hw.toArray)),(13,.val (.int .i64 i))],cP:=I' }) (λi=>i<=3/\(1<=i->(decide ((0:Int)=lo)&&decide (1=hi))=false)/\(2<=i->(decide ((0:Int)=lo)&&decide (-1=hi))=false)/\(3<=i->(decide ((1:Int)=lo)&&decide (-1=hi))=false)) (λi=>3-i) ?_ ?_
 ·exact⟨0,⟨by simp,by simp,by simp,by simp⟩,.refl,dY,.nil⟩
 ·rintro i⟨ik,cM,m2,sN⟩
  match i,ik with
  |0,_=>
   refine a5.mk (λ_=>?_) (λh=>by simp at h);refine cA.mk 0 rfl (by decide) ?_;have next:(decide ((0:Int)=lo)&&decide (1=hi))=false->(((0+1:Nat)<=3/\(1<=(0+1:Nat)->(decide ((0:Int)=lo)&&decide (1=hi))=false)/\(2<=(0+1:Nat)->(decide ((0:Int)=lo)&&decide (-1=hi))=false)/\(3<=(0+1:Nat)->(decide ((1:Int)=lo)&&decide (-1=hi))=false))/\3-(0+1)<3-0):=λh=>by
    refine⟨⟨by simp,λ_=>?_,λc4=>?_,λc4=>?_⟩,by simp⟩;·exact h
    ·simp at c4
    ·simp at c4
   refine cT.mk (λa'=>?_) (λa'=>?_)
   ·refine a5.mk (λbg=>?_) (λbg=>?_)
    ·refine⟨_,_,.refl,?_,rfl,rfl⟩;have:tQ lo hi=[63]:=by unfold tQ;rw[a',bg];rfl
     rw[this];rfl
    ·refine be.mk 1 (by decide) ?_;exact⟨1,next (by rw[a',bg];rfl),.refl,dY,.nil⟩
   ·refine be.mk 1 (by decide) ?_;exact⟨1,next (by rw[a'];rfl),.refl,dY,.nil⟩
  |1,_=>
   refine a5.mk (λ_=>?_) (λh=>by simp at h);refine cA.mk 1 rfl (by decide) ?_;have next:(decide ((0:Int)=lo)&&decide (-1=hi))=false->(((1+1:Nat)<=3/\(1<=(1+1:Nat)->(decide ((0:Int)=lo)&&decide (1=hi))=false)/\(2<=(1+1:Nat)->(decide ((0:Int)=lo)&&decide (-1=hi))=false)/\(3<=(1+1:Nat)->(decide ((1:Int)=lo)&&decide (-1=hi))=false))/\3-(1+1)<3-1):=λh=>by
    refine⟨⟨by simp,λ_=>?_,λc4=>?_,λc4=>?_⟩,by simp⟩;·exact cM (by decide)
    ·exact h
    ·simp at c4
   refine cT.mk (λa'=>?_) (λa'=>?_)
   ·refine a5.mk (λbg=>?_) (λbg=>?_)
    ·refine⟨_,_,.refl,?_,rfl,rfl⟩;have:tQ lo hi=[42]:=by unfold tQ;rw[cM (by decide),a',bg];rfl
     rw[this];rfl
    ·refine be.mk 2 (by decide) ?_;exact⟨2,next (by rw[a',bg];rfl),.refl,dY,.nil⟩
   ·refine be.mk 2 (by decide) ?_;exact⟨2,next (by rw[a'];rfl),.refl,dY,.nil⟩
  |2,_=>
   refine a5.mk (λ_=>?_) (λh=>by simp at h);refine cA.mk 2 rfl (by decide) ?_;have next:(decide ((1:Int)=lo)&&decide (-1=hi))=false->(((2+1:Nat)<=3/\(1<=(2+1:Nat)->(decide ((0:Int)=lo)&&decide (1=hi))=false)/\(2<=(2+1:Nat)->(decide ((0:Int)=lo)&&decide (-1=hi))=false)/\(3<=(2+1:Nat)->(decide ((1:Int)=lo)&&decide (-1=hi))=false))/\3-(2+1)<3-2):=λh=>by
    refine⟨⟨by simp,λ_=>?_,λc4=>?_,λc4=>?_⟩,by simp⟩;·exact cM (by decide)
    ·exact m2 (by decide)
    ·exact h
   refine cT.mk (λa'=>?_) (λa'=>?_)
   ·refine a5.mk (λbg=>?_) (λbg=>?_)
    ·refine⟨_,_,.refl,?_,rfl,rfl⟩;have:tQ lo hi=[43]:=by unfold tQ;rw[cM (by decide),m2 (by decide),a',bg];rfl
     rw[this];rfl
    ·refine be.mk 3 (by decide) ?_;exact⟨3,next (by rw[a',bg];rfl),.refl,dY,.nil⟩
   ·refine be.mk 3 (by decide) ?_;exact⟨3,next (by rw[a'];rfl),.refl,dY,.nil⟩
  |3,_=>
   refine a5.mk (λh=>by simp at h) (λ_=>?_);have aK:=cM (by decide);have a7:=m2 (by decide);have ck:=sN (by decide);have jN:tQ lo hi=B9 lo hi:=by unfold tQ;rw[aK,a7,ck];rfl
   rw[jN];have wM:=XD lo;have By:=XD hi.toNat;have wM:=Hq lo;refine a5.mk (λh=>?_) (λh=>?_);·refine bc.mk [] [] _ (.refl _) (Lf lo (by omega)) ?_;rintro v I' M' -⟨rfl,rfl,rfl⟩;refine fW.z3 (a:=[123]) (b:=nG lo) (by simp;omega) ?_;refine fW.z3 (a:=[123]++nG lo) (b:=[125]) (by simp;omega) ?_;refine⟨_,_,.refl,?_,rfl,rfl⟩;rw[B9,h];rfl
   ·refine a5.mk (λk=>?_) (λk=>?_)
    ·refine bc.mk [] [] _ (.refl _) (Lf lo (by omega)) ?_;rintro v I' M' -⟨rfl,rfl,rfl⟩;refine fW.z3 (a:=[123]) (b:=nG lo) (by simp;omega) ?_;refine fW.z3 (a:=[123]++nG lo) (b:=[44,125]) (by simp;omega) ?_;refine⟨_,_,.refl,?_,rfl,rfl⟩;rw[B9,h,k];rfl
    ·refine bc.mk [] [] _ (.refl _) (Lf lo (by omega)) ?_;rintro v I' M' -⟨rfl,rfl,rfl⟩;have ae:hi≠-1:=by simpa using k
     obtain⟨aD,rfl⟩:=eF (show 0<=hi by omega);have By:=Hq aD;refine fW.z3 (a:=[123]) (b:=nG lo) (by simp;omega) ?_;refine fW.z3 (a:=[123]++nG lo) (b:=[44]) (by simp;omega) ?_;refine bc.mk [] [] _ (.refl _) (Lf aD (by omega)) ?_;rintro v I' M' -⟨rfl,rfl,rfl⟩;refine fW.z3 (a:=[123]++nG lo++[44]) (b:=nG aD) (by simp;omega) ?_;refine fW.z3 (a:=[123]++nG lo++[44]++nG aD) (b:=[125]) (by simp;omega) ?_;refine⟨_,_,.refl,?_,rfl,rfl⟩;rw[B9,h,k];rfl
def ve:List (List UInt8):=[[],[],[],[],[],[],[],[],[],[],[],[],[],[32],[],[],[32,47,32],[],[],[],[],[38],[],[],[33],[],[],[60],[],[62]]
def sO(j:Nat):List UInt8:=ve.getD j []
def Hx(I:aJ):Prop:=∃ T an,I 1=some (.cells (ve.map λl=>Value.string (strOf l)).toArray T an)
def Hx.rd(h:Hx I)(M:List aF)(ak:i+j<30):cY I M ((Addr.add ⟨1,0,none⟩ i).add j) 1 [.string (strOf (sO (i+j)))]:=by
 obtain⟨T,an,h⟩:=h;rw[z1,eO _ rfl];refine⟨rfl,_,T,an,.inl h,?_,rfl⟩;have aa:i+j<(ve.map λl=>Value.string (strOf l)).length:=by simp[ve];omega
 have ab:i+j<ve.length:=by simp[ve];omega
 simp only[dp];rw[fi aa,ry,qx];simp[sO,bM,ab]
def Hy(j:Nat):(sO j).length<=3:=by
 by_cases h:j<30
 ·have:∀ j:Fin 30,(sO j.val).length<=3:=by decide
  exact this ⟨j,h⟩
 ·have:ve.length<=j:=by simp[ve];omega
  simp[sO,bM,this]
def rR(ay:List Int)(d:al):List UInt8:=
 bif decide (d.k=0)||decide (d.k=2)then Hs d.t else
 bif decide (d.k=1)then B8 ay d.cz d.s1 d.s2 d.cV else
 bif decide (d.k=3)then d.t.data.toList else
 bif decide (d.k=9)then sO 27++d.t.data.toList++[58,32]else sO (d.k.toNat*3)
def pV(d:al):List UInt8:=bif decide (d.k=6)then tQ d.lo.toNat d.hi else sO (d.k.toNat*3+2)
def aju(s:ByteArray):strOf s.data.toList=s:=Ee (by simp[strOf])
def PW(ao:m5 I)(aH:PV I)(Li:Hx I){d:al}(ah:d.ok I)(aB:Lh d):Spec Tryz.prog 321 [d.val] I [] λr I' M'=>r=.string (strOf (pV d))/\I'=I/\M'=[]:=by
 refine b0 [] a3 Tryz.func321 rfl rfl rfl ?_;intro B aw;refine a5.mk (λh=>?_) (λh=>?_)
 ·obtain⟨a',bg,b5⟩:=aB.Hv (by simpa using h);have aK:d.lo=((d.lo.toNat:Nat):Int):=by omega
  have lS:=ajt ao aH d.lo.toNat d.hi (by omega) (by omega);rw[<-aK]at lS;refine bc.mk [] [] _ (.refl _) lS ?_;rintro v I' M' -⟨rfl,rfl,rfl⟩;refine⟨_,_,.refl,?_,rfl,rfl⟩;simp only[pV,h];rfl
 ·have ae:=ah.k;have tP:=aB.k;refine cA.mk d.k.toNat (by omega) (by omega) ?_;refine aV.mk _ (Li.rd _ (by show d.k.toNat*3+2<30;omega)) ?_;refine⟨_,_,.refl,?_,rfl,rfl⟩;simp only[pV,h];rfl
def XE(B4:sL I ay)(Li:Hx I){d:al}(ah:d.ok I)(aB:Lh d):Spec Tryz.prog 319 [d.val] I []
  λr I' M'=>r=.string (strOf (rR ay d))/\(∀ b o,I b=some o->I' b=some o)/\M'=[]:=by
 refine b0 [] a3 Tryz.func319 rfl rfl rfl ?_;intro B aw;have ae:=ah.k;have tP:=aB.k;have au:=aB.t;have lit:(decide (d.k=0)||decide (d.k=2))=true->rR ay d=Hs d.t:=λh=>by simp only[rR,h];rfl
 refine a5.mk (λaa=>?_) (λaa=>?_)
 ·refine a5.mk (λ_=>?_) (λh=>by rw[aa]at h;cases h);refine bc.mk [] [] _ (.refl _) (XA d.t (by omega)) ?_;rintro v I' M' -⟨rfl,rfl,rfl⟩;refine⟨_,_,.refl,?_,λ_ _ h=>h,rfl⟩;rw[lit (by rw[aa];rfl)]
 ·refine a5.mk (λab=>?_) (λab=>?_)
  ·refine bc.mk [] [] _ (.refl _) (XA d.t (by omega)) ?_;rintro v I' M' -⟨rfl,rfl,rfl⟩;refine⟨_,_,.refl,?_,λ_ _ h=>h,rfl⟩;rw[lit (by rw[ab];simp)]
  ·refine a5.mk (λai=>?_) (λai=>?_)
   ·refine bc.mk [] [] _ (.refl _) (ajo B4 (a:=d.cz) (b:=d.s1) (c:=d.s2) (d:=d.cV) (λx ad=>by
     simp only[eA,List.not_mem_nil,or_false]at ad;rcases ad with rfl | rfl | rfl | rfl;·exact ah.cz
     ·exact ah.s1
     ·exact ah.s2
     ·exact ah.cV)) ?_
    rintro v I' M' -⟨rfl,bB,rfl⟩;refine⟨_,_,.refl,?_,bB,rfl⟩;simp only[rR,aa,ab,ai];rfl
   ·refine a5.mk (λaL=>?_) (λaL=>?_)
    ·refine⟨_,_,.refl,?_,λ_ _ h=>h,rfl⟩;simp only[rR,aa,ab,ai,aL];rw[<-aju d.t];rfl
    ·refine a5.mk (λbq=>?_) (λbq=>?_)
     ·have ajv:d.k=9:=by simpa using bq
      refine c2.draw a3 rfl rfl rfl ?_;refine cA.mk 9 ajv (by decide) ?_;refine aV.mk _ (Li.rd _ (by decide)) ?_;have gj:(strOf (sO 27)).size=1:=by decide
      refine fW.concat (a:=strOf (sO 27)) (b:=d.t) (by omega) ?_;refine fW.concat (a:=strOf (sO 27)++d.t) (b:=strOf [58,32]) (by rw[Hf];show _+2<=_;omega) ?_;refine⟨_,_,.refl,?_,λ_ _ h=>h,rfl⟩;simp only[rR,aa,ab,ai,aL,bq];refine congrArg Value.string (Ee ?_);simp[strOf]
     ·refine cA.mk d.k.toNat (by omega) (by omega) ?_;refine aV.mk _ (Li.rd _ (by show d.k.toNat*3+0<30;omega)) ?_;refine⟨_,_,.refl,?_,λ_ _ h=>h,rfl⟩;simp only[rR,aa,ab,ai,aL,bq];rfl
def iE(ns:List al)(k:Int):Int:=(ns.map (·.k)).getD k.toNat 0
def paren(w:Bool)(s:List UInt8):List UInt8:=(bif w then [40]else [])++(s++(bif w then [41]else []))
def vf(sep:List UInt8)(f:Int->List UInt8):Bool->List Int->List UInt8
 |_,[]=>[]| b,k::ks=>(bif b then sep else [])++(f k++vf sep f true ks)
def Ei(d:al):List UInt8:=sO (d.k.toNat*3+1)
def Ej(ay:List Int)(ns:List al)(d:al)(g:Int->List UInt8):List UInt8:=
 rR ay d++(vf (Ei d) (λk=>paren (hK d.k (iE ns k)) (g k)) false d.aq++pV d)
def kW(ay:List Int)(ns:List al):Int->List UInt8:=mv [] (Ej ay ns) ns
def nJ(ay:List Int)(t:bn):List UInt8:=bif right t then kW ay t.ns t.br else []
def XF{sep:List UInt8}{f g:Int->List UInt8}:∀ {ks:List Int} {b:Bool},(∀ k∈ks,f k=g k)->vf sep f b ks=vf sep g b ks
 |[],b,_=>rfl| k::ks,b,h=>by unfold vf;rw[h k (by simp),XF λx ad=>h x (by simp[ad])]
def XG(af:right t=true)(ak:j<t.ns.length):kW ay t.ns j=Ej ay t.ns t.ns[j] (kW ay t.ns):=by refine Ea (λd g eu h=>?_) af ak;unfold Ej;rw[XF λk ae=>by rw[h k ae]]
def ajw(w:Bool)(s:List UInt8):(paren w s).length<=s.length+2:=by cases w<;>simp[paren]
def XH{sep:List UInt8}{f:Int->List UInt8}(av:sep.length<=3){g:Int->Nat}(aB:∀ k,(f k).length+3<=g k):∀ {ks:List Int} {b:Bool},(vf sep f b ks).length<=gS g ks
 |[],b=>by simp[vf,gS]
 |k::ks,b=>by
  have aa:=XH av aB (ks:=ks) (b:=true);have ab:=aB k;unfold vf;simp only[cm,gS,ca,hz]at aa |-;cases b<;>simp<;>omega
def PX(ay:List Int){d:al}(aB:Lh d):(rR ay d).length<=2400:=by
 have aa:(Hs d.t).length<=2+4*d.t.size:=by have:=Ht (oU · B7) 4 (λc=>Ho c B7) d.t.data.toList;have ab:d.t.data.toList.length=d.t.size:=rfl;simp only[Hs,cm,eo,g3];omega
 have ab:=ajn ay d.cz d.s1 d.s2 d.cV;have ai:=aB.t;have aL:=Hy 27;have bq:=Hy (d.k.toNat*3);have b':d.t.data.toList.length=d.t.size:=rfl;unfold rR;cases(decide (d.k=0)||decide (d.k=2))<;>cases decide (d.k=1)<;>cases decide (d.k=3)<;>cases decide (d.k=9)<;>simp only[cp,cb,cm,eo,g3]<;>omega
def Lj(d:al):(pV d).length<=7:=by
 have aa:=ajq d.lo.toNat d.hi;have ab:=Hy (d.k.toNat*3+2);unfold pV;cases decide (d.k=6)<;>simp only[cp,cb]<;>omega
def Lk{α:Type}(c:Nat):∀ l:List α,(l.map λ_=>c).sum=c*l.length
 |[]=>by simp
 |x::l=>by rw[ca,hz,Lk c l,eo,Nat.mul_add];omega
def XI(af:right t=true):(kW ay t.ns t.br).length+5<=2412*t.ns.length:=by
 have h:=PM af (g:=λk=>(kW ay t.ns k).length+5) (c:=λ_=>2412) λj ak=>by rw[XG af ak];have aa:=PX ay (PU (Eb af ak));have ab:=Lj t.ns[j];have ai:=XH (sep:=Ei t.ns[j]) (Hy _) (f:=λk=>paren (hK t.ns[j].k (iE t.ns k)) (kW ay t.ns k)) (g:=λk=>(kW ay t.ns k).length+5) (λk=>by have:=ajw (hK t.ns[j].k (iE t.ns k)) (kW ay t.ns k);omega) (ks:=t.ns[j].aq) (b:=false);unfold Ej;simp only[cm];omega
 rw[Lk]at h;exact h
def XJ(ay:List Int)(t:bn):(nJ ay t).length<=2412*t.ns.length:=by
 unfold nJ;cases af:right t with
 |false=>simp| true=>have:=XI (ay:=ay) af;simp only[cp];omega
abbrev Open:=Nat×Nat×Bool
def nK(e:Open):List Value:=[.int .i64 e.1,.int .i64 e.2.1,.bool e.2.2]
def nodeAt(ns:List al)(j:Nat):al:=ns.getD j ⟨0,0,0,0,0,.empty,0,0,none,0,0,[]⟩
def PY(ay:List Int)(ns:List al)(d:al)(k:Int):List UInt8:=paren (hK d.k (iE ns k)) (kW ay ns k)
def oW(ay:List Int)(ns:List al)(e:Open):List UInt8:=bif decide ((e.2.1:Int)=0)then(bif e.2.2 then [40]else [])++rR ay (nodeAt ns e.1)else []
def vg(ay:List Int)(ns:List al)(e:Open):List UInt8:=
 oW ay ns e++(vf (Ei (nodeAt ns e.1)) (PY ay ns (nodeAt ns e.1)) (decide (0<(e.2.1:Int))) ((nodeAt ns e.1).aq.drop e.2.1)++(pV (nodeAt ns e.1)++(bif e.2.2 then [41]else [])))
def z4(ns:List al):Int->Nat:=mv 0 (λd g=>2+gS g d.aq) ns
def n8(ns:List al)(e:Open):Nat:=1+gS (z4 ns) ((nodeAt ns e.1).aq.drop e.2.1)
def wN(ns:List al)(aI:List Open):Nat:=(aI.map (n8 ns)).sum
def vh(ay:List Int)(ns:List al)(aI:List Open):List UInt8:=aI.reverse.flatMap (vg ay ns)
def B'(ay:List Int)(ns:List al)(aI:List Open)(e:Open):vh ay ns (aI++[e])=vg ay ns e++vh ay ns aI:=by simp[vh]
def sP(ns:List al)(aI:List Open)(e:Open):wN ns (aI++[e])=wN ns aI+n8 ns e:=by simp[wN]
def XK(ns:List al):∀ aI:List Open,aI.length<=wN ns aI
 |[]=>by simp
 |e::aI=>by have:=XK ns aI;simp only[wN,ca,hz,eo,n8]at this |-;omega
def gy{ns:List al}(h:j<ns.length):nodeAt ns j=ns[j]:=by simp[nodeAt,bM,h]
def XL{g eu:Int->Nat}{ks:List Int}(h:∀ k∈ks,g k=eu k):gS g ks=gS eu ks:=by unfold gS;rw[fT h]
def XM(af:right t=true)(ak:j<t.ns.length):z4 t.ns j=2+gS (z4 t.ns) t.ns[j].aq:=
 Ea (λd g eu h=>by rw[XL h]) af ak
def ajx(af:right t=true):z4 t.ns t.br<=2*t.ns.length:=by
 have:=PM af (g:=z4 t.ns) (c:=λ_=>2) λj ak=>by rw[XM af ak];exact b2 _
 rwa [Lk]at this
def XN(af:right t=true)(ak:j<t.ns.length)(w:Bool):vg ay t.ns (j,0,w)=paren w (kW ay t.ns j):=by rw[XG af ak];simp only[vg,oW,gy ak];cases w<;>simp[paren,Ej,PY]<;>rfl
def XO(af:right t=true)(ak:j<t.ns.length)(w:Bool):n8 t.ns (j,0,w)+1=z4 t.ns j:=by rw[XM af ak];simp[n8,gy ak];omega
def PZ(af:right t=true)(ak:j<t.ns.length)(hi:i<t.ns[j].aq.length) :
  vg ay t.ns (j,i,w)=oW ay t.ns (j,i,w)++((bif decide (0<(i:Int))then Ei t.ns[j]else [])++(vg ay t.ns (t.ns[j].aq[i].toNat,0,hK t.ns[j].k (iE t.ns t.ns[j].aq[i]))++vg ay t.ns (j,i+1,w))):=by
 have ae:=ly af j ak _ (bJ hi);rw[XN af (by omega)];have aK:(((t.ns[j].aq[i].toNat:Nat):Int))=t.ns[j].aq[i]:=zS ae.1;rw[aK];have ah:=fi hi;simp only[vg,gy ak];rw[ah];have a7:oW ay t.ns (j,i+1,w)=[]:=by have:decide (((i+1:Nat):Int)=0)=false:=fo (by omega);simp only[oW,this,cb]
 have ck:decide (0<((i+1:Nat):Int))=true:=iQ (by omega);rw[a7,ck];simp only[vf,PY,ec,hX]
def P0(af:right t=true)(ak:j<t.ns.length){w':Bool}(hi:i<t.ns[j].aq.length):n8 t.ns (j,i+1,w)+n8 t.ns (t.ns[j].aq[i].toNat,0,w')+1=n8 t.ns (j,i,w):=by
 have ae:=ly af j ak _ (bJ hi);have aa:=XO af (j:=t.ns[j].aq[i].toNat) (by omega) w';have aK:(((t.ns[j].aq[i].toNat:Nat):Int))=t.ns[j].aq[i]:=zS ae.1;rw[aK]at aa;have ah:=fi hi;have ck:n8 t.ns (j,i,w)=1+gS (z4 t.ns) (t.ns[j].aq.drop i):=by simp[n8,gy ak]
 have dM:n8 t.ns (j,i+1,w)=1+gS (z4 t.ns) (t.ns[j].aq.drop (i+1)):=by simp[n8,gy ak]
 rw[ck,dM,ah];simp only[gS,ca,hz];omega
def P1(ak:j<t.ns.length)(hi:t.ns[j].aq.length<=i):vg ay t.ns (j,i,w)=oW ay t.ns (j,i,w)++(pV t.ns[j]++(bif w then [41]else [])):=by simp only[vg,gy ak,mr hi];rfl
def P2{d:Nat}{x:dH}(h:F d=x):gY F d x=F:=by
 funext t;unfold gY;cases e:Nat.beq t d with
 |false=>rfl| true=>have:=dJ e;subst this;exact h.symm
def ajy{d:Nat}{x:Option (List Value)}(h:C d=x):jv C d x=C:=by
 funext t;unfold jv;cases e:Nat.beq t d with
 |false=>rfl| true=>have:=dJ e;subst this;exact h.symm
def Ll:Code->Code
 | .scope c=>c
 | .seq a b=>match Ll a with
  | .skip=>Ll b| c=>c
 |_=>.skip
def XP(c:Code)(l:Nat):Code:=(findLabel c l).getD .skip
def cd.z1{M:List aF}{vs:List Value}{K:List aF->Prop}(a9 post:List aF)(cs:Array Value)(T:Nat)(bb:M=a9++⟨b,.cells cs T (0,0)⟩::post)(ag:i+j+vs.length<=cs.size)(aa:fJ vs=true)
  (h:K (a9++⟨b,.cells (cq cs.toList (i+j) vs).toArray T (0,0)⟩::post)):cd M (((⟨b,0,none⟩:Addr).add i).add j) vs K:=by
 rw[Go.V.z1];refine cd.add a9 post cs T bb (by omega) aa ?_;rw[dp];exact h
structure ff(I:aJ)(ay:List Int):Prop where
 c:m5 I
 p:PV I
 s:Hx I
 d:sL I ay
def P3(a b c:α)(L:List α):(a::b::(L++[c])).Perm ([b,c]++(a::L)):=
 (List.Perm.swap b a _).trans (((((PB c L).cons a)).trans (List.Perm.swap c a L)).cons b)
def P4(a9:List Value)(a b c z:Value)(bo:List Value):cq (a9++([a,b,c]++bo)) (a9.length+1) [z]=a9++([a,z,c]++bo):=by have:=Xy a9 a b z (c::bo) _ rfl;exact this
def ff.mono{I':aJ}(h:ff I ay)(bB:∀ b o,I b=some o->I' b=some o):ff I' ay:=by obtain⟨⟨ajz,f1,aa⟩,⟨Ca,f2,ab⟩,⟨ajA,f3,ai⟩,⟨aL,bq,P5,f4,b'⟩⟩:=h;exact⟨⟨ajz,f1,bB _ _ aa⟩,⟨Ca,f2,bB _ _ ab⟩,⟨ajA,f3,bB _ _ ai⟩,⟨aL,bq,P5,f4,bB _ _ b'⟩⟩
def pW(aI:List Open):List Value:=aI.flatMap nK
def Hz(aI:List Open):(pW aI).length=aI.length*3:=gL nK 3 (λ_=>rfl) aI
def Cb(aI:List Open)(e:Open):pW (aI++[e])=pW aI++[.int .i64 e.1,.int .i64 e.2.1,.bool e.2.2]:=by simp[pW,nK]
abbrev HA:=gw×aQ×List Open×aJ
def XQ(t:bn)(g:Nat)(x:HA):xY:={ bp:=[(1,.ref 1 0),(3,.val (ptr g)),(4,.val x.2.1.val)],cl:=[(1,t.cells)],cP:=x.2.2.2,da:=x.2.1.ar 360++x.1.M g }
structure Lm(dS:aJ)(ay:List Int)(t:bn)(x:HA):Prop where
 le:∀ b o,dS b=some o->x.2.2.2 b=some o
 ok:x.1.ok
 os:x.2.1.ok 3 (pW x.2.2.1)
 ne:x.2.2.1≠[]
 awY:∀ e∈x.2.2.1,e.1<t.ns.length
 awZ:x.1.cB++vh ay t.ns x.2.2.1=kW ay t.ns t.br
 Ln:wN t.ns x.2.2.1<=2*t.ns.length
def XR{dS:aJ}(bl:ff dS ay)(au:t.ok dS)(af:right t=true)(aD:t.n<=1024){p:Nat->Nat×HA->Prop}(x:HA)(ad:Lm dS ay t x)(aH:∀ y,Lm dS ay t y->wN t.ns y.2.2.1<wN t.ns x.2.2.1->p 0 (g,y))(B:Nat)(aw:World)(G:Fr)(Cc:dO) :
  V ⟨Tryz.prog,sJ,[3],Tryz.f299.ntmps,B,aw,dS,[],none⟩ (XP (Ll (Tryz.f299.body.getD .skip)) 0) (gY (gY (gY G 4 (.val x.2.1.val)) 3 (.val (ptr g))) 1 (.ref 1 0)) (jv Cc 1 (some t.cells)) x.2.2.2 (x.2.1.ar 360++x.1.M g)
   (Pf (λl=>qt [] (λy=>XQ t y.1 y.2) (p l)) (wu ⟨Tryz.prog,sJ,[3],Tryz.f299.ntmps,B,aw,dS,[],none⟩ Tryz.f299.results.toList
    (λr I' M'=>r=.string (strOf (kW ay t.ns t.br))/\(∀ b o,dS b=some o->I' b=some o)/\M'=[]))):=by
 obtain⟨x,⟨B6,n,fp,aU⟩,aI,I1⟩:=x;obtain⟨bk,HB,cc,bD,fq,n9,XS⟩:=ad;simp only at bk HB cc bD fq n9 XS aH |-;have kv:=bl.mono bk;have tR:=au.mono bk;have oL:=au.n;obtain⟨ia,⟨j,i,w⟩,rfl⟩:∃ ia e,aI=ia++[e]:=by
  rcases zR aI with h | ⟨r,e,h⟩;·exact(bD h).elim
  ·exact⟨r,e,by simpa using h⟩
 have g6:ia.length+1=n:=by have aa:=cc.len;rw[Hz]at aa;simp at aa;omega
 have ak:j<t.ns.length:=fq (j,i,w) (by simp);have jM:j<t.n:=by omega
 cases B6 with
 |none=>have:=(cc.nil rfl).1;simp only at this;omega| some c3=>
 obtain⟨dm,m0,lX,ey⟩:=cc.cap c3 rfl;simp only at dm m0 lX ey;have gC:(pW ia).length=(n-1)*3:=by rw[Hz];omega
 obtain⟨bo,nI⟩:∃ bo,aU=pW ia++([.int .i64 j,.int .i64 i,.bool w]++bo):=by refine⟨aU.drop (n*3),?_⟩;have ab:=pM (n*3) aU;rw[ey,Cb,ec]at ab;exact ab.symm
 have ajB:aU[(n-1)*3+0]?=some (.int .i64 j):=by rw[nI,<-gC,lx (by omega)];simp
 have sQ:aU[(n-1)*3+1]?=some (.int .i64 i):=by rw[nI,<-gC,lx (by omega)];simp
 have sR:aU[(n-1)*3+2]?=some (.bool w):=by rw[nI,<-gC,lx (by omega)];simp
 have z5:=XI (ay:=ay) af;have kb:x.cB.length<=2412*t.ns.length:=by have:=congrArg List.length n9;rw[cm]at this;omega
 have XT:=XK t.ns (ia++[(j,i,w)]);simp only[cm,eo,g3]at XT;have gu:=tR.ns t.ns[j] (bJ ak);have fh:=gu.az;have rm:=PU (Eb af ak);obtain⟨aP,bI,bt⟩:=tR.ba.row al.cH jM ak;rw[B']at n9;rw[sP]at XS aH XT;have nL:IntKind.i64.wrap ((n:Int)-1)=((n-1:Nat):Int):=by rw[wrap_i64 ⟨by omega,by omega⟩];omega
 refine be.mk (((n-1:Nat)):Int) nL ?_;refine bA.mk ⟨c3,0,none⟩ (n-1) rfl rfl (by show n-1<n;omega) ?_;refine c2.draw a3 rfl rfl rfl ?_;refine aV.mk [.int .i64 j] (nH (b:=c3) (cs:=aU) (T:=360) (by simp[aQ.ar]) ajB) ?_;refine bA.mk aP j bI rfl jM ?_;refine aV.mk _ (bt _) ?_;refine bZ.mk λb6 Lo XU=>?_;refine cd.mk [] (⟨c3,.cells aU.toArray 360 (0,0)⟩::x.M g) _ _ rfl rfl (bK rfl) rfl ?_;refine aV.mk [.int .i64 i] (nH (b:=c3) (cs:=aU) (T:=360) (by simp[aQ.ar]) sQ) ?_;refine a5.mk (λaa=>?_) (λaa=>?_)
 ·refine aV.mk [.bool w] (nH (b:=c3) (cs:=aU) (T:=360) (by simp[aQ.ar]) sR) ?_;refine a5.mk (λab=>?_) (λab=>?_)
  ·refine bc.mk (x.M g) [⟨b6,.cells t.ns[j].cells.toArray 82 (0,0)⟩,⟨c3,.cells aU.toArray 360 (0,0)⟩] _ (eT (l₁:=[_,_])) (pR g HB 40 (by omega)) ?_;rintro v eE dy -⟨rfl,rfl,y,aE,g5,rfl⟩;have Hp:y.cB.length<=2412*t.ns.length+1:=by rw[g5];simp;omega
   refine aV.mk _ (dq (T:=82) (b:=b6) (cs:=t.ns[j].cells) (k:=0) (n:=9) (by simp) (bK rfl)) ?_;refine bc.mk [] (y.M g++[⟨b6,.cells t.ns[j].cells.toArray 82 (0,0)⟩,⟨c3,.cells aU.toArray 360 (0,0)⟩]) _ (by simp) (XE kv.d kv.s gu rm) ?_;rintro v eE dy -⟨rfl,gx,rfl⟩;have mA:∀ b o,dS b=some o->eE b=some o:=λb o h=>gx _ _ (bk _ _ h);have Ek:=PX ay rm;refine bc.mk (y.M g) [⟨b6,.cells t.ns[j].cells.toArray 82 (0,0)⟩,⟨c3,.cells aU.toArray 360 (0,0)⟩] _ (by simp) (u6 g aE _ (by show _+(rR ay t.ns[j]).length<=_;omega)) ?_;rintro v ls oM -⟨rfl,rfl,u,hu,yg,rfl⟩;have sS:u.cB=x.cB++oW ay t.ns (j,i,w):=by rw[yg,g5];simp only[oW,aa,ab,gy ak,cp,cb];simp[strOf]
   have Hu:u.cB.length<=2412*t.ns.length+2401:=by rw[sS,cm];simp only[oW,aa,ab,gy ak,cp,cb,cm,eo,g3];omega
   have h0:=bl.mono mA;have nM:=au.mono mA;have rS:=nM.ns t.ns[j] (bJ ak);have HC:∀ {k m:Nat},k+m<=9->cY ls (u.M g++[⟨b6,.cells t.ns[j].cells.toArray 82 (0,0)⟩,⟨c3,.cells aU.toArray 360 (0,0)⟩]) ((⟨b6,0,none⟩:Addr).add k) m ((t.ns[j].cells.drop k).take m):=λh=>dq (T:=82) (by simp) h;refine c2.draw a3 rfl rfl rfl ?_;refine aV.mk [.int .i64 i] (nH (b:=c3) (cs:=aU) (T:=360) (by simp[aQ.ar]) sQ) ?_;refine aV.mk _ (HC (by decide)) ?_;refine a5.mk (λae=>?_) (λae=>?_)
   ·have ed:i<t.ns[j].az:=by simpa using ae
    have rT:i<t.ns[j].aq.length:=by omega
    obtain⟨gv,fm,fe⟩:=rS.ba.one ed rT;have e0:=ly af j ak _ (bJ rT);obtain⟨q,yi⟩:=eF e0.1;have hA:q<t.ns.length:=by omega
    have oX:q<t.n:=by omega
    obtain⟨rU,yj,yk⟩:=nM.ba.row al.cH oX hA;have yl:∀ M,cY ls M ((rU.add (q*9)).add 0) 1 [.int .u8 t.ns[q].k]:=λM=>(yk M).part (k:=0) (m:=1) (by decide);have vi:iE t.ns ((q:Nat):Int)=t.ns[q].k:=by simp[iE,bM,hA]
    have jk:=PZ (ay:=ay) af ak (w:=w) rT;have z6:=P0 af ak (w:=w) (w':=hK t.ns[j].k t.ns[q].k) rT;rw[yi]at jk z6;simp only[BZ,gN]at jk z6;rw[vi]at jk;have gR:IntKind.i64.wrap ((i:Int)+1)=((i+1:Nat):Int):=by have:=rS.ba.cap;rw[wrap_i64 ⟨by omega,by omega⟩];omega
    have de:cq aU ((n-1)*3+1) [.int .i64 ((i+1:Nat):Int)]=pW ia++([.int .i64 j,.int .i64 ((i+1:Nat):Int),.bool w]++bo):=by rw[nI,<-gC];exact P4 _ _ _ _ _ _
    have Cd:aQ.ok ⟨some c3,n,fp,cq aU ((n-1)*3+1) [.int .i64 ((i+1:Nat):Int)]⟩ 3 (pW (ia++[(j,i+1,w)])):=by
     rw[de,Cb];refine⟨by simp only[cm,eo,g3];omega,(λh=>by cases h),λb5 _=>⟨?_,m0,lX,?_⟩⟩;·simp only;rw[<-dm,nI];simp
     ·simp only;rw[<-ec];refine sK ?_;simp only[cm,eo,g3];omega
    refine aV.mk [.int .i64 i] (nH (b:=c3) (cs:=aU) (T:=360) (by simp[aQ.ar]) sQ) ?_;refine a5.mk (λbd=>by simp at aa bd;omega) (λbd=>?_);refine c2.draw a3 rfl rfl rfl ?_;refine aV.mk _ (dq (T:=82) (b:=b6) (cs:=t.ns[j].cells) (k:=8) (n:=1) (by simp) (bK rfl)) ?_;refine aV.mk [.int .i64 i] (nH (b:=c3) (cs:=aU) (T:=360) (by simp[aQ.ar]) sQ) ?_;refine bA.mk gv i fm rfl ed ?_;refine aV.mk [.int .i64 (q:Nat)] (by have dT:=fe;rw[yi]at dT;exact dT _) ?_;refine aV.mk [.int .i64 i] (nH (b:=c3) (cs:=aU) (T:=360) (by simp[aQ.ar]) sQ) ?_;refine be.mk ((i+1:Nat):Int) gR ?_;refine cd.z1 (u.M g++[⟨b6,.cells t.ns[j].cells.toArray 82 (0,0)⟩]) [] aU.toArray 360 (by simp[aQ.ar]) ?_ rfl ?_;·simp only[tz];show(n-1)*3+1+1<=_;omega
    refine c2.draw a3 rfl rfl rfl ?_;refine aV.mk [.int .u8 t.ns[j].k] (dq (T:=82) (b:=b6) (cs:=t.ns[j].cells) (k:=0) (n:=1) (by simp) (bK rfl)) ?_;refine bA.mk rU q yj rfl oX ?_;refine aV.mk [.int .u8 t.ns[q].k] (yl _) ?_;refine eH.mk _ (PP t.ns[j].k t.ns[q].k) ?_;rintro v HD qE -⟨rfl,rfl,rfl⟩;refine bZ.mk λb9 m8 Ce=>?_;refine bF.append a3 rfl (by simp) (e:=360) rfl rfl rfl ⟨some c3,n,fp,cq aU ((n-1)*3+1) [.int .i64 ((i+1:Nat):Int)]⟩ (xs:=pW (ia++[(j,i+1,w)])) Cd rfl (m:=1) rfl (b3:=nK (q,0,hK t.ns[j].k t.ns[q].k)) (by decide) (dq (b:=b9) (cs:=nK (q,0,hK t.ns[j].k t.ns[q].k)) (k:=0) (n:=3) (T:=360) (.head _) (bK rfl)) rfl (Mr:=⟨b9,.cells (nK (q,0,hK t.ns[j].k t.ns[q].k)).toArray 360 (0,0)⟩::(u.M g++[⟨b6,.cells t.ns[j].cells.toArray 82 (0,0)⟩])) (by exact eT (l₁:=(⟨b9,.cells (nK (q,0,hK t.ns[j].k t.ns[q].k)).toArray 360 (0,0)⟩:aF)::(u.M g++[⟨b6,.cells t.ns[j].cells.toArray 82 (0,0)⟩])) (l₂:=[⟨c3,.cells (cq aU ((n-1)*3+1) [.int .i64 ((i+1:Nat):Int)]).toArray 360 (0,0)⟩])) (by show n+1<=_;simp only[maxLen];omega) (by show(n+1)*24<=_;omega) ?_;intro eu c' kc ew e9 fb jS;refine⟨(g,u,⟨some eu,n+1,c',kc⟩,ia++[(j,i+1,w)]++[(q,0,hK t.ns[j].k t.ns[q].k)],_),aH _ ⟨mA,hu,⟨?_,(λh=>by cases h),λb5 _=>⟨ew,e9,fb,?_⟩⟩,by simp,?_,?_,?_⟩ ?_,.perm (M1:=[⟨b9,.cells (nK (q,0,hK t.ns[j].k t.ns[q].k)).toArray 360 (0,0)⟩,⟨b6,.cells t.ns[j].cells.toArray 82 (0,0)⟩]++(⟨eu,.cells kc.toArray 360 (0,0)⟩::u.M g)) (P3 _ _ _ _) (.sub (mT _ _) .refl),fw,.cons rfl .nil⟩;·show _=(n+1)*3;rw[Hz];simp;omega
    ·show kc.take ((n+1)*3)=_;rw[Cb (ia++[(j,i+1,w)])];exact jS
    ·intro e he;simp only[cC,eC]at he;rcases he with(he | rfl) | rfl
     ·exact fq e (by simp[he])
     ·exact ak
     ·exact hA
    ·simp only;rw[B',B',sS,<-n9,jk];rw[show decide (0<(i:Int))=false from bd];simp
    ·simp only;rw[sP,sP];omega
    ·simp only;rw[sP,sP];omega
   ·have ed:t.ns[j].aq.length<=i:=by simp at ae;omega
    have jk:=P1 (ay:=ay) ak (w:=w) ed;have kR:=Lj t.ns[j];refine aV.mk _ (dq (T:=82) (b:=b6) (cs:=t.ns[j].cells) (k:=0) (n:=9) (by simp) (bK rfl)) ?_;refine bc.mk [] (u.M g++[⟨b6,.cells t.ns[j].cells.toArray 82 (0,0)⟩,⟨c3,.cells aU.toArray 360 (0,0)⟩]) _ (.refl _) (PW h0.c h0.p h0.s rS rm) ?_;rintro v HD qE -⟨rfl,rfl,rfl⟩;refine bc.mk (u.M g) [⟨b6,.cells t.ns[j].cells.toArray 82 (0,0)⟩,⟨c3,.cells aU.toArray 360 (0,0)⟩] _ (by simp) (u6 g hu _ (by show _+(pV t.ns[j]).length<=_;omega)) ?_;rintro v XV XW -⟨rfl,rfl,a,a6,kX,rfl⟩;have XX:a.cB.length<=2412*t.ns.length+2410:=by rw[kX,cm];show _+(pV t.ns[j]).length<=_;omega
    refine aV.mk [.bool w] (nH (b:=c3) (cs:=aU) (T:=360) (by simp[aQ.ar]) sR) ?_;refine a5.mk (λhw=>?_) (λhw=>?_)
    ·subst hw;refine bc.mk (a.M g) [⟨b6,.cells t.ns[j].cells.toArray 82 (0,0)⟩,⟨c3,.cells aU.toArray 360 (0,0)⟩] _ (by simp) (pR g a6 41 (by omega)) ?_;rintro v XY XZ -⟨rfl,rfl,c,ao,jN,rfl⟩;refine be.mk (((n-1:Nat)):Int) nL ?_;refine lf.mk 0 (n-1) rfl rfl (dj _) (by show n-1<=fp;omega) ?_;refine a5.mk (λbd=>?_) (λbd=>?_)
     ·have gO:0<n-1:=by simp at bd;omega
      refine⟨(g,c,⟨some c3,n-1,fp,aU⟩,ia,_),aH _ ⟨mA,ao,⟨?_,(λh=>by cases h),λb5 _=>⟨dm,by show n-1<=fp;omega,lX,?_⟩⟩,?_,λe he=>fq e (by simp[he]),?_,?_⟩ ?_,.perm (M1:=[⟨b6,.cells t.ns[j].cells.toArray 82 (0,0)⟩]++(⟨c3,.cells aU.toArray 360 (0,0)⟩::c.M g)) (eT (l₂:=[_,_])) (.sub (mT _ _) .refl),fw,.cons rfl .nil⟩;·exact gC
      ·show aU.take ((n-1)*3)=_;rw[nI,<-gC];exact sK rfl
      ·intro h;simp only at h;rw[h]at g6;simp at g6;omega
      ·simp only;rw[jN,kX,sS,<-n9,jk];simp[strOf]
      ·simp only;omega
      ·simp only[n8];omega
     ·have gO:n-1=0:=by simp at bd;omega
      have vj:ia=[]:=iD (by omega);have oY:c.cB=kW ay t.ns t.br:=by rw[jN,kX,sS,<-n9,jk,vj];simp[vh,strOf]
      refine bc.mk (c.M g) [⟨b6,.cells t.ns[j].cells.toArray 82 (0,0)⟩,⟨c3,.cells aU.toArray 360 (0,0)⟩] _ (by simp) (ye g ao (by rw[oY];omega)) ?_;rintro v HE HF -⟨rfl,rfl,rfl⟩;refine⟨_,_,.sub (fC _) .refl,?_,mA,rfl⟩;rw[oY];rfl
    ·subst hw;refine be.mk (((n-1:Nat)):Int) nL ?_;refine lf.mk 0 (n-1) rfl rfl (dj _) (by show n-1<=fp;omega) ?_;refine a5.mk (λbd=>?_) (λbd=>?_)
     ·have gO:0<n-1:=by simp at bd;omega
      refine⟨(g,a,⟨some c3,n-1,fp,aU⟩,ia,_),aH _ ⟨mA,a6,⟨?_,(λh=>by cases h),λb5 _=>⟨dm,by show n-1<=fp;omega,lX,?_⟩⟩,?_,λe he=>fq e (by simp[he]),?_,?_⟩ ?_,.perm (M1:=[⟨b6,.cells t.ns[j].cells.toArray 82 (0,0)⟩]++(⟨c3,.cells aU.toArray 360 (0,0)⟩::a.M g)) (eT (l₂:=[_,_])) (.sub (mT _ _) .refl),fw,.cons rfl .nil⟩;·exact gC
      ·show aU.take ((n-1)*3)=_;rw[nI,<-gC];exact sK rfl
      ·intro h;simp only at h;rw[h]at g6;simp at g6;omega
      ·simp only;rw[kX,sS,<-n9,jk];simp[strOf]
      ·simp only;omega
      ·simp only[n8];omega
     ·have gO:n-1=0:=by simp at bd;omega
      have vj:ia=[]:=iD (by omega);have oY:a.cB=kW ay t.ns t.br:=by rw[kX,sS,<-n9,jk,vj];simp[vh,strOf]
      refine bc.mk (a.M g) [⟨b6,.cells t.ns[j].cells.toArray 82 (0,0)⟩,⟨c3,.cells aU.toArray 360 (0,0)⟩] _ (by simp) (ye g a6 (by rw[oY];omega)) ?_;rintro v HE HF -⟨rfl,rfl,rfl⟩;refine⟨_,_,.sub (fC _) .refl,?_,mA,rfl⟩;rw[oY];rfl
  ·refine aV.mk _ (dq (T:=82) (b:=b6) (cs:=t.ns[j].cells) (k:=0) (n:=9) (.head _) (bK rfl)) ?_;refine bc.mk [] (⟨b6,.cells t.ns[j].cells.toArray 82 (0,0)⟩::⟨c3,.cells aU.toArray 360 (0,0)⟩::x.M g) _ (.refl _) (XE kv.d kv.s gu rm) ?_;rintro v eE dy -⟨rfl,gx,rfl⟩;have mA:∀ b o,dS b=some o->eE b=some o:=λb o h=>gx _ _ (bk _ _ h);have Ek:=PX ay rm;refine bc.mk (x.M g) [⟨b6,.cells t.ns[j].cells.toArray 82 (0,0)⟩,⟨c3,.cells aU.toArray 360 (0,0)⟩] _ (eT (l₁:=[_,_])) (u6 g HB _ (by show _+(rR ay t.ns[j]).length<=_;omega)) ?_;rintro v ls oM -⟨rfl,rfl,u,hu,yg,rfl⟩;have sS:u.cB=x.cB++oW ay t.ns (j,i,w):=by rw[yg];simp only[oW,aa,ab,gy ak,cp,cb];simp[strOf]
   have Hu:u.cB.length<=2412*t.ns.length+2401:=by rw[sS,cm];simp only[oW,aa,ab,gy ak,cp,cb,cm,eo,g3];omega
   have h0:=bl.mono mA;have nM:=au.mono mA;have rS:=nM.ns t.ns[j] (bJ ak);have HC:∀ {k m:Nat},k+m<=9->cY ls (u.M g++[⟨b6,.cells t.ns[j].cells.toArray 82 (0,0)⟩,⟨c3,.cells aU.toArray 360 (0,0)⟩]) ((⟨b6,0,none⟩:Addr).add k) m ((t.ns[j].cells.drop k).take m):=λh=>dq (T:=82) (by simp) h;refine c2.draw a3 rfl rfl rfl ?_;refine aV.mk [.int .i64 i] (nH (b:=c3) (cs:=aU) (T:=360) (by simp[aQ.ar]) sQ) ?_;refine aV.mk _ (HC (by decide)) ?_;refine a5.mk (λae=>?_) (λae=>?_)
   ·have ed:i<t.ns[j].az:=by simpa using ae
    have rT:i<t.ns[j].aq.length:=by omega
    obtain⟨gv,fm,fe⟩:=rS.ba.one ed rT;have e0:=ly af j ak _ (bJ rT);obtain⟨q,yi⟩:=eF e0.1;have hA:q<t.ns.length:=by omega
    have oX:q<t.n:=by omega
    obtain⟨rU,yj,yk⟩:=nM.ba.row al.cH oX hA;have yl:∀ M,cY ls M ((rU.add (q*9)).add 0) 1 [.int .u8 t.ns[q].k]:=λM=>(yk M).part (k:=0) (m:=1) (by decide);have vi:iE t.ns ((q:Nat):Int)=t.ns[q].k:=by simp[iE,bM,hA]
    have jk:=PZ (ay:=ay) af ak (w:=w) rT;have z6:=P0 af ak (w:=w) (w':=hK t.ns[j].k t.ns[q].k) rT;rw[yi]at jk z6;simp only[BZ,gN]at jk z6;rw[vi]at jk;have gR:IntKind.i64.wrap ((i:Int)+1)=((i+1:Nat):Int):=by have:=rS.ba.cap;rw[wrap_i64 ⟨by omega,by omega⟩];omega
    have de:cq aU ((n-1)*3+1) [.int .i64 ((i+1:Nat):Int)]=pW ia++([.int .i64 j,.int .i64 ((i+1:Nat):Int),.bool w]++bo):=by rw[nI,<-gC];exact P4 _ _ _ _ _ _
    have Cd:aQ.ok ⟨some c3,n,fp,cq aU ((n-1)*3+1) [.int .i64 ((i+1:Nat):Int)]⟩ 3 (pW (ia++[(j,i+1,w)])):=by
     rw[de,Cb];refine⟨by simp only[cm,eo,g3];omega,(λh=>by cases h),λb5 _=>⟨?_,m0,lX,?_⟩⟩;·simp only;rw[<-dm,nI];simp
     ·simp only;rw[<-ec];refine sK ?_;simp only[cm,eo,g3];omega
    refine aV.mk [.int .i64 i] (nH (b:=c3) (cs:=aU) (T:=360) (by simp[aQ.ar]) sQ) ?_;refine a5.mk (λbd=>by simp at aa bd;omega) (λbd=>?_);refine c2.draw a3 rfl rfl rfl ?_;refine aV.mk _ (dq (T:=82) (b:=b6) (cs:=t.ns[j].cells) (k:=8) (n:=1) (by simp) (bK rfl)) ?_;refine aV.mk [.int .i64 i] (nH (b:=c3) (cs:=aU) (T:=360) (by simp[aQ.ar]) sQ) ?_;refine bA.mk gv i fm rfl ed ?_;refine aV.mk [.int .i64 (q:Nat)] (by have dT:=fe;rw[yi]at dT;exact dT _) ?_;refine aV.mk [.int .i64 i] (nH (b:=c3) (cs:=aU) (T:=360) (by simp[aQ.ar]) sQ) ?_;refine be.mk ((i+1:Nat):Int) gR ?_;refine cd.z1 (u.M g++[⟨b6,.cells t.ns[j].cells.toArray 82 (0,0)⟩]) [] aU.toArray 360 (by simp[aQ.ar]) ?_ rfl ?_;·simp only[tz];show(n-1)*3+1+1<=_;omega
    refine c2.draw a3 rfl rfl rfl ?_;refine aV.mk [.int .u8 t.ns[j].k] (dq (T:=82) (b:=b6) (cs:=t.ns[j].cells) (k:=0) (n:=1) (by simp) (bK rfl)) ?_;refine bA.mk rU q yj rfl oX ?_;refine aV.mk [.int .u8 t.ns[q].k] (yl _) ?_;refine eH.mk _ (PP t.ns[j].k t.ns[q].k) ?_;rintro v HD qE -⟨rfl,rfl,rfl⟩;refine bZ.mk λb9 m8 Ce=>?_;refine bF.append a3 rfl (by simp) (e:=360) rfl rfl rfl ⟨some c3,n,fp,cq aU ((n-1)*3+1) [.int .i64 ((i+1:Nat):Int)]⟩ (xs:=pW (ia++[(j,i+1,w)])) Cd rfl (m:=1) rfl (b3:=nK (q,0,hK t.ns[j].k t.ns[q].k)) (by decide) (dq (b:=b9) (cs:=nK (q,0,hK t.ns[j].k t.ns[q].k)) (k:=0) (n:=3) (T:=360) (.head _) (bK rfl)) rfl (Mr:=⟨b9,.cells (nK (q,0,hK t.ns[j].k t.ns[q].k)).toArray 360 (0,0)⟩::(u.M g++[⟨b6,.cells t.ns[j].cells.toArray 82 (0,0)⟩])) (by exact eT (l₁:=(⟨b9,.cells (nK (q,0,hK t.ns[j].k t.ns[q].k)).toArray 360 (0,0)⟩:aF)::(u.M g++[⟨b6,.cells t.ns[j].cells.toArray 82 (0,0)⟩])) (l₂:=[⟨c3,.cells (cq aU ((n-1)*3+1) [.int .i64 ((i+1:Nat):Int)]).toArray 360 (0,0)⟩])) (by show n+1<=_;simp only[maxLen];omega) (by show(n+1)*24<=_;omega) ?_;intro eu c' kc ew e9 fb jS;refine⟨(g,u,⟨some eu,n+1,c',kc⟩,ia++[(j,i+1,w)]++[(q,0,hK t.ns[j].k t.ns[q].k)],_),aH _ ⟨mA,hu,⟨?_,(λh=>by cases h),λb5 _=>⟨ew,e9,fb,?_⟩⟩,by simp,?_,?_,?_⟩ ?_,.perm (M1:=[⟨b9,.cells (nK (q,0,hK t.ns[j].k t.ns[q].k)).toArray 360 (0,0)⟩,⟨b6,.cells t.ns[j].cells.toArray 82 (0,0)⟩]++(⟨eu,.cells kc.toArray 360 (0,0)⟩::u.M g)) (P3 _ _ _ _) (.sub (mT _ _) .refl),fw,.cons rfl .nil⟩;·show _=(n+1)*3;rw[Hz];simp;omega
    ·show kc.take ((n+1)*3)=_;rw[Cb (ia++[(j,i+1,w)])];exact jS
    ·intro e he;simp only[cC,eC]at he;rcases he with(he | rfl) | rfl
     ·exact fq e (by simp[he])
     ·exact ak
     ·exact hA
    ·simp only;rw[B',B',sS,<-n9,jk];rw[show decide (0<(i:Int))=false from bd];simp
    ·simp only;rw[sP,sP];omega
    ·simp only;rw[sP,sP];omega
   ·have ed:t.ns[j].aq.length<=i:=by simp at ae;omega
    have jk:=P1 (ay:=ay) ak (w:=w) ed;have kR:=Lj t.ns[j];refine aV.mk _ (dq (T:=82) (b:=b6) (cs:=t.ns[j].cells) (k:=0) (n:=9) (by simp) (bK rfl)) ?_;refine bc.mk [] (u.M g++[⟨b6,.cells t.ns[j].cells.toArray 82 (0,0)⟩,⟨c3,.cells aU.toArray 360 (0,0)⟩]) _ (.refl _) (PW h0.c h0.p h0.s rS rm) ?_;rintro v HD qE -⟨rfl,rfl,rfl⟩;refine bc.mk (u.M g) [⟨b6,.cells t.ns[j].cells.toArray 82 (0,0)⟩,⟨c3,.cells aU.toArray 360 (0,0)⟩] _ (by simp) (u6 g hu _ (by show _+(pV t.ns[j]).length<=_;omega)) ?_;rintro v XV XW -⟨rfl,rfl,a,a6,kX,rfl⟩;have XX:a.cB.length<=2412*t.ns.length+2410:=by rw[kX,cm];show _+(pV t.ns[j]).length<=_;omega
    refine aV.mk [.bool w] (nH (b:=c3) (cs:=aU) (T:=360) (by simp[aQ.ar]) sR) ?_;refine a5.mk (λhw=>?_) (λhw=>?_)
    ·subst hw;refine bc.mk (a.M g) [⟨b6,.cells t.ns[j].cells.toArray 82 (0,0)⟩,⟨c3,.cells aU.toArray 360 (0,0)⟩] _ (by simp) (pR g a6 41 (by omega)) ?_;rintro v XY XZ -⟨rfl,rfl,c,ao,jN,rfl⟩;refine be.mk (((n-1:Nat)):Int) nL ?_;refine lf.mk 0 (n-1) rfl rfl (dj _) (by show n-1<=fp;omega) ?_;refine a5.mk (λbd=>?_) (λbd=>?_)
     ·have gO:0<n-1:=by simp at bd;omega
      refine⟨(g,c,⟨some c3,n-1,fp,aU⟩,ia,_),aH _ ⟨mA,ao,⟨?_,(λh=>by cases h),λb5 _=>⟨dm,by show n-1<=fp;omega,lX,?_⟩⟩,?_,λe he=>fq e (by simp[he]),?_,?_⟩ ?_,.perm (M1:=[⟨b6,.cells t.ns[j].cells.toArray 82 (0,0)⟩]++(⟨c3,.cells aU.toArray 360 (0,0)⟩::c.M g)) (eT (l₂:=[_,_])) (.sub (mT _ _) .refl),fw,.cons rfl .nil⟩;·exact gC
      ·show aU.take ((n-1)*3)=_;rw[nI,<-gC];exact sK rfl
      ·intro h;simp only at h;rw[h]at g6;simp at g6;omega
      ·simp only;rw[jN,kX,sS,<-n9,jk];simp[strOf]
      ·simp only;omega
      ·simp only[n8];omega
     ·have gO:n-1=0:=by simp at bd;omega
      have vj:ia=[]:=iD (by omega);have oY:c.cB=kW ay t.ns t.br:=by rw[jN,kX,sS,<-n9,jk,vj];simp[vh,strOf]
      refine bc.mk (c.M g) [⟨b6,.cells t.ns[j].cells.toArray 82 (0,0)⟩,⟨c3,.cells aU.toArray 360 (0,0)⟩] _ (by simp) (ye g ao (by rw[oY];omega)) ?_;rintro v HE HF -⟨rfl,rfl,rfl⟩;refine⟨_,_,.sub (fC _) .refl,?_,mA,rfl⟩;rw[oY];rfl
    ·subst hw;refine be.mk (((n-1:Nat)):Int) nL ?_;refine lf.mk 0 (n-1) rfl rfl (dj _) (by show n-1<=fp;omega) ?_;refine a5.mk (λbd=>?_) (λbd=>?_)
     ·have gO:0<n-1:=by simp at bd;omega
      refine⟨(g,a,⟨some c3,n-1,fp,aU⟩,ia,_),aH _ ⟨mA,a6,⟨?_,(λh=>by cases h),λb5 _=>⟨dm,by show n-1<=fp;omega,lX,?_⟩⟩,?_,λe he=>fq e (by simp[he]),?_,?_⟩ ?_,.perm (M1:=[⟨b6,.cells t.ns[j].cells.toArray 82 (0,0)⟩]++(⟨c3,.cells aU.toArray 360 (0,0)⟩::a.M g)) (eT (l₂:=[_,_])) (.sub (mT _ _) .refl),fw,.cons rfl .nil⟩;·exact gC
      ·show aU.take ((n-1)*3)=_;rw[nI,<-gC];exact sK rfl
      ·intro h;simp only at h;rw[h]at g6;simp at g6;omega
      ·simp only;rw[kX,sS,<-n9,jk];simp[strOf]
      ·simp only;omega
      ·simp only[n8];omega
     ·have gO:n-1=0:=by simp at bd;omega
      have vj:ia=[]:=iD (by omega);have oY:a.cB=kW ay t.ns t.br:=by rw[kX,sS,<-n9,jk,vj];simp[vh,strOf]
      refine bc.mk (a.M g) [⟨b6,.cells t.ns[j].cells.toArray 82 (0,0)⟩,⟨c3,.cells aU.toArray 360 (0,0)⟩] _ (by simp) (ye g a6 (by rw[oY];omega)) ?_;rintro v HE HF -⟨rfl,rfl,rfl⟩;refine⟨_,_,.sub (fC _) .refl,?_,mA,rfl⟩;rw[oY];rfl
 ·have aw0:x.cB=x.cB++oW ay t.ns (j,i,w):=by simp only[oW,aa,cb,dD]
  have h0:=bl.mono bk;have nM:=au.mono bk;have rS:=nM.ns t.ns[j] (bJ ak);have HC:∀ {k m:Nat},k+m<=9->cY I1 (⟨b6,.cells t.ns[j].cells.toArray 82 (0,0)⟩::⟨c3,.cells aU.toArray 360 (0,0)⟩::x.M g) ((⟨b6,0,none⟩:Addr).add k) m ((t.ns[j].cells.drop k).take m):=λh=>dq (T:=82) (by simp) h;refine c2.draw a3 rfl rfl rfl ?_;refine aV.mk [.int .i64 i] (nH (b:=c3) (cs:=aU) (T:=360) (by simp[aQ.ar]) sQ) ?_;refine aV.mk _ (HC (by decide)) ?_;refine a5.mk (λae=>?_) (λae=>?_)
  ·have ed:i<t.ns[j].az:=by simpa using ae
   have rT:i<t.ns[j].aq.length:=by omega
   obtain⟨gv,fm,fe⟩:=rS.ba.one ed rT;have e0:=ly af j ak _ (bJ rT);obtain⟨q,yi⟩:=eF e0.1;have hA:q<t.ns.length:=by omega
   have oX:q<t.n:=by omega
   obtain⟨rU,yj,yk⟩:=nM.ba.row al.cH oX hA;have yl:∀ M,cY I1 M ((rU.add (q*9)).add 0) 1 [.int .u8 t.ns[q].k]:=λM=>(yk M).part (k:=0) (m:=1) (by decide);have vi:iE t.ns ((q:Nat):Int)=t.ns[q].k:=by simp[iE,bM,hA]
   have jk:=PZ (ay:=ay) af ak (w:=w) rT;have z6:=P0 af ak (w:=w) (w':=hK t.ns[j].k t.ns[q].k) rT;rw[yi]at jk z6;simp only[BZ,gN]at jk z6;rw[vi]at jk;have gR:IntKind.i64.wrap ((i:Int)+1)=((i+1:Nat):Int):=by have:=rS.ba.cap;rw[wrap_i64 ⟨by omega,by omega⟩];omega
   have de:cq aU ((n-1)*3+1) [.int .i64 ((i+1:Nat):Int)]=pW ia++([.int .i64 j,.int .i64 ((i+1:Nat):Int),.bool w]++bo):=by rw[nI,<-gC];exact P4 _ _ _ _ _ _
   have Cd:aQ.ok ⟨some c3,n,fp,cq aU ((n-1)*3+1) [.int .i64 ((i+1:Nat):Int)]⟩ 3 (pW (ia++[(j,i+1,w)])):=by
    rw[de,Cb];refine⟨by simp only[cm,eo,g3];omega,(λh=>by cases h),λb5 _=>⟨?_,m0,lX,?_⟩⟩;·simp only;rw[<-dm,nI];simp
    ·simp only;rw[<-ec];refine sK ?_;simp only[cm,eo,g3];omega
   refine aV.mk [.int .i64 i] (nH (b:=c3) (cs:=aU) (T:=360) (by simp[aQ.ar]) sQ) ?_;refine a5.mk (λbd=>?_) (λbd=>by simp at aa bd;omega);refine aV.mk [.int .u8 t.ns[j].k] (dq (T:=82) (b:=b6) (cs:=t.ns[j].cells) (k:=0) (n:=1) (.head _) (bK rfl)) ?_;refine cA.mk t.ns[j].k.toNat (by have:=rS.k;omega) (by have:=rm.k;have:=rS.k;omega) ?_;refine aV.mk _ (h0.s.rd _ (by have:=rm.k;have:=rS.k;show t.ns[j].k.toNat*3+1<30;omega)) ?_;refine bc.mk (x.M g) [⟨b6,.cells t.ns[j].cells.toArray 82 (0,0)⟩,⟨c3,.cells aU.toArray 360 (0,0)⟩] _ (eT (l₁:=[_,_])) (u6 g HB _ (by have:=Hy (t.ns[j].k.toNat*3+1);show _+(sO (t.ns[j].k.toNat*3+1)).length<=_;omega)) ?_;rintro v qD rI -⟨rfl,rfl,z,vk,ajC,rfl⟩;have tL:z.cB=x.cB++Ei t.ns[j]:=ajC;refine c2.draw a3 rfl rfl rfl ?_;refine aV.mk _ (dq (T:=82) (b:=b6) (cs:=t.ns[j].cells) (k:=8) (n:=1) (by simp) (bK rfl)) ?_;refine aV.mk [.int .i64 i] (nH (b:=c3) (cs:=aU) (T:=360) (by simp[aQ.ar]) sQ) ?_;refine bA.mk gv i fm rfl ed ?_;refine aV.mk [.int .i64 (q:Nat)] (by have dT:=fe;rw[yi]at dT;exact dT _) ?_;refine aV.mk [.int .i64 i] (nH (b:=c3) (cs:=aU) (T:=360) (by simp[aQ.ar]) sQ) ?_;refine be.mk ((i+1:Nat):Int) gR ?_;refine cd.z1 (z.M g++[⟨b6,.cells t.ns[j].cells.toArray 82 (0,0)⟩]) [] aU.toArray 360 (by simp[aQ.ar]) ?_ rfl ?_;·simp only[tz];show(n-1)*3+1+1<=_;omega
   refine c2.draw a3 rfl rfl rfl ?_;refine aV.mk [.int .u8 t.ns[j].k] (dq (T:=82) (b:=b6) (cs:=t.ns[j].cells) (k:=0) (n:=1) (by simp) (bK rfl)) ?_;refine bA.mk rU q yj rfl oX ?_;refine aV.mk [.int .u8 t.ns[q].k] (yl _) ?_;refine eH.mk _ (PP t.ns[j].k t.ns[q].k) ?_;rintro v HD qE -⟨rfl,rfl,rfl⟩;refine bZ.mk λb9 m8 Ce=>?_;refine bF.append a3 rfl (by simp) (e:=360) rfl rfl rfl ⟨some c3,n,fp,cq aU ((n-1)*3+1) [.int .i64 ((i+1:Nat):Int)]⟩ (xs:=pW (ia++[(j,i+1,w)])) Cd rfl (m:=1) rfl (b3:=nK (q,0,hK t.ns[j].k t.ns[q].k)) (by decide) (dq (b:=b9) (cs:=nK (q,0,hK t.ns[j].k t.ns[q].k)) (k:=0) (n:=3) (T:=360) (.head _) (bK rfl)) rfl (Mr:=⟨b9,.cells (nK (q,0,hK t.ns[j].k t.ns[q].k)).toArray 360 (0,0)⟩::(z.M g++[⟨b6,.cells t.ns[j].cells.toArray 82 (0,0)⟩])) (by exact eT (l₁:=(⟨b9,.cells (nK (q,0,hK t.ns[j].k t.ns[q].k)).toArray 360 (0,0)⟩:aF)::(z.M g++[⟨b6,.cells t.ns[j].cells.toArray 82 (0,0)⟩])) (l₂:=[⟨c3,.cells (cq aU ((n-1)*3+1) [.int .i64 ((i+1:Nat):Int)]).toArray 360 (0,0)⟩])) (by show n+1<=_;simp only[maxLen];omega) (by show(n+1)*24<=_;omega) ?_;intro eu c' kc ew e9 fb jS;refine⟨(g,z,⟨some eu,n+1,c',kc⟩,ia++[(j,i+1,w)]++[(q,0,hK t.ns[j].k t.ns[q].k)],_),aH _ ⟨bk,vk,⟨?_,(λh=>by cases h),λb5 _=>⟨ew,e9,fb,?_⟩⟩,by simp,?_,?_,?_⟩ ?_,.perm (M1:=[⟨b9,.cells (nK (q,0,hK t.ns[j].k t.ns[q].k)).toArray 360 (0,0)⟩,⟨b6,.cells t.ns[j].cells.toArray 82 (0,0)⟩]++(⟨eu,.cells kc.toArray 360 (0,0)⟩::z.M g)) (P3 _ _ _ _) (.sub (mT _ _) .refl),fw,.cons rfl .nil⟩;·show _=(n+1)*3;rw[Hz];simp;omega
   ·show kc.take ((n+1)*3)=_;rw[Cb (ia++[(j,i+1,w)])];exact jS
   ·intro e he;simp only[cC,eC]at he;rcases he with(he | rfl) | rfl
    ·exact fq e (by simp[he])
    ·exact ak
    ·exact hA
   ·simp only;rw[B',B',tL,<-n9,jk];rw[show decide (0<(i:Int))=true from bd,show oW ay t.ns (j,i,w)=[]from by simp only[oW,aa,cb]];simp
   ·simp only;rw[sP,sP];omega
   ·simp only;rw[sP,sP];omega
  ·have ed:t.ns[j].aq.length<=i:=by simp at ae;omega
   have ajD:=P1 (ay:=ay) ak (w:=w) ed;have jk:vg ay t.ns (j,i,w)=pV t.ns[j]++(bif w then [41]else []):=by rw[ajD];simp only[oW,aa,cb,hX]
   have kR:=Lj t.ns[j];refine aV.mk _ (dq (T:=82) (b:=b6) (cs:=t.ns[j].cells) (k:=0) (n:=9) (.head _) (bK rfl)) ?_;refine bc.mk [] (⟨b6,.cells t.ns[j].cells.toArray 82 (0,0)⟩::⟨c3,.cells aU.toArray 360 (0,0)⟩::x.M g) _ (.refl _) (PW h0.c h0.p h0.s rS rm) ?_;rintro v HD qE -⟨rfl,rfl,rfl⟩;refine bc.mk (x.M g) [⟨b6,.cells t.ns[j].cells.toArray 82 (0,0)⟩,⟨c3,.cells aU.toArray 360 (0,0)⟩] _ (eT (l₁:=[_,_])) (u6 g HB _ (by show _+(pV t.ns[j]).length<=_;omega)) ?_;rintro v XV XW -⟨rfl,rfl,a,a6,kX,rfl⟩;have XX:a.cB.length<=2412*t.ns.length+2410:=by rw[kX,cm];show _+(pV t.ns[j]).length<=_;omega
   refine aV.mk [.bool w] (nH (b:=c3) (cs:=aU) (T:=360) (by simp[aQ.ar]) sR) ?_;refine a5.mk (λhw=>?_) (λhw=>?_)
   ·subst hw;refine bc.mk (a.M g) [⟨b6,.cells t.ns[j].cells.toArray 82 (0,0)⟩,⟨c3,.cells aU.toArray 360 (0,0)⟩] _ (by simp) (pR g a6 41 (by omega)) ?_;rintro v XY XZ -⟨rfl,rfl,c,ao,jN,rfl⟩;refine be.mk (((n-1:Nat)):Int) nL ?_;refine lf.mk 0 (n-1) rfl rfl (dj _) (by show n-1<=fp;omega) ?_;refine a5.mk (λbd=>?_) (λbd=>?_)
    ·have gO:0<n-1:=by simp at bd;omega
     refine⟨(g,c,⟨some c3,n-1,fp,aU⟩,ia,_),aH _ ⟨bk,ao,⟨?_,(λh=>by cases h),λb5 _=>⟨dm,by show n-1<=fp;omega,lX,?_⟩⟩,?_,λe he=>fq e (by simp[he]),?_,?_⟩ ?_,.perm (M1:=[⟨b6,.cells t.ns[j].cells.toArray 82 (0,0)⟩]++(⟨c3,.cells aU.toArray 360 (0,0)⟩::c.M g)) (eT (l₂:=[_,_])) (.sub (mT _ _) .refl),fw,.cons rfl .nil⟩;·exact gC
     ·show aU.take ((n-1)*3)=_;rw[nI,<-gC];exact sK rfl
     ·intro h;simp only at h;rw[h]at g6;simp at g6;omega
     ·simp only;rw[jN,kX,<-n9,jk];simp[strOf]
     ·simp only;omega
     ·simp only[n8];omega
    ·have gO:n-1=0:=by simp at bd;omega
     have vj:ia=[]:=iD (by omega);have oY:c.cB=kW ay t.ns t.br:=by rw[jN,kX,<-n9,jk,vj];simp[vh,strOf]
     refine bc.mk (c.M g) [⟨b6,.cells t.ns[j].cells.toArray 82 (0,0)⟩,⟨c3,.cells aU.toArray 360 (0,0)⟩] _ (by simp) (ye g ao (by rw[oY];omega)) ?_;rintro v HE HF -⟨rfl,rfl,rfl⟩;refine⟨_,_,.sub (fC _) .refl,?_,bk,rfl⟩;rw[oY];rfl
   ·subst hw;refine be.mk (((n-1:Nat)):Int) nL ?_;refine lf.mk 0 (n-1) rfl rfl (dj _) (by show n-1<=fp;omega) ?_;refine a5.mk (λbd=>?_) (λbd=>?_)
    ·have gO:0<n-1:=by simp at bd;omega
     refine⟨(g,a,⟨some c3,n-1,fp,aU⟩,ia,_),aH _ ⟨bk,a6,⟨?_,(λh=>by cases h),λb5 _=>⟨dm,by show n-1<=fp;omega,lX,?_⟩⟩,?_,λe he=>fq e (by simp[he]),?_,?_⟩ ?_,.perm (M1:=[⟨b6,.cells t.ns[j].cells.toArray 82 (0,0)⟩]++(⟨c3,.cells aU.toArray 360 (0,0)⟩::a.M g)) (eT (l₂:=[_,_])) (.sub (mT _ _) .refl),fw,.cons rfl .nil⟩;·exact gC
     ·show aU.take ((n-1)*3)=_;rw[nI,<-gC];exact sK rfl
     ·intro h;simp only at h;rw[h]at g6;simp at g6;omega
     ·simp only;rw[kX,<-n9,jk];simp[strOf]
     ·simp only;omega
     ·simp only[n8];omega
    ·have gO:n-1=0:=by simp at bd;omega
     have vj:ia=[]:=iD (by omega);have oY:a.cB=kW ay t.ns t.br:=by rw[kX,<-n9,jk,vj];simp[vh,strOf]
     refine bc.mk (a.M g) [⟨b6,.cells t.ns[j].cells.toArray 82 (0,0)⟩,⟨c3,.cells aU.toArray 360 (0,0)⟩] _ (by simp) (ye g a6 (by rw[oY];omega)) ?_;rintro v HE HF -⟨rfl,rfl,rfl⟩;refine⟨_,_,.sub (fC _) .refl,?_,bk,rfl⟩;rw[oY];rfl
def X0{X:c1}{c:Code}{M:List aF}{K:kp}{t1 t2 t3:Nat}{a b d:dH}{e:Option (List Value)}(h:∀ G Cc,V X c (gY (gY (gY G t3 d) t2 b) t1 a) (jv Cc t1 e) I M K)
  (aa:F t1=a) (ab:F t2=b) (ai:F t3=d) (aL:C t1=e):V X c F C I M K:=by
 have:=h F C;rwa [P2 ai,P2 ab,P2 aa,ajy aL]at this
def ajE(bl:ff I ay)(au:t.ok I)(aD:t.n<=1024):Spec Tryz.prog 299 [t.val] I [] λr I' M'=>r=.string (strOf (nJ ay t))/\(∀ b o,I b=some o->I' b=some o)/\M'=[]:=by
 refine b0 [3] a3 Tryz.func299 rfl rfl rfl ?_;intro B aw;have oL:=au.n;cases af:right t with
 |true=>
  have P6:nJ ay t=kW ay t.ns t.br:=by simp[nJ,af]
  rw[P6];have pQ:=lZ af;obtain⟨r,n7⟩:=eF pQ.1;have eJ:r<t.ns.length:=by omega
  obtain⟨ns,z7,ym,z8,br⟩:=t;simp only at n7;subst n7;have n7:(⟨ns,z7,ym,z8,Int.ofNat r⟩:bn).br=Int.ofNat r:=rfl;refine c2.scope a3 rfl (λy:Nat×HA=>XQ ⟨ns,z7,ym,z8,Int.ofNat r⟩ y.1 y.2) (λ_=>0) (λy=>Lm I ay ⟨ns,z7,ym,z8,Int.ofNat r⟩ y.2) (λy=>wN ns y.2.2.2.1) (λ_=>XP (Ll (Tryz.f299.body.getD .skip)) 0) (λ_ _=>⟨by kernel_rfl,by kernel_rfl⟩) ?_ ?_
  ·refine bc.mk [] [] _ (.refl _) (oR bl.c au) ?_;rintro v I' M' -⟨rfl,rfl,rfl⟩;rw[af];refine a5.mk (λh=>by cases h) (λ_=>?_);refine bZ.mk λg ax Ec=>?_;refine bZ.mk λgf El aw1=>?_;refine X0 (t1:=1) (t2:=3) (t3:=4) (λG Cc=>XR bl au af aD (p:=λl y=>Lm _ ay ⟨ns,z7,ym,z8,Int.ofNat r⟩ y.2/\0=l) (g:=g) (gw.new,⟨some gf,1,1,nK (r,0,false)⟩,[(r,0,false)],I') ?_ (λy aE _=>⟨aE,rfl⟩) B aw G Cc) rfl rfl rfl rfl;refine⟨λ_ _ h=>h,gw.Lc,⟨rfl,(λh=>by cases h),λb5 _=>⟨rfl,b2 _,by simp only[maxLen];omega,rfl⟩⟩,by simp,?_,?_,?_⟩
   ·intro e he;simp only[eC]at he;subst he;exact eJ
   ·simp only[vh,zP,jf,PE,dD];have dT:=XN (ay:=ay) af eJ false;simp only at dT |-;rw[dT];simp[gw.new,paren]
   ·have aa:=XO af eJ false;have ab:=ajx af;simp only[BZ]at aa ab;simp only[wN,ca,hH,hz,B0];omega
  ·rintro⟨g,x⟩ad;refine X0 (t1:=1) (t2:=3) (t3:=4) (λG Cc=>XR bl au af aD (g:=g) x ad (λy aE a4=>⟨⟨aE,rfl⟩,a4⟩) B aw G Cc) rfl rfl rfl rfl
 |false=>
  have P6:nJ ay t=[]:=by simp[nJ,af]
  rw[P6];refine c2.scope a3 rfl (ι:=Empty) (λe=>nomatch e) (λe=>nomatch e) (λe=>nomatch e) (λe=>nomatch e) (λ_=>.skip) (λe=>nomatch e) ?_ (λe=>nomatch e);refine bc.mk [] [] _ (.refl _) (oR bl.c au) ?_;rintro v I' M' -⟨rfl,rfl,rfl⟩;rw[af];refine a5.mk (λ_=>?_) (λh=>by cases h);exact⟨_,_,.refl,rfl,λ_ _ h=>h,rfl⟩
def a0.val(d:a0):Value:=.agg #[.string d.name,.slice d.t.a d.t.n d.t.c,.int .i64 d.t.br]
def qM(ay:List Int)(d:a0):List UInt8:=
 bif decide (strOf (nJ ay d.t)=⟨#[]⟩) || !nE d.name then []else d.name.data.toList++[32,60,45,32]++nJ ay d.t++[10]
def X1(h:nE s=true):s.size<=32:=by unfold nE at h;simp only[cw,hS]at h;omega
def ajF(ay:List Int)(d:a0):(qM ay d).length<=37+2412*d.t.ns.length:=by
 have aa:=XJ ay d.t;unfold qM;cases ao:(decide (strOf (nJ ay d.t)=⟨#[]⟩) || !nE d.name)with
 |true=>simp| false=>simp only[tI,Bool.not_eq_false']at ao;have ab:=X1 ao.2;have ai:d.name.data.toList.length=d.name.size:=rfl;simp only[cb,cm,eo,g3];omega
def ajG(bl:ff I ay){d:a0}(ah:d.ok I)(aD:d.t.n<=1024):Spec Tryz.prog 278 [d.val] I [] λr I' M'=>r=.string (strOf (qM ay d))/\(∀ b o,I b=some o->I' b=some o)/\M'=[]:=by
 refine b0 [] a3 Tryz.func278 rfl rfl rfl ?_;intro B aw;refine bc.mk [] [] _ (.refl _) (ajE bl ah.t aD) ?_;rintro v I1 M1 -⟨rfl,db,rfl⟩;refine cT.mk (λaa=>?_) (λaa=>?_)
 ·refine bc.mk [] [] _ (.refl _) (Pz _ d.name) ?_;rintro v I' M' -⟨rfl,rfl,rfl⟩;refine a5.mk (λab=>?_) (λab=>?_)
  ·refine⟨_,_,.refl,?_,db,rfl⟩;have:qM ay d=[]:=by unfold qM;rw[aa,ab];rfl
   rw[this];rfl
  ·have hm:nE d.name=true:=by simpa using ab
   have ab:=X1 hm;have ai:d.name.data.toList.length=d.name.size:=rfl;have aL:=XJ ay d.t;have bq:=ah.t.n;refine fW.concat (a:=d.name) (b:=strOf [32,60,45,32]) (by show _+4<=_;omega) ?_;refine fW.concat (a:=d.name++strOf [32,60,45,32]) (b:=strOf (nJ ay d.t)) (by rw[Hf];show _+4+(nJ ay d.t).length<=_;omega) ?_;refine fW.concat (a:=d.name++strOf [32,60,45,32]++strOf (nJ ay d.t)) (b:=strOf [10]) (by rw[Hf,Hf];show _+4+(nJ ay d.t).length+1<=_;omega) ?_;refine⟨_,_,.refl,?_,db,rfl⟩;refine congrArg Value.string (Ee ?_);rw[qM,aa,hm];simp[strOf]
 ·refine⟨_,_,.refl,?_,db,rfl⟩;have:qM ay d=[]:=by unfold qM;rw[aa];rfl
  rw[this];rfl
def qN(ay:List Int):List a0->List UInt8->List UInt8
 |[],aZ=>aZ| d::ds,aZ=>bif decide (strOf (qM ay d)=⟨#[]⟩)then []else qN ay ds (aZ++qM ay d)
def ajH(bl:ff I ay){g:cg}(ax:g.ok I)(aD:g.n<=64)(au:∀ d∈g.ds,d.t.n<=1024):Spec Tryz.prog 234 [g.val] I [] λr I' M'=>r=.string (strOf (qN ay g.ds []))/\(∀ b o,I b=some o->I' b=some o)/\M'=[]:=by
 refine b0 [3] a3 Tryz.func234 rfl rfl rfl ?_;intro B aw;have hL:=ax.n;have z5:∀ d∈g.ds,d.t.ns.length<=1024:=λd ah=>by rw[(ax.ds d ah).t.n];exact au d ah
 refine bZ.mk λb ag wJ=>?_;refine dx.inv (ι:=Nat×gw×aJ) (λp=>{ bp:=[(3,.val (ptr b)),(8,.val (.slice g.a g.n g.c)),(9,.val (.int .i64 g.n)),(10,.val (.int .i64 p.1))],cP:=p.2.2,da:=p.2.1.M b }) (λp=>p.1<=g.n/\p.2.1.ok/\(∀ b o,I b=some o->p.2.2 b=some o)/\p.2.1.cB.length<=2500000*p.1/\qN ay g.ds []=qN ay (g.ds.drop p.1) p.2.1.cB) (λp=>g.n-p.1) ?_ ?_
 ·exact⟨(0,gw.new,I),⟨by simp,gw.Lc,λ_ _ h=>h,by simp[gw.new],rfl⟩,.refl,dY,.nil⟩
 ·rintro⟨i,x,I1⟩⟨hi,ad,db,kb,ku⟩;simp only at hi ad db kb ku;refine a5.mk (λh=>?_) (λh=>?_)
  ·have a4:i<g.n:=by simpa using h
   have cJ:i<g.ds.length:=by omega
   have rP:=ax.mono db;obtain⟨aP,bI,bt⟩:=rP.ba.row a0.cH a4 cJ;have hb:g.ds[i]∈g.ds:=bJ cJ;have z9:=ajF ay g.ds[i];have dT:=z5 _ hb;have lY:g.ds.drop i=g.ds[i]::g.ds.drop (i+1):=fi cJ;refine bA.mk aP i bI rfl a4 ?_;refine aV.mk _ (bt _) ?_;refine bc.mk [] (x.M b) _ (.refl _) (ajG (bl.mono db) (rP.ds _ hb) (au _ hb)) ?_;rintro v eE dy -⟨rfl,gx,rfl⟩;refine a5.mk (λaa=>?_) (λaa=>?_);·refine⟨_,_,.sub (fC _) .refl,?_,λb o h=>gx _ _ (db _ _ h),rfl⟩;rw[ku,lY,qN,aa];rfl
   ·refine bc.mk (x.M b) [] _ (by simp) (u6 b ad _ (by show _+(qM ay g.ds[i]).length<=_;omega)) ?_;rintro v I' M' -⟨rfl,rfl,y,aE,g5,rfl⟩;have X2:y.cB=x.cB++qM ay g.ds[i]:=g5;have gR:IntKind.i64.wrap ((i:Int)+1)=((i+1:Nat):Int):=by rw[wrap_i64 ⟨by omega,by omega⟩];omega
    refine be.mk _ gR ?_;refine⟨(i+1,y,_),⟨⟨by simp only;omega,aE,λb o h=>gx _ _ (db _ _ h),?_,?_⟩,by simp only;omega⟩,.perm (by simp) .refl,dY,.nil⟩;·simp only;rw[X2,cm];omega
    ·simp only;rw[ku,lY,qN,aa,X2];rfl
  ·have c8:g.n<=i:=by simpa using h
   have h8:g.ds.drop i=[]:=mr (by omega);refine bc.mk (x.M b) [] _ (by simp) (ye b ad (by omega)) ?_;rintro v I' M' -⟨rfl,rfl,rfl⟩;refine⟨_,_,.refl,?_,db,by simp⟩;rw[ku,h8];rfl
def ajI(bl:ff I ay){g:cg}(ax:g.ok I)(aD:g.n<=64)(au:∀ d∈g.ds,d.t.n<=1024):Spec Tryz.prog 182 [g.val] I [] λr I' M'=>r=.int .i64 ((qN ay g.ds []).length:Int)/\(∀ b o,I b=some o->I' b=some o)/\M'=[]:=by refine b0 [] a3 Tryz.func182 rfl rfl rfl ?_;intro B aw;refine bc.mk [] [] _ (.refl _) (ajH bl ax aD au) ?_;rintro v I' M' -⟨rfl,bB,rfl⟩;exact⟨_,_,.refl,rfl,bB,rfl⟩
def kw(ns:List al)(kind:Int):List Int->Bool
 |[]=>true| k::ks=>bif decide (iE ns k=kind)||(decide (iE ns k=0)&&decide (kind=4))then false else kw ns kind ks
def kY(ns:List al):List al->Bool
 |[]=>true| d::ds=>bif !decide (d.k=4) && !decide (d.k=5)then kY ns ds else bif kw ns d.k d.aq then kY ns ds else false
def normal(t:bn):Bool:=right t&&kY t.ns t.ns
def dc(h:i<=140737488355328):IntKind.i64.wrap ((i:Int)+1)=((i+1:Nat):Int):=by rw[wrap_i64 ⟨by omega,by omega⟩];omega
def ajJ(ao:m5 I)(au:t.ok I):Spec Tryz.prog 118 [t.val] I [] (λv I' M'=>v=.bool (normal t)/\I'=I/\M'=[]):=by
 refine b0 [] a3 Tryz.func118 rfl rfl rfl ?_;intro B aw;have aD:=au.n;have hy:=au.ba.cap;refine bc.mk [] [] _ (.refl _) (oR ao au) ?_;rintro v I' M' -⟨rfl,rfl,rfl⟩;refine a5.mk (λh=>?_) (λh=>?_)
 ·refine⟨_,_,.refl,?_,rfl,rfl⟩;simp[normal,show right t=false by simpa using h]
 ·have af:right t=true:=by simpa using h
  have eD:normal t=kY t.ns t.ns:=by simp[normal,af]
  rw[eD];refine dx.inv (ι:=Nat) (λi=>{ bp:=[(1,.ref 1 0),(12,.val (.slice t.a t.n t.c)),(13,.val (.int .i64 t.n)),(14,.val (.int .i64 i))],cl:=[(1,t.cells)],cP:=I' }) (λi=>i<=t.n/\kY t.ns t.ns=kY t.ns (t.ns.drop i)) (λi=>t.n-i) ?_ ?_;·exact⟨0,⟨by simp,rfl⟩,.refl,dY,.cons rfl .nil⟩
  ·rintro i⟨hi,fq⟩;refine a5.mk (λh=>?_) (λh=>?_)
   ·have a4:i<t.n:=by simpa using h
    have cJ:i<t.ns.length:=by omega
    obtain⟨aP,bI,bt⟩:=au.ba.row al.cH a4 cJ;have gu:=au.ns t.ns[i] (bJ cJ);have fh:=gu.az;have lY:t.ns.drop i=t.ns[i]::t.ns.drop (i+1):=fi cJ;refine bA.mk aP i bI rfl a4 ?_;refine aV.mk _ (bt _) ?_;refine cT.mk (λeK=>?_) (λeK=>?_)
    ·refine a5.mk (λcR=>?_) (λcR=>?_)
     ·refine be.mk _ (dc (i:=i) (by omega)) ?_;refine⟨i+1,⟨⟨by omega,?_⟩,by omega⟩,.refl,dY,.cons rfl .nil⟩;rw[fq,lY,kY,eK,cR];rfl
     ·have iS:kY t.ns t.ns=bif kw t.ns t.ns[i].k t.ns[i].aq then kY t.ns (t.ns.drop (i+1))else false:=by rw[fq,lY,kY,eK,cR];rfl
      refine dx.inv (ι:=Nat) (λj=>{ bp:=[(1,.ref 1 0),(4,.ref 4 0),(12,.val (.slice t.a t.n t.c)),(13,.val (.int .i64 t.n)),(14,.val (.int .i64 i)),(27,.val (.slice t.ns[i].cf t.ns[i].az t.ns[i].cx)),(28,.val (.int .i64 t.ns[i].az)),(29,.val (.int .i64 j))],cl:=[(1,t.cells),(4,t.ns[i].cells)],cP:=I' }) (λj=>j<=t.ns[i].az/\kw t.ns t.ns[i].k t.ns[i].aq=kw t.ns t.ns[i].k (t.ns[i].aq.drop j)) (λj=>t.ns[i].az-j) ?_ ?_;·exact⟨0,⟨by simp,rfl⟩,.refl,kL,.cons rfl (.cons rfl .nil)⟩
      ·rintro j⟨ak,m9⟩;refine a5.mk (λh=>?_) (λh=>?_)
       ·have gn:j<t.ns[i].az:=by simpa using h
        have oS:j<t.ns[i].aq.length:=by omega
        obtain⟨gv,fm,fe⟩:=gu.ba.one gn oS;have jQ:t.ns[i].aq.drop j=t.ns[i].aq[j]::t.ns[i].aq.drop (j+1):=fi oS;have e0:=ly af i cJ _ (bJ oS);generalize hZ:t.ns[i].aq[j]=ajK at *;obtain⟨q,rfl⟩:=eF e0.1;have hA:q<t.ns.length:=by omega
        have oX:q<t.n:=by omega
        obtain⟨rU,yj,yk⟩:=au.ba.row al.cH oX hA;have yl:∀ M,cY I' M ((rU.add (q*9)).add 0) 1 [.int .u8 t.ns[q].k]:=λM=>(yk M).part (k:=0) (m:=1) (by decide);have vi:iE t.ns ((q:Nat):Int)=t.ns[q].k:=by simp[iE,bM,hA]
        have bad:(decide (t.ns[q].k=t.ns[i].k)||(decide (t.ns[q].k=0)&&decide (t.ns[i].k=4)))=true->kY t.ns t.ns=false:=λag=>by rw[iS,m9,jQ,kw,vi,ag];rfl
        have HG:(decide (t.ns[q].k=t.ns[i].k)||(decide (t.ns[q].k=0)&&decide (t.ns[i].k=4)))=false->kw t.ns t.ns[i].k t.ns[i].aq=kw t.ns t.ns[i].k (t.ns[i].aq.drop (j+1)):=λag=>by rw[m9,jQ,kw,vi,ag];rfl
        have gR:=dc (i:=j) (by have:=gu.ba.cap;omega);refine bA.mk gv j fm rfl gn ?_;refine aV.mk _ (fe _) ?_;refine bA.mk rU q yj rfl oX ?_;refine aV.mk _ (yl _) ?_;refine cT.mk (λfF=>?_) (λfF=>?_)
        ·refine cT.mk (λfB=>?_) (λfB=>?_)
         ·refine a5.mk (λl0=>?_) (λl0=>?_)
          ·refine⟨_,_,.refl,?_,rfl,rfl⟩;rw[bad (by rw[fF,fB,l0];rfl)]
          ·refine be.mk _ gR ?_;exact⟨j+1,⟨⟨by omega,HG (by rw[fF,fB,l0];rfl)⟩,by omega⟩,.refl,kL,.cons rfl (.cons rfl .nil)⟩
         ·refine be.mk _ gR ?_;exact⟨j+1,⟨⟨by omega,HG (by rw[fF,fB];rfl)⟩,by omega⟩,.refl,kL,.cons rfl (.cons rfl .nil)⟩
        ·refine⟨_,_,.refl,?_,rfl,rfl⟩;rw[bad (by rw[fF];rfl)]
       ·have BY:t.ns[i].aq.drop j=[]:=mr (by simp at h;omega);refine be.mk _ (dc (i:=i) (by omega)) ?_;refine⟨i+1,⟨⟨by omega,?_⟩,by omega⟩,.refl,dY,.cons rfl .nil⟩;rw[iS,m9,BY];rfl
    ·have iS:kY t.ns t.ns=bif kw t.ns t.ns[i].k t.ns[i].aq then kY t.ns (t.ns.drop (i+1))else false:=by rw[fq,lY,kY,eK];rfl
     refine dx.inv (ι:=Nat) (λj=>{ bp:=[(1,.ref 1 0),(4,.ref 4 0),(12,.val (.slice t.a t.n t.c)),(13,.val (.int .i64 t.n)),(14,.val (.int .i64 i)),(27,.val (.slice t.ns[i].cf t.ns[i].az t.ns[i].cx)),(28,.val (.int .i64 t.ns[i].az)),(29,.val (.int .i64 j))],cl:=[(1,t.cells),(4,t.ns[i].cells)],cP:=I' }) (λj=>j<=t.ns[i].az/\kw t.ns t.ns[i].k t.ns[i].aq=kw t.ns t.ns[i].k (t.ns[i].aq.drop j)) (λj=>t.ns[i].az-j) ?_ ?_;·exact⟨0,⟨by simp,rfl⟩,.refl,kL,.cons rfl (.cons rfl .nil)⟩
     ·rintro j⟨ak,m9⟩;refine a5.mk (λh=>?_) (λh=>?_)
      ·have gn:j<t.ns[i].az:=by simpa using h
       have oS:j<t.ns[i].aq.length:=by omega
       obtain⟨gv,fm,fe⟩:=gu.ba.one gn oS;have jQ:t.ns[i].aq.drop j=t.ns[i].aq[j]::t.ns[i].aq.drop (j+1):=fi oS;have e0:=ly af i cJ _ (bJ oS);generalize hZ:t.ns[i].aq[j]=ajK at *;obtain⟨q,rfl⟩:=eF e0.1;have hA:q<t.ns.length:=by omega
       have oX:q<t.n:=by omega
       obtain⟨rU,yj,yk⟩:=au.ba.row al.cH oX hA;have yl:∀ M,cY I' M ((rU.add (q*9)).add 0) 1 [.int .u8 t.ns[q].k]:=λM=>(yk M).part (k:=0) (m:=1) (by decide);have vi:iE t.ns ((q:Nat):Int)=t.ns[q].k:=by simp[iE,bM,hA]
       have bad:(decide (t.ns[q].k=t.ns[i].k)||(decide (t.ns[q].k=0)&&decide (t.ns[i].k=4)))=true->kY t.ns t.ns=false:=λag=>by rw[iS,m9,jQ,kw,vi,ag];rfl
       have HG:(decide (t.ns[q].k=t.ns[i].k)||(decide (t.ns[q].k=0)&&decide (t.ns[i].k=4)))=false->kw t.ns t.ns[i].k t.ns[i].aq=kw t.ns t.ns[i].k (t.ns[i].aq.drop (j+1)):=λag=>by rw[m9,jQ,kw,vi,ag];rfl
       have gR:=dc (i:=j) (by have:=gu.ba.cap;omega);refine bA.mk gv j fm rfl gn ?_;refine aV.mk _ (fe _) ?_;refine bA.mk rU q yj rfl oX ?_;refine aV.mk _ (yl _) ?_;refine cT.mk (λfF=>?_) (λfF=>?_)
       ·refine cT.mk (λfB=>?_) (λfB=>?_)
        ·refine a5.mk (λl0=>?_) (λl0=>?_)
         ·refine⟨_,_,.refl,?_,rfl,rfl⟩;rw[bad (by rw[fF,fB,l0];rfl)]
         ·refine be.mk _ gR ?_;exact⟨j+1,⟨⟨by omega,HG (by rw[fF,fB,l0];rfl)⟩,by omega⟩,.refl,kL,.cons rfl (.cons rfl .nil)⟩
        ·refine be.mk _ gR ?_;exact⟨j+1,⟨⟨by omega,HG (by rw[fF,fB];rfl)⟩,by omega⟩,.refl,kL,.cons rfl (.cons rfl .nil)⟩
       ·refine⟨_,_,.refl,?_,rfl,rfl⟩;rw[bad (by rw[fF];rfl)]
      ·have BY:t.ns[i].aq.drop j=[]:=mr (by simp at h;omega);refine be.mk _ (dc (i:=i) (by omega)) ?_;refine⟨i+1,⟨⟨by omega,?_⟩,by omega⟩,.refl,dY,.cons rfl .nil⟩;rw[iS,m9,BY];rfl
   ·have c8:t.n<=i:=by simpa using h
    have h8:t.ns.drop i=[]:=mr (by omega);refine⟨_,_,.refl,?_,rfl,rfl⟩;rw[fq,h8];rfl
def h1(t:bn):Nat:=bif right t then t.n else 0
def mB(g:cg):Nat:=(g.ds.map λd=>h1 d.t).sum
def P7{α:Type}(f:α->Nat)(m:Nat):∀ (l:List α),(∀ x∈l,f x<=m)->(l.map f).sum<=m*l.length
 |[],_=>by simp
 |x::l,h=>by have aa:=h x (by simp);have ab:=P7 f m l λy aE=>h y (by simp[aE]);simp only[ca,hz,eo,Nat.mul_add];omega
def X3(ao:m5 I){g:cg}(ax:g.ok I)(aD:g.n<=64)(au:∀ d∈g.ds,d.t.n<=1024):Spec Tryz.prog 50 [g.val] I [] (λv I' M'=>v=.int .i64 (mB g:Nat)/\I'=I/\M'=[]):=by
 refine b0 [] a3 Tryz.func50 rfl rfl rfl ?_;intro B aw;have hL:=ax.n;refine dx.inv (ι:=Nat) (λi=>{ bp:=[(3,.val (.int .i64 (((g.ds.take i).map λd=>h1 d.t).sum:Nat))),(7,.val (.slice g.a g.n g.c)),(8,.val (.int .i64 g.n)),(9,.val (.int .i64 i))],cP:=I }) (λi=>i<=g.n) (λi=>g.n-i) ?_ ?_
 ·exact⟨0,by simp,.refl,dY,.nil⟩
 ·intro i hi;refine a5.mk (λh=>?_) (λh=>?_)
  ·have a4:i<g.n:=by simpa using h
   have cJ:i<g.ds.length:=by omega
   obtain⟨aP,bI,bt⟩:=ax.ba.row a0.cH a4 cJ;have hb:g.ds[i]∈g.ds:=bJ cJ;have av:((g.ds.take i).map λd=>h1 d.t).sum<=1024*(g.ds.take i).length:=P7 _ 1024 _ λd ah=>by
    have:=au d (u5 ah);unfold h1;cases right d.t<;>simp
    omega
   have aA:=D9 i g.ds;have gj:h1 g.ds[i].t<=1024:=by
    have:=au _ hb;unfold h1;cases right g.ds[i].t<;>simp
    omega
   refine bA.mk aP i bI rfl a4 ?_;refine aV.mk _ (bt _) ?_;refine bc.mk [] [] _ (.refl _) (aiR ao (ax.ds _ hb).t) ?_;rintro v I' M' -⟨rfl,rfl,rfl⟩;have aK:(bif right g.ds[i].t then(g.ds[i].t.n:Int)else 0)=(h1 g.ds[i].t:Nat):=by
    unfold h1;cases right g.ds[i].t<;>rfl
   rw[aK];refine be.mk ((((g.ds.take (i+1)).map λd=>h1 d.t).sum:Nat):Int) ?_ ?_;·rw[wrap_i64 ⟨by omega,by omega⟩,gH cJ,cS,pO];simp
   refine be.mk _ (dc (i:=i) (by omega)) ?_;exact⟨i+1,⟨by omega,by omega⟩,.refl,dY,.nil⟩
  ·have c8:g.n<=i:=by simpa using h
   refine⟨_,_,.refl,?_,rfl,rfl⟩;rw[fS (by omega)];rfl
def pX(ay:List Int)(g:cg):Bool:=
 decide (64<g.n)||((!g.ds.all λd=>pP d.t)||(decide (1024<mB g)||decide (8192<(qN ay g.ds []).length)))
def ajL(bl:ff I ay){g:cg}(ax:g.ok I):Spec Tryz.prog 119 [g.val] I [] (λv I' M'=>v=.bool (pX ay g)/\(∀ b o,I b=some o->I' b=some o)/\M'=[]):=by
 refine b0 [] a3 Tryz.func119 rfl rfl rfl ?_;intro B aw;have hL:=ax.n;refine a5.mk (λaa=>?_) (λaa=>?_)
 ·refine⟨_,_,.refl,?_,λ_ _ h=>h,rfl⟩;have:64<g.n:=by simp at aa;omega
  simp[pX,this]
 ·have aD:g.n<=64:=by simp at aa;omega
  have di:pX ay g=((!g.ds.all λd=>pP d.t)||(decide (1024<mB g)||decide (8192<(qN ay g.ds []).length))):=by
   have:¬ 64<g.n:=by omega
   simp[pX,this]
  rw[di];refine dx.inv (ι:=Nat) (λi=>{ bp:=[(1,.ref 1 0),(10,.val (.slice g.a g.n g.c)),(11,.val (.int .i64 g.n)),(12,.val (.int .i64 i))],cl:=[(1,[.slice g.a g.n g.c])],cP:=I }) (λi=>i<=g.n/\(g.ds.take i).all (λd=>pP d.t)=true) (λi=>g.n-i) ?_ ?_;·exact⟨0,⟨by simp,rfl⟩,.refl,dY,.cons rfl .nil⟩
  ·rintro i⟨hi,eI⟩;refine a5.mk (λh=>?_) (λh=>?_)
   ·have a4:i<g.n:=by simpa using h
    have cJ:i<g.ds.length:=by omega
    obtain⟨aP,bI,bt⟩:=ax.ba.row a0.cH a4 cJ;have hb:g.ds[i]∈g.ds:=bJ cJ;refine bA.mk aP i bI rfl a4 ?_;refine aV.mk _ (bt _) ?_;refine bc.mk [] [] _ (.refl _) (aiU bl.c (ax.ds _ hb).t) ?_;rintro v I' M' -⟨rfl,rfl,rfl⟩;refine a5.mk (λab=>?_) (λab=>?_)
    ·refine⟨_,_,.refl,?_,λ_ _ h=>h,rfl⟩;have aB:pP g.ds[i].t=false:=by simpa using ab
     have:(g.ds.all λd=>pP d.t)=false:=by rw[K9];exact⟨_,hb,by simp[aB]⟩
     rw[this];rfl
    ·have aB:pP g.ds[i].t=true:=by simpa using ab
     refine be.mk _ (dc (i:=i) (by omega)) ?_;refine⟨i+1,⟨⟨by omega,?_⟩,by omega⟩,.refl,dY,.cons rfl .nil⟩;rw[gH cJ,Hi,eI];simp[aB]
   ·have c8:g.n<=i:=by simpa using h
    rw[fS (by omega)]at eI;rw[eI];have z':∀ d∈g.ds,d.t.n<=1024:=λd ah=>by have:=fV.1 eI d ah;unfold pP at this;simp only[cw,hS]at this;exact this.1
    refine bc.mk [] [] _ (.refl _) (X3 bl.c ax aD z') ?_;rintro v I' M' -⟨rfl,rfl,rfl⟩;refine cT.mk (λab=>?_) (λab=>?_)
    ·refine bc.mk [] [] _ (.refl _) (ajI bl ax aD z') ?_;rintro v eE M' -⟨rfl,gx,rfl⟩;refine⟨_,_,.refl,?_,gx,rfl⟩;have m4:¬ 1024<mB g:=by simp at ab;omega
     simp[m4];omega
    ·refine⟨_,_,.refl,?_,λ_ _ h=>h,rfl⟩;have m4:1024<mB g:=by simp at ab;omega
     simp[m4]
def eP(name:ByteArray):List a0->Nat->Int
 |[],_=>-1| d::ds,i=>bif decide (d.name=name)then(i:Int)else eP name ds (i+1)
def ajM{g:cg}(ax:g.ok I)(name:ByteArray):Spec Tryz.prog 124 [g.val,.string name] I [] (λv I' M'=>v=.int .i64 (eP name g.ds 0)/\I'=I/\M'=[]):=by
 refine b0 [] a3 Tryz.func124 rfl rfl rfl ?_;intro B aw;have hL:=ax.n;have hy:=ax.ba.cap;refine dx.inv (ι:=Nat) (λi=>{ bp:=[(1,.val (.string name)),(8,.val (.slice g.a g.n g.c)),(9,.val (.int .i64 g.n)),(10,.val (.int .i64 i))],cP:=I }) (λi=>i<=g.n/\eP name g.ds 0=eP name (g.ds.drop i) i) (λi=>g.n-i) ?_ ?_
 ·exact⟨0,⟨by simp,rfl⟩,.refl,dY,.nil⟩
 ·rintro i⟨hi,aB⟩;refine a5.mk (λh=>?_) (λh=>?_)
  ·have a4:i<g.n:=by simpa using h
   have cJ:i<g.ds.length:=by omega
   obtain⟨aP,bI,bt⟩:=ax.ba.row a0.cH a4 cJ;have lY:g.ds.drop i=g.ds[i]::g.ds.drop (i+1):=fi cJ;refine bA.mk aP i bI rfl a4 ?_;refine aV.mk _ (bt _) ?_;refine a5.mk (λab=>?_) (λab=>?_);·refine⟨_,_,.refl,?_,rfl,rfl⟩;rw[aB,lY,eP,ab];rfl
   ·refine be.mk _ (dc (i:=i) (by omega)) ?_;refine⟨i+1,⟨⟨by omega,?_⟩,by omega⟩,.refl,dY,.nil⟩;rw[aB,lY,eP,ab];rfl
  ·have c8:g.n<=i:=by simpa using h
   refine⟨_,_,.refl,?_,rfl,rfl⟩;rw[aB,mr (by omega)];rfl
def drop_cons{L:List α}{x:α}{bo:List α}(h:L.drop k=x::bo):∃ ae:k<L.length,L[k]=x/\L.drop (k+1)=bo:=by
 have ae:k<L.length:=by apply Nat.lt_of_not_le;intro bk;rw[mr bk]at h;cases h
 have ah:=fi ae;rw[h]at ah;obtain⟨aa,ab⟩:=List.cons.inj ah;exact⟨ae,aa.symm,ab.symm⟩
def tS:Nat->List a0->List (List Value)
 |_,[]=>[]| i,d::ds=>d.t.ns.map (λn=>[.int .i64 i,n.val])++tS (i+1) ds
def ajN(g:cg):Spec Tryz.prog 120 [g.val] I [] λr I' M'=>∃ b,r=.func (.func 183) #[] #[ptr b]/\I' b=some (.cells #[.slice g.a g.n g.c] 30 (0,0))/\(∀ b o,I b=some o->I' b=some o)/\M'=[]:=by refine b0 [1] a3 Tryz.func120 rfl rfl rfl ?_;intro B aw;refine bZ.mk λg ax Ec=>?_;exact⟨_,_,.n1 rfl (by simp) .refl,g,rfl,pS ..,mz ax,rfl⟩
def ajO{g:cg}(ax:g.ok I)(ag:I b=some (.cells #[.slice g.a g.n g.c] 30 (0,0))) :
  Iter Tryz.prog 183 [ptr b] I (tS 0 g.ds):=by
 intro l R lr rO dS M0 oV iM;refine BF [] a3 Tryz.func183 rfl rfl rfl ?_;intro B aw;have hL:=ax.n;have hy:=ax.ba.cap;have bt:∀ (M:List aF),cY dS M ((⟨b,0,none⟩:Addr).add 0) 1 [.slice g.a g.n g.c]:=λM=>⟨rfl,_,_,_,.inl (oV _ _ ag),rfl,rfl⟩;refine aV.mk _ (bt _) ?_;refine dx.inv (ι:=Nat×Nat×aJ×List aF) (λx=>{ bp:=[(0,.val (.func (.yield l) #[] #[])),(8,.val (.slice g.a g.n g.c)),(9,.val (.int .i64 g.n)),(10,.val (.int .i64 x.1))],cP:=x.2.2.1,da:=x.2.2.2 }) (λx=>x.1<=g.n/\(∀ b o,I b=some o->x.2.2.1 b=some o)/\R x.2.1 x.2.2.1 x.2.2.2/\x.2.1<=(tS 0 g.ds).length/\(tS 0 g.ds).drop x.2.1=tS x.1 (g.ds.drop x.1)) (λx=>g.n-x.1) ?_ ?_
 ·exact⟨(0,0,dS,M0),⟨by simp,oV,iM,by simp,rfl⟩,.refl,dY,.nil⟩
 ·rintro⟨i,k,I1,M1⟩⟨hi,db,h',cW,iR⟩;simp only at hi db h' cW iR;refine a5.mk (λh=>?_) (λh=>?_)
  ·have a4:i<g.n:=by simpa using h
   have cJ:i<g.ds.length:=by omega
   have rP:=ax.mono db;obtain⟨aP,bI,P8⟩:=rP.ba.row a0.cH a4 cJ;have hb:g.ds[i]∈g.ds:=bJ cJ;have ho:=(ax.ds _ hb).t.n;have aw2:=(ax.ds _ hb).t.ba.cap;have lY:g.ds.drop i=g.ds[i]::g.ds.drop (i+1):=fi cJ;refine bA.mk aP i bI rfl a4 ?_;refine aV.mk _ (P8 _) ?_;refine dx.inv (ι:=Nat×Nat×aJ×List aF) (λx=>{ bp:=[(0,.val (.func (.yield l) #[] #[])),(3,.val (.int .i64 i)),(8,.val (.slice g.a g.n g.c)),(9,.val (.int .i64 g.n)),(10,.val (.int .i64 i)),(17,.val (.slice g.ds[i].t.a g.ds[i].t.n g.ds[i].t.c)),(18,.val (.int .i64 g.ds[i].t.n)),(19,.val (.int .i64 x.1))],cP:=x.2.2.1,da:=x.2.2.2 }) (λx=>x.1<=g.ds[i].t.n/\(∀ b o,I b=some o->x.2.2.1 b=some o)/\R x.2.1 x.2.2.1 x.2.2.2/\x.2.1<=(tS 0 g.ds).length/\(tS 0 g.ds).drop x.2.1=(g.ds[i].t.ns.drop x.1).map (λn=>[.int .i64 i,n.val])++tS (i+1) (g.ds.drop (i+1))) (λx=>g.ds[i].t.n-x.1) ?_ ?_;·refine⟨(0,k,I1,M1),⟨by simp,db,h',cW,?_⟩,.refl,kL,.nil⟩;simp only;rw[iR,lY];rfl
   ·rintro⟨j,k,I1,M1⟩⟨ak,db,h',cW,iR⟩;simp only at ak db h' cW iR;refine a5.mk (λh=>?_) (λh=>?_)
    ·have gn:j<g.ds[i].t.n:=by simpa using h
     have oS:j<g.ds[i].t.ns.length:=by omega
     have rP:=ax.mono db;obtain⟨lz,nN,jw⟩:=(rP.ds _ hb).t.ba.row al.cH gn oS;have bV:g.ds[i].t.ns.drop j=g.ds[i].t.ns[j]::g.ds[i].t.ns.drop (j+1):=fi oS;rw[bV,ca,pN]at iR;obtain⟨ae,aj,sT⟩:=drop_cons iR;refine bA.mk lz j nN rfl gn ?_;refine aV.mk _ (jw _) ?_;refine bF.yield rfl (by simp) rfl rfl ?_;have aE:=rO k ae I1 M1 db h';rw[aj]at aE;refine BQ.mk M1 [] _ (by simp) aE ?_;rintro v eE dy gx (⟨rfl,m3⟩ | ⟨rfl,ad⟩);·refine a5.mk (λh=>by simp at h) (λ_=>?_);refine be.mk _ (dc (i:=j) (by omega)) ?_;exact⟨(j+1,k+1,eE,dy),⟨⟨by simp only;omega,λb o h=>gx b o (db b o h),m3,ae,sT⟩,by simp only;omega⟩,.perm (by simp) .refl,kL,.nil⟩
     ·refine a5.mk (λ_=>?_) (λh=>by simp at h);exact⟨_,_,.perm (by simp) .refl,.inr ad⟩
    ·have c8:g.ds[i].t.n<=j:=by simpa using h
     rw[mr (show g.ds[i].t.ns.length<=j by omega),hH,hX]at iR;refine be.mk _ (dc (i:=i) (by omega)) ?_;exact⟨(i+1,k,I1,M1),⟨⟨by simp only;omega,db,h',cW,iR⟩,by simp only;omega⟩,.refl,dY,.nil⟩
  ·have c8:g.n<=i:=by simpa using h
   refine⟨_,_,.refl,.inl ?_⟩;rw[mr (show g.ds.length<=i by omega)]at iR;have va:k=(tS 0 g.ds).length:=by have:=Hg.1 iR;omega
   rw[<-va];exact h'
section
variable{X:c1}{β:Nat->Nat}{a:Act}{w:World}{F:Fr}{C:dO}{I:aJ}{M:List aF}{o:Oper}{K:gr}
def cL.swap{n:Nat}{nD Lp:Obj}{w':World}(h:cL X β a w F C I (⟨n,nD⟩::M))(av:w'.heap.size=w.heap.size)(aD:w'.heap[n]?=some Lp)(ag:∀ b,b≠n->w'.heap[b]?=w.heap[b]?)(aC:oB w w'):cL X β a w' F C I (⟨n,Lp⟩::M):=by
 have aa:=h.WR av ag aC;have fQ:(⟨n,nD⟩:aF)∈(⟨n,nD⟩:aF)::M:=by simp
 have bV:=h.holds.bX;simp only[ca,mg]at bV;have mem:∀ x,x∈(⟨n,Lp⟩:aF)::M->x=⟨n,Lp⟩\/x∈M:=λx ad=>eA.1 ad;exact {
  size:=aa.size
  defers:=by
   obtain⟨ba,aK,a7,ck⟩:=aa.defers;obtain⟨ajP,f1,f2,f3⟩:=h.defers;refine⟨ba,aK,a7,λr af=>{ ck r af with e6:=λx ad=>?_ }⟩;rcases mem x ad with rfl | ad
   ·have dM:ba=ajP:=by
     have:=aK.symm.trans f1;have Cf:∀ l dC:List Nat,l.map xR=dC.map xR->l=dC:=by
      intro l
      induction l with
      |nil=>intro dC h;cases dC with
       |nil=>rfl| cons=>simp at h
      |cons y l aN=>intro dC h;cases dC with
       |nil=>simp at h
       |cons z dC=>
        simp only[ca,zV,xR,Deferred.mk.injEq]at h;have aE:y=z:=by simpa using h.1
        rw[aE,aN dC h.2]
     exact Cf _ _ this
    subst dM;exact(f3 r af).e6 ⟨n,nD⟩ fQ
   ·exact(ck r af).e6 x ad
  holds:={
   i:=aa.holds.i
   m:=λx ad=>by
    rcases mem x ad with rfl | ad;·exact aD
    ·exact aa.holds.m x ad
   d:=λx ad=>by
    rcases mem x ad with rfl | ad;·exact h.holds.d ⟨n,nD⟩ fQ
    ·exact aa.holds.d x ad
   bX:=by simpa using bV }
  an:=h.an
  cr:=λs cs lS=>by
   have uS:=h.cr s cs lS;refine { aa.cr s cs lS with e6:=λx ad=>?_ };rcases mem x ad with rfl | ad;·exact uS.e6 ⟨n,nD⟩ fQ
   ·exact(aa.cr s cs lS).e6 x ad
  inj:=h.inj
  ij:=h.ij
  hU:=h.hU
  own:=λx ad=>by
   rcases mem x ad with rfl | ad;·exact h.own ⟨n,nD⟩ fQ
   ·exact aa.own x ad
  dK:=aa.dK
  out:=aa.out
  sz:=aa.sz
  fy:=aa.fy }
def oZ(l:List (ByteArray×Int)):Nat->List MapEntry
 |i=>match l with
  |[]=>[]| p::l=>{ key:=.string p.1,val:=.int .i64 p.2,born:=i }::oZ l (i+1)
def jB(l:List (ByteArray×Int)):Obj:=.map (oZ l 0).toArray l.length
def eQ(s:ByteArray):List (ByteArray×Int)->Option Int
 |[]=>none| p::l=>bif decide (s=p.1)then some p.2 else eQ s l
def ajQ(l:List (ByteArray×Int))(p:ByteArray×Int):∀ i,oZ (l++[p]) i=oZ l i++[{ key:=.string p.1,val:=.int .i64 p.2,born:=i+l.length }]:=by
 induction l with
 |nil=>intro i;simp[oZ]| cons q l aN=>intro i;simp only[pN,oZ,aN,eo,zV,true_and,List.append_cancel_left_eq,MapEntry.mk.injEq,and_true];omega
def bytes_beq(a b:ByteArray):(a == b)=decide (a=b):=by
 rw[tj];simp only[hS];constructor
 ·intro h
  first | exact eq_of_beq h | exact we (eq_of_beq (a:=a.data) (b:=b.data) h)
 ·rintro rfl
  first | exact GV _ | exact GV a.data
def Lq(s:ByteArray):∀ (l:List (ByteArray×Int)) (i j:Nat),∃ r,Instr.findNow .string (.string s) (oZ l i) j=some r/\r.map (·.2)=(eQ s l).map (Value.int .i64)
 |[],i,j=>⟨none,rfl,rfl⟩
 |p::l,i,j=>by
  obtain⟨r,aa,ab⟩:=Lq s l (i+1) (j+1);unfold oZ Instr.findNow;simp only[Instr.sameNow,bytes_beq];cases ag:decide (s=p.1)with
  |true=>exact⟨_,rfl,by simp[eQ,ag]⟩| false=>exact⟨r,aa,by simp only[eQ,ag,cb];exact ab⟩
def bF.makeMap(aO:cX X.P X.E){t:Nat}{r:Operand}(aC:o.op=.makeMap t (some r))(ah:∀ d,o.dst=some d->d<X.n)(au:X.E t=some c6)(dz:c6.bQ=.map k e)
  {q:IntKind} {n:Int} (af:bH F r=.val (.int q n)) (h:∀ b,K (put o.dst (.val (.map (some b))) F) C I (⟨b,jB []⟩::M)):bF X o F C I M K:=by
 refine⟨λa w Q ⟨β,aX⟩=>?_⟩;obtain⟨d,fM,fk⟩:=(aO _ _ au).ft;have aa:d=.map k e:=by rw[dz]at fk;cases d<;>simp_all[fs]
 subst aa;have P9:=dh aX.an af;refine iJ (by rw[aC];simp) (v:=.map (some w.heap.size)) (w':=w.alloc (.map #[] 0)) ?_ ⟨_,_,_,_,⟨β,cL.put (x:=.val (.map (some w.heap.size))) (aX.n2 (jB [])) ah rfl⟩,h _⟩;unfold execOp;simp only[aC,lb,P9];simp[Instr.makeMap,run_underlying fM,asInt,oE]
def bF.lookup(aO:cX X.P X.E){t:Nat}(aC:o.op=.lookup t x y true)(ah:∀ d,o.dst=some d->d<X.n)(au:X.E t=some c6)(dz:c6.bQ=.map k e)(ae:X.E k=some tJ)(eL:tJ.bQ=.string)(bd:∀ w,(zeroValue e).run X.P w=.ok (.int .i64 0) w)(ad:bH F x=.val (.map (some g)))(aE:bH F y=.val (.string s))(bb:(⟨g,jB l⟩:aF)∈M)
  (h:K (put o.dst (.val (.tuple #[.int .i64 ((eQ s l).getD 0),.bool (eQ s l).isSome])) F) C I M):bF X o F C I M K:=by
 refine⟨λa w Q ⟨β,aX⟩=>?_⟩;obtain⟨d,fM,fk⟩:=(aO _ _ au).ft;have aa:d=.map k e:=by rw[dz]at fk;cases d<;>simp_all[fs]
 subst aa;obtain⟨dN,sU,gu⟩:=(aO _ _ ae).ft;have ab:dN=.string:=by rw[eL]at gu;cases dN<;>simp_all[fs]
 subst ab;have ax:w.heap[g]?=some (.map (oZ l 0).toArray l.length):=aX.holds.m _ bb;have ex:=dh aX.an ad;have oP:=dh aX.an aE;obtain⟨r,wm,mC⟩:=Lq s l 0 0;have ao:(Instr.checkKey (oZ l 0).toArray.isEmpty 10000 k (.string s)).run X.P w=.ok () w:=D8 (k:=.string s) sU (by simp[MapKept.IsKey]) _ 9999;have vl:(Instr.findKey k (.string s) (oZ l 0)).run X.P w=.ok r w:=D' sU wm;have e':(Instr.lookup t (.map (some g)) (.string s) true).run X.P w=.ok (.tuple #[.int .i64 ((eQ s l).getD 0),.bool (eQ s l).isSome]) w:=by
  unfold Instr.lookup;simp only[cu,run_underlying fM,bY,D7 ax,c7,ao,vl];cases r with
  |none=>
   cases aA:eQ s l with
   |none=>simp[bd]| some v=>rw[aA]at mC;simp at mC
  |some p=>
   cases aA:eQ s l with
   |none=>rw[aA]at mC;simp at mC| some v=>rw[aA]at mC;simp only[lb,kJ]at mC;simp[mC]
 refine wk aX ah (by rw[aC];simp) ?_ h;unfold execOp;simp only[aC,ex,oP,cu,e',bY,c7]
def bF.X4(aO:cX X.P X.E){t:Nat}{z:Operand}(aC:o.op=.mapUpdate t x y z)(ah:o.dst=none)(au:X.E t=some c6)(dz:c6.bQ=.map k e)(ae:X.E k=some tJ)(eL:tJ.bQ=.string)
 {v:Int} (ad:bH F x=.val (.map (some g))) (aE:bH F y=.val (.string s)) (BC:bH F z=.val (.int .i64 v)) (aA:eQ s l=none)
  {Mr:List aF} (bb:M.Perm (⟨g,jB l⟩::Mr)) (h:K F C I (⟨g,jB (l++[(s,v)])⟩::Mr)):bF X o F C I M K:=by
 refine⟨λa w Q ⟨β,iM⟩=>?_⟩;have aX:cL X β a w F C I (⟨g,jB l⟩::Mr):=iM.h7 (.perm bb .refl);obtain⟨d,fM,fk⟩:=(aO _ _ au).ft;have aa:d=.map k e:=by rw[dz]at fk;cases d<;>simp_all[fs]
 subst aa;obtain⟨dN,sU,gu⟩:=(aO _ _ ae).ft;have ab:dN=.string:=by rw[eL]at gu;cases dN<;>simp_all[fs]
 subst ab;have ax:w.heap[g]?=some (.map (oZ l 0).toArray l.length):=aX.holds.m ⟨g,jB l⟩ (by simp);have ex:=dh aX.an ad;have oP:=dh aX.an aE;have P':=dh aX.an BC;obtain⟨r,wm,mC⟩:=Lq s l 0 0;have af:r=none:=by
  rw[aA]at mC;cases r with
  |none=>rfl| some _=>simp at mC
 subst af;have ao:(Instr.checkKey false 10000 k (.string s)).run X.P w=.ok () w:=D8 (k:=.string s) sU (by simp[MapKept.IsKey]) _ 9999;have vl:(Instr.findKey k (.string s) (oZ l 0)).run X.P w=.ok none w:=D' sU wm;have eV:jB (l++[(s,v)])=.map ((oZ l 0).toArray.push { key:=.string s,val:=.int .i64 v,born:=l.length }) (l.length+1):=by unfold jB;rw[ajQ];simp
 have e':(Instr.mapUpdate t (.map (some g)) (.string s) (.int .i64 v)).run X.P w=.ok () { w with heap:=w.heap.setIfInBounds g (jB (l++[(s,v)])) }:=by unfold Instr.mapUpdate;simp only[cu,run_underlying fM,bY,D7 ax,ao,vl,PC _ ax,eV]
 have g1:=MapKept.heap_set (o':=jB (l++[(s,v)])) ax;refine DI (by rw[aC];simp) (w':={ w with heap:=w.heap.setIfInBounds g (jB (l++[(s,v)])) }) ?_ ⟨F,C,I,_,⟨β,?_⟩,h⟩
 ·unfold execOp;simp only[aC,ex,oP,P',cu,e',bY,c7]
 ·rw[ah];exact aX.swap (by simp) g1.1 g1.2 ⟨rfl,rfl⟩
end
end Go.V
