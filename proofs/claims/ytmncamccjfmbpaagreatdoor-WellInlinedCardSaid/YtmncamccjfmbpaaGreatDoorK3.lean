/- Part 3 of what the proofs of this seat share: the executor, data in memory, walks.
-/
import Derived.Test.YtmncamccjfmbpaaGreatDoorK2
import Derived.Lib.Builder
import Derived.Lib.Bytealg
import Derived.Laws.Pointers
import Derived.Laws.StructEq
import Derived.WideMake
set_option linter.all false
set_option maxHeartbeats 8000000
set_option maxRecDepth 100000
namespace Go.V
open Go Go.Proofs
def eN:=@Int.eq_ofNat_of_zero_le
def ep:=@List.perm_append_comm
def fT:=@List.take_of_length_le
def fy:=@List.map_congr_left
def fi:=@List.append_assoc
def eU:=@decide_eq_false
def gK:=@List.flatMap_append
def jW:=@List.getElem?_append_right
def dO:=@Nat.zero_le
def gL:=@List.length_nil
def hN:=@List.getElem_map
def kl:=@List.getElem?_set
def h6:=@decide_eq_true
def jb:=@List.sum_cons
def qM:=@List.take_append_drop
def qN:=@Bool.or_eq_false_iff
def tc:=@Int.toNat_of_nonneg
def qO:=@List.cons_append
def pV:=@List.take_left'
def vS:=@List.reverse_singleton
def n3:=@Bool.true_and
def rR:=@List.sum_append
def x5:=@List.eq_nil_or_concat
def x6:=@Int.ofNat_eq_natCast
def zP:=@MapKept.run_getObj_map
def vT:=@List.ext_getElem?
def x7:=@List.filter_sublist
def zQ:=@List.length_replicate
def zR:=@List.mem_of_mem_take
def zS:=@MapKept.run_checkKey
def zT:=@List.length_take_le
def vU:=@List.cons.injEq
def zU:=@MapKept.run_findKey
def Fx:=@Int.fdiv_eq_ediv_of_nonneg
def Fy:=@ByteArray.size_append
def Cl:=@List.all_append
def Jt:=@MapKept.run_setObj_map
def Fz:=@List.all_eq_false
def zV:=@List.sum_nil
def FA:=@BitVec.toNat_and
def Ju:=@List.drop_eq_nil_iff
def FB:=@List.drop_left'
def Cm:=@List.set_set
def Jv:=@Bool.false_and
variable{I:aM}{b j g c bj e T k i:Nat}{s:ByteArray}{v rL p:Value}{t:bw}{P:Program}{w:Bool}{sa:Option Addr}{x y:Operand}{c8 qP:dt}{cs:List Value}{aF:List Int}{os:aU}{α:Type}{F:Fr}{C:dp}{l:List (ByteArray×Int)}
def du(b:Nat)(s:List Int):aE:=⟨b,.cells (s.map (Value.int .i64)).toArray 3 (0,0)⟩
def Cn{M:List aE}{s:List Int}(a3:du b s∈M)(ai:j<s.length):c7 I M ((⟨b,0,none⟩:Addr).add (j*1)) 1 [.int .i64 s[j]]:=by
 rw[dY _ rfl];refine⟨rfl,_,3,(0,0),.inr ⟨_,a3,rfl,rfl⟩,?_,rfl⟩;have aa:j<(s.map (Value.int .i64)).length:=by simpa using ai
 simp only[c9,gV];rw[e6 aa,oN,nS];simp
def Co{M:List aE}{s:List Int}{v:Int}(ai:j<s.length)(ag:s[j]=v)(a3:du b s∈M):c7 I M ((⟨b,0,none⟩:Addr).add (j*1)) 1 [.int .i64 v]:=ag ▸ Cn a3 ai
def o4(s:List Int)(j:Nat)(ai:j<s.length)(b:Int):bQ (s.map (Value.int .i64)) j [.int .i64 b]=(s.set j b).map (Value.int .i64):=by unfold bQ;rw[ug,BT];simp[ai]
def ZL(au:oZ I)(aw:t.ok I):Spec Tryz.prog 36 [t.val] I [] (λv I' M'=>v=.int .i64 (bif right t then(t.n:Int)else 0)/\I'=I/\M'=[]):=by
 refine cp [] a4 Tryz.func36 rfl rfl rfl ?_;intro B ay;refine bd.mk [] [] _ (.refl _) (rQ au aw) ?_;rintro v I' M' -⟨rfl,rfl,rfl⟩;refine a9.mk (λh=>?_) (λh=>?_)
 ·refine⟨_,_,.refl,?_,rfl,rfl⟩;rw[show right t=false by simpa using h];rfl
 ·refine⟨_,_,.refl,?_,rfl,rfl⟩;rw[show right t=true by simpa using h];rfl
def Qn{i:Nat}:∀ {ks:List Int} {s bP:List Bool},jt i ks s=some bP->∀ k∈ks,0<=k/\k<i
 |[],s,bP,_,k,ae=>by cases ae
 |x::ks,s,bP,h,k,ae=>by
  unfold jt at h;cases ah:(decide (x<0)||(decide ((i:Int)<=x)||s.getD x.toNat false))with
  |true=>rw[ah]at h;cases h
  |false=>
   rw[ah]at h;simp only[qN,pM]at ah;rcases dW.1 ae with rfl | ae;·omega
   ·exact Qn h k ae
def Qo:∀ {i:Nat} {ds:List an} {s bP:List Bool},h5 i ds s=some bP->∀ j (h:j<ds.length),∀ k∈ds[j].ap,0<=k/\k<(i+j:Nat)
 |i,[],s,bP,_,j,ai,_,_=>by cases ai
 |i,d::ds,s,bP,h,j,ai,k,ae=>by
  unfold h5 at h;cases az:fits d d.ap.length with
  |false=>rw[az]at h;cases h
  |true=>
   rw[az]at h;simp only[bZ]at h;cases aC:jt i d.ap s with
   |none=>rw[aC]at h;cases h
   |some s1=>
    rw[aC]at h;cases j with
    |zero=>exact Qn aC k (by simpa using ae)| succ j=>have:=Qo h j (by simpa using ai) k (by simpa using ae);omega
def jX(h:right t=true):∀ j (ai:j<t.ns.length),∀ k∈t.ns[j].ap,0<=k/\k<j:=by
 unfold right at h;simp only[b']at h;obtain⟨_,_,h⟩:=h;split at h
 ·rename_i s ar;intro j ai k ae;have:=Qo ar j ai k ae;omega
 ·cases h
def kG(h:right t=true):0<=t.bm/\t.bm<t.ns.length:=by unfold right at h;simp only[b',hk]at h;exact⟨h.1,h.2.1⟩
def Cp(fU:List Int):List Int->Int->Int
 |[],m=>m| k::ks,m=>Cp fU ks (max m (fU.getD k.toNat 0))
def td:Nat->List an->List Int->List Int
 |_,[],fU=>fU| i,d::ds,fU=>td (i+1) ds (fU.set i (Cp fU d.ap 0+1))
def depth(t:bw):Int:=bif right t then(td 0 t.ns (List.replicate t.ns.length 0)).getD t.bm.toNat 0 else 0
def ZM(au:oZ I)(aw:t.ok I):Spec Tryz.prog 48 [t.val] I [] (λv I' M'=>v=.int .i64 (depth t)/\I'=I/\M'=[]):=by
 refine cp [] a4 Tryz.func48 rfl rfl rfl ?_;intro B ay;have aJ:=aw.n;have iN:=aw.bb.cap;refine bd.mk [] [] _ (.refl _) (rQ au aw) ?_;rintro v I' M' -⟨rfl,rfl,rfl⟩;refine a9.mk (λh=>?_) (λh=>?_)
 ·refine⟨_,_,.refl,?_,rfl,rfl⟩;simp[depth,show right t=false by simpa using h]
 ·have af:right t=true:=by simpa using h
  have zW:=jX af;obtain⟨a1,ba⟩:=kG af;refine oB.mk t.n t.n rfl rfl (cI _) (by show 8*t.n<=_;omega) (by omega) ?_;refine cJ.mk λb ah uu=>?_;refine dI.inv (ι:=Nat×List Int) (λx=>{ bn:=[(1,.ref 1 0),(3,.val (.slice (some ⟨b,0,none⟩) t.n t.n)),(16,.val (.slice t.a t.n t.c)),(17,.val (.int .i64 t.n)),(18,.val (.int .i64 x.1))],cl:=[(1,t.cells)],c2:=I',dx:=[du b x.2] }) (λx=>x.1<=t.n/\x.2.length=t.n/\(∀ j,0<=x.2.getD j 0/\x.2.getD j 0<=x.1)/\(∀ j,x.1<=j->x.2.getD j 0=0)/\td 0 t.ns (List.replicate t.ns.length 0)=td x.1 (t.ns.drop x.1) x.2) (λx=>t.n-x.1) ?_ ?_
  ·have z:∀ j,(List.replicate t.n (0:Int)).getD j 0=0:=λj=>by
    by_cases ai:j<t.n<;>simp[cv,ai]
   refine⟨(0,List.replicate t.n 0),⟨by omega,by simp,λj=>by rw[z];simp,λj _=>z j,by simp[aJ]⟩,?_,iJ,.cons rfl .nil⟩;show hY _ _ [⟨b,.cells (rowOf [Value.int .i64 0] (t.n*1)).toArray 3 (0,0)⟩] _ [du b (List.replicate t.n 0)];rw[Ck,gV];simp only[du,BX];exact .refl
  ·rintro⟨i,fU⟩⟨fq,h0,ik,kC,xL⟩;simp only at fq h0 ik kC xL;refine a9.mk (λh=>?_) (λh=>?_)
   ·have aW:i<t.n:=by simpa using h
    have cy:i<t.ns.length:=by omega
    obtain⟨aV,bU,bB⟩:=aw.bb.row an.da aW cy;have fS:=aw.ns t.ns[i] (b9 cy);have e':=fS.aT;have kj:t.ns.drop i=t.ns[i]::t.ns.drop (i+1):=e6 cy;refine bu.mk aV i bU rfl aW ?_;refine aZ.mk t.ns[i].cells (bB _) ?_;refine dI.inv (ι:=Nat×Int) (λx=>{ bn:=[(1,.ref 1 0),(3,.val (.slice (some ⟨b,0,none⟩) t.n t.n)),(4,.val (.int .i64 i)),(16,.val (.slice t.a t.n t.c)),(17,.val (.int .i64 t.n)),(18,.val (.int .i64 i)),(24,.val (.slice t.ns[i].cW t.ns[i].aT t.ns[i].c5)),(25,.val (.int .i64 t.ns[i].aT)),(26,.val (.int .i64 x.1))],cl:=[(1,t.cells)],c2:=I',dx:=[du b (fU.set i x.2)] }) (λx=>x.1<=t.ns[i].aT/\0<=x.2/\x.2<=i/\Cp fU t.ns[i].ap 0=Cp fU (t.ns[i].ap.drop x.1) x.2) (λx=>t.ns[i].aT-x.1) ?_ ?_
    ·refine⟨(0,0),⟨by omega,by omega,by simp,rfl⟩,?_,nP,.cons rfl .nil⟩;have e:fU.set i 0=fU:=by
      have aa:=kC i (cI _);rw[cv]at aa;apply vT;intro j;rw[kl];split
      ·rename_i e;subst e;have:i<fU.length:=by omega
       simp[this]at aa |-;exact aa.symm
      ·rfl
     simp only;rw[e];exact .refl
    ·rintro⟨j,m⟩⟨Fw,vR,zO,Jw⟩;simp only at Fw vR zO Jw;refine a9.mk (λh=>?_) (λh=>?_)
     ·have fx:j<t.ns[i].aT:=by simpa using h
      have mM:j<t.ns[i].ap.length:=by omega
      obtain⟨gp,fe,e1⟩:=fS.bb.one fx mM;have ir:t.ns[i].ap.drop j=t.ns[i].ap[j]::t.ns[i].ap.drop (j+1):=e6 mM;have ae:=zW i cy t.ns[i].ap[j] (b9 mM);have jV:t.ns[i].ap[j]=((t.ns[i].ap[j].toNat:Nat):Int):=by omega
      have c0:t.ns[i].ap[j].toNat<t.n:=by omega
      refine bu.mk gp j fe rfl fx ?_;refine aZ.mk [.int .i64 t.ns[i].ap[j]] (e1 _) ?_;refine dh.draw a4 rfl rfl rfl ?_;have ev:i<(fU.set i m).length:=by simp;omega
      have uv:t.ns[i].ap[j].toNat<(fU.set i m).length:=by simp;omega
      have Jx:(fU.set i m)[i]=m:=by simp
      have ei:(fU.set i m)[t.ns[i].ap[j].toNat]=fU.getD t.ns[i].ap[j].toNat 0:=by
       have bs:i≠t.ns[i].ap[j].toNat:=by omega
       have fj:t.ns[i].ap[j].toNat<fU.length:=by omega
       rw[List.getElem_set,ca bs];simp[cv,fj]
      refine bu.mk ⟨b,0,none⟩ i rfl rfl aW ?_;refine aZ.mk [.int .i64 m] (Co ev Jx (by simp)) ?_;refine bu.mk ⟨b,0,none⟩ t.ns[i].ap[j].toNat rfl jV c0 ?_;refine aZ.mk [.int .i64 (fU.getD t.ns[i].ap[j].toNat 0)] (Co uv ei (by simp)) ?_;refine bu.mk ⟨b,0,none⟩ i rfl rfl aW ?_;refine cn.add [] [] _ 3 rfl ?_ rfl ?_;·simp only[rE,bO];show 0+i*1+1<=_;simp;omega
      have fG:IntKind.i64.wrap ((j:Int)+1)=((j+1:Nat):Int):=by rw[wrap_i64 ⟨by omega,by have:=fS.bb.cap;omega⟩];omega
      refine bi.mk _ fG ?_;have ali:=ik t.ns[i].ap[j].toNat;refine⟨(j+1,max m (fU.getD t.ns[i].ap[j].toNat 0)),⟨⟨by omega,by simp only;omega,by simp only;omega,?_⟩,by show _<_;simp only;omega⟩,?_,nP,.cons rfl .nil⟩;·simp only;rw[Jw,ir];rfl
      ·have e:=o4 (fU.set i m) i ev (max m (fU.getD t.ns[i].ap[j].toNat 0));simp only[du];rw[Cm]at e;rw[<-e];simp only[c9,gV];exact .refl
     ·have fx:¬ j<t.ns[i].aT:=by simpa using h
      have x4:t.ns[i].ap.drop j=[]:=ls (by omega);have hm:Cp fU t.ns[i].ap 0=m:=by rw[Jw,x4];rfl
      have ev:i<(fU.set i m).length:=by simp;omega
      have Jx:(fU.set i m)[i]=m:=by simp
      have ZN:IntKind.i64.wrap (m+1)=m+1:=wrap_i64 ⟨by omega,by omega⟩;have fG:IntKind.i64.wrap ((i:Int)+1)=((i+1:Nat):Int):=by rw[wrap_i64 ⟨by omega,by omega⟩];omega
      refine bu.mk ⟨b,0,none⟩ i rfl rfl aW ?_;refine aZ.mk [.int .i64 m] (Co ev Jx (by simp)) ?_;refine bi.mk _ ZN ?_;refine bu.mk ⟨b,0,none⟩ i rfl rfl aW ?_;refine cn.add [] [] _ 3 rfl ?_ rfl ?_;·simp only[rE,bO];show 0+i*1+1<=_;omega
      refine bi.mk _ fG ?_;refine⟨(i+1,fU.set i (m+1)),⟨⟨by omega,by simp[h0],?_,?_,?_⟩,by show _<_;simp only;omega⟩,?_,iJ,.cons rfl .nil⟩
      ·intro q;have ZO:=ik q;simp only[cv,kl]at ZO |-;split
       ·rename_i e;subst e;have:i<fU.length:=by omega
        simp[this];omega
       ·omega
      ·intro q aK;have Qp:=kC q (by omega);simp only at aK;simp only[cv,kl]at Qp |-;rw[ca (by omega)];exact Qp
      ·simp only;rw[xL,kj];simp only[td,hm]
      ·have e:=o4 (fU.set i m) i ev (m+1);simp only[du];rw[Cm]at e;rw[<-e];simp only[c9,gV];exact .refl
   ·have cV:¬ i<t.n:=by simpa using h
    have g':t.ns.drop i=[]:=ls (by omega);have dN:td 0 t.ns (List.replicate t.ns.length 0)=fU:=by rw[xL,g'];rfl
    have te:t.bm=((t.bm.toNat:Nat):Int):=by omega
    have eh:t.bm.toNat<fU.length:=by omega
    refine bu.mk ⟨b,0,none⟩ t.bm.toNat rfl te (by omega) ?_;refine aZ.mk [.int .i64 fU[t.bm.toNat]] (Co eh rfl (by simp)) ?_;refine⟨_,_,.sub (gn _) .refl,?_,rfl,rfl⟩;have:depth t=fU[t.bm.toNat]:=by unfold depth;rw[af,dN];simp[cv,eh]
    rw[this];rfl
def nk(t:bw):Bool:=decide (t.n<=1024)&&(right t&&decide (depth t<=32))
def ZP(au:oZ I)(aw:t.ok I):Spec Tryz.prog 119 [t.val] I [] (λv I' M'=>v=.bool (nk t)/\I'=I/\M'=[]):=by
 refine cp [] a4 Tryz.func119 rfl rfl rfl ?_;intro B ay;refine cP.mk (λaa=>?_) (λaa=>?_)
 ·refine bd.mk [] [] _ (.refl _) (rQ au aw) ?_;rintro v I' M' -⟨rfl,rfl,rfl⟩;refine cP.mk (λad=>?_) (λad=>?_)
  ·refine bd.mk [] [] _ (.refl _) (ZM au aw) ?_;rintro v I' M' -⟨rfl,rfl,rfl⟩;refine⟨_,_,.refl,?_,rfl,rfl⟩;have tf:t.n<=1024:=by simp at aa;omega
   simp[nk,tf,ad]
  ·refine⟨_,_,.refl,?_,rfl,rfl⟩;have mL:right t=false:=ad;simp[nk,mL]
 ·refine⟨_,_,.refl,?_,rfl,rfl⟩;have tf:¬ t.n<=1024:=by simp at aa;omega
  simp[nk,tf]
def fb{α:Type}(z:α)(f:an->(Int->α)->α):List an->List α->List α
 |[],aP=>aP| d::ds,aP=>fb z f ds (aP++[f d λk=>aP.getD k.toNat z])
section
variable{α:Type}{z:α}{f:an->(Int->α)->α}
def Jy:∀ (ds:List an) (aP:List α),(fb z f ds aP).length=aP.length+ds.length
 |[],aP=>by simp[fb]
 |d::ds,aP=>by rw[fb,Jy ds];simp;omega
def Jz:∀ (ds:List an) (aP:List α) (j:Nat),j<aP.length->(fb z f ds aP)[j]?=aP[j]?
 |[],aP,j,_=>rfl| d::ds,aP,j,h=>by rw[fb,Jz ds _ j (by simp;omega),oL h]
def JA:∀ (ds:List an) (aP:List α) (j:Nat) (h:j<ds.length),(fb z f ds aP)[aP.length+j]?=some (f ds[j] λk=>((fb z f ds aP).take (aP.length+j)).getD k.toNat z)
 |d::ds,aP,0,_=>by
  rw[fb,ms,Jz ds _ aP.length (by simp)];simp only[List.getElem?_concat_length,oM,jl];congr 1;funext k;have:(fb z f ds (aP++[f d λk=>aP.getD k.toNat z])).take aP.length=aP:=by
   apply vT;intro i;rw[j'];split;·rename_i hi;rw[Jz ds _ i (by simp;omega),oL hi]
   ·rw[pN (by omega)]
  rw[this]
 |d::ds,aP,j+1,h=>by have:=JA ds (aP++[f d λk=>aP.getD k.toNat z]) j (by simpa using h);rw[fb];simp only[cL,ea,gL,c9,Fa]at this |-;rw[show aP.length+(j+1)=aP.length+1+j from by omega];exact this
def gM(z:α)(f:an->(Int->α)->α)(ns:List an)(k:Int):α:=(fb z f ns []).getD k.toNat z
def ux(az:∀ d g cN,(∀ k∈d.ap,g k=cN k)->f d g=f d cN)(af:right t=true)(ai:j<t.ns.length):gM z f t.ns j=f t.ns[j] (gM z f t.ns):=by have h:=JA (z:=z) (f:=f) t.ns [] j ai;simp only[gL,c9]at h;unfold gM;rw[cv,show((j:Int).toNat)=j from by omega,h,jG];refine az _ _ _ λk ae=>?_;have:=jX af j ai k ae;rw[cv,cv,j',ck (by omega)]
end
def free(g:Nat->Nat)(s:List Bool):Nat->Nat
 |0=>0| i+1=>free g s i+(bif s.getD i false then 0 else g i)
def Qq{g:Nat->Nat}{s:List Bool}{k:Nat}:∀ {i:Nat},i<=k->free g (s.set k true) i=free g s i
 |0,_=>rfl| i+1,h=>by unfold free;rw[Qq (by omega)];simp only[cv,kl];rw[ca (by omega)]
def Qr{g:Nat->Nat}{s:List Bool}{k:Nat}(ar:s.getD k false=false)(av:k<s.length):∀ {i:Nat},k<i->free g (s.set k true) i+g k=free g s i
 |i+1,h=>by
  unfold free;by_cases e:i=k;·subst e;rw[Qq (cI _),ar];simp[cv,av]
  ·have:=Qr (g:=g) ar av (i:=i) (by omega);simp only[cv,kl]at this |-;rw[ca (by omega)];omega
def fz(g:Int->Nat)(ks:List Int):Nat:=(ks.map g).sum
def Qs{g:Nat->Nat}{i:Nat}:∀ {ks:List Int} {s bP:List Bool},jt i ks s=some bP->i<=s.length->bP.length=s.length/\free g bP i+fz (λk=>g k.toNat) ks=free g s i
 |[],s,bP,h,_=>by simp only[jt,jl]at h;subst h;exact⟨rfl,rfl⟩
 |x::ks,s,bP,h,av=>by
  unfold jt at h;cases ah:(decide (x<0)||(decide ((i:Int)<=x)||s.getD x.toNat false))with
  |true=>rw[ah]at h;cases h| false=>rw[ah]at h;simp only[qN,pM]at ah;obtain⟨aa,ad,al⟩:=ah;obtain⟨aA,a0⟩:=Qs (g:=g) h (by simpa using av);have bY:=Qr (g:=g) al (by omega) (i:=i) (by omega);refine⟨by simpa using aA,?_⟩;simp only[fz,cc,jb]at a0 |-;omega
def JB{g:Nat->Nat}{c:an->Nat}:∀ {ds:List an} {i:Nat} {s bP:List Bool},h5 i ds s=some bP->i+ds.length<=s.length->(∀ j (h:j<ds.length),g (i+j)<=c ds[j]+fz (λk=>g k.toNat) ds[j].ap) -> bP.length=s.length/\free g bP (i+ds.length)<=free g s i+(ds.map c).sum
 |[],i,s,bP,h,_,_=>by simp only[h5,jl]at h;subst h;simp
 |d::ds,i,s,bP,h,av,ax=>by
  unfold h5 at h;cases az:fits d d.ap.length with
  |false=>rw[az]at h;cases h
  |true=>
   rw[az]at h;simp only[bZ]at h;cases aC:jt i d.ap s with
   |none=>rw[aC]at h;cases h
   |some s1=>
    rw[aC]at h;simp only[ea]at av;obtain⟨aA,a0⟩:=Qs (g:=g) aC (by omega);obtain⟨bY,dE⟩:=JB (g:=g) (c:=c) h (by omega) (λj ai=>by
     have:=ax (j+1) (by simp;omega);simp only[Fa]at this;rw[show i+1+j=i+(j+1)from by omega];exact this)
    have ay:=ax 0 (by simp);simp only[ms,oM]at ay;refine⟨by omega,?_⟩;have kY:free g s1 (i+1)<=free g s1 i+g i:=by
     show free g s1 i+_<=_;cases s1.getD i false<;>simp
    simp only[ea,cc,jb];rw[show i+(ds.length+1)=i+1+ds.length from by omega];omega
def Qt{bm:Int}:∀ {s:List Bool} {i:Nat},o1 bm i s=true->∀ j,j<s.length->(i+j:Nat)=bm->s.getD j false=false
 |b::s,i,h,j,ai,e=>by
  unfold o1 at h;cases ah:(b == decide ((i:Int)=bm))with
  |true=>rw[ah]at h;cases h
  |false=>
   rw[ah]at h;cases j with
   |zero=>
    have:decide ((i:Int)=bm)=true:=by simpa using e
    rw[this]at ah;simpa using ah
   |succ j=>have:=Qt (i:=i+1) h j (by simpa using ai) (by omega);simpa using this
def Qu{g:Nat->Nat}{s:List Bool}{k:Nat}(ae:s.getD k false=false):∀ {n:Nat},k<n->g k<=free g s n
 |n+1,h=>by
  unfold free;by_cases e:n=k;·subst e;rw[ae];simp
  ·have:=Qu (g:=g) ae (n:=n) (by omega);omega
def JC(af:right t=true){g:Int->Nat}{c:an->Nat}(h:∀ j (ai:j<t.ns.length),g j<=c t.ns[j]+fz g t.ns[j].ap):g t.bm<=(t.ns.map c).sum:=by
 have mN:=kG af;have ae:=jX af;unfold right at af;simp only[b']at af;obtain⟨_,_,af⟩:=af;split at af
 ·rename_i s ar;obtain⟨aA,a0⟩:=JB (g:=λk=>g k) (c:=c) ar (by simp) (λj ai=>by refine lj (by rw[c9];exact h j ai) (Nat.le_of_eq ?_);congr 1;unfold fz;congr 1;refine fy λk ei=>?_;have:=ae j ai k ei;rw[tc this.1]);simp only[zQ,c9]at aA a0;have a':=Qt af t.bm.toNat (by omega) (by omega);have:=Qu (g:=λk=>g k) a' (n:=t.ns.length) (by omega);rw[tc mN.1]at this;simp only[free]at a0;omega
 ·cases af
def zX(af:right t=true)(ai:j<t.ns.length):fits t.ns[j] t.ns[j].ap.length=true:=by
 have aux:∀ {ds:List an} {i:Nat} {s bP:List Bool},h5 i ds s=some bP->∀ j (h:j<ds.length),fits ds[j] ds[j].ap.length=true:=by
  intro ds
  induction ds with
  |nil=>intro i s bP _ j ai;cases ai
  |cons d ds aR=>
   intro i s bP h j ai;unfold h5 at h;cases az:fits d d.ap.length with
   |false=>rw[az]at h;cases h
   |true=>
    rw[az]at h;simp only[bZ]at h;cases aC:jt i d.ap s with
    |none=>rw[aC]at h;cases h
    |some s1=>
     rw[aC]at h;cases j with
     |zero=>exact az| succ j=>exact aR h j (by simpa using ai)
 unfold right at af;simp only[b']at af;obtain⟨_,_,af⟩:=af;split at af
 ·rename_i s ar;exact aux ar j ai
 ·cases af
def ZQ{w:World}(t u ty e:Nat)(i:TypeInfo)(aw:P.underlying t=some (.slice e)){l3:TypeDesc}(hu:P.underlying u=some l3)(mG:∀ k,l3≠.int k)(hi:P.info? e=some i)
 {n:Nat} (l4:n<=c) (ay:(∃ b c,rL=.slice b 0 c)\/rL=.string .empty):(Builtin.append_ #[t,u] ty #[.slice sa n c,rL]).run P w=.ok (.slice sa n c) w:=by
 have Cg:(match l3 with | .int _=>true | _=>false)=false:=by cases l3<;>first | rfl | exact(mG _ rfl).elim
 rcases ay with⟨b,c',rfl⟩ | rfl
 ·cases b<;>cases sa<;>simp[Builtin.append_,run_underlying aw,run_underlying hu,sizeOf,typeInfo,hi,Cg,Builtin.lenOf,l4,Builtin.firstCells,Builtin.zeroCells,loadCells,loadCellsFrom,storeCells]
 ·cases sa<;>simp[Builtin.append_,run_underlying aw,run_underlying hu,sizeOf,typeInfo,hi,Cg,Builtin.lenOf,l4,Builtin.firstCells,loadCells,storeCells]
section
variable{X:cB}{β:Nat->Nat}{a:Act}{w:World}{F:Fr}{C:dp}{I:aM}{M:List aE}{o:Oper}{K:fD}
def br.bin{op:BinOp}{t:Nat}(aC:o.op=.binOp op t x y bj)(aj:∀ d,o.dst=some d->d<X.n){q:Value}(ab:bt F x=.val p)(aD:bt F y=.val q)
  (ax:∀ w,(eqGuard op t x y p q).run X.P w=.ok () w) (af:∀ w,dT I M w->(binOp op t p q).run X.P w=.ok v w) (h:K (put o.dst (.val v) F) C I M):br X o F C I M K:=by
 refine⟨λac w Q ⟨β,aX⟩=>?_⟩;have ex:=cS aX.ak ab;have mJ:=cS aX.ak aD;refine sQ aX aj (by rw[aC];simp) ?_ h;unfold execOp;simp only[aC,bV,ex,mJ,ax,bN,af w aX.holds,cH]
def br.conv{s t:Nat}(aC:o.op=.convert s t x)(aj:∀ d,o.dst=some d->d<X.n)(ab:bt F x=.val p)
  (af:∀ w,dT I M w->(convert s t p).run X.P w=.ok v w) (h:K (put o.dst (.val v) F) C I M):br X o F C I M K:=by
 refine⟨λac w Q ⟨β,aX⟩=>?_⟩;have ex:=cS aX.ak ab;refine sQ aX aj (by rw[aC];simp) ?_ h;unfold execOp;simp only[aC,bV,ex,bN,af w aX.holds,cH]
def br.un{op:UnOp}{t:Nat}(aC:o.op=.unOp op t x)(aj:∀ d,o.dst=some d->d<X.n)(ab:bt F x=.val p)
  (af:∀ w,dT I M w->(Op.unary op p).run X.P w=.ok v w) (h:K (put o.dst (.val v) F) C I M):br X o F C I M K:=by
 refine⟨λac w Q ⟨β,aX⟩=>?_⟩;have ex:=cS aX.ak ab;refine sQ aX aj (by rw[aC];simp) ?_ h;unfold execOp;simp only[aC,bV,ex,bN,af w aX.holds,cH]
def h7(x:Int):Int:=IntKind.u64.wrap (BitVec.ofInt 64 IntKind.u64.max ^^^ BitVec.ofInt 64 x).toNat
def br.Cq{t:Nat}(aC:o.op=.unOp .xor t x)(aj:∀ d,o.dst=some d->d<X.n){n:Int}(ab:bt F x=.val (.int .u64 n))(h:K (put o.dst (.val (.int .u64 (h7 n))) F) C I M):br X o F C I M K:=
 .un aC aj ab (λw _=>rfl) h
def br.JD(aG:cw X.P X.E){s:Operand}{t u:Nat}(aC:o.op=.call { callee:=.builtin .append,args:=#[s,x],argTypes:=#[t,u] })(aj:∀ d,o.dst=some d->d<X.n)
 {lu aB:dt} (aw:X.E t=some c8) (dQ:c8.bE=.slice e) (hu:X.E u=some lu) (fh:∀ k,lu.bE≠.int k) (he:X.E e=some aB)
 {n:Nat} (ar:bt F s=.val (.slice sa n c)) (l4:n<=c)
 (ab:bt F x=.val rL) (ay:(∃ b c,rL=.slice b 0 c)\/rL=.string .empty)
  (h:K (put o.dst (.val (.slice sa n c)) F) C I M):br X o F C I M K:=by
 refine⟨λa w Q ⟨β,aX⟩=>?_⟩;obtain⟨inf,z,hi,fq,h0,ik,kC⟩:=(aG _ _ he).inf;obtain⟨d,e0,eF⟩:=(aG _ _ hu).eW;obtain⟨ht,lz,nj⟩:=(aG _ _ aw).eW;have rM:ht=.slice e:=by rw[dQ]at nj;cases ht<;>simp_all[eR]
 subst rM;have eT:=ZQ (w:=w) t u o.type e inf lz e0 (λk cM=>fh k (by rw[<-eF,cM];rfl)) hi (sa:=sa) l4 ay;have es:=cS aX.ak ar;have ex:=cS aX.ak ab;refine sQ aX aj (by rw[aC];simp) ?_ h;unfold execOp;simp only[aC,resolve,invoke,builtin,bV,cH,bN,sV,cc,h3,es,ex,eT]
def Qv(op:BinOp)(t:Nat)(x y:Operand)(p q:Option Addr)(P:Program)(w:World):(eqGuard op t x y (.pointer p) (.pointer q)).run P w=.ok () w:=by
 unfold eqGuard;cases op<;>rfl
def br.FC(aG:cw X.P X.E){t:Nat}(aC:o.op=.binOp .eql t x y bj)(aj:∀ d,o.dst=some d->d<X.n)(aw:X.E t=some c8)(dQ:c8.bE=.pointer e)
  {p:Option Addr} (ab:bt F x=.val (.pointer p)) (aD:bt F y=.val (.pointer none)) (h:K (put o.dst (.val (.bool p.isNone)) F) C I M):br X o F C I M K:=by
 obtain⟨d,e0,eF⟩:=(aG _ _ aw).eW;have aa:d=.pointer e:=by rw[dQ]at eF;cases d<;>simp_all[eR]
 subst aa;exact .bin aC aj ab aD (λw=>Qv ..) (λw _=>run_eql_pointer_nil w t p (by simp[Program.pointee,e0])) h
def br.Qw(aG:cw X.P X.E){t:Nat}(aC:o.op=.binOp .neq t x y bj)(aj:∀ d,o.dst=some d->d<X.n){ZR:dt}(aw:X.E t=some c8)(dQ:c8.bE=.pointer e)(he:X.E e=some ZR)
  {p:Addr} (ab:bt F x=.val (.pointer (some p))) (aD:bt F y=.val (.pointer (some p))) (h:K (put o.dst (.val (.bool false)) F) C I M):br X o F C I M K:=by
 obtain⟨d,e0,eF⟩:=(aG _ _ aw).eW;have aa:d=.pointer e:=by rw[dQ]at eF;cases d<;>simp_all[eR]
 subst aa;obtain⟨inf,z,hi,_⟩:=(aG _ _ he).inf;exact .bin aC aj ab aD (λw=>Qv ..) (λw _=>Lib.run_neq_ptr_same w p e0 hi) h
end
def Qx{f:Nat}{fn:Func}{e:Array Value->Sem Value}{args:List Value}{M:List aE}(az:P.funcs[f]?=some fn)(FD:(fn.name == "runtime.NumGoroutine")=false)
  (ah:fn.body.isNone=true) (aJ:Extern.findNext fn=none) (he:Extern.find fn=some e) (af:∀ w,(e args.toArray).run P w=.ok v w):Spec P f args I M λr I' M'=>r=v/\I'=I/\M'=M:=by
 refine .inr λw hw=>⟨v,w,I,M,?_,⟨rfl,rfl,rfl⟩,hw,λ_ _ h=>h,λ_ _ h=>.inl h,λx ab=>.inl ⟨x,ab,rfl⟩,λ_ _ _=>rfl,.refl _,cI _⟩;rw[run_callFunc_extern az FD ah aJ he,af];rfl
def vV(l:List UInt8):List Value:=l.map λb=>.int .u8 b.toNat
structure fk where
 qQ:Bool
 os:aU
 b8:List UInt8
def fk.aq(b:Nat)(x:fk):aE:=⟨b,.cells #[.pointer (bif x.qQ then some ⟨b,0,none⟩else none),x.os.val] 207 (0,0)⟩
def fk.M(b:Nat)(x:fk):List aE:=x.aq b::x.os.aq 5
structure fk.ok(x:fk):Prop where
 os:x.os.ok 1 (vV x.b8)
 ne:∀ g,x.os.a=some g->x.b8≠[]
def fk.new:fk:=⟨false,⟨none,0,0,[]⟩,[]⟩
def fk.FE:fk.new.ok:=⟨⟨rfl,λ_=>⟨rfl,rfl⟩,λg h=>by cases h⟩,λg h=>by cases h⟩
def fk.ok.n{x:fk}(h:x.ok):x.os.n=x.b8.length:=by have:=h.os.len;simp[vV]at this;omega
def ptr(b:Nat):Value:=.pointer (some ⟨b,0,none⟩)
def cX{M:List aE}(a3:(⟨b,.cells cs.toArray T (0,0)⟩:aE)∈M){n:Nat}(h:k+n<=cs.length):c7 I M ((⟨b,0,none⟩:Addr).add k) n ((cs.drop k).take n):=by
 rw[dY _ rfl];refine⟨rfl,_,T,(0,0),.inr ⟨_,a3,rfl,rfl⟩,?_,?_⟩
 ·simp
 ·simp;omega
def JE{M:List aE}(v:Value):Spec Tryz.prog 234 [v] I M λr I' M'=>r=v/\I'=I/\M'=M:=
 Qx Tryz.func234 (by kernel_rfl) (by kernel_rfl) (by kernel_rfl) (e:=Extern.AbiNoEscape.same) (by kernel_rfl) (λw=>Lib.run_noEscape w _)
def Qy{M:List aE}(s:ByteArray)(c:UInt8):Spec Tryz.prog 325 [.string s,.int .u8 c.toNat] I M λr I' M'=>r=.int .i64 (Lib.indexByte s.data.toList c)/\I'=I/\M'=M:=
 Qx Tryz.func325 (by kernel_rfl) (by kernel_rfl) (by kernel_rfl) (e:=Extern.BytealgIndexByte.indexByte) (by kernel_rfl) (λw=>by
  have:=Lib.run_indexByteString (P:=Tryz.prog) s (c.toNat:Int) w;simpa using this)
def ZS(s:ByteArray)(c:UInt8):Spec Tryz.prog 307 [.string s,.int .u8 c.toNat] I [] λr I' M'=>r=.int .i64 (Lib.indexByte s.data.toList c)/\I'=I/\M'=[]:=by refine cp [] a4 Tryz.func307 rfl rfl rfl ?_;intro B ay;refine bd.mk [] [] _ (.refl _) (Qy s c) ?_;rintro v I' M' -⟨rfl,rfl,rfl⟩;exact⟨_,_,.refl,rfl,rfl,rfl⟩
def Qz(s:ByteArray)(c:UInt8):Spec Tryz.prog 291 [.string s,.int .u8 c.toNat] I [] λr I' M'=>r=.int .i64 (Lib.indexByte s.data.toList c)/\I'=I/\M'=[]:=by refine cp [] a4 Tryz.func291 rfl rfl rfl ?_;intro B ay;refine bd.mk [] [] _ (.refl _) (ZS s c) ?_;rintro v I' M' -⟨rfl,rfl,rfl⟩;exact⟨_,_,.refl,rfl,rfl,rfl⟩
def FF{M:List aE}{w:World}(h:dT I M w){cs:Array Value}{ak:Nat×Nat}(a3:(⟨b,.cells cs T ak⟩:aE)∈M):w.shape? b=some (T,cs.size):=by have:=h.m _ a3;simp only at this;simp[World.shape?,this]
def QA(b:Nat)(x:fk):Spec Tryz.prog 192 [ptr b] I [x.aq b] λr I' M'=>r=.tuple #[]/\I'=I/\M'=[{ x with qQ:=true:fk }.aq b]:=by
 obtain⟨qQ,os,b8⟩:=x;obtain⟨inf,z,hi,fq,_⟩:=(a4 207 _ rfl).inf;refine cp [] a4 Tryz.func192 rfl rfl rfl ?_;intro B ay;cases qQ with
 |false=>refine aZ.mk [.pointer none] (cX (cs:=[.pointer none,os.val]) (k:=0) (n:=1) (T:=207) (eK.2 rfl) (by simp)) ?_;refine .other (br.FC a4 rfl (by simp) rfl rfl rfl rfl ?_);refine a9.mk (λ_=>?_) (λh=>by cases h);refine br.conv rfl (by simp) rfl (λw hw=>Lib.run_to_unsafe (t:=207) (e:=207) (cells:=2) w ⟨b,0,none⟩ (by kernel_rfl) (by kernel_rfl) (j:=inf) hi (by rw[fq];decide) (FF (cs:=#[.pointer none,os.val]) hw (eK.2 rfl)) (by simp)) ?_;refine bd.mk [fk.aq b ⟨false,os,b8⟩] [] _ (by simp) (JE _) ?_;rintro v I' M' -⟨rfl,rfl,rfl⟩;refine br.conv rfl (by simp) rfl (λw hw=>Lib.run_from_unsafe (u:=207) (e:=207) (cells:=2) w ⟨b,0,none⟩ (by kernel_rfl) (by kernel_rfl) (j:=inf) hi (FF (cs:=#[.pointer none,os.val]) hw (eK.2 rfl)) (by kernel_rfl)) ?_;refine cn.add [] [] _ _ rfl (bH rfl) rfl ?_;exact⟨_,_,.refl,rfl,rfl,rfl⟩
 |true=>refine aZ.mk [ptr b] (cX (cs:=[ptr b,os.val]) (k:=0) (n:=1) (T:=207) (eK.2 rfl) (by simp)) ?_;refine .other (br.FC a4 rfl (by simp) rfl rfl rfl rfl ?_);refine a9.mk (λh=>by cases h) (λ_=>?_);refine aZ.mk [ptr b] (cX (cs:=[ptr b,os.val]) (k:=0) (n:=1) (T:=207) (eK.2 rfl) (by simp)) ?_;refine .other (br.Qw a4 rfl (by simp) rfl rfl rfl rfl rfl ?_);refine a9.mk (λh=>by cases h) (λ_=>?_);exact⟨_,_,.refl,rfl,rfl,rfl⟩
def nl(b:Nat){x:fk}(ab:x.ok)(c:UInt8)(av:x.b8.length<70368744177664):Spec Tryz.prog 230 [ptr b,.int .u8 c.toNat] I (x.M b)
  λr I' M'=>r=.nilIface/\I'=I/\∃ y:fk,y.ok/\y.b8=x.b8++[c]/\M'=y.M b:=by
 refine cp [] a4 Tryz.func230 rfl rfl rfl ?_;intro B ay;have aJ:=ab.n;refine bd.mk [x.aq b] (x.os.aq 5) _ (.refl _) (QA b x) ?_;rintro v I' M' -⟨rfl,rfl,rfl⟩;refine aZ.mk [x.os.val] (cX (cs:=[ptr b,x.os.val]) (k:=1) (n:=1) (T:=207) (.head _) (by simp)) ?_;refine cJ.mk λg ax zY=>?_;refine br.append a4 rfl (by simp) (e:=5) rfl rfl rfl x.os (xs:=vV x.b8) ab.os rfl (m:=1) rfl (cq:=[.int .u8 c.toNat]) (by decide) ?_ rfl (Mr:=[⟨g,.cells #[.int .u8 c.toNat] 5 (0,0)⟩,{ x with qQ:=true:fk }.aq b]) ?_ ?_ ?_ ?_
 ·exact cX (cs:=[.int .u8 c.toNat]) (k:=0) (n:=1) (T:=5) (.head _) (by simp)
 ·exact ep (l₁:=[_,_]) (l₂:=x.os.aq 5)
 ·simp only[maxLen];omega
 ·show(x.os.n+1)*1<=_;omega
 ·intro cN c' aS aa ad al aL;refine cn.add [⟨cN,.cells aS.toArray 5 (0,0)⟩,⟨g,.cells #[.int .u8 c.toNat] 5 (0,0)⟩] [] _ _ rfl (bH rfl) rfl ?_;refine⟨_,_,.perm (M1:=[⟨g,.cells #[.int .u8 c.toNat] 5 (0,0)⟩]++fk.M b ⟨true,⟨some cN,x.os.n+1,c',aS⟩,x.b8++[c]⟩) ?_ (.sub (lr _ _) .refl),rfl,rfl,_,?_,rfl,rfl⟩
  ·exact ep (l₁:=[_]) (l₂:=[_,_])
  ·refine⟨⟨?_,λh=>by simp at h,?_⟩,by simp⟩
   ·simp[vV,aJ]
   ·intro ba km;refine⟨aa,ad,al,?_⟩;rw[aL];simp[vV]
def rS(b:Nat){x:fk}(ab:x.ok)(s:ByteArray)(av:x.b8.length+s.size<=70368744177664):Spec Tryz.prog 148 [ptr b,.string s] I (x.M b)
  λr I' M'=>r=.tuple #[.int .i64 s.size,.nilIface]/\I'=I/\∃ y:fk,y.ok/\y.b8=x.b8++s.data.toList/\M'=y.M b:=by
 refine cp [] a4 Tryz.func148 rfl rfl rfl ?_;intro B ay;have aJ:=ab.n;refine bd.mk [x.aq b] (x.os.aq 5) _ (.refl _) (QA b x) ?_;rintro v I' M' -⟨rfl,rfl,rfl⟩;refine aZ.mk [x.os.val] (cX (cs:=[ptr b,x.os.val]) (k:=1) (n:=1) (T:=207) (.head _) (by simp)) ?_;by_cases ar:s.size=0
 ·have he:s=.empty:=sL (IS ar);subst he;have l4:x.os.n<=x.os.c:=by
   cases aY:x.os.a with
   |none=>obtain⟨aa,ad⟩:=ab.os.nil aY;omega
   |some g=>exact(ab.os.cap g aY).2.1
  refine br.JD a4 rfl (by simp) (e:=5) rfl rfl rfl (by simp) rfl rfl l4 rfl (.inr rfl) ?_;refine cn.add [] (x.os.aq 5) _ _ rfl (bH rfl) rfl ?_;exact⟨_,_,.refl,rfl,rfl,⟨true,x.os,x.b8⟩,⟨ab.os,ab.ne⟩,by simp,rfl⟩
 ·refine br.Zz a4 rfl (by simp) (e:=5) rfl rfl rfl rfl rfl rfl x.os (xs:=vV x.b8) ab.os rfl rfl (by omega) (Mr:=[{ x with qQ:=true:fk }.aq b]) (ep (l₁:=[_])) ?_ ?_ ?_
  ·simp only[maxLen];omega
  ·show(x.os.n+s.size)*1<=_;omega
  ·intro cN c' aS aa ad al aL;refine cn.add [⟨cN,.cells aS.toArray 5 (0,0)⟩] [] _ _ rfl (bH rfl) rfl ?_;refine⟨_,_,.perm (M1:=fk.M b ⟨true,⟨some cN,x.os.n+s.size,c',aS⟩,x.b8++s.data.toList⟩) ?_ .refl,rfl,rfl,_,?_,rfl,rfl⟩
   ·exact ep (l₁:=[_]) (l₂:=[_])
   ·refine⟨⟨?_,λh=>by simp at h,?_⟩,λg _ h=>?_⟩
    ·simp[vV,aJ]
    ·intro ba km;refine⟨aa,ad,al,?_⟩;rw[aL];simp[vV,jT]
    ·have bG:=congrArg List.length (List.append_eq_nil_iff.1 h).2;exact ar (by simpa using bG)
def uy(b:Nat){x:fk}(ab:x.ok)(av:x.b8.length<=70368744177664):Spec Tryz.prog 149 [ptr b] I (x.M b)
  λr I' M'=>r=.string ⟨x.b8.toArray⟩/\I'=I/\M'=[]:=by
 refine cp [] a4 Tryz.func149 rfl rfl rfl ?_;intro B ay;have aJ:=ab.n;obtain⟨qQ,⟨a,n,c,aS⟩,b8⟩:=x;simp only at aJ av;subst aJ;refine dh.draw a4 rfl rfl rfl ?_;cases a with
 |none=>obtain⟨aa,ad⟩:=ab.os.nil rfl;simp only at aa ad;have Cr:b8=[]:=im aa;subst Cr;subst ad;refine aZ.mk [.slice none 0 0] (cX (cs:=[.pointer (bif qQ then some ⟨b,0,none⟩else none),.slice none 0 0]) (k:=1) (n:=1) (T:=207) (.head _) (by simp)) ?_;refine aZ.mk [.slice none 0 0] (cX (cs:=[.pointer (bif qQ then some ⟨b,0,none⟩else none),.slice none 0 0]) (k:=1) (n:=1) (T:=207) (.head _) (by simp)) ?_;refine br.P2 rfl (by simp) rfl rfl ?_;exact⟨_,_,.sub (gn _) .refl,rfl,rfl,rfl⟩
 |some g=>
  obtain⟨aa,ad,al,aL⟩:=ab.os.cap g rfl;have bs:=ab.ne g rfl;simp only at aa ad al aL bs;have lp:b8.length≠0:=λh=>bs (im h);refine aZ.mk [.slice (some ⟨g,0,none⟩) b8.length c] (cX (cs:=[.pointer (bif qQ then some ⟨b,0,none⟩else none),.slice (some ⟨g,0,none⟩) b8.length c]) (k:=1) (n:=1) (T:=207) (.head _) (by simp)) ?_;refine zn.mk (by omega) ?_;refine aZ.mk [.slice (some ⟨g,0,none⟩) b8.length c] (cX (cs:=[.pointer (bif qQ then some ⟨b,0,none⟩else none),.slice (some ⟨g,0,none⟩) b8.length c]) (k:=1) (n:=1) (T:=207) (.head _) (by simp)) ?_;refine br.Jj a4 rfl (by simp) (e:=5) rfl rfl rfl rfl (l:=b8) (g:=g) (cs:=aS.toArray) rfl rfl bs (by omega) (Mr:=[fk.aq b ⟨qQ,⟨some g,b8.length,c,aS⟩,b8⟩]) (ep (l₁:=[_]) (l₂:=[_])) ?_ ?_;·rw[gV]at aL;exact aL
  ·exact⟨_,_,.sub (gn _) .refl,rfl,rfl,rfl⟩
def x8(c:UInt8)(left:ByteArray):Bool:=decide ((32:Int)<=c.toNat)&&(decide ((c.toNat:Int)<=126)&&(!decide ((c.toNat:Int)=92)&&decide (Lib.indexByte left.data.toList c<0)))
def ZT(c:UInt8)(left:ByteArray):Spec Tryz.prog 298 [.int .u8 c.toNat,.string left] I [] λr I' M'=>r=.bool (x8 c left)/\I'=I/\M'=[]:=by
 refine cp [] a4 Tryz.func298 rfl rfl rfl ?_;intro B ay;refine cP.mk (λaa=>?_) (λaa=>?_)
 ·refine cP.mk (λad=>?_) (λad=>?_)
  ·refine cP.mk (λal=>?_) (λal=>?_)
   ·refine bd.mk [] [] _ (.refl _) (Qz left c) ?_;rintro v I' M' -⟨rfl,rfl,rfl⟩;refine⟨_,_,.refl,?_,rfl,rfl⟩;simp only[x8,aa,ad,al,n3]
   ·refine⟨_,_,.refl,?_,rfl,rfl⟩;simp only[x8,aa,ad,al,n3,sW,Jv]
  ·refine⟨_,_,.refl,?_,rfl,rfl⟩;simp only[x8,aa,ad,n3,sW,Jv]
 ·refine⟨_,_,.refl,?_,rfl,rfl⟩;simp only[x8,aa,n3,sW,Jv]
def zZ:ByteArray:=⟨#[48,49,50,51,52,53,54,55,56,57,97,98,99,100,101,102]⟩
def vW(n:Nat):UInt8:=zZ.data.toList.getD n 0
def mO(c:UInt8)(left:ByteArray):List UInt8:=
 bif x8 c left then [c]else
 bif decide ((c.toNat:Int)=10)then [92,110]else
 bif decide ((c.toNat:Int)=13)then [92,114]else
 bif decide ((c.toNat:Int)=9)then [92,116]else
 bif decide ((c.toNat:Int)=92)||decide ((0:Int)<=Lib.indexByte left.data.toList c)then [92,c]else [92,120,vW (c.toNat/16),vW (c.toNat%16)]
def Cs(c:UInt8)(left:ByteArray):(mO c left).length<=4:=by
 unfold mO;cases x8 c left<;>cases decide ((c.toNat:Int)=10)<;>cases decide ((c.toNat:Int)=13)<;>cases decide ((c.toNat:Int)=9)<;>cases(decide ((c.toNat:Int)=92)||decide ((0:Int)<=Lib.indexByte left.data.toList c))<;>simp
def ZU:∀ n:Nat,n<256->IntKind.u8.wrap ((BitVec.ofInt 8 (n:Int)) &&& (BitVec.ofInt 8 15)).toNat=((n%16:Nat):Int):=by decide +kernel
def QB(ai:j<zZ.size):zZ[j]=vW j:=by have:j<zZ.data.toList.length:=ai;simp only[vW,cv,dX this,jG];rfl
def FG(b:Nat){x:fk}(ab:x.ok)(c:UInt8)(left:ByteArray)(av:x.b8.length<=70368744177600):Spec Tryz.prog 279 [ptr b,.int .u8 c.toNat,.string left] I (x.M b)
  λr I' M'=>I'=I/\∃ y:fk,y.ok/\y.b8=x.b8++mO c left/\M'=y.M b:=by
 refine cp [] a4 Tryz.func279 rfl rfl rfl ?_;intro B ay;refine bd.mk [] (x.M b) _ (.refl _) (ZT c left) ?_;rintro v I' M' -⟨rfl,rfl,rfl⟩;refine a9.mk (λaa=>?_) (λaa=>?_)
 ·refine bd.mk (x.M b) [] _ (by simp) (nl b ab c (by omega)) ?_;rintro v I' M' -⟨rfl,rfl,y,aD,fV,rfl⟩;refine⟨_,_,.refl,rfl,y,aD,?_,by simp⟩;rw[fV,mO,aa];rfl
 ·refine a9.mk (λad=>?_) (λad=>?_)
  ·refine bd.mk (x.M b) [] _ (by simp) (rS b ab _ (by show _+2<=_;omega)) ?_;rintro v I' M' -⟨rfl,rfl,y,aD,fV,rfl⟩;refine⟨_,_,.refl,rfl,y,aD,?_,by simp⟩;rw[fV,mO,aa,ad];rfl
  ·refine a9.mk (λal=>?_) (λal=>?_)
   ·refine bd.mk (x.M b) [] _ (by simp) (rS b ab _ (by show _+2<=_;omega)) ?_;rintro v I' M' -⟨rfl,rfl,y,aD,fV,rfl⟩;refine⟨_,_,.refl,rfl,y,aD,?_,by simp⟩;rw[fV,mO,aa,ad,al];rfl
   ·refine a9.mk (λaL=>?_) (λaL=>?_)
    ·refine bd.mk (x.M b) [] _ (by simp) (rS b ab _ (by show _+2<=_;omega)) ?_;rintro v I' M' -⟨rfl,rfl,y,aD,fV,rfl⟩;refine⟨_,_,.refl,rfl,y,aD,?_,by simp⟩;rw[fV,mO,aa,ad,al,aL];rfl
    ·have two:∀ (cT:aM),(decide ((c.toNat:Int)=92)||decide ((0:Int)<=Lib.indexByte left.data.toList c))=true->mO c left=[92,c]:=λ_ h=>by rw[mO,aa,ad,al,aL,h];rfl
     have other:(decide ((c.toNat:Int)=92)||decide ((0:Int)<=Lib.indexByte left.data.toList c))=false->mO c left=[92,120,vW (c.toNat/16),vW (c.toNat%16)]:=λh=>by rw[mO,aa,ad,al,aL,h];rfl
     have au:=c.toNat_lt;refine cP.mk (λbG=>?_) (λbG=>?_)
     ·refine bd.mk [] (x.M b) _ (.refl _) (Qz left c) ?_;rintro v I' M' -⟨rfl,rfl,rfl⟩;refine a9.mk (λcr=>?_) (λcr=>?_)
      ·refine bd.mk (x.M b) [] _ (by simp) (nl b ab 92 (by omega)) ?_;rintro v I' M' -⟨rfl,rfl,y,aD,fV,rfl⟩;refine bd.mk (y.M b) [] _ (by simp) (nl b aD c (by rw[fV];simp;omega)) ?_;rintro v I' M' -⟨rfl,rfl,z,a',qR,rfl⟩;refine⟨_,_,.refl,rfl,z,a',?_,by simp⟩;rw[qR,fV,two I' (by rw[bG];exact cr)];simp
      ·refine bd.mk (x.M b) [] _ (by simp) (rS b ab _ (by show _+2<=_;omega)) ?_;rintro v I' M' -⟨rfl,rfl,y,aD,fV,rfl⟩;have Ct:y.b8.length=x.b8.length+2:=by rw[fV];simp
       refine tW.mk 4 rfl ?_;refine xw.mk (s:=zZ) (c.toNat/16) ?_ (by show _<16;omega) ?_
       ·show(c.toNat:Int).fdiv (2^(min 4 (IntKind.u8.bits)))=_;have ZV:((2:Int)^(min 4 IntKind.u8.bits))=16:=by decide
        rw[ZV,Fx _ (by omega)];omega
       rw[QB];refine bd.mk (y.M b) [] _ (by simp) (nl b aD (vW (c.toNat/16)) (by omega)) ?_;rintro v I' M' -⟨rfl,rfl,z,a',qR,rfl⟩;have FH:z.b8.length=x.b8.length+3:=by rw[qR];simp;omega
       refine xw.mk (s:=zZ) (c.toNat%16) (ZU c.toNat au) (by show _<16;omega) ?_;rw[QB];refine bd.mk (z.M b) [] _ (by simp) (nl b a' (vW (c.toNat%16)) (by omega)) ?_;rintro v I' M' -⟨rfl,rfl,u,hu,uz,rfl⟩;refine⟨_,_,.refl,rfl,u,hu,?_,by simp⟩;rw[uz,qR,fV,other (by rw[bG];exact cr)];simp
     ·refine bd.mk (x.M b) [] _ (by simp) (nl b ab 92 (by omega)) ?_;rintro v I' M' -⟨rfl,rfl,y,aD,fV,rfl⟩;refine bd.mk (y.M b) [] _ (by simp) (nl b aD c (by rw[fV];simp;omega)) ?_;rintro v I' M' -⟨rfl,rfl,z,a',qR,rfl⟩;refine⟨_,_,.refl,rfl,z,a',?_,by simp⟩;rw[qR,fV,two I' (by rw[bG];rfl)];simp
def lA(n:Nat):List UInt8:=bif Nat.blt n 10 then [UInt8.ofNat (48+n)]else [UInt8.ofNat (48+n/10),UInt8.ofNat (48+n%10)]
def vX(n:Nat):ByteArray:=⟨(lA n).toArray⟩
def QC:ByteArray:=⟨((List.range 10).map (λn=>UInt8.ofNat (48+n))++(List.range 26).map (λn=>UInt8.ofNat (97+n))).toArray⟩
def QD:ByteArray:=⟨((List.range 100).flatMap λn=>[UInt8.ofNat (48+n/10),UInt8.ofNat (48+n%10)]).toArray⟩
def ZW:∀ n:Fin 10,(QC.extract n.val (n.val+1)).data.toList=lA n.val:=by decide +kernel
def ZX:∀ n:Fin 100,10<=n.val->(QD.extract (n.val*2) (n.val*2+2)).data.toList=lA n.val:=by decide +kernel
def z0{a b:ByteArray}(h:a.data.toList=b.data.toList):a=b:=sL (fZ h)
def Cu(n:Nat):(lA n).length<=2:=by
 unfold lA;cases Nat.blt n 10<;>simp
def ZY(n:Nat)(aJ:n<100):Spec Tryz.prog 336 [.int .i64 n] I [] λr I' M'=>r=.string (vX n)/\I'=I/\M'=[]:=by
 refine cp [] a4 Tryz.func336 rfl rfl rfl ?_;intro B ay;refine a9.mk (λh=>?_) (λh=>?_)
 ·have aW:n<10:=by simp at h;omega
  refine bi.mk ((n+1:Nat):Int) (by rw[wrap_i64 ⟨by omega,by omega⟩];omega) ?_;refine kA.mk n (n+1) rfl rfl (by omega) (by show _<=36;omega) ?_;refine⟨_,_,.refl,?_,rfl,rfl⟩;have:QC.extract n (n+1)=vX n:=z0 (ZW ⟨n,aW⟩);rw[<-this];rfl
 ·have cV:10<=n:=by simp at h;omega
  refine bi.mk ((n*2:Nat):Int) (by rw[wrap_i64 ⟨by omega,by omega⟩];omega) ?_;refine bi.mk ((n*2:Nat):Int) (by rw[wrap_i64 ⟨by omega,by omega⟩];omega) ?_;refine bi.mk ((n*2+2:Nat):Int) (by rw[wrap_i64 ⟨by omega,by omega⟩];omega) ?_;refine kA.mk (n*2) (n*2+2) rfl rfl (by omega) (by show _<=200;omega) ?_;refine⟨_,_,.refl,?_,rfl,rfl⟩;have:QD.extract (n*2) (n*2+2)=vX n:=z0 (ZX ⟨n,aJ⟩ cV);rw[<-this];rfl
def ZZ(n:Nat)(aJ:n<100):Spec Tryz.prog 329 [.int .i64 n,.int .i64 10] I [] λr I' M'=>r=.string (vX n)/\I'=I/\M'=[]:=by refine cp [] a4 Tryz.func329 rfl rfl rfl ?_;intro B ay;refine a9.mk (λh=>?_) (λh=>by cases h);refine cP.mk (λh=>?_) (λh=>by simp at h;try omega);refine a9.mk (λh=>?_) (λh=>by simp at h;try omega);refine bd.mk [] [] _ (.refl _) (ZY n aJ) ?_;rintro v I' M' -⟨rfl,rfl,rfl⟩;exact⟨_,_,.refl,rfl,rfl,rfl⟩
def Z0(n:Nat)(aJ:n<100):Spec Tryz.prog 316 [.int .i64 n] I [] λr I' M'=>r=.string (vX n)/\I'=I/\M'=[]:=by refine cp [] a4 Tryz.func316 rfl rfl rfl ?_;intro B ay;refine bd.mk [] [] _ (.refl _) (ZZ n aJ) ?_;rintro v I' M' -⟨rfl,rfl,rfl⟩;exact⟨_,_,.refl,rfl,rfl,rfl⟩
def Z1(n:Nat)(aJ:n<100):Spec Tryz.prog 301 [.int .i64 n] I [] λr I' M'=>r=.string (vX n)/\I'=I/\M'=[]:=by refine cp [] a4 Tryz.func301 rfl rfl rfl ?_;intro B ay;refine bd.mk [] [] _ (.refl _) (Z0 n aJ) ?_;rintro v I' M' -⟨rfl,rfl,rfl⟩;exact⟨_,_,.refl,rfl,rfl,rfl⟩
def FI(n:Nat)(aJ:n<100):Spec Tryz.prog 282 [.int .i64 n] I [] λr I' M'=>r=.string (vX n)/\I'=I/\M'=[]:=by refine cp [] a4 Tryz.func282 rfl rfl rfl ?_;intro B ay;refine bd.mk [] [] _ (.refl _) (Z1 n aJ) ?_;rintro v I' M' -⟨rfl,rfl,rfl⟩;exact⟨_,_,.refl,rfl,rfl,rfl⟩
def gN(node vY:Int):Bool:=
 bif decide (node=5)then decide (vY=5)else
 bif decide (node=4)||(decide (node=7)||decide (node=8))then decide (vY=4)||decide (vY=5)else
 bif decide (node=6)then decide (vY=4)||(decide (vY=5)||(decide (vY=6)||(decide (vY=7)||decide (vY=8))))else false
def JF(a b:Int):Spec Tryz.prog 232 [.int .u8 a,.int .u8 b] I [] λr I' M'=>r=.bool (gN a b)/\I'=I/\M'=[]:=by
 refine cp [] a4 Tryz.func232 rfl rfl rfl ?_;intro B ay;refine a9.mk (λaa=>?_) (λaa=>?_)
 ·refine⟨_,_,.refl,?_,rfl,rfl⟩;simp only[gN,aa];rfl
 ·have two:∀ (cT:aM) (h:(decide (a=4)||(decide (a=7)||decide (a=8)))=true),gN a b=(decide (b=4)||decide (b=5)):=λ_ h=>by simp only[gN,aa,h];rfl
  have JG:(decide (a=4)||(decide (a=7)||decide (a=8)))=true->cP (decide (b=4)) false (sT [] I [] λI' M'=>Value.bool (decide (b=5))=.bool (gN a b)/\I'=I/\M'=[]) (sT [] I [] λI' M'=>Value.bool true=.bool (gN a b)/\I'=I/\M'=[]):=λh=>by
   refine cP.mk (λaL=>?_) (λaL=>?_);·refine⟨_,_,.refl,?_,rfl,rfl⟩;rw[two I h,aL];rfl
   ·refine⟨_,_,.refl,?_,rfl,rfl⟩;rw[two I h,aL];rfl
  refine a9.mk (λad=>?_) (λad=>?_);·refine a9.mk (λ_=>?_) (λh=>by rw[ad]at h;cases h);exact JG (by rw[ad];rfl)
  ·refine a9.mk (λal=>?_) (λal=>?_)
   ·refine a9.mk (λ_=>?_) (λh=>by rw[al]at h;cases h);exact JG (by rw[al];simp)
   ·refine a9.mk (λaL=>?_) (λaL=>?_)
    ·exact JG (by rw[aL];simp)
    ·have hw:gN a b=(bif decide (a=6)then decide (b=4)||(decide (b=5)||(decide (b=6)||(decide (b=7)||decide (b=8))))else false):=by simp only[gN,aa,ad,al,aL];rfl
     refine a9.mk (λbG=>?_) (λbG=>?_)
     ·rw[bG]at hw;simp only[bZ]at hw;refine cP.mk (λdS=>?_) (λdS=>?_)
      ·refine cP.mk (λch=>?_) (λch=>?_)
       ·refine cP.mk (λgI=>?_) (λgI=>?_)
        ·refine cP.mk (λlB=>?_) (λlB=>?_)
         ·refine⟨_,_,.refl,?_,rfl,rfl⟩;rw[hw,dS,ch,gI,lB];rfl
         ·refine⟨_,_,.refl,?_,rfl,rfl⟩;rw[hw,dS,ch,gI,lB];rfl
        ·refine⟨_,_,.refl,?_,rfl,rfl⟩;rw[hw,dS,ch,gI];rfl
       ·refine⟨_,_,.refl,?_,rfl,rfl⟩;rw[hw,dS,ch];rfl
      ·refine⟨_,_,.refl,?_,rfl,rfl⟩;rw[hw,dS];rfl
     ·refine⟨_,_,.refl,?_,rfl,rfl⟩;rw[hw,bG];rfl
def wrap_u64(x:Int):gb (IntKind.u64.wrap x):=by unfold IntKind.wrap gb;simp only[IntKind.bits,IntKind.signed];simp;omega
def wrap_u8(x:Int):0<=IntKind.u8.wrap x/\IntKind.u8.wrap x<256:=by unfold IntKind.wrap;simp only[IntKind.bits,IntKind.signed];simp;omega
def QE{x:Int}(h:gb x):IntKind.u64.wrap x=x:=by obtain⟨aa,ad⟩:=h;unfold IntKind.wrap;simp only[IntKind.bits,IntKind.signed];simp;omega
def pW(I:aM)(aF:List Int):Prop:=aF.length=64/\(∀ x∈aF,0<=x/\x<256)/\∃ T ak,I 3=some (.cells (aF.map (Value.int .u8)).toArray T ak)
def pW.rd(h:pW I aF)(M:List aE)(ai:j<64):c7 I M (Addr.add ⟨3,0,none⟩ (j*1)) 1 [.int .u8 (aF.getD j 0)]:=by
 obtain⟨av,_,T,ak,h⟩:=h;rw[dY _ rfl];refine⟨rfl,_,T,ak,.inl h,?_,rfl⟩;have aa:j<(aF.map (Value.int .u8)).length:=by simp[av,ai]
 have ad:j<aF.length:=by omega
 simp only[c9,gV];rw[e6 aa,oN,nS];simp[cv,ad]
def pW.at(h:pW I aF)(j:Nat):0<=aF.getD j 0/\aF.getD j 0<256:=by
 rw[cv];by_cases ai:j<aF.length
 ·rw[dX ai];exact h.2.1 _ (b9 ai)
 ·simp[ai]
def Cv(x y:Int):Int:=IntKind.u64.wrap (BitVec.ofInt 64 x &&& BitVec.ofInt 64 y).toNat
def qS(x:Int):Int:=IntKind.u64.wrap (Cv x (IntKind.u64.wrap (0-x))*285870213051353865)
def rT(aF:List Int)(x:Int):Int:=bif decide (x=0)then 64 else aF.getD ((qS x).toNat/2^58) 0
def Z2(h:pW I aF)(x:Int):0<=rT aF x/\rT aF x<256:=by
 unfold rT;cases decide (x=0)
 ·exact h.at _
 ·simp
def Z3(ah:pW I aF)(x:Int):Spec Tryz.prog 315 [.int .u64 x] I [] λr I' M'=>r=.int .i64 (rT aF x)/\I'=I/\M'=[]:=by
 refine cp [] a4 Tryz.func315 rfl rfl rfl ?_;intro B ay;refine a9.mk (λh=>?_) (λh=>?_)
 ·refine⟨_,_,.refl,?_,rfl,rfl⟩;simp only[rT,h];rfl
 ·have aY:=wrap_u64 (Cv x (IntKind.u64.wrap (0-x))*285870213051353865);refine bi.mk _ rfl ?_;refine bi.mk (qS x) rfl ?_;refine tW.mk 58 rfl ?_;have aA:((2:Int)^(min 58 IntKind.u64.bits))=2^58:=by decide
  rw[aA];obtain⟨Cw,Cx⟩:=aY;have a0:(qS x).fdiv (2^58)=(((qS x).toNat/2^58:Nat):Int):=by rw[Fx _ (by decide)];have:qS x=((qS x).toNat:Int):=(tc Cw).symm;omega
  rw[a0];have ai:(qS x).toNat/2^58<64:=by have:qS x<18446744073709551616:=Cx;omega
  refine dP.mk ((qS x).toNat/2^58) rfl ai ?_;refine aZ.mk [.int .u8 (aF.getD ((qS x).toNat/2^58) 0)] (ah.rd _ ai) ?_;have aj:=ah.at ((qS x).toNat/2^58);refine bi.mk (aF.getD ((qS x).toNat/2^58) 0) (wrap_i64 ⟨by omega,by omega⟩) ?_;refine⟨_,_,.refl,?_,rfl,rfl⟩;simp only[rT,h];rfl
def Z4(a b c d:Int):Nat->List Value
 |0=>[.int .u64 (a),.int .u64 (b),.int .u64 (c),.int .u64 (d)]| 1=>[.int .u64 (h7 a),.int .u64 (b),.int .u64 (c),.int .u64 (d)]| 2=>[.int .u64 (h7 a),.int .u64 (h7 b),.int .u64 (c),.int .u64 (d)]| 3=>[.int .u64 (h7 a),.int .u64 (h7 b),.int .u64 (h7 c),.int .u64 (d)]| _=>[.int .u64 (h7 a),.int .u64 (h7 b),.int .u64 (h7 c),.int .u64 (h7 d)]
def Z5(a b c d:Int):Spec Tryz.prog 299 [.agg #[.int .u64 a,.int .u64 b,.int .u64 c,.int .u64 d]] I [] λr I' M'=>r=.agg #[.int .u64 (h7 a),.int .u64 (h7 b),.int .u64 (h7 c),.int .u64 (h7 d)]/\I'=I/\M'=[]:=by
 refine cp [] a4 Tryz.func299 rfl rfl rfl ?_;intro B ay;refine dI.inv (ι:=Nat) (λi=>{ bn:=[(1,.ref 1 0),(2,.ref 2 0),(5,.val (.agg #[.int .u64 a,.int .u64 b,.int .u64 c,.int .u64 d])),(6,.val (.int .i64 i))],cl:=[(1,Z4 a b c d i),(2,[.int .u64 0,.int .u64 0,.int .u64 0,.int .u64 0])],c2:=I }) (λi=>i<=4) (λi=>4-i) ?_ ?_
 ·exact⟨0,by simp,.refl,fr,.cons rfl (.cons rfl .nil)⟩
 ·intro i hi
  match i,hi with
  |0,_=>refine a9.mk (λ_=>?_) (λh=>by simp at h);refine dP.mk 0 rfl (by decide) ?_;refine br.Cq rfl (by simp) rfl ?_;refine dP.mk 0 rfl (by decide) ?_;refine bi.mk 1 (by decide) ?_;exact⟨1,⟨by simp,by simp⟩,.refl,fr,.cons rfl (.cons rfl .nil)⟩| 1,_=>refine a9.mk (λ_=>?_) (λh=>by simp at h);refine dP.mk 1 rfl (by decide) ?_;refine br.Cq rfl (by simp) rfl ?_;refine dP.mk 1 rfl (by decide) ?_;refine bi.mk 2 (by decide) ?_;exact⟨2,⟨by simp,by simp⟩,.refl,fr,.cons rfl (.cons rfl .nil)⟩| 2,_=>refine a9.mk (λ_=>?_) (λh=>by simp at h);refine dP.mk 2 rfl (by decide) ?_;refine br.Cq rfl (by simp) rfl ?_;refine dP.mk 2 rfl (by decide) ?_;refine bi.mk 3 (by decide) ?_;exact⟨3,⟨by simp,by simp⟩,.refl,fr,.cons rfl (.cons rfl .nil)⟩| 3,_=>refine a9.mk (λ_=>?_) (λh=>by simp at h);refine dP.mk 3 rfl (by decide) ?_;refine br.Cq rfl (by simp) rfl ?_;refine dP.mk 3 rfl (by decide) ?_;refine bi.mk 4 (by decide) ?_;exact⟨4,⟨by simp,by simp⟩,.refl,fr,.cons rfl (.cons rfl .nil)⟩| 4,_=>refine a9.mk (λh=>by simp at h) (λ_=>?_);exact⟨_,_,.refl,rfl,rfl,rfl⟩
def Z6:Spec Tryz.prog 280 [] I [] λr I' M'=>r=.agg #[.int .u64 (h7 0),.int .u64 (h7 0),.int .u64 (h7 0),.int .u64 (h7 0)]/\I'=I/\M'=[]:=by refine cp [] a4 Tryz.func280 rfl rfl rfl ?_;intro B ay;refine bd.mk [] [] _ (.refl _) (Z5 0 0 0 0) ?_;rintro v I' M' -⟨rfl,rfl,rfl⟩;exact⟨_,_,.refl,rfl,rfl,rfl⟩
def z1(I:aM)(b:Nat)(o:Obj):ins I b o b=some o:=by simp[ins]
def z2{o:Obj}(ah:I b=none):∀ c p,I c=some p->ins I b o c=some p:=by
 intro c p h;unfold ins;cases e:Nat.beq c b with
 |false=>exact h| true=>have:=dr e;subst this;rw[ah]at h;cases h
def Z7{x y:Int}(ab:gb x)(aD:gb y):Cv x y=((x.toNat &&& y.toNat:Nat):Int):=by
 obtain⟨x,rfl⟩:=eN ab.1;obtain⟨y,rfl⟩:=eN aD.1;have aa:x<18446744073709551616:=by have:=ab.2;omega
 have ad:y<18446744073709551616:=by have:=aD.2;omega
 have e:∀ z:Nat,z<18446744073709551616->(BitVec.ofInt 64 (z:Int)).toNat=z:=λz a'=>by rw[BitVec.toNat_ofInt];omega
 unfold Cv;rw[FA,e x aa,e y ad,QE]
 ·simp
 ·have:=Nat.and_le_left (n:=x) (m:=y);exact⟨by omega,by omega⟩
def vZ(x:Int):Int:=Cv x (IntKind.u64.wrap (x-1))
def x9(n:Nat):Nat:=((List.range 64).filter n.testBit).length
def Z8(n:Nat):x9 n<=64:=by have:=BW n.testBit (List.range 64);simpa[x9]using this
def Z9{x:Int}(ab:gb x)(ay:x≠0):gb (vZ x)/\x9 (vZ x).toNat<x9 x.toNat:=by
 obtain⟨n,rfl⟩:=eN ab.1;have aa:n<18446744073709551616:=by have:=ab.2;omega
 have lp:0<n:=by omega
 have ar:gb ((n:Int)-1):=⟨by omega,by omega⟩;have e:vZ (n:Int)=((n &&& (n-1):Nat):Int):=by unfold vZ;rw[QE ar,Z7 ab ar];congr 2;omega
 have bg:n &&& (n-1)<=n-1:=Nat.and_le_right;refine⟨by rw[e];exact⟨by omega,by omega⟩,?_⟩;rw[e];simp only[kx];unfold x9;have jc:List.Sublist ((List.range 64).filter (n &&& (n-1)).testBit) ((List.range 64).filter n.testBit):=by
  have:(List.range 64).filter (n &&& (n-1)).testBit=((List.range 64).filter n.testBit).filter (n-1).testBit:=by rw[List.filter_filter];congr 1;funext i;rw[Nat.testBit_and,Bool.and_comm]
  rw[this];exact x7
 rcases Nat.lt_or_eq_of_le jc.length_le with h | h
 ·exact h
 ·exfalso;have x':=jc.eq_of_length h;have:n &&& (n-1)=n:=by
   apply Nat.eq_of_testBit_eq;intro i;by_cases hi:i<64
   ·have hm:i∈(List.range 64).filter (n &&& (n-1)).testBit ↔ i∈(List.range 64).filter n.testBit:=by rw[x']
    simp only[nR,kb,hi,true_and]at hm;cases aa:(n &&& (n-1)).testBit i<;>cases ad:n.testBit i<;>simp_all
   ·have ad:2^64<=2^i:=Nat.pow_le_pow_right (by omega) (by omega);rw[Nat.testBit_lt_two_pow (by omega),Nat.testBit_lt_two_pow (by omega)]
  omega
def byteOf(aF:List Int)(i:Nat)(w:Int):UInt8:=UInt8.ofNat (IntKind.u8.wrap ((i:Int)*64+rT aF w)).toNat
def Z'(aF:List Int)(i:Nat)(w:Int):((byteOf aF i w).toNat:Int)=IntKind.u8.wrap ((i:Int)*64+rT aF w):=by have:=wrap_u8 ((i:Int)*64+rT aF w);unfold byteOf;rw[UInt8.toNat_ofNat'];omega
def rU(aF:List Int)(i:Nat):Nat->Int->List UInt8
 |0,_=>[]| f+1,w=>bif decide (w=0)then []else byteOf aF i w::rU aF i f (vZ w)
def hO(aF:List Int):Nat->List Int->List UInt8
 |_,[]=>[]| i,w::ws=>rU aF i 64 w++hO aF (i+1) ws
def QF(aF:List Int)(i:Nat):∀ f w,(rU aF i f w).length<=f
 |0,_=>by simp[rU]
 |f+1,w=>by
  unfold rU;have:=QF aF i f (vZ w);cases decide (w=0)<;>simp
  exact this
def JH(aF:List Int):∀ ws i,(hO aF i ws).length<=64*ws.length
 |[],_=>by simp[hO]
 |w::ws,i=>by have aa:=QF aF i 64 w;have ad:=JH aF ws (i+1);simp only[hO,cL,ea];omega
def qT(l:List UInt8):List (List Value):=l.map λc=>[.int .u8 c.toNat]
def z3(a b c d:Int):List Value:=[.int .u64 a,.int .u64 b,.int .u64 c,.int .u64 d]
def aaa(a b c d:Int):Spec Tryz.prog 300 [.agg #[.int .u64 a,.int .u64 b,.int .u64 c,.int .u64 d]] I [] λr I' M'=>∃ g,r=.func (.func 314) #[] #[ptr g]/\I' g=some (.cells (z3 a b c d).toArray 64 (0,0))/\(∀ b o,I b=some o->I' b=some o)/\M'=[]:=by refine cp [1] a4 Tryz.func300 rfl rfl rfl ?_;intro B ay;refine cJ.mk λg ax zY=>?_;exact⟨_,_,.vt rfl (by simp) .refl,g,rfl,z1 ..,z2 ax,rfl⟩
def aab(ya:pW I aF){a b c d:Int}(Cy:∀ x∈[a,b,c,d],gb x)(ax:I g=some (.cells (z3 a b c d).toArray 64 (0,0))) :
  Iter Tryz.prog 314 [ptr g] I (qT (hO aF 0 [a,b,c,d])):=by
 intro l R kU v0 dj M0 v3 kh;refine BR [] a4 Tryz.func314 rfl rfl rfl ?_;intro B ay;have bB:∀ (cT:aM) (M:List aE),(∀ b o,I b=some o->cT b=some o)->c7 cT M ⟨g,0,none⟩ 4 (z3 a b c d):=λcT M h=>⟨rfl,_,_,_,.inl (h _ _ ax),rfl,rfl⟩;refine aZ.mk _ (bB _ _ v3) ?_;refine dI.inv (ι:=Nat×Nat×aM×List aE) (λx=>{ bn:=[(0,.val (.func (.yield l) #[] #[])),(5,.val (.agg (z3 a b c d).toArray)),(6,.val (.int .i64 x.1))],c2:=x.2.2.1,dx:=x.2.2.2 }) (λx=>x.1<=4/\(∀ b o,I b=some o->x.2.2.1 b=some o)/\R x.2.1 x.2.2.1 x.2.2.2/\x.2.1<=(hO aF 0 [a,b,c,d]).length/\(hO aF 0 [a,b,c,d]).drop x.2.1=hO aF x.1 ([a,b,c,d].drop x.1)) (λx=>4-x.1) ?_ ?_
 ·exact⟨(0,0,dj,M0),⟨by simp,v3,kh,by simp,rfl⟩,.refl,g1,.nil⟩
 ·rintro⟨i,k,cT,M1⟩⟨hi,dg,lC,c0,hv⟩;simp only at hi dg lC c0 hv;refine a9.mk (λh=>?_) (λh=>?_)
  ·have aW:i<4:=by simp at h;omega
   have cy:i < [a,b,c,d].length:=aW;refine dP.mk i rfl aW ?_;have uA:pack false ((((z3 a b c d).toArray).toList.drop (i*1)).take 1)=.int .u64 [a,b,c,d][i]:=by
    match i,aW with
    |0,_=>rfl| 1,_=>rfl| 2,_=>rfl| 3,_=>rfl
   have kj:[a,b,c,d].drop i=[a,b,c,d][i]::[a,b,c,d].drop (i+1):=e6 cy;refine dI.inv (ι:=Int×Nat×Nat×aM×List aE) (λx=>{ bn:=[(0,.val (.func (.yield l) #[] #[])),(3,.val (.int .i64 i)),(4,.val (.int .u64 x.1)),(5,.val (.agg (z3 a b c d).toArray)),(6,.val (.int .i64 i))],c2:=x.2.2.2.1,dx:=x.2.2.2.2 }) (λx=>gb x.1/\x9 x.1.toNat<=x.2.1/\(∀ b o,I b=some o->x.2.2.2.1 b=some o)/\R x.2.2.1 x.2.2.2.1 x.2.2.2.2/\x.2.2.1<=(hO aF 0 [a,b,c,d]).length/\(hO aF 0 [a,b,c,d]).drop x.2.2.1=rU aF i x.2.1 x.1++hO aF (i+1) ([a,b,c,d].drop (i+1))) (λx=>x9 x.1.toNat) ?_ ?_
   ·refine⟨([a,b,c,d][i],64,k,cT,M1),⟨Cy _ (b9 cy),Z8 _,dg,lC,c0,?_⟩,.refl,.cons .refl (.cons .refl (.cons ?_ (uf))),.nil⟩
    ·simp only;rw[hv,kj];rfl
    ·simp only;rw[<-uA];exact .refl
   ·rintro⟨w,f,k,cT,M1⟩⟨hw,az,dg,lC,c0,hv⟩;simp only at hw az dg lC c0 hv;refine a9.mk (λh=>?_) (λh=>?_)
    ·have FJ:w≠0:=by simpa using h
     obtain⟨JI,QG⟩:=Z9 hw FJ;obtain⟨f,rfl⟩:∃ n4,f=n4+1:=⟨f-1,by omega⟩;have ah:rU aF i (f+1) w=byteOf aF i w::rU aF i f (vZ w):=by simp[rU,FJ]
     rw[ah,qO]at hv;have ae:k<(hO aF 0 [a,b,c,d]).length:=by apply Nat.lt_of_not_le;intro bg;rw[ls bg]at hv;cases hv
     have fS:=e6 ae;rw[hv]at fS;obtain⟨v5,eG⟩:=List.cons.inj fS;have gW:k<(qT (hO aF 0 [a,b,c,d])).length:=by simpa[qT]using ae
     have ag:(qT (hO aF 0 [a,b,c,d]))[k]=[.int .u8 (IntKind.u8.wrap ((i:Int)*64+rT aF w))]:=by simp only[qT,hN,<-v5,Z']
     have QH:pW cT aF:=by obtain⟨hf,g4,T,ak,jY⟩:=ya;exact⟨hf,g4,T,ak,dg _ _ jY⟩
     have alj:=Z2 QH w;refine bi.mk ((i:Int)*64) (wrap_i64 ⟨by omega,by omega⟩) ?_;refine bd.mk [] M1 _ (.refl _) (Z3 QH w) ?_;rintro v I' M' -⟨rfl,rfl,rfl⟩;refine bi.mk ((i:Int)*64+rT aF w) (wrap_i64 ⟨by omega,by omega⟩) ?_;refine bi.mk _ rfl ?_;refine br.yield rfl (by simp) rfl rfl ?_;have aD:=v0 k gW I' M1 dg lC;rw[ag]at aD;refine Fs.mk M1 [] _ (by simp) aD ?_;rintro v eE dB gd (⟨rfl,oY⟩ | ⟨rfl,ab⟩);·refine a9.mk (λh=>by simp at h) (λ_=>?_);refine bi.mk _ rfl ?_;exact⟨(vZ w,f,k+1,eE,dB),⟨⟨JI,by simp only;omega,λb o h=>gd b o (dg b o h),oY,ae,eG.symm⟩,by simp only;exact QG⟩,.perm (by simp) .refl,iJ,.nil⟩
     ·refine a9.mk (λ_=>?_) (λh=>by simp at h);exact⟨_,_,.perm (by simp) .refl,.inr ab⟩
    ·have FJ:w=0:=by simpa using h
     have fG:IntKind.i64.wrap ((i:Int)+1)=((i+1:Nat):Int):=by rw[wrap_i64 ⟨by omega,by omega⟩];omega
     refine bi.mk _ fG ?_;have ah:rU aF i f w=[]:=by cases f<;>simp[rU,FJ]
     rw[ah,jq]at hv;exact⟨(i+1,k,cT,M1),⟨⟨by simp only;omega,dg,lC,c0,hv⟩,by simp only;omega⟩,.refl,g1,.nil⟩
  ·have kC:i=4:=by simp at h;omega
   subst kC;refine⟨_,_,.refl,.inl ?_⟩;have lx:(hO aF 0 [a,b,c,d]).drop k=[]:=by rw[hv];rfl
   have yb:k=(qT (hO aF 0 [a,b,c,d])).length:=by have:=Ju.1 lx;simp only[qT,bO];omega
   rw[<-yb];exact lC
def rV(l:List (UInt8×UInt8))(b:UInt8):List (UInt8×UInt8):=match l.getLast? with
 |some p=>bif decide ((p.2.toNat:Int)+1=b.toNat)then l.dropLast++[(p.1,b)]else l++[(b,b)]| none=>[(b,b)]
def nn(l:List UInt8):List (UInt8×UInt8):=l.foldl rV []
def iO(p:UInt8×UInt8):List Value:=[.int .u8 p.1.toNat,.int .u8 p.2.toNat]
def np(l:List (UInt8×UInt8)):List Value:=l.flatMap iO
def FK(l:List (UInt8×UInt8)):(np l).length=l.length*2:=hM iO 2 (λ_=>rfl) l
def aac(l:List (UInt8×UInt8))(b:UInt8):(rV l b).length<=l.length+1:=by
 unfold rV;split
 ·rename_i p h;cases decide ((p.2.toNat:Int)+1=b.toNat)<;>simp
 ·simp
def QI(l:List UInt8):(nn l).length<=l.length:=by
 have:∀ (l:List UInt8) (aP:List (UInt8×UInt8)),(l.foldl rV aP).length<=aP.length+l.length:=by
  intro l
  induction l with
  |nil=>intro aP;simp| cons b l aR=>intro aP;have aa:=aR (rV aP b);have ad:=aac aP b;simp only[iY,ea];omega
 simpa[nn]using this l []
def v7:((⟨b,0,none⟩:Addr).add i).add j=(⟨b,0,none⟩:Addr).add (i+j):=by rw[dY ⟨_,0,none⟩ rfl i,dY _ rfl j,dY _ rfl (i+j)];simp
def lD{M:List aE}(a3:(⟨b,.cells cs.toArray T (0,0)⟩:aE)∈M)(h:cs[i+j]?=some v):c7 I M (((⟨b,0,none⟩:Addr).add i).add j) 1 [v]:=by obtain⟨av,rfl⟩:=ih.1 h;have:=cX (I:=I) a3 (k:=i+j) (n:=1) (by omega);rw[e6 av,oN,nS]at this;rw[v7];exact this
def QJ(a5:List Value)(u v z:Value)(bc:List Value)(k:Nat)(ae:k=a5.length+1):bQ (a5++([u,v]++bc)) k [z]=a5++([u,z]++bc):=by
 subst ae;unfold bQ;have aA:(a5++([u,v]++bc)).take (a5.length+1)=a5++[u]:=by rw[show a5++([u,v]++bc)=(a5++[u])++(v::bc)from by simp];exact pV (by simp)
 have a0:(a5++([u,v]++bc)).drop (a5.length+1+[z].length)=bc:=by rw[show a5++([u,v]++bc)=(a5++[u,v])++bc from by simp];exact FB (by simp)
 rw[aA,a0];simp
def JJ{bb:List (UInt8×UInt8)}{x:UInt8}(cC:os.ok 2 (np bb)){aS:List Value}(aa:aS.length=c*2)(ad:os.n+1<=c)(al:c<=maxLen)(aL:aS.take ((os.n+1)*2)=np bb++iO (x,x)) :
  aU.ok ⟨some g,os.n+1,c,aS⟩ 2 (np (bb++[(x,x)])):=by
 have uB:np (bb++[(x,x)])=np bb++iO (x,x):=by simp[np]
 have av:=cC.len;refine⟨?_,(λh=>by cases h),λb4 n5=>⟨aa,ad,al,by rw[uB];exact aL⟩⟩;rw[uB,cL,av];simp[iO];omega
def aad(l:List UInt8)(x:UInt8):nn (l++[x])=rV (nn l) x:=by simp[nn]
def aae(ya:pW I aF){a b c d:Int}(Cy:∀ x∈[a,b,c,d],gb x):Spec Tryz.prog 281 [.agg #[.int .u64 a,.int .u64 b,.int .u64 c,.int .u64 d]] I []
  λr I' M'=>(∀ b o,I b=some o->I' b=some o)/\∃ os:aU,r=os.val/\os.ok 2 (np (nn (hO aF 0 [a,b,c,d])))/\M'=os.aq 344:=by
 refine cp [3] a4 Tryz.func281 rfl rfl rfl ?_;intro B ay;refine cJ.mk λg ax zY=>?_;refine bd.mk [] [⟨g,.cells #[.slice none 0 0] 342 (0,0)⟩] _ (.refl _) (aaa a b c d) ?_;rintro v cT M1 -⟨a1,rfl,o5,dg,rfl⟩;have aaf:pW cT aF:=by obtain⟨hf,g4,T,ak,jY⟩:=ya;exact⟨hf,g4,T,ak,dg _ _ jY⟩
 have ek:=JH aF [a,b,c,d] 0;refine dh.range a4 rfl rfl rfl .refl (aab aaf Cy o5) (λvs h=>?_) (λk I' M'=>(∀ b o,cT b=some o->I' b=some o)/\∃ os:aU,os.ok 2 (np (nn ((hO aF 0 [a,b,c,d]).take k)))/\M'=⟨g,.cells #[os.val] 342 (0,0)⟩::os.aq 344) (λ_ _ _=>False) ⟨λ_ _ h=>h,⟨none,0,0,[]⟩,⟨rfl,λ_=>⟨rfl,rfl⟩,λg h=>by cases h⟩,rfl⟩ ?_ ?_ (λ_ _ _ _ h=>h.elim)
 ·obtain⟨c,_,rfl⟩:=cG.1 h;rfl
 ·rintro k ae I' M' -⟨ju,os,cC,rfl⟩l B ay iK;have aag:k<(hO aF 0 [a,b,c,d]).length:=by simpa[qT]using ae
  generalize alk:hO aF 0 [a,b,c,d]=L at *;generalize ab:L[k]=x;have ag:(qT L)[k]=[.int .u8 x.toNat]:=by simp[qT,ab]
  rw[ag];have uq:nn (L.take (k+1))=rV (nn (L.take k)) x:=by rw[gD aag,ab,aad]
  rw[uq];have eh:(nn (L.take k)).length<=256:=by have aa:=QI (L.take k);have ad:=zT k L;simp only[ea,gL]at ek;omega
  generalize eu:nn (L.take k)=bb at *;have l5:=x.toNat_lt;obtain⟨yc,n,ew,aS⟩:=os;have aJ:bb.length=n:=by have:=cC.len;rw[FK]at this;simp only at this;omega
  cases yc with
  |none=>
   obtain⟨aA,a0⟩:=cC.nil rfl;simp only at aA a0;subst aA;subst a0;have te:bb=[]:=im aJ;have hx:rV bb x=bb++[(x,x)]:=by rw[te];rfl
   refine aZ.mk [.slice none 0 0] (cX (cs:=[.slice none 0 0]) (k:=0) (n:=1) (T:=342) (.head _) (by simp)) ?_;refine bi.mk (-1) (by decide) ?_;refine cP.mk (λh=>by simp at h) (λ_=>?_);refine aZ.mk [.slice none 0 0] (cX (cs:=[.slice none 0 0]) (k:=0) (n:=1) (T:=342) (.head _) (by simp)) ?_;refine cJ.mk λba km QK=>?_;refine br.append a4 rfl (by simp) (e:=344) rfl rfl rfl (⟨none,0,0,aS⟩:aU) cC rfl (m:=1) rfl (cq:=iO (x,x)) (by decide) (cX (cs:=iO (x,x)) (k:=0) (n:=2) (T:=344) (.head _) (by simp[iO])) rfl (Mr:=[⟨ba,.cells (iO (x,x)).toArray 344 (0,0)⟩,⟨g,.cells #[.slice none 0 0] 342 (0,0)⟩]) (ep (l₁:=[_,_])) (by simp only[maxLen];omega) (by show(_+1)*2<=_;simp only;omega) ?_;intro cN c' iP hf g4 jY lE;refine cn.mk [⟨cN,.cells iP.toArray 344 (0,0)⟩,⟨ba,.cells (iO (x,x)).toArray 344 (0,0)⟩] [] _ _ rfl rfl (bH rfl) rfl ?_;refine⟨_,_,.perm (M1:=[⟨ba,.cells (iO (x,x)).toArray 344 (0,0)⟩]++(⟨g,.cells #[aU.val ⟨some cN,(⟨none,0,0,aS⟩:aU).n+1,c',iP⟩] 342 (0,0)⟩::aU.aq ⟨some cN,(⟨none,0,0,aS⟩:aU).n+1,c',iP⟩ 344)) (ep (l₁:=[_]) (l₂:=[_,_])) (.sub (lr _ _) .refl),ju,⟨some cN,(⟨none,0,0,aS⟩:aU).n+1,c',iP⟩,?_,rfl⟩;rw[hx];exact JJ cC hf g4 jY lE
  |some cj=>
   obtain⟨ez,l4,kX,dJ⟩:=cC.cap cj rfl;simp only at ez l4 kX dJ;refine aZ.mk [.slice (some ⟨cj,0,none⟩) n ew] (cX (cs:=[.slice (some ⟨cj,0,none⟩) n ew]) (k:=0) (n:=1) (T:=342) (.head _) (by simp)) ?_;refine bi.mk ((n:Int)-1) (wrap_i64 ⟨by omega,by omega⟩) ?_;refine cP.mk (λaa=>?_) (λaa=>?_)
   ·have lp:1<=n:=by simp at aa;omega
    obtain⟨rW,p,rfl⟩:∃ rW p,bb=rW++[p]:=by
     rcases x5 bb with h | ⟨r,p,h⟩;·subst h;simp at aJ;omega
     ·exact⟨r,p,by simpa using h⟩
    have pR:rW.length=n-1:=by simp at aJ;omega
    have hy:(np rW).length=(n-1)*2:=by rw[FK,pR]
    obtain⟨bc,lF⟩:∃ bc,aS=np rW++([.int .u8 p.1.toNat,.int .u8 p.2.toNat]++bc):=by refine⟨aS.drop (n*2),?_⟩;have ad:=qM (n*2) aS;rw[dJ]at ad;rw[<-ad,FB (by rw[FK,aJ])];simp[np,iO]
    have lG:aS[(n-1)*2+1*1]?=some (.int .u8 p.2.toNat):=by rw[lF,<-hy,jW (by omega)];simp
    have qU:=p.2.toNat_lt;refine aZ.mk [.slice (some ⟨cj,0,none⟩) n ew] (cX (cs:=[.slice (some ⟨cj,0,none⟩) n ew]) (k:=0) (n:=1) (T:=342) (.head _) (by simp)) ?_;refine bu.mk ⟨cj,0,none⟩ (n-1) rfl (by omega) (by omega) ?_;refine dP.mk 1 rfl (by decide) ?_;refine aZ.mk [.int .u8 p.2.toNat] (lD (b:=cj) (cs:=aS) (T:=344) (by simp[aU.aq]) lG) ?_;refine bi.mk (p.2.toNat:Int) (wrap_i64 ⟨by omega,by omega⟩) ?_;refine bi.mk ((p.2.toNat:Int)+1) (wrap_i64 ⟨by omega,by omega⟩) ?_;refine bi.mk (x.toNat:Int) (wrap_i64 ⟨by omega,by omega⟩) ?_;have hx:rV (rW++[p]) x=bif decide ((p.2.toNat:Int)+1=x.toNat)then rW++[(p.1,x)]else rW++[p]++[(x,x)]:=by simp[rV]
    refine a9.mk (λad=>?_) (λad=>?_)
    ·rw[ad]at hx;refine aZ.mk [.slice (some ⟨cj,0,none⟩) n ew] (cX (cs:=[.slice (some ⟨cj,0,none⟩) n ew]) (k:=0) (n:=1) (T:=342) (.head _) (by simp)) ?_;refine bu.mk ⟨cj,0,none⟩ (n-1) rfl (by omega) (by omega) ?_;refine dP.mk 1 rfl (by decide) ?_;rw[v7];refine cn.add [⟨g,.cells #[.slice (some ⟨cj,0,none⟩) n ew] 342 (0,0)⟩] [] aS.toArray _ rfl ?_ rfl ?_
     ·simp only[rE];show 0+((n-1)*2+1)+1<=_;omega
     ·refine⟨_,_,.refl,ju,⟨some cj,n,ew,bQ aS (0+((n-1)*2+1*1)) [.int .u8 x.toNat]⟩,?_,rfl⟩;have cZ:bQ aS (0+((n-1)*2+1*1)) [.int .u8 x.toNat]=np rW++([.int .u8 p.1.toNat,.int .u8 x.toNat]++bc):=by rw[lF];exact QJ _ _ _ _ _ _ (by omega)
      rw[hx,cZ];have uB:np (rW++[(p.1,x)])=np rW++[.int .u8 p.1.toNat,.int .u8 x.toNat]:=by simp[np,iO]
      refine⟨?_,(λh=>by cases h),λb4 n5=>⟨?_,l4,kX,?_⟩⟩;·simp only[bZ];rw[uB,cL,hy];simp;omega
      ·simp only;rw[<-ez,lF];simp
      ·simp only[bZ];rw[uB,<-fi];refine pV ?_;rw[cL,hy];simp;omega
    ·rw[ad]at hx;simp only[b0]at hx;refine aZ.mk [.slice (some ⟨cj,0,none⟩) n ew] (cX (cs:=[.slice (some ⟨cj,0,none⟩) n ew]) (k:=0) (n:=1) (T:=342) (.head _) (by simp)) ?_;refine cJ.mk λba km QK=>?_;refine br.append a4 rfl (by simp) (e:=344) rfl rfl rfl (⟨some cj,n,ew,aS⟩:aU) cC rfl (m:=1) rfl (cq:=iO (x,x)) (by decide) (cX (cs:=iO (x,x)) (k:=0) (n:=2) (T:=344) (.head _) (by simp[iO])) rfl (Mr:=[⟨ba,.cells (iO (x,x)).toArray 344 (0,0)⟩,⟨g,.cells #[.slice (some ⟨cj,0,none⟩) n ew] 342 (0,0)⟩]) (ep (l₁:=[_,_])) (by simp only[maxLen];omega) (by show(_+1)*2<=_;simp only;omega) ?_;intro cN c' iP hf g4 jY lE;refine cn.mk [⟨cN,.cells iP.toArray 344 (0,0)⟩,⟨ba,.cells (iO (x,x)).toArray 344 (0,0)⟩] [] _ _ rfl rfl (bH rfl) rfl ?_;refine⟨_,_,.perm (M1:=[⟨ba,.cells (iO (x,x)).toArray 344 (0,0)⟩]++(⟨g,.cells #[aU.val ⟨some cN,(⟨some cj,n,ew,aS⟩:aU).n+1,c',iP⟩] 342 (0,0)⟩::aU.aq ⟨some cN,(⟨some cj,n,ew,aS⟩:aU).n+1,c',iP⟩ 344)) (ep (l₁:=[_]) (l₂:=[_,_])) (.sub (lr _ _) .refl),ju,⟨some cN,(⟨some cj,n,ew,aS⟩:aU).n+1,c',iP⟩,?_,rfl⟩;rw[hx];exact JJ cC hf g4 jY lE
   ·have pR:n=0:=by simp at aa;omega
    have te:bb=[]:=im (by omega);have hx:rV bb x=bb++[(x,x)]:=by rw[te];rfl
    refine aZ.mk [.slice (some ⟨cj,0,none⟩) n ew] (cX (cs:=[.slice (some ⟨cj,0,none⟩) n ew]) (k:=0) (n:=1) (T:=342) (.head _) (by simp)) ?_;refine cJ.mk λba km QK=>?_;refine br.append a4 rfl (by simp) (e:=344) rfl rfl rfl (⟨some cj,n,ew,aS⟩:aU) cC rfl (m:=1) rfl (cq:=iO (x,x)) (by decide) (cX (cs:=iO (x,x)) (k:=0) (n:=2) (T:=344) (.head _) (by simp[iO])) rfl (Mr:=[⟨ba,.cells (iO (x,x)).toArray 344 (0,0)⟩,⟨g,.cells #[.slice (some ⟨cj,0,none⟩) n ew] 342 (0,0)⟩]) (ep (l₁:=[_,_])) (by simp only[maxLen];omega) (by show(_+1)*2<=_;simp only;omega) ?_;intro cN c' iP hf g4 jY lE;refine cn.mk [⟨cN,.cells iP.toArray 344 (0,0)⟩,⟨ba,.cells (iO (x,x)).toArray 344 (0,0)⟩] [] _ _ rfl rfl (bH rfl) rfl ?_;refine⟨_,_,.perm (M1:=[⟨ba,.cells (iO (x,x)).toArray 344 (0,0)⟩]++(⟨g,.cells #[aU.val ⟨some cN,(⟨some cj,n,ew,aS⟩:aU).n+1,c',iP⟩] 342 (0,0)⟩::aU.aq ⟨some cN,(⟨some cj,n,ew,aS⟩:aU).n+1,c',iP⟩ 344)) (ep (l₁:=[_]) (l₂:=[_,_])) (.sub (lr _ _) .refl),ju,⟨some cN,(⟨some cj,n,ew,aS⟩:aU).n+1,c',iP⟩,?_,rfl⟩;rw[hx];exact JJ cC hf g4 jY lE
 ·rintro I' M' -⟨ju,os,cC,rfl⟩;refine aZ.mk [os.val] (cX (cs:=[os.val]) (k:=0) (n:=1) (T:=342) (.head _) (by simp)) ?_;refine⟨_,_,.sub (List.sublist_cons_self _ _) .refl,λb o h=>ju _ _ (dg _ _ h),os,rfl,?_,rfl⟩;have:(hO aF 0 [a,b,c,d]).take (qT (hO aF 0 [a,b,c,d])).length=hO aF 0 [a,b,c,d]:=fT (by simp[qT]);rw[this]at cC;exact cC
def aU.ok.row{M:List aE}{f:α->List Value}{size:Nat}(az:∀ x,(f x).length=size)(ay:0<size){l:List α}(h:os.ok size (l.flatMap f))(a3:∀ x∈os.aq e,x∈M)(ai:j<l.length) :
  ∃ aV,os.a.map (λg=>(⟨g,0,none⟩:Addr))=some aV/\c7 I M (aV.add (j*size)) size (f l[j]):=by
 have aJ:l.length=os.n:=by have aa:=h.len;rw[hM f size az]at aa;exact Nat.eq_of_mul_eq_mul_right ay aa
 cases aY:os.a with
 |none=>have:=(h.nil aY).1;omega
 |some g=>
  obtain⟨aa,ad,al,aL⟩:=h.cap g aY;refine⟨⟨g,0,none⟩,rfl,?_⟩;have bg:j*size+size<=os.n*size:=by have:=mq size (show j+1<=os.n by omega);rw[ke,oO]at this;exact this
  have ez:os.n*size<=os.aS.length:=by rw[aa];exact mq _ ad
  have:=cX (I:=I) (M:=M) (b:=g) (T:=e) (cs:=os.aS) (a3 _ (by simp[aU.aq,aY])) (k:=j*size) (n:=size) (by omega);have aA:(os.aS.drop (j*size)).take size=f l[j]:=by rw[<-zN f size az l j ai,<-aL,zB,xU];congr 1;omega
  rw[aA]at this;exact this
def yd:ByteArray:=⟨#[34]⟩
def v8:ByteArray:=⟨#[93,45,94]⟩
def Cz(s:ByteArray):List UInt8:=[34]++s.data.toList.flatMap (mO · yd)++[34]
def strOf(l:List UInt8):ByteArray:=⟨l.toArray⟩
def CA{α β:Type}(f:α->List β)(m:Nat)(az:∀ x,(f x).length<=m):∀ l:List α,(l.flatMap f).length<=m*l.length
 |[]=>by simp
 |x::l=>by have aa:=CA f m az l;have ad:=az x;simp only[jO,cL,ea,Nat.mul_add];omega
def QL(s:ByteArray)(ar:s.size<=1099511627776):Spec Tryz.prog 259 [.string s] I [] λr I' M'=>r=.string (strOf (Cz s))/\I'=I/\M'=[]:=by
 refine cp [3] a4 Tryz.func259 rfl rfl rfl ?_;intro B ay;refine cJ.mk λb ah uu=>?_;refine bd.mk (fk.new.M b) [] _ (.refl _) (nl b fk.FE 34 (by decide)) ?_;rintro v I' M' -⟨rfl,rfl,s6,ga,JK,rfl⟩;refine dI.inv (ι:=Nat×fk) (λp=>{ bn:=[(0,.val (.string s)),(3,.val (ptr b)),(4,.val (.int .i64 p.1))],c2:=I',dx:=p.2.M b }) (λp=>p.1<=s.size/\p.2.ok/\p.2.b8=[34]++(s.data.toList.take p.1).flatMap (mO · yd)) (λp=>s.size-p.1) ?_ ?_
 ·exact⟨(0,s6),⟨by simp,ga,by simp[JK,fk.new]⟩,.perm (by simp) .refl,g1,.nil⟩
 ·rintro⟨i,x⟩⟨hi,ab,kZ⟩;simp only at hi ab kZ;have cu:x.b8.length<=1+4*i:=by rw[kZ];have:=CA (mO · yd) 4 (λc=>Cs c yd) (s.data.toList.take i);have ad:=zT i s.data.toList;simp only[cL,ea,gL];omega
  refine a9.mk (λh=>?_) (λh=>?_)
  ·have aW:i<s.size:=by simpa using h
   have cy:i<s.data.toList.length:=aW;refine xw.mk i rfl aW ?_;refine bd.mk (x.M b) [] _ (by simp) (FG b ab s[i] yd (by omega)) ?_;rintro v I' M' -⟨rfl,y,aD,fV,rfl⟩;have fG:IntKind.i64.wrap ((i:Int)+1)=((i+1:Nat):Int):=by rw[wrap_i64 ⟨by omega,by omega⟩];omega
   refine bi.mk _ fG ?_;refine⟨(i+1,y),⟨⟨by simp only;omega,aD,?_⟩,by simp only;omega⟩,.perm (by simp) .refl,g1,.nil⟩;simp only;rw[fV,kZ,gD cy,gK,fi];congr 1;simp;rfl
  ·have cV:s.size<=i:=by simpa using h
   have dN:s.data.toList.take i=s.data.toList:=fT cV;refine bd.mk (x.M b) [] _ (by simp) (nl b ab 34 (by omega)) ?_;rintro v I' M' -⟨rfl,rfl,y,aD,fV,rfl⟩;refine bd.mk (y.M b) [] _ (by simp) (uy b aD (by rw[fV];simp;omega)) ?_;rintro v I' M' -⟨rfl,rfl,rfl⟩;refine⟨_,_,.refl,?_,rfl,by simp⟩;rw[fV,kZ,dN];rfl
def rX(p:UInt8×UInt8):List UInt8:=
 mO p.1 v8++((bif decide (1<IntKind.u8.wrap ((p.2.toNat:Int)-p.1.toNat))then [45]else [])++(bif !decide ((p.2.toNat:Int)=p.1.toNat)then mO p.2 v8 else []))
def ye(aF:List Int)(a b c d:Int):List UInt8:=
 bif (a == h7 0&&(b == h7 0&&(c == h7 0&&d == h7 0)))then [46]else [91]++(nn (hO aF 0 [a,b,c,d])).flatMap rX++[93]
def QM(p:UInt8×UInt8):(rX p).length<=9:=by
 have aa:=Cs p.1 v8;have ad:=Cs p.2 v8;unfold rX;cases decide (1<IntKind.u8.wrap ((p.2.toNat:Int)-p.1.toNat))<;>cases decide ((p.2.toNat:Int)=p.1.toNat)<;>simp<;>omega
def QN(aF:List Int)(a b c d:Int):(nn (hO aF 0 [a,b,c,d])).length<=256:=by have aa:=JH aF [a,b,c,d] 0;have ad:=QI (hO aF 0 [a,b,c,d]);simp only[ea,gL]at aa;omega
def aah(aF:List Int)(a b c d:Int):(ye aF a b c d).length<=2306:=by
 have aa:=QN aF a b c d;have ad:=CA rX 9 QM (nn (hO aF 0 [a,b,c,d]));unfold ye;cases(a == h7 0&&(b == h7 0&&(c == h7 0&&d == h7 0)))
 ·simp only[b0,cL,ea,gL];omega
 ·simp
def aai(ya:pW I aF){a b c d:Int}(Cy:∀ x∈[a,b,c,d],gb x):Spec Tryz.prog 260 [.agg #[.int .u64 a,.int .u64 b,.int .u64 c,.int .u64 d]] I []
  λr I' M'=>r=.string (strOf (ye aF a b c d))/\(∀ b o,I b=some o->I' b=some o)/\M'=[]:=by
 refine cp [3] a4 Tryz.func260 rfl rfl rfl ?_;intro B ay;refine dh.draw a4 rfl rfl rfl ?_;refine fv.mk _ Z6 ?_;rintro v I' M' -⟨rfl,rfl,rfl⟩;refine ft.P0 a4 (e:=62) rfl rfl rfl rfl (by kernel_rfl) ?_;refine a9.mk (λh=>?_) (λh=>?_)
 ·refine⟨_,_,.refl,?_,λ_ _ h=>h,rfl⟩;simp only[ye,h];rfl
 ·refine cJ.mk λg ax zY=>?_;refine bd.mk (fk.new.M g) [] _ (.refl _) (nl g fk.FE 91 (by decide)) ?_;rintro v I' M' -⟨rfl,rfl,s6,ga,JK,rfl⟩;refine bd.mk [] (s6.M g) _ (by simp) (aae ya Cy) ?_;rintro v cT M1 -⟨dg,os,rfl,cC,rfl⟩;have eh:=QN aF a b c d;have ez:ye aF a b c d=[91]++(nn (hO aF 0 [a,b,c,d])).flatMap rX++[93]:=by simp only[ye,h];rfl
  generalize eu:nn (hO aF 0 [a,b,c,d])=bb at *;have aJ:bb.length=os.n:=by have:=cC.len;rw[FK]at this;omega
  refine dI.inv (ι:=Nat×fk) (λp=>{ bn:=[(3,.val (ptr g)),(11,.val os.val),(12,.val (.int .i64 os.n)),(13,.val (.int .i64 p.1))],c2:=cT,dx:=p.2.M g++os.aq 344 }) (λp=>p.1<=os.n/\p.2.ok/\p.2.b8=[91]++(bb.take p.1).flatMap rX) (λp=>os.n-p.1) ?_ ?_;·exact⟨(0,s6),⟨by simp,ga,by simp[JK,fk.new]⟩,.perm (by simpa using ep) .refl,fr,.nil⟩
  ·rintro⟨i,x⟩⟨hi,ab,kZ⟩;simp only at hi ab kZ;have cu:x.b8.length<=1+9*i:=by rw[kZ];have:=CA rX 9 QM (bb.take i);have ad:=zT i bb;simp only[cL,ea,gL];omega
   refine a9.mk (λh=>?_) (λh=>?_)
   ·have aW:i<os.n:=by simpa using h
    have cy:i<bb.length:=by omega
    obtain⟨aV,bU,bB⟩:=aU.ok.row (I:=cT) (M:=x.M g++os.aq 344) (f:=iO) (λ_=>rfl) (by decide) cC (e:=344) (λy aD=>by simp[aD]) cy;refine bu.mk aV i bU rfl aW ?_;refine aZ.mk _ bB ?_;generalize aO:bb[i]=p;refine dP.mk 0 rfl (by decide) ?_;refine bd.mk (x.M g) (os.aq 344) _ (.refl _) (FG g ab p.1 v8 (by omega)) ?_;rintro v I' M' -⟨rfl,y,aD,fV,rfl⟩;have Ct:y.b8.length<=5+9*i:=by rw[fV,cL];have:=Cs p.1 v8;omega
    refine dP.mk 1 rfl (by decide) ?_;refine dP.mk 0 rfl (by decide) ?_;refine bi.mk _ rfl ?_;refine a9.mk (λdS=>?_) (λdS=>?_)
    ·refine bd.mk (y.M g) (os.aq 344) _ (by simp) (nl g aD 45 (by omega)) ?_;rintro v I' M' -⟨rfl,rfl,u,hu,uz,rfl⟩;have QO:u.b8.length<=6+9*i:=by rw[uz];simp;omega
     refine dP.mk 1 rfl (by decide) ?_;refine dP.mk 0 rfl (by decide) ?_;refine a9.mk (λch=>?_) (λch=>?_)
     ·refine dP.mk 1 rfl (by decide) ?_;refine bd.mk (u.M g) (os.aq 344) _ (by simp) (FG g hu p.2 v8 (by omega)) ?_;rintro v I' M' -⟨rfl,z,a',qR,rfl⟩;have fG:IntKind.i64.wrap ((i:Int)+1)=((i+1:Nat):Int):=by rw[wrap_i64 ⟨by omega,by omega⟩];omega
      refine bi.mk _ fG ?_;refine⟨(i+1,z),⟨⟨by simp only;omega,a',?_⟩,by simp only;omega⟩,.perm (by simp) .refl,fr,.nil⟩;simp only;rw[qR,uz,fV,kZ,gD cy,gK,aO];simp[rX,dS,ch]
     ·have fG:IntKind.i64.wrap ((i:Int)+1)=((i+1:Nat):Int):=by rw[wrap_i64 ⟨by omega,by omega⟩];omega
      refine bi.mk _ fG ?_;refine⟨(i+1,u),⟨⟨by simp only;omega,hu,?_⟩,by simp only;omega⟩,.perm (by simp) .refl,fr,.nil⟩;simp only;rw[uz,fV,kZ,gD cy,gK,aO];simp[rX,dS,ch]
    ·refine dP.mk 1 rfl (by decide) ?_;refine dP.mk 0 rfl (by decide) ?_;refine a9.mk (λch=>?_) (λch=>?_)
     ·refine dP.mk 1 rfl (by decide) ?_;refine bd.mk (y.M g) (os.aq 344) _ (by simp) (FG g aD p.2 v8 (by omega)) ?_;rintro v I' M' -⟨rfl,z,a',qR,rfl⟩;have fG:IntKind.i64.wrap ((i:Int)+1)=((i+1:Nat):Int):=by rw[wrap_i64 ⟨by omega,by omega⟩];omega
      refine bi.mk _ fG ?_;refine⟨(i+1,z),⟨⟨by simp only;omega,a',?_⟩,by simp only;omega⟩,.perm (by simp) .refl,fr,.nil⟩;simp only;rw[qR,fV,kZ,gD cy,gK,aO];simp[rX,dS,ch]
     ·have fG:IntKind.i64.wrap ((i:Int)+1)=((i+1:Nat):Int):=by rw[wrap_i64 ⟨by omega,by omega⟩];omega
      refine bi.mk _ fG ?_;refine⟨(i+1,y),⟨⟨by simp only;omega,aD,?_⟩,by simp only;omega⟩,.perm (by simp) .refl,fr,.nil⟩;simp only;rw[fV,kZ,gD cy,gK,aO];simp[rX,dS,ch]
   ·have cV:os.n<=i:=by simpa using h
    have dN:bb.take i=bb:=fT (by omega);refine bd.mk (x.M g) (os.aq 344) _ (.refl _) (nl g ab 93 (by omega)) ?_;rintro v I' M' -⟨rfl,rfl,y,aD,fV,rfl⟩;refine bd.mk (y.M g) (os.aq 344) _ (.refl _) (uy g aD (by rw[fV];simp;omega)) ?_;rintro v I' M' -⟨rfl,rfl,rfl⟩;refine⟨_,_,.sub (gn _) .refl,?_,dg,rfl⟩;rw[fV,kZ,dN,ez];rfl
structure FL(d:an):Prop where
 k:d.k<10
 t:d.t.size<=255
 CB:d.k=6->0<=d.lo/\d.lo<=99/\(d.hi=-1\/(d.lo<=d.hi/\d.hi<=99))
def JL{d:an}{n:Int}(h:fits d n=true):FL d:=by
 unfold fits at h;cases aa:decide (10<=d.k)with
 |true=>rw[aa]at h;cases h
 |false=>
  rw[aa]at h;simp only[b0]at h;have ae:d.k<10:=by simpa using aa
  cases ad:(decide (n<rO d.k.toNat)||(decide (0<=pU d.k.toNat)&&decide (pU d.k.toNat<n)))with
  |true=>rw[ad]at h;cases h
  |false=>
   rw[ad]at h;simp only[b0]at h;have c1:d.t=⟨#[]⟩->d.t.size<=255:=λe=>by rw[e];decide
   cases al:decide (d.k=1)with
   |true=>rw[al]at h;simp only[bZ,b',hk]at h;exact⟨ae,c1 h.1,λe=>by simp at al;omega⟩
   |false=>
    rw[al]at h;simp only[b0]at h;cases aL:decide (d.k=2)with
    |true=>rw[aL]at h;simp only[bZ,b',qC,qN,pM]at h;exact⟨ae,by omega,λe=>by simp at aL;omega⟩
    |false=>
     rw[aL]at h;simp only[b0]at h;cases bG:(decide (d.k=3)||decide (d.k=9))with
     |true=>rw[bG]at h;simp only[bZ,b']at h;refine⟨ae,?_,λe=>by simp at bG;omega⟩;have:=h.1;unfold mK at this;simp only[b',hk]at this;omega
     |false=>
      rw[bG]at h;simp only[b0]at h;cases cr:decide (d.k=6)with
      |true=>
       rw[cr]at h;simp only[bZ,b',hk,qC,qN,pM,Bool.and_eq_false_iff]at h;refine⟨ae,c1 h.2.2,λ_=>?_⟩;obtain⟨⟨a1,ba,b4⟩,_⟩:=h;refine⟨by omega,by omega,?_⟩;rcases b4 with b4 | b4
       ·left
        simpa using b4
       ·right
        omega
      |false=>rw[cr]at h;simp only[b0,b',hk]at h;exact⟨ae,c1 h.2.1,λe=>by simp at cr;omega⟩
def CC:List Value:=[.int .i64 0,.int .i64 1,.string ⟨#[63]⟩,.int .i64 0,.int .i64 (-1),.string ⟨#[42]⟩,.int .i64 1,.int .i64 (-1),.string ⟨#[43]⟩]
def JM(I:aM):Prop:=∃ T ak,I 2=some (.cells CC.toArray T ak)
def yf(lo:Nat)(hi:Int):List UInt8:=
 bif decide (hi=lo)then [123]++lA lo++[125]else
 bif decide (hi=-1)then [123]++lA lo++[44,125]else [123]++lA lo++[44]++lA hi.toNat++[125]
def qV(lo:Nat)(hi:Int):List UInt8:=
 bif decide ((0:Int)=lo)&&decide (1=hi)then [63]else
 bif decide ((0:Int)=lo)&&decide (-1=hi)then [42]else
 bif decide ((1:Int)=lo)&&decide (-1=hi)then [43]else yf lo hi
def aaj(lo:Nat)(hi:Int):(yf lo hi).length<=7:=by
 have aa:=Cu lo;have ad:=Cu hi.toNat;unfold yf;cases decide (hi=lo)<;>cases decide (hi=-1)<;>simp<;>omega
def aak(lo:Nat)(hi:Int):(qV lo hi).length<=7:=by
 have aa:=aaj lo hi;unfold qV;cases(decide ((0:Int)=lo)&&decide (1=hi))<;>cases(decide ((0:Int)=lo)&&decide (-1=hi))<;>cases(decide ((1:Int)=lo)&&decide (-1=hi))<;>simp<;>omega
def QP(n:Nat):(vX n).size<=2:=Cu n
def n6(lo hi:Int):an:=⟨6,0,0,0,0,⟨#[]⟩,lo,hi,none,0,0,[]⟩
def aal{lo:Nat}{hi:Int}(dG:lo<=99)(fO:hi=-1\/((lo:Int)<=hi/\hi<=99)):fits (n6 lo hi) 1=true:=by
 have aA:rO 6=1:=by decide
 have a0:pU 6=1:=by decide
 rcases fO with rfl | ⟨aa,ad⟩
 ·simp[fits,n6,aA,a0,an.o0];exact⟨eU (by omega),eU (by omega)⟩
 ·simp[fits,n6,aA,a0,an.o0];exact⟨eU (by omega),eU (by omega),.inr ⟨eU (by omega),eU (by omega)⟩⟩
def aam(a b:List UInt8):strOf a++strOf b=strOf (a++b):=by apply z0;simp[strOf]
def ft.v9{t:Nat}{a b:List UInt8}(ar:a.length+b.length<=9223372036854775807){V:Value->Prop}{other:Prop}(h:V (.string (strOf (a++b)))):ft P .add t x y (.val (.string (strOf a))) (.val (.string (strOf b))) V other:=
 ft.concat (a:=strOf a) (b:=strOf b) ar (by rw[aam];exact h)
def aan(au:oZ I)(aO:JM I)(lo:Nat)(hi:Int)(dG:lo<=99)(fO:hi=-1\/((lo:Int)<=hi/\hi<=99)):Spec Tryz.prog 261 [.int .i64 lo,.int .i64 hi] I []
  λr I' M'=>r=.string (strOf (qV lo hi))/\I'=I/\M'=[]:=by
 refine cp [] a4 Tryz.func261 rfl rfl rfl ?_;intro B ay;have bo:(n6 lo hi).ok I:=⟨by simp[n6],by simp[n6,gb],by simp[n6,gb],by simp[n6,gb],by simp[n6,gb],by show(0:Nat)<=_;omega,⟨by simp only[n6];omega,by simp only[n6];omega⟩,⟨by simp only[n6];omega,by simp only[n6];omega⟩,⟨rfl,⟨cI _,by simp[n6]⟩,.inl rfl⟩,by simp[n6]⟩;refine bd.mk [] [] _ (.refl _) (Js au bo 1) ?_;rintro v I' M' -⟨rfl,rfl,rfl⟩;rw[aal dG fO];refine a9.mk (λh=>by cases h) (λ_=>?_);have bB:c7 I' ([]++[]) ⟨2,0,none⟩ 9 CC:=by obtain⟨T,ak,aO⟩:=aO;exact⟨rfl,_,T,ak,.inl aO,rfl,rfl⟩
 refine aZ.mk _ bB ?_;refine dI.inv (ι:=Nat) (λi=>{ bn:=[(0,.val (.int .i64 lo)),(1,.val (.int .i64 hi)),(12,.val (.agg CC.toArray)),(13,.val (.int .i64 i))],c2:=I' }) (λi=>i<=3/\(1<=i->(decide ((0:Int)=lo)&&decide (1=hi))=false)/\(2<=i->(decide ((0:Int)=lo)&&decide (-1=hi))=false)/\(3<=i->(decide ((1:Int)=lo)&&decide (-1=hi))=false)) (λi=>3-i) ?_ ?_
 ·exact⟨0,⟨by simp,by simp,by simp,by simp⟩,.refl,fr,.nil⟩
 ·rintro i⟨ik,db,m2,aao⟩
  match i,ik with
  |0,_=>
   refine a9.mk (λ_=>?_) (λh=>by simp at h);refine dP.mk 0 rfl (by decide) ?_;have next:(decide ((0:Int)=lo)&&decide (1=hi))=false->(((0+1:Nat)<=3/\(1<=(0+1:Nat)->(decide ((0:Int)=lo)&&decide (1=hi))=false)/\(2<=(0+1:Nat)->(decide ((0:Int)=lo)&&decide (-1=hi))=false)/\(3<=(0+1:Nat)->(decide ((1:Int)=lo)&&decide (-1=hi))=false))/\3-(0+1)<3-0):=λh=>by
    refine⟨⟨by simp,λ_=>?_,λcK=>?_,λcK=>?_⟩,by simp⟩;·exact h
    ·simp at cK
    ·simp at cK
   refine cP.mk (λa1=>?_) (λa1=>?_)
   ·refine a9.mk (λba=>?_) (λba=>?_)
    ·refine⟨_,_,.refl,?_,rfl,rfl⟩;have:qV lo hi=[63]:=by unfold qV;rw[a1,ba];rfl
     rw[this];rfl
    ·refine bi.mk 1 (by decide) ?_;exact⟨1,next (by rw[a1,ba];rfl),.refl,fr,.nil⟩
   ·refine bi.mk 1 (by decide) ?_;exact⟨1,next (by rw[a1];rfl),.refl,fr,.nil⟩
  |1,_=>
   refine a9.mk (λ_=>?_) (λh=>by simp at h);refine dP.mk 1 rfl (by decide) ?_;have next:(decide ((0:Int)=lo)&&decide (-1=hi))=false->(((1+1:Nat)<=3/\(1<=(1+1:Nat)->(decide ((0:Int)=lo)&&decide (1=hi))=false)/\(2<=(1+1:Nat)->(decide ((0:Int)=lo)&&decide (-1=hi))=false)/\(3<=(1+1:Nat)->(decide ((1:Int)=lo)&&decide (-1=hi))=false))/\3-(1+1)<3-1):=λh=>by
    refine⟨⟨by simp,λ_=>?_,λcK=>?_,λcK=>?_⟩,by simp⟩;·exact db (by decide)
    ·exact h
    ·simp at cK
   refine cP.mk (λa1=>?_) (λa1=>?_)
   ·refine a9.mk (λba=>?_) (λba=>?_)
    ·refine⟨_,_,.refl,?_,rfl,rfl⟩;have:qV lo hi=[42]:=by unfold qV;rw[db (by decide),a1,ba];rfl
     rw[this];rfl
    ·refine bi.mk 2 (by decide) ?_;exact⟨2,next (by rw[a1,ba];rfl),.refl,fr,.nil⟩
   ·refine bi.mk 2 (by decide) ?_;exact⟨2,next (by rw[a1];rfl),.refl,fr,.nil⟩
  |2,_=>
   refine a9.mk (λ_=>?_) (λh=>by simp at h);refine dP.mk 2 rfl (by decide) ?_;have next:(decide ((1:Int)=lo)&&decide (-1=hi))=false->(((2+1:Nat)<=3/\(1<=(2+1:Nat)->(decide ((0:Int)=lo)&&decide (1=hi))=false)/\(2<=(2+1:Nat)->(decide ((0:Int)=lo)&&decide (-1=hi))=false)/\(3<=(2+1:Nat)->(decide ((1:Int)=lo)&&decide (-1=hi))=false))/\3-(2+1)<3-2):=λh=>by
    refine⟨⟨by simp,λ_=>?_,λcK=>?_,λcK=>?_⟩,by simp⟩;·exact db (by decide)
    ·exact m2 (by decide)
    ·exact h
   refine cP.mk (λa1=>?_) (λa1=>?_)
   ·refine a9.mk (λba=>?_) (λba=>?_)
    ·refine⟨_,_,.refl,?_,rfl,rfl⟩;have:qV lo hi=[43]:=by unfold qV;rw[db (by decide),m2 (by decide),a1,ba];rfl
     rw[this];rfl
    ·refine bi.mk 3 (by decide) ?_;exact⟨3,next (by rw[a1,ba];rfl),.refl,fr,.nil⟩
   ·refine bi.mk 3 (by decide) ?_;exact⟨3,next (by rw[a1];rfl),.refl,fr,.nil⟩
  |3,_=>
   refine a9.mk (λh=>by simp at h) (λ_=>?_);have aA:=db (by decide);have a0:=m2 (by decide);have bY:=aao (by decide);have il:qV lo hi=yf lo hi:=by unfold qV;rw[aA,a0,bY];rfl
   rw[il];have uC:=QP lo;have xG:=QP hi.toNat;have uC:=Cu lo;refine a9.mk (λh=>?_) (λh=>?_);·refine bd.mk [] [] _ (.refl _) (FI lo (by omega)) ?_;rintro v I' M' -⟨rfl,rfl,rfl⟩;refine ft.v9 (a:=[123]) (b:=lA lo) (by simp;omega) ?_;refine ft.v9 (a:=[123]++lA lo) (b:=[125]) (by simp;omega) ?_;refine⟨_,_,.refl,?_,rfl,rfl⟩;rw[yf,h];rfl
   ·refine a9.mk (λk=>?_) (λk=>?_)
    ·refine bd.mk [] [] _ (.refl _) (FI lo (by omega)) ?_;rintro v I' M' -⟨rfl,rfl,rfl⟩;refine ft.v9 (a:=[123]) (b:=lA lo) (by simp;omega) ?_;refine ft.v9 (a:=[123]++lA lo) (b:=[44,125]) (by simp;omega) ?_;refine⟨_,_,.refl,?_,rfl,rfl⟩;rw[yf,h,k];rfl
    ·refine bd.mk [] [] _ (.refl _) (FI lo (by omega)) ?_;rintro v I' M' -⟨rfl,rfl,rfl⟩;have ae:hi≠-1:=by simpa using k
     obtain⟨aJ,rfl⟩:=eN (show 0<=hi by omega);have xG:=Cu aJ;refine ft.v9 (a:=[123]) (b:=lA lo) (by simp;omega) ?_;refine ft.v9 (a:=[123]++lA lo) (b:=[44]) (by simp;omega) ?_;refine bd.mk [] [] _ (.refl _) (FI aJ (by omega)) ?_;rintro v I' M' -⟨rfl,rfl,rfl⟩;refine ft.v9 (a:=[123]++lA lo++[44]) (b:=lA aJ) (by simp;omega) ?_;refine ft.v9 (a:=[123]++lA lo++[44]++lA aJ) (b:=[125]) (by simp;omega) ?_;refine⟨_,_,.refl,?_,rfl,rfl⟩;rw[yf,h,k];rfl
def rY:List (List UInt8):=[[],[],[],[],[],[],[],[],[],[],[],[],[],[32],[],[],[32,47,32],[],[],[],[],[38],[],[],[33],[],[],[60],[],[62]]
def pX(j:Nat):List UInt8:=rY.getD j []
def CD(I:aM):Prop:=∃ T ak,I 1=some (.cells (rY.map λl=>Value.string (strOf l)).toArray T ak)
def CD.rd(h:CD I)(M:List aE)(ai:i+j<30):c7 I M ((Addr.add ⟨1,0,none⟩ i).add j) 1 [.string (strOf (pX (i+j)))]:=by
 obtain⟨T,ak,h⟩:=h;rw[v7,dY _ rfl];refine⟨rfl,_,T,ak,.inl h,?_,rfl⟩;have aa:i+j<(rY.map λl=>Value.string (strOf l)).length:=by simp[rY];omega
 have ad:i+j<rY.length:=by simp[rY];omega
 simp only[c9];rw[e6 aa,oN,nS];simp[pX,cv,ad]
def CE(j:Nat):(pX j).length<=3:=by
 by_cases h:j<30
 ·have:∀ j:Fin 30,(pX j.val).length<=3:=by decide
  exact this ⟨j,h⟩
 ·have:rY.length<=j:=by simp[rY];omega
  simp[pX,cv,this]
def o6(aF:List Int)(d:an):List UInt8:=
 bif decide (d.k=0)||decide (d.k=2)then Cz d.t else
 bif decide (d.k=1)then ye aF d.b3 d.s1 d.s2 d.cm else
 bif decide (d.k=3)then d.t.data.toList else
 bif decide (d.k=9)then pX 27++d.t.data.toList++[58,32]else pX (d.k.toNat*3)
def nq(d:an):List UInt8:=bif decide (d.k=6)then qV d.lo.toNat d.hi else pX (d.k.toNat*3+2)
def aap(s:ByteArray):strOf s.data.toList=s:=z0 (by simp[strOf])
def JN(au:oZ I)(aO:JM I)(FM:CD I){d:an}(aj:d.ok I)(az:FL d):Spec Tryz.prog 233 [d.val] I [] λr I' M'=>r=.string (strOf (nq d))/\I'=I/\M'=[]:=by
 refine cp [] a4 Tryz.func233 rfl rfl rfl ?_;intro B ay;refine a9.mk (λh=>?_) (λh=>?_)
 ·obtain⟨a1,ba,b4⟩:=az.CB (by simpa using h);have aA:d.lo=((d.lo.toNat:Nat):Int):=by omega
  have lq:=aan au aO d.lo.toNat d.hi (by omega) (by omega);rw[<-aA]at lq;refine bd.mk [] [] _ (.refl _) lq ?_;rintro v I' M' -⟨rfl,rfl,rfl⟩;refine⟨_,_,.refl,?_,rfl,rfl⟩;simp only[nq,h];rfl
 ·have ae:=aj.k;have v5:=az.k;refine dP.mk d.k.toNat (by omega) (by omega) ?_;refine aZ.mk _ (FM.rd _ (by show d.k.toNat*3+2<30;omega)) ?_;refine⟨_,_,.refl,?_,rfl,rfl⟩;simp only[nq,h];rfl
def QQ(ya:pW I aF)(FM:CD I){d:an}(aj:d.ok I)(az:FL d):Spec Tryz.prog 231 [d.val] I []
  λr I' M'=>r=.string (strOf (o6 aF d))/\(∀ b o,I b=some o->I' b=some o)/\M'=[]:=by
 refine cp [] a4 Tryz.func231 rfl rfl rfl ?_;intro B ay;have ae:=aj.k;have v5:=az.k;have aw:=az.t;have lit:(decide (d.k=0)||decide (d.k=2))=true->o6 aF d=Cz d.t:=λh=>by simp only[o6,h];rfl
 refine a9.mk (λaa=>?_) (λaa=>?_)
 ·refine a9.mk (λ_=>?_) (λh=>by rw[aa]at h;cases h);refine bd.mk [] [] _ (.refl _) (QL d.t (by omega)) ?_;rintro v I' M' -⟨rfl,rfl,rfl⟩;refine⟨_,_,.refl,?_,λ_ _ h=>h,rfl⟩;rw[lit (by rw[aa];rfl)]
 ·refine a9.mk (λad=>?_) (λad=>?_)
  ·refine bd.mk [] [] _ (.refl _) (QL d.t (by omega)) ?_;rintro v I' M' -⟨rfl,rfl,rfl⟩;refine⟨_,_,.refl,?_,λ_ _ h=>h,rfl⟩;rw[lit (by rw[ad];simp)]
  ·refine a9.mk (λal=>?_) (λal=>?_)
   ·refine bd.mk [] [] _ (.refl _) (aai ya (a:=d.b3) (b:=d.s1) (c:=d.s2) (d:=d.cm) (λx ab=>by
     simp only[dW,List.not_mem_nil,or_false]at ab;rcases ab with rfl | rfl | rfl | rfl;·exact aj.b3
     ·exact aj.s1
     ·exact aj.s2
     ·exact aj.cm)) ?_
    rintro v I' M' -⟨rfl,bC,rfl⟩;refine⟨_,_,.refl,?_,bC,rfl⟩;simp only[o6,aa,ad,al];rfl
   ·refine a9.mk (λaL=>?_) (λaL=>?_)
    ·refine⟨_,_,.refl,?_,λ_ _ h=>h,rfl⟩;simp only[o6,aa,ad,al,aL];rw[<-aap d.t];rfl
    ·refine a9.mk (λbG=>?_) (λbG=>?_)
     ·have aaq:d.k=9:=by simpa using bG
      refine dh.draw a4 rfl rfl rfl ?_;refine dP.mk 9 aaq (by decide) ?_;refine aZ.mk _ (FM.rd _ (by decide)) ?_;have fc:(strOf (pX 27)).size=1:=by decide
      refine ft.concat (a:=strOf (pX 27)) (b:=d.t) (by omega) ?_;refine ft.concat (a:=strOf (pX 27)++d.t) (b:=strOf [58,32]) (by rw[Fy];show _+2<=_;omega) ?_;refine⟨_,_,.refl,?_,λ_ _ h=>h,rfl⟩;simp only[o6,aa,ad,al,aL,bG];refine congrArg Value.string (z0 ?_);simp[strOf]
     ·refine dP.mk d.k.toNat (by omega) (by omega) ?_;refine aZ.mk _ (FM.rd _ (by show d.k.toNat*3+0<30;omega)) ?_;refine⟨_,_,.refl,?_,λ_ _ h=>h,rfl⟩;simp only[o6,aa,ad,al,aL,bG];rfl
def ho(ns:List an)(k:Int):Int:=(ns.map (·.k)).getD k.toNat 0
def paren(w:Bool)(s:List UInt8):List UInt8:=(bif w then [40]else [])++(s++(bif w then [41]else []))
def rZ(sep:List UInt8)(f:Int->List UInt8):Bool->List Int->List UInt8
 |_,[]=>[]| b,k::ks=>(bif b then sep else [])++(f k++rZ sep f true ks)
def z4(d:an):List UInt8:=pX (d.k.toNat*3+1)
def z5(aF:List Int)(ns:List an)(d:an)(g:Int->List UInt8):List UInt8:=
 o6 aF d++(rZ (z4 d) (λk=>paren (gN d.k (ho ns k)) (g k)) false d.ap++nq d)
def jv(aF:List Int)(ns:List an):Int->List UInt8:=gM [] (z5 aF ns) ns
def lH(aF:List Int)(t:bw):List UInt8:=bif right t then jv aF t.ns t.bm else []
def QR{sep:List UInt8}{f g:Int->List UInt8}:∀ {ks:List Int} {b:Bool},(∀ k∈ks,f k=g k)->rZ sep f b ks=rZ sep g b ks
 |[],b,_=>rfl| k::ks,b,h=>by unfold rZ;rw[h k (by simp),QR λx ab=>h x (by simp[ab])]
def QS(af:right t=true)(ai:j<t.ns.length):jv aF t.ns j=z5 aF t.ns t.ns[j] (jv aF t.ns):=by refine ux (λd g cN h=>?_) af ai;unfold z5;rw[QR λk ae=>by rw[h k ae]]
def aar(w:Bool)(s:List UInt8):(paren w s).length<=s.length+2:=by cases w<;>simp[paren]
def QT{sep:List UInt8}{f:Int->List UInt8}(ar:sep.length<=3){g:Int->Nat}(az:∀ k,(f k).length+3<=g k):∀ {ks:List Int} {b:Bool},(rZ sep f b ks).length<=fz g ks
 |[],b=>by simp[rZ,fz]
 |k::ks,b=>by
  have aa:=QT ar az (ks:=ks) (b:=true);have ad:=az k;unfold rZ;simp only[cL,fz,cc,jb]at aa |-;cases b<;>simp<;>omega
def JO(aF:List Int){d:an}(az:FL d):(o6 aF d).length<=2400:=by
 have aa:(Cz d.t).length<=2+4*d.t.size:=by have:=CA (mO · yd) 4 (λc=>Cs c yd) d.t.data.toList;have ad:d.t.data.toList.length=d.t.size:=rfl;simp only[Cz,cL,ea,gL];omega
 have ad:=aah aF d.b3 d.s1 d.s2 d.cm;have al:=az.t;have aL:=CE 27;have bG:=CE (d.k.toNat*3);have cr:d.t.data.toList.length=d.t.size:=rfl;unfold o6;cases(decide (d.k=0)||decide (d.k=2))<;>cases decide (d.k=1)<;>cases decide (d.k=3)<;>cases decide (d.k=9)<;>simp only[bZ,b0,cL,ea,gL]<;>omega
def FN(d:an):(nq d).length<=7:=by
 have aa:=aak d.lo.toNat d.hi;have ad:=CE (d.k.toNat*3+2);unfold nq;cases decide (d.k=6)<;>simp only[bZ,b0]<;>omega
def FO{α:Type}(c:Nat):∀ l:List α,(l.map λ_=>c).sum=c*l.length
 |[]=>by simp
 |x::l=>by rw[cc,jb,FO c l,ea,Nat.mul_add];omega
def QU(af:right t=true):(jv aF t.ns t.bm).length+5<=2412*t.ns.length:=by
 have h:=JC af (g:=λk=>(jv aF t.ns k).length+5) (c:=λ_=>2412) λj ai=>by rw[QS af ai];have aa:=JO aF (JL (zX af ai));have ad:=FN t.ns[j];have al:=QT (sep:=z4 t.ns[j]) (CE _) (f:=λk=>paren (gN t.ns[j].k (ho t.ns k)) (jv aF t.ns k)) (g:=λk=>(jv aF t.ns k).length+5) (λk=>by have:=aar (gN t.ns[j].k (ho t.ns k)) (jv aF t.ns k);omega) (ks:=t.ns[j].ap) (b:=false);unfold z5;simp only[cL];omega
 rw[FO]at h;exact h
def QV(aF:List Int)(t:bw):(lH aF t).length<=2412*t.ns.length:=by
 unfold lH;cases af:right t with
 |false=>simp| true=>have:=QU (aF:=aF) af;simp only[bZ];omega
abbrev Open:=Nat×Nat×Bool
def lI(e:Open):List Value:=[.int .i64 e.1,.int .i64 e.2.1,.bool e.2.2]
def nodeAt(ns:List an)(j:Nat):an:=ns.getD j ⟨0,0,0,0,0,.empty,0,0,none,0,0,[]⟩
def JP(aF:List Int)(ns:List an)(d:an)(k:Int):List UInt8:=paren (gN d.k (ho ns k)) (jv aF ns k)
def mP(aF:List Int)(ns:List an)(e:Open):List UInt8:=bif decide ((e.2.1:Int)=0)then(bif e.2.2 then [40]else [])++o6 aF (nodeAt ns e.1)else []
def r0(aF:List Int)(ns:List an)(e:Open):List UInt8:=
 mP aF ns e++(rZ (z4 (nodeAt ns e.1)) (JP aF ns (nodeAt ns e.1)) (decide (0<(e.2.1:Int))) ((nodeAt ns e.1).ap.drop e.2.1)++(nq (nodeAt ns e.1)++(bif e.2.2 then [41]else [])))
def v'(ns:List an):Int->Nat:=gM 0 (λd g=>2+fz g d.ap) ns
def l6(ns:List an)(e:Open):Nat:=1+fz (v' ns) ((nodeAt ns e.1).ap.drop e.2.1)
def tg(ns:List an)(aN:List Open):Nat:=(aN.map (l6 ns)).sum
def r1(aF:List Int)(ns:List an)(aN:List Open):List UInt8:=aN.reverse.flatMap (r0 aF ns)
def yg(aF:List Int)(ns:List an)(aN:List Open)(e:Open):r1 aF ns (aN++[e])=r0 aF ns e++r1 aF ns aN:=by simp[r1]
def pY(ns:List an)(aN:List Open)(e:Open):tg ns (aN++[e])=tg ns aN+l6 ns e:=by simp[tg]
def QW(ns:List an):∀ aN:List Open,aN.length<=tg ns aN
 |[]=>by simp
 |e::aN=>by have:=QW ns aN;simp only[tg,cc,jb,ea,l6]at this |-;omega
def gf{ns:List an}(h:j<ns.length):nodeAt ns j=ns[j]:=by simp[nodeAt,cv,h]
def QX{g cN:Int->Nat}{ks:List Int}(h:∀ k∈ks,g k=cN k):fz g ks=fz cN ks:=by unfold fz;rw[fy h]
def QY(af:right t=true)(ai:j<t.ns.length):v' t.ns j=2+fz (v' t.ns) t.ns[j].ap:=
 ux (λd g cN h=>by rw[QX h]) af ai
def aas(af:right t=true):v' t.ns t.bm<=2*t.ns.length:=by
 have:=JC af (g:=v' t.ns) (c:=λ_=>2) λj ai=>by rw[QY af ai];exact cI _
 rwa [FO]at this
def QZ(af:right t=true)(ai:j<t.ns.length)(w:Bool):r0 aF t.ns (j,0,w)=paren w (jv aF t.ns j):=by rw[QS af ai];simp only[r0,mP,gf ai];cases w<;>simp[paren,z5,JP]<;>rfl
def Q0(af:right t=true)(ai:j<t.ns.length)(w:Bool):l6 t.ns (j,0,w)+1=v' t.ns j:=by rw[QY af ai];simp[l6,gf ai];omega
def JQ(af:right t=true)(ai:j<t.ns.length)(hi:i<t.ns[j].ap.length) :
  r0 aF t.ns (j,i,w)=mP aF t.ns (j,i,w)++((bif decide (0<(i:Int))then z4 t.ns[j]else [])++(r0 aF t.ns (t.ns[j].ap[i].toNat,0,gN t.ns[j].k (ho t.ns t.ns[j].ap[i]))++r0 aF t.ns (j,i+1,w))):=by
 have ae:=jX af j ai _ (b9 hi);rw[QZ af (by omega)];have aA:(((t.ns[j].ap[i].toNat:Nat):Int))=t.ns[j].ap[i]:=tc ae.1;rw[aA];have aj:=e6 hi;simp only[r0,gf ai];rw[aj];have a0:mP aF t.ns (j,i+1,w)=[]:=by have:decide (((i+1:Nat):Int)=0)=false:=eU (by omega);simp only[mP,this,b0]
 have bY:decide (0<((i+1:Nat):Int))=true:=h6 (by omega);rw[a0,bY];simp only[rZ,JP,fi,jq]
def JR(af:right t=true)(ai:j<t.ns.length){w':Bool}(hi:i<t.ns[j].ap.length):l6 t.ns (j,i+1,w)+l6 t.ns (t.ns[j].ap[i].toNat,0,w')+1=l6 t.ns (j,i,w):=by
 have ae:=jX af j ai _ (b9 hi);have aa:=Q0 af (j:=t.ns[j].ap[i].toNat) (by omega) w';have aA:(((t.ns[j].ap[i].toNat:Nat):Int))=t.ns[j].ap[i]:=tc ae.1;rw[aA]at aa;have aj:=e6 hi;have bY:l6 t.ns (j,i,w)=1+fz (v' t.ns) (t.ns[j].ap.drop i):=by simp[l6,gf ai]
 have dE:l6 t.ns (j,i+1,w)=1+fz (v' t.ns) (t.ns[j].ap.drop (i+1)):=by simp[l6,gf ai]
 rw[bY,dE,aj];simp only[fz,cc,jb];omega
def JS(ai:j<t.ns.length)(hi:t.ns[j].ap.length<=i):r0 aF t.ns (j,i,w)=mP aF t.ns (j,i,w)++(nq t.ns[j]++(bif w then [41]else [])):=by simp only[r0,gf ai,ls hi];rfl
def JT{d:Nat}{x:dd}(h:F d=x):fM F d x=F:=by
 funext t;unfold fM;cases e:Nat.beq t d with
 |false=>rfl| true=>have:=dr e;subst this;exact h.symm
def aat{d:Nat}{x:Option (List Value)}(h:C d=x):hX C d x=C:=by
 funext t;unfold hX;cases e:Nat.beq t d with
 |false=>rfl| true=>have:=dr e;subst this;exact h.symm
def FP:Code->Code
 | .scope c=>c
 | .seq a b=>match FP a with
  | .skip=>FP b| c=>c
 |_=>.skip
def Q1(c:Code)(l:Nat):Code:=(findLabel c l).getD .skip
def cn.v7{M:List aE}{vs:List Value}{K:List aE->Prop}(a5 post:List aE)(cs:Array Value)(T:Nat)(a3:M=a5++⟨b,.cells cs T (0,0)⟩::post)(ah:i+j+vs.length<=cs.size)(aa:fN vs=true)
  (h:K (a5++⟨b,.cells (bQ cs.toList (i+j) vs).toArray T (0,0)⟩::post)):cn M (((⟨b,0,none⟩:Addr).add i).add j) vs K:=by
 rw[Go.V.v7];refine cn.add a5 post cs T a3 (by omega) aa ?_;rw[c9];exact h
structure gg(I:aM)(aF:List Int):Prop where
 c:oZ I
 p:JM I
 s:CD I
 d:pW I aF
def JU(a b c:α)(L:List α):(a::b::(L++[c])).Perm ([b,c]++(a::L)):=
 (List.Perm.swap b a _).trans (((((List.perm_append_singleton c L).cons a)).trans (List.Perm.swap c a L)).cons b)
def JV(a5:List Value)(a b c z:Value)(bc:List Value):bQ (a5++([a,b,c]++bc)) (a5.length+1) [z]=a5++([a,z,c]++bc):=by have:=QJ a5 a b z (c::bc) _ rfl;exact this
def gg.mono{I':aM}(h:gg I aF)(bC:∀ b o,I b=some o->I' b=some o):gg I' aF:=by obtain⟨⟨aau,f1,aa⟩,⟨yh,f2,ad⟩,⟨aav,f3,al⟩,⟨aL,bG,JW,f4,cr⟩⟩:=h;exact⟨⟨aau,f1,bC _ _ aa⟩,⟨yh,f2,bC _ _ ad⟩,⟨aav,f3,bC _ _ al⟩,⟨aL,bG,JW,f4,bC _ _ cr⟩⟩
def nr(aN:List Open):List Value:=aN.flatMap lI
def CF(aN:List Open):(nr aN).length=aN.length*3:=hM lI 3 (λ_=>rfl) aN
def yi(aN:List Open)(e:Open):nr (aN++[e])=nr aN++[.int .i64 e.1,.int .i64 e.2.1,.bool e.2.2]:=by simp[nr,lI]
abbrev CG:=fk×aU×List Open×aM
def Q2(t:bw)(g:Nat)(x:CG):ud:={ bn:=[(1,.ref 1 0),(3,.val (ptr g)),(4,.val x.2.1.val)],cl:=[(1,t.cells)],c2:=x.2.2.2,dx:=x.2.1.aq 285++x.1.M g }
structure FQ(dj:aM)(aF:List Int)(t:bw)(x:CG):Prop where
 le:∀ b o,dj b=some o->x.2.2.2 b=some o
 ok:x.1.ok
 os:x.2.1.ok 3 (nr x.2.2.1)
 ne:x.2.2.1≠[]
 alm:∀ e∈x.2.2.1,e.1<t.ns.length
 aln:x.1.b8++r1 aF t.ns x.2.2.1=jv aF t.ns t.bm
 alo:tg t.ns x.2.2.1<=2*t.ns.length
def Q3{dj:aM}(bl:gg dj aF)(aw:t.ok dj)(af:right t=true)(aJ:t.n<=1024){p:Nat->Nat×CG->Prop}(x:CG)(ab:FQ dj aF t x)(aO:∀ y,FQ dj aF t y->tg t.ns y.2.2.1<tg t.ns x.2.2.1->p 0 (g,y))(B:Nat)(ay:World)(G:Fr)(yj:dp) :
  V ⟨Tryz.prog,pT,[3],Tryz.f191.ntmps,B,ay,dj,[],none⟩ (Q1 (FP (Tryz.f191.body.getD .skip)) 0) (fM (fM (fM G 4 (.val x.2.1.val)) 3 (.val (ptr g))) 1 (.ref 1 0)) (hX yj 1 (some t.cells)) x.2.2.2 (x.2.1.aq 285++x.1.M g)
   (I6 (λl=>nO [] (λy=>Q2 t y.1 y.2) (p l)) (sU ⟨Tryz.prog,pT,[3],Tryz.f191.ntmps,B,ay,dj,[],none⟩ Tryz.f191.results.toList
    (λr I' M'=>r=.string (strOf (jv aF t.ns t.bm))/\(∀ b o,dj b=some o->I' b=some o)/\M'=[]))):=by
 obtain⟨x,⟨yc,n,ew,aS⟩,aN,cT⟩:=x;obtain⟨bg,CH,cC,bs,dy,l7,Q4⟩:=ab;simp only at bg CH cC bs dy l7 Q4 aO |-;have o7:=bl.mono bg;have nt:=aw.mono bg;have oW:=aw.n;obtain⟨g5,⟨j,i,w⟩,rfl⟩:∃ g5 e,aN=g5++[e]:=by
  rcases x5 aN with h | ⟨r,e,h⟩;·exact(bs h).elim
  ·exact⟨r,e,by simpa using h⟩
 have hp:g5.length+1=n:=by have aa:=cC.len;rw[CF]at aa;simp at aa;omega
 have ai:j<t.ns.length:=dy (j,i,w) (by simp);have jL:j<t.n:=by omega
 cases yc with
 |none=>have:=(cC.nil rfl).1;simp only at this;omega| some cj=>
 obtain⟨ez,l4,kX,dJ⟩:=cC.cap cj rfl;simp only at ez l4 kX dJ;have hy:(nr g5).length=(n-1)*3:=by rw[CF];omega
 obtain⟨bc,lF⟩:∃ bc,aS=nr g5++([.int .i64 j,.int .i64 i,.bool w]++bc):=by refine⟨aS.drop (n*3),?_⟩;have ad:=qM (n*3) aS;rw[dJ,yi,fi]at ad;exact ad.symm
 have aaw:aS[(n-1)*3+0]?=some (.int .i64 j):=by rw[lF,<-hy,jW (by omega)];simp
 have pZ:aS[(n-1)*3+1]?=some (.int .i64 i):=by rw[lF,<-hy,jW (by omega)];simp
 have FR:aS[(n-1)*3+2]?=some (.bool w):=by rw[lF,<-hy,jW (by omega)];simp
 have wa:=QU (aF:=aF) af;have l5:x.b8.length<=2412*t.ns.length:=by have:=congrArg List.length l7;rw[cL]at this;omega
 have Q5:=QW t.ns (g5++[(j,i,w)]);simp only[cL,ea,gL]at Q5;have fS:=nt.ns t.ns[j] (b9 ai);have e':=fS.aT;have oF:=JL (zX af ai);obtain⟨aV,bU,bB⟩:=nt.bb.row an.da jL ai;rw[yg]at l7;rw[pY]at Q4 aO Q5;have wb:IntKind.i64.wrap ((n:Int)-1)=((n-1:Nat):Int):=by rw[wrap_i64 ⟨by omega,by omega⟩];omega
 refine bi.mk (((n-1:Nat)):Int) wb ?_;refine bu.mk ⟨cj,0,none⟩ (n-1) rfl rfl (by show n-1<n;omega) ?_;refine dh.draw a4 rfl rfl rfl ?_;refine aZ.mk [.int .i64 j] (lD (b:=cj) (cs:=aS) (T:=285) (by simp[aU.aq]) aaw) ?_;refine bu.mk aV j bU rfl jL ?_;refine aZ.mk _ (bB _) ?_;refine cJ.mk λb6 JX Q6=>?_;refine cn.mk [] (⟨cj,.cells aS.toArray 285 (0,0)⟩::x.M g) _ _ rfl rfl (bH rfl) rfl ?_;refine aZ.mk [.int .i64 i] (lD (b:=cj) (cs:=aS) (T:=285) (by simp[aU.aq]) pZ) ?_;refine a9.mk (λaa=>?_) (λaa=>?_)
 ·refine aZ.mk [.bool w] (lD (b:=cj) (cs:=aS) (T:=285) (by simp[aU.aq]) FR) ?_;refine a9.mk (λad=>?_) (λad=>?_)
  ·refine bd.mk (x.M g) [⟨b6,.cells t.ns[j].cells.toArray 66 (0,0)⟩,⟨cj,.cells aS.toArray 285 (0,0)⟩] _ (ep (l₁:=[_,_])) (nl g CH 40 (by omega)) ?_;rintro v eE dB -⟨rfl,rfl,y,aD,fV,rfl⟩;have Ct:y.b8.length<=2412*t.ns.length+1:=by rw[fV];simp;omega
   refine aZ.mk _ (cX (T:=66) (b:=b6) (cs:=t.ns[j].cells) (k:=0) (n:=9) (by simp) (bH rfl)) ?_;refine bd.mk [] (y.M g++[⟨b6,.cells t.ns[j].cells.toArray 66 (0,0)⟩,⟨cj,.cells aS.toArray 285 (0,0)⟩]) _ (by simp) (QQ o7.d o7.s fS oF) ?_;rintro v eE dB -⟨rfl,gd,rfl⟩;have l8:∀ b o,dj b=some o->eE b=some o:=λb o h=>gd _ _ (bg _ _ h);have z6:=JO aF oF;refine bd.mk (y.M g) [⟨b6,.cells t.ns[j].cells.toArray 66 (0,0)⟩,⟨cj,.cells aS.toArray 285 (0,0)⟩] _ (by simp) (rS g aD _ (by show _+(o6 aF t.ns[j]).length<=_;omega)) ?_;rintro v ki s9 -⟨rfl,rfl,u,hu,uz,rfl⟩;have p0:u.b8=x.b8++mP aF t.ns (j,i,w):=by rw[uz,fV];simp only[mP,aa,ad,gf ai,bZ,b0];simp[strOf]
   have QO:u.b8.length<=2412*t.ns.length+2401:=by rw[p0,cL];simp only[mP,aa,ad,gf ai,bZ,b0,cL,ea,gL];omega
   have jZ:=bl.mono l8;have n7:=aw.mono l8;have o8:=n7.ns t.ns[j] (b9 ai);have CI:∀ {k m:Nat},k+m<=9->c7 ki (u.M g++[⟨b6,.cells t.ns[j].cells.toArray 66 (0,0)⟩,⟨cj,.cells aS.toArray 285 (0,0)⟩]) ((⟨b6,0,none⟩:Addr).add k) m ((t.ns[j].cells.drop k).take m):=λh=>cX (T:=66) (by simp) h;refine dh.draw a4 rfl rfl rfl ?_;refine aZ.mk [.int .i64 i] (lD (b:=cj) (cs:=aS) (T:=285) (by simp[aU.aq]) pZ) ?_;refine aZ.mk _ (CI (by decide)) ?_;refine a9.mk (λae=>?_) (λae=>?_)
   ·have ev:i<t.ns[j].aT:=by simpa using ae
    have o9:i<t.ns[j].ap.length:=by omega
    obtain⟨gp,fe,e1⟩:=o8.bb.one ev o9;have ei:=jX af j ai _ (b9 o9);obtain⟨q,wc⟩:=eN ei.1;have gX:q<t.ns.length:=by omega
    have mQ:q<t.n:=by omega
    obtain⟨pb,uD,uE⟩:=n7.bb.row an.da mQ gX;have uF:∀ M,c7 ki M ((pb.add (q*9)).add 0) 1 [.int .u8 t.ns[q].k]:=λM=>(uE M).part (k:=0) (m:=1) (by decide);have r2:ho t.ns ((q:Nat):Int)=t.ns[q].k:=by simp[ho,cv,gX]
    have hP:=JQ (aF:=aF) af ai (w:=w) o9;have we:=JR af ai (w:=w) (w':=gN t.ns[j].k t.ns[q].k) o9;rw[wc]at hP we;simp only[x6,kx]at hP we;rw[r2]at hP;have fG:IntKind.i64.wrap ((i:Int)+1)=((i+1:Nat):Int):=by have:=o8.bb.cap;rw[wrap_i64 ⟨by omega,by omega⟩];omega
    have cZ:bQ aS ((n-1)*3+1) [.int .i64 ((i+1:Nat):Int)]=nr g5++([.int .i64 j,.int .i64 ((i+1:Nat):Int),.bool w]++bc):=by rw[lF,<-hy];exact JV _ _ _ _ _ _
    have yk:aU.ok ⟨some cj,n,ew,bQ aS ((n-1)*3+1) [.int .i64 ((i+1:Nat):Int)]⟩ 3 (nr (g5++[(j,i+1,w)])):=by
     rw[cZ,yi];refine⟨by simp only[cL,ea,gL];omega,(λh=>by cases h),λb4 _=>⟨?_,l4,kX,?_⟩⟩;·simp only;rw[<-ez,lF];simp
     ·simp only;rw[<-fi];refine pV ?_;simp only[cL,ea,gL];omega
    refine aZ.mk [.int .i64 i] (lD (b:=cj) (cs:=aS) (T:=285) (by simp[aU.aq]) pZ) ?_;refine a9.mk (λa'=>by simp at aa a';omega) (λa'=>?_);refine dh.draw a4 rfl rfl rfl ?_;refine aZ.mk _ (cX (T:=66) (b:=b6) (cs:=t.ns[j].cells) (k:=8) (n:=1) (by simp) (bH rfl)) ?_;refine aZ.mk [.int .i64 i] (lD (b:=cj) (cs:=aS) (T:=285) (by simp[aU.aq]) pZ) ?_;refine bu.mk gp i fe rfl ev ?_;refine aZ.mk [.int .i64 (q:Nat)] (by have fj:=e1;rw[wc]at fj;exact fj _) ?_;refine aZ.mk [.int .i64 i] (lD (b:=cj) (cs:=aS) (T:=285) (by simp[aU.aq]) pZ) ?_;refine bi.mk ((i+1:Nat):Int) fG ?_;refine cn.v7 (u.M g++[⟨b6,.cells t.ns[j].cells.toArray 66 (0,0)⟩]) [] aS.toArray 285 (by simp[aU.aq]) ?_ rfl ?_;·simp only[rE];show(n-1)*3+1+1<=_;omega
    refine dh.draw a4 rfl rfl rfl ?_;refine aZ.mk [.int .u8 t.ns[j].k] (cX (T:=66) (b:=b6) (cs:=t.ns[j].cells) (k:=0) (n:=1) (by simp) (bH rfl)) ?_;refine bu.mk pb q uD rfl mQ ?_;refine aZ.mk [.int .u8 t.ns[q].k] (uF _) ?_;refine fv.mk _ (JF t.ns[j].k t.ns[q].k) ?_;rintro v z7 oX -⟨rfl,rfl,rfl⟩;refine cJ.mk λcz qW yl=>?_;refine br.append a4 rfl (by simp) (e:=285) rfl rfl rfl ⟨some cj,n,ew,bQ aS ((n-1)*3+1) [.int .i64 ((i+1:Nat):Int)]⟩ (xs:=nr (g5++[(j,i+1,w)])) yk rfl (m:=1) rfl (cq:=lI (q,0,gN t.ns[j].k t.ns[q].k)) (by decide) (cX (b:=cz) (cs:=lI (q,0,gN t.ns[j].k t.ns[q].k)) (k:=0) (n:=3) (T:=285) (.head _) (bH rfl)) rfl (Mr:=⟨cz,.cells (lI (q,0,gN t.ns[j].k t.ns[q].k)).toArray 285 (0,0)⟩::(u.M g++[⟨b6,.cells t.ns[j].cells.toArray 66 (0,0)⟩])) (by exact ep (l₁:=(⟨cz,.cells (lI (q,0,gN t.ns[j].k t.ns[q].k)).toArray 285 (0,0)⟩:aE)::(u.M g++[⟨b6,.cells t.ns[j].cells.toArray 66 (0,0)⟩])) (l₂:=[⟨cj,.cells (bQ aS ((n-1)*3+1) [.int .i64 ((i+1:Nat):Int)]).toArray 285 (0,0)⟩])) (by show n+1<=_;simp only[maxLen];omega) (by show(n+1)*24<=_;omega) ?_;intro cN c' iP hf g4 jY lE;refine⟨(g,u,⟨some cN,n+1,c',iP⟩,g5++[(j,i+1,w)]++[(q,0,gN t.ns[j].k t.ns[q].k)],_),aO _ ⟨l8,hu,⟨?_,(λh=>by cases h),λb4 _=>⟨hf,g4,jY,?_⟩⟩,by simp,?_,?_,?_⟩ ?_,.perm (M1:=[⟨cz,.cells (lI (q,0,gN t.ns[j].k t.ns[q].k)).toArray 285 (0,0)⟩,⟨b6,.cells t.ns[j].cells.toArray 66 (0,0)⟩]++(⟨cN,.cells iP.toArray 285 (0,0)⟩::u.M g)) (JU _ _ _ _) (.sub (lr _ _) .refl),g1,.cons rfl .nil⟩;·show _=(n+1)*3;rw[CF];simp;omega
    ·show iP.take ((n+1)*3)=_;rw[yi (g5++[(j,i+1,w)])];exact lE
    ·intro e he;simp only[cO,eK]at he;rcases he with(he | rfl) | rfl
     ·exact dy e (by simp[he])
     ·exact ai
     ·exact gX
    ·simp only;rw[yg,yg,p0,<-l7,hP];rw[show decide (0<(i:Int))=false from a'];simp
    ·simp only;rw[pY,pY];omega
    ·simp only;rw[pY,pY];omega
   ·have ev:t.ns[j].ap.length<=i:=by simp at ae;omega
    have hP:=JS (aF:=aF) ai (w:=w) ev;have l2:=FN t.ns[j];refine aZ.mk _ (cX (T:=66) (b:=b6) (cs:=t.ns[j].cells) (k:=0) (n:=9) (by simp) (bH rfl)) ?_;refine bd.mk [] (u.M g++[⟨b6,.cells t.ns[j].cells.toArray 66 (0,0)⟩,⟨cj,.cells aS.toArray 285 (0,0)⟩]) _ (.refl _) (JN jZ.c jZ.p jZ.s o8 oF) ?_;rintro v z7 oX -⟨rfl,rfl,rfl⟩;refine bd.mk (u.M g) [⟨b6,.cells t.ns[j].cells.toArray 66 (0,0)⟩,⟨cj,.cells aS.toArray 285 (0,0)⟩] _ (by simp) (rS g hu _ (by show _+(nq t.ns[j]).length<=_;omega)) ?_;rintro v JY JZ -⟨rfl,rfl,a,aY,j0,rfl⟩;have Q7:a.b8.length<=2412*t.ns.length+2410:=by rw[j0,cL];show _+(nq t.ns[j]).length<=_;omega
    refine aZ.mk [.bool w] (lD (b:=cj) (cs:=aS) (T:=285) (by simp[aU.aq]) FR) ?_;refine a9.mk (λhw=>?_) (λhw=>?_)
    ·subst hw;refine bd.mk (a.M g) [⟨b6,.cells t.ns[j].cells.toArray 66 (0,0)⟩,⟨cj,.cells aS.toArray 285 (0,0)⟩] _ (by simp) (nl g aY 41 (by omega)) ?_;rintro v Q8 Q9 -⟨rfl,rfl,c,au,il,rfl⟩;refine bi.mk (((n-1:Nat)):Int) wb ?_;refine kA.mk 0 (n-1) rfl rfl (dO _) (by show n-1<=ew;omega) ?_;refine a9.mk (λa'=>?_) (λa'=>?_)
     ·have gv:0<n-1:=by simp at a';omega
      refine⟨(g,c,⟨some cj,n-1,ew,aS⟩,g5,_),aO _ ⟨l8,au,⟨?_,(λh=>by cases h),λb4 _=>⟨ez,by show n-1<=ew;omega,kX,?_⟩⟩,?_,λe he=>dy e (by simp[he]),?_,?_⟩ ?_,.perm (M1:=[⟨b6,.cells t.ns[j].cells.toArray 66 (0,0)⟩]++(⟨cj,.cells aS.toArray 285 (0,0)⟩::c.M g)) (ep (l₂:=[_,_])) (.sub (lr _ _) .refl),g1,.cons rfl .nil⟩;·exact hy
      ·show aS.take ((n-1)*3)=_;rw[lF,<-hy];exact pV rfl
      ·intro h;simp only at h;rw[h]at hp;simp at hp;omega
      ·simp only;rw[il,j0,p0,<-l7,hP];simp[strOf]
      ·simp only;omega
      ·simp only[l6];omega
     ·have gv:n-1=0:=by simp at a';omega
      have r3:g5=[]:=im (by omega);have mR:c.b8=jv aF t.ns t.bm:=by rw[il,j0,p0,<-l7,hP,r3];simp[r1,strOf]
      refine bd.mk (c.M g) [⟨b6,.cells t.ns[j].cells.toArray 66 (0,0)⟩,⟨cj,.cells aS.toArray 285 (0,0)⟩] _ (by simp) (uy g au (by rw[mR];omega)) ?_;rintro v z8 z9 -⟨rfl,rfl,rfl⟩;refine⟨_,_,.sub (gn _) .refl,?_,l8,rfl⟩;rw[mR];rfl
    ·subst hw;refine bi.mk (((n-1:Nat)):Int) wb ?_;refine kA.mk 0 (n-1) rfl rfl (dO _) (by show n-1<=ew;omega) ?_;refine a9.mk (λa'=>?_) (λa'=>?_)
     ·have gv:0<n-1:=by simp at a';omega
      refine⟨(g,a,⟨some cj,n-1,ew,aS⟩,g5,_),aO _ ⟨l8,aY,⟨?_,(λh=>by cases h),λb4 _=>⟨ez,by show n-1<=ew;omega,kX,?_⟩⟩,?_,λe he=>dy e (by simp[he]),?_,?_⟩ ?_,.perm (M1:=[⟨b6,.cells t.ns[j].cells.toArray 66 (0,0)⟩]++(⟨cj,.cells aS.toArray 285 (0,0)⟩::a.M g)) (ep (l₂:=[_,_])) (.sub (lr _ _) .refl),g1,.cons rfl .nil⟩;·exact hy
      ·show aS.take ((n-1)*3)=_;rw[lF,<-hy];exact pV rfl
      ·intro h;simp only at h;rw[h]at hp;simp at hp;omega
      ·simp only;rw[j0,p0,<-l7,hP];simp[strOf]
      ·simp only;omega
      ·simp only[l6];omega
     ·have gv:n-1=0:=by simp at a';omega
      have r3:g5=[]:=im (by omega);have mR:a.b8=jv aF t.ns t.bm:=by rw[j0,p0,<-l7,hP,r3];simp[r1,strOf]
      refine bd.mk (a.M g) [⟨b6,.cells t.ns[j].cells.toArray 66 (0,0)⟩,⟨cj,.cells aS.toArray 285 (0,0)⟩] _ (by simp) (uy g aY (by rw[mR];omega)) ?_;rintro v z8 z9 -⟨rfl,rfl,rfl⟩;refine⟨_,_,.sub (gn _) .refl,?_,l8,rfl⟩;rw[mR];rfl
  ·refine aZ.mk _ (cX (T:=66) (b:=b6) (cs:=t.ns[j].cells) (k:=0) (n:=9) (.head _) (bH rfl)) ?_;refine bd.mk [] (⟨b6,.cells t.ns[j].cells.toArray 66 (0,0)⟩::⟨cj,.cells aS.toArray 285 (0,0)⟩::x.M g) _ (.refl _) (QQ o7.d o7.s fS oF) ?_;rintro v eE dB -⟨rfl,gd,rfl⟩;have l8:∀ b o,dj b=some o->eE b=some o:=λb o h=>gd _ _ (bg _ _ h);have z6:=JO aF oF;refine bd.mk (x.M g) [⟨b6,.cells t.ns[j].cells.toArray 66 (0,0)⟩,⟨cj,.cells aS.toArray 285 (0,0)⟩] _ (ep (l₁:=[_,_])) (rS g CH _ (by show _+(o6 aF t.ns[j]).length<=_;omega)) ?_;rintro v ki s9 -⟨rfl,rfl,u,hu,uz,rfl⟩;have p0:u.b8=x.b8++mP aF t.ns (j,i,w):=by rw[uz];simp only[mP,aa,ad,gf ai,bZ,b0];simp[strOf]
   have QO:u.b8.length<=2412*t.ns.length+2401:=by rw[p0,cL];simp only[mP,aa,ad,gf ai,bZ,b0,cL,ea,gL];omega
   have jZ:=bl.mono l8;have n7:=aw.mono l8;have o8:=n7.ns t.ns[j] (b9 ai);have CI:∀ {k m:Nat},k+m<=9->c7 ki (u.M g++[⟨b6,.cells t.ns[j].cells.toArray 66 (0,0)⟩,⟨cj,.cells aS.toArray 285 (0,0)⟩]) ((⟨b6,0,none⟩:Addr).add k) m ((t.ns[j].cells.drop k).take m):=λh=>cX (T:=66) (by simp) h;refine dh.draw a4 rfl rfl rfl ?_;refine aZ.mk [.int .i64 i] (lD (b:=cj) (cs:=aS) (T:=285) (by simp[aU.aq]) pZ) ?_;refine aZ.mk _ (CI (by decide)) ?_;refine a9.mk (λae=>?_) (λae=>?_)
   ·have ev:i<t.ns[j].aT:=by simpa using ae
    have o9:i<t.ns[j].ap.length:=by omega
    obtain⟨gp,fe,e1⟩:=o8.bb.one ev o9;have ei:=jX af j ai _ (b9 o9);obtain⟨q,wc⟩:=eN ei.1;have gX:q<t.ns.length:=by omega
    have mQ:q<t.n:=by omega
    obtain⟨pb,uD,uE⟩:=n7.bb.row an.da mQ gX;have uF:∀ M,c7 ki M ((pb.add (q*9)).add 0) 1 [.int .u8 t.ns[q].k]:=λM=>(uE M).part (k:=0) (m:=1) (by decide);have r2:ho t.ns ((q:Nat):Int)=t.ns[q].k:=by simp[ho,cv,gX]
    have hP:=JQ (aF:=aF) af ai (w:=w) o9;have we:=JR af ai (w:=w) (w':=gN t.ns[j].k t.ns[q].k) o9;rw[wc]at hP we;simp only[x6,kx]at hP we;rw[r2]at hP;have fG:IntKind.i64.wrap ((i:Int)+1)=((i+1:Nat):Int):=by have:=o8.bb.cap;rw[wrap_i64 ⟨by omega,by omega⟩];omega
    have cZ:bQ aS ((n-1)*3+1) [.int .i64 ((i+1:Nat):Int)]=nr g5++([.int .i64 j,.int .i64 ((i+1:Nat):Int),.bool w]++bc):=by rw[lF,<-hy];exact JV _ _ _ _ _ _
    have yk:aU.ok ⟨some cj,n,ew,bQ aS ((n-1)*3+1) [.int .i64 ((i+1:Nat):Int)]⟩ 3 (nr (g5++[(j,i+1,w)])):=by
     rw[cZ,yi];refine⟨by simp only[cL,ea,gL];omega,(λh=>by cases h),λb4 _=>⟨?_,l4,kX,?_⟩⟩;·simp only;rw[<-ez,lF];simp
     ·simp only;rw[<-fi];refine pV ?_;simp only[cL,ea,gL];omega
    refine aZ.mk [.int .i64 i] (lD (b:=cj) (cs:=aS) (T:=285) (by simp[aU.aq]) pZ) ?_;refine a9.mk (λa'=>by simp at aa a';omega) (λa'=>?_);refine dh.draw a4 rfl rfl rfl ?_;refine aZ.mk _ (cX (T:=66) (b:=b6) (cs:=t.ns[j].cells) (k:=8) (n:=1) (by simp) (bH rfl)) ?_;refine aZ.mk [.int .i64 i] (lD (b:=cj) (cs:=aS) (T:=285) (by simp[aU.aq]) pZ) ?_;refine bu.mk gp i fe rfl ev ?_;refine aZ.mk [.int .i64 (q:Nat)] (by have fj:=e1;rw[wc]at fj;exact fj _) ?_;refine aZ.mk [.int .i64 i] (lD (b:=cj) (cs:=aS) (T:=285) (by simp[aU.aq]) pZ) ?_;refine bi.mk ((i+1:Nat):Int) fG ?_;refine cn.v7 (u.M g++[⟨b6,.cells t.ns[j].cells.toArray 66 (0,0)⟩]) [] aS.toArray 285 (by simp[aU.aq]) ?_ rfl ?_;·simp only[rE];show(n-1)*3+1+1<=_;omega
    refine dh.draw a4 rfl rfl rfl ?_;refine aZ.mk [.int .u8 t.ns[j].k] (cX (T:=66) (b:=b6) (cs:=t.ns[j].cells) (k:=0) (n:=1) (by simp) (bH rfl)) ?_;refine bu.mk pb q uD rfl mQ ?_;refine aZ.mk [.int .u8 t.ns[q].k] (uF _) ?_;refine fv.mk _ (JF t.ns[j].k t.ns[q].k) ?_;rintro v z7 oX -⟨rfl,rfl,rfl⟩;refine cJ.mk λcz qW yl=>?_;refine br.append a4 rfl (by simp) (e:=285) rfl rfl rfl ⟨some cj,n,ew,bQ aS ((n-1)*3+1) [.int .i64 ((i+1:Nat):Int)]⟩ (xs:=nr (g5++[(j,i+1,w)])) yk rfl (m:=1) rfl (cq:=lI (q,0,gN t.ns[j].k t.ns[q].k)) (by decide) (cX (b:=cz) (cs:=lI (q,0,gN t.ns[j].k t.ns[q].k)) (k:=0) (n:=3) (T:=285) (.head _) (bH rfl)) rfl (Mr:=⟨cz,.cells (lI (q,0,gN t.ns[j].k t.ns[q].k)).toArray 285 (0,0)⟩::(u.M g++[⟨b6,.cells t.ns[j].cells.toArray 66 (0,0)⟩])) (by exact ep (l₁:=(⟨cz,.cells (lI (q,0,gN t.ns[j].k t.ns[q].k)).toArray 285 (0,0)⟩:aE)::(u.M g++[⟨b6,.cells t.ns[j].cells.toArray 66 (0,0)⟩])) (l₂:=[⟨cj,.cells (bQ aS ((n-1)*3+1) [.int .i64 ((i+1:Nat):Int)]).toArray 285 (0,0)⟩])) (by show n+1<=_;simp only[maxLen];omega) (by show(n+1)*24<=_;omega) ?_;intro cN c' iP hf g4 jY lE;refine⟨(g,u,⟨some cN,n+1,c',iP⟩,g5++[(j,i+1,w)]++[(q,0,gN t.ns[j].k t.ns[q].k)],_),aO _ ⟨l8,hu,⟨?_,(λh=>by cases h),λb4 _=>⟨hf,g4,jY,?_⟩⟩,by simp,?_,?_,?_⟩ ?_,.perm (M1:=[⟨cz,.cells (lI (q,0,gN t.ns[j].k t.ns[q].k)).toArray 285 (0,0)⟩,⟨b6,.cells t.ns[j].cells.toArray 66 (0,0)⟩]++(⟨cN,.cells iP.toArray 285 (0,0)⟩::u.M g)) (JU _ _ _ _) (.sub (lr _ _) .refl),g1,.cons rfl .nil⟩;·show _=(n+1)*3;rw[CF];simp;omega
    ·show iP.take ((n+1)*3)=_;rw[yi (g5++[(j,i+1,w)])];exact lE
    ·intro e he;simp only[cO,eK]at he;rcases he with(he | rfl) | rfl
     ·exact dy e (by simp[he])
     ·exact ai
     ·exact gX
    ·simp only;rw[yg,yg,p0,<-l7,hP];rw[show decide (0<(i:Int))=false from a'];simp
    ·simp only;rw[pY,pY];omega
    ·simp only;rw[pY,pY];omega
   ·have ev:t.ns[j].ap.length<=i:=by simp at ae;omega
    have hP:=JS (aF:=aF) ai (w:=w) ev;have l2:=FN t.ns[j];refine aZ.mk _ (cX (T:=66) (b:=b6) (cs:=t.ns[j].cells) (k:=0) (n:=9) (by simp) (bH rfl)) ?_;refine bd.mk [] (u.M g++[⟨b6,.cells t.ns[j].cells.toArray 66 (0,0)⟩,⟨cj,.cells aS.toArray 285 (0,0)⟩]) _ (.refl _) (JN jZ.c jZ.p jZ.s o8 oF) ?_;rintro v z7 oX -⟨rfl,rfl,rfl⟩;refine bd.mk (u.M g) [⟨b6,.cells t.ns[j].cells.toArray 66 (0,0)⟩,⟨cj,.cells aS.toArray 285 (0,0)⟩] _ (by simp) (rS g hu _ (by show _+(nq t.ns[j]).length<=_;omega)) ?_;rintro v JY JZ -⟨rfl,rfl,a,aY,j0,rfl⟩;have Q7:a.b8.length<=2412*t.ns.length+2410:=by rw[j0,cL];show _+(nq t.ns[j]).length<=_;omega
    refine aZ.mk [.bool w] (lD (b:=cj) (cs:=aS) (T:=285) (by simp[aU.aq]) FR) ?_;refine a9.mk (λhw=>?_) (λhw=>?_)
    ·subst hw;refine bd.mk (a.M g) [⟨b6,.cells t.ns[j].cells.toArray 66 (0,0)⟩,⟨cj,.cells aS.toArray 285 (0,0)⟩] _ (by simp) (nl g aY 41 (by omega)) ?_;rintro v Q8 Q9 -⟨rfl,rfl,c,au,il,rfl⟩;refine bi.mk (((n-1:Nat)):Int) wb ?_;refine kA.mk 0 (n-1) rfl rfl (dO _) (by show n-1<=ew;omega) ?_;refine a9.mk (λa'=>?_) (λa'=>?_)
     ·have gv:0<n-1:=by simp at a';omega
      refine⟨(g,c,⟨some cj,n-1,ew,aS⟩,g5,_),aO _ ⟨l8,au,⟨?_,(λh=>by cases h),λb4 _=>⟨ez,by show n-1<=ew;omega,kX,?_⟩⟩,?_,λe he=>dy e (by simp[he]),?_,?_⟩ ?_,.perm (M1:=[⟨b6,.cells t.ns[j].cells.toArray 66 (0,0)⟩]++(⟨cj,.cells aS.toArray 285 (0,0)⟩::c.M g)) (ep (l₂:=[_,_])) (.sub (lr _ _) .refl),g1,.cons rfl .nil⟩;·exact hy
      ·show aS.take ((n-1)*3)=_;rw[lF,<-hy];exact pV rfl
      ·intro h;simp only at h;rw[h]at hp;simp at hp;omega
      ·simp only;rw[il,j0,p0,<-l7,hP];simp[strOf]
      ·simp only;omega
      ·simp only[l6];omega
     ·have gv:n-1=0:=by simp at a';omega
      have r3:g5=[]:=im (by omega);have mR:c.b8=jv aF t.ns t.bm:=by rw[il,j0,p0,<-l7,hP,r3];simp[r1,strOf]
      refine bd.mk (c.M g) [⟨b6,.cells t.ns[j].cells.toArray 66 (0,0)⟩,⟨cj,.cells aS.toArray 285 (0,0)⟩] _ (by simp) (uy g au (by rw[mR];omega)) ?_;rintro v z8 z9 -⟨rfl,rfl,rfl⟩;refine⟨_,_,.sub (gn _) .refl,?_,l8,rfl⟩;rw[mR];rfl
    ·subst hw;refine bi.mk (((n-1:Nat)):Int) wb ?_;refine kA.mk 0 (n-1) rfl rfl (dO _) (by show n-1<=ew;omega) ?_;refine a9.mk (λa'=>?_) (λa'=>?_)
     ·have gv:0<n-1:=by simp at a';omega
      refine⟨(g,a,⟨some cj,n-1,ew,aS⟩,g5,_),aO _ ⟨l8,aY,⟨?_,(λh=>by cases h),λb4 _=>⟨ez,by show n-1<=ew;omega,kX,?_⟩⟩,?_,λe he=>dy e (by simp[he]),?_,?_⟩ ?_,.perm (M1:=[⟨b6,.cells t.ns[j].cells.toArray 66 (0,0)⟩]++(⟨cj,.cells aS.toArray 285 (0,0)⟩::a.M g)) (ep (l₂:=[_,_])) (.sub (lr _ _) .refl),g1,.cons rfl .nil⟩;·exact hy
      ·show aS.take ((n-1)*3)=_;rw[lF,<-hy];exact pV rfl
      ·intro h;simp only at h;rw[h]at hp;simp at hp;omega
      ·simp only;rw[j0,p0,<-l7,hP];simp[strOf]
      ·simp only;omega
      ·simp only[l6];omega
     ·have gv:n-1=0:=by simp at a';omega
      have r3:g5=[]:=im (by omega);have mR:a.b8=jv aF t.ns t.bm:=by rw[j0,p0,<-l7,hP,r3];simp[r1,strOf]
      refine bd.mk (a.M g) [⟨b6,.cells t.ns[j].cells.toArray 66 (0,0)⟩,⟨cj,.cells aS.toArray 285 (0,0)⟩] _ (by simp) (uy g aY (by rw[mR];omega)) ?_;rintro v z8 z9 -⟨rfl,rfl,rfl⟩;refine⟨_,_,.sub (gn _) .refl,?_,l8,rfl⟩;rw[mR];rfl
 ·have alp:x.b8=x.b8++mP aF t.ns (j,i,w):=by simp only[mP,aa,b0,ee]
  have jZ:=bl.mono bg;have n7:=aw.mono bg;have o8:=n7.ns t.ns[j] (b9 ai);have CI:∀ {k m:Nat},k+m<=9->c7 cT (⟨b6,.cells t.ns[j].cells.toArray 66 (0,0)⟩::⟨cj,.cells aS.toArray 285 (0,0)⟩::x.M g) ((⟨b6,0,none⟩:Addr).add k) m ((t.ns[j].cells.drop k).take m):=λh=>cX (T:=66) (by simp) h;refine dh.draw a4 rfl rfl rfl ?_;refine aZ.mk [.int .i64 i] (lD (b:=cj) (cs:=aS) (T:=285) (by simp[aU.aq]) pZ) ?_;refine aZ.mk _ (CI (by decide)) ?_;refine a9.mk (λae=>?_) (λae=>?_)
  ·have ev:i<t.ns[j].aT:=by simpa using ae
   have o9:i<t.ns[j].ap.length:=by omega
   obtain⟨gp,fe,e1⟩:=o8.bb.one ev o9;have ei:=jX af j ai _ (b9 o9);obtain⟨q,wc⟩:=eN ei.1;have gX:q<t.ns.length:=by omega
   have mQ:q<t.n:=by omega
   obtain⟨pb,uD,uE⟩:=n7.bb.row an.da mQ gX;have uF:∀ M,c7 cT M ((pb.add (q*9)).add 0) 1 [.int .u8 t.ns[q].k]:=λM=>(uE M).part (k:=0) (m:=1) (by decide);have r2:ho t.ns ((q:Nat):Int)=t.ns[q].k:=by simp[ho,cv,gX]
   have hP:=JQ (aF:=aF) af ai (w:=w) o9;have we:=JR af ai (w:=w) (w':=gN t.ns[j].k t.ns[q].k) o9;rw[wc]at hP we;simp only[x6,kx]at hP we;rw[r2]at hP;have fG:IntKind.i64.wrap ((i:Int)+1)=((i+1:Nat):Int):=by have:=o8.bb.cap;rw[wrap_i64 ⟨by omega,by omega⟩];omega
   have cZ:bQ aS ((n-1)*3+1) [.int .i64 ((i+1:Nat):Int)]=nr g5++([.int .i64 j,.int .i64 ((i+1:Nat):Int),.bool w]++bc):=by rw[lF,<-hy];exact JV _ _ _ _ _ _
   have yk:aU.ok ⟨some cj,n,ew,bQ aS ((n-1)*3+1) [.int .i64 ((i+1:Nat):Int)]⟩ 3 (nr (g5++[(j,i+1,w)])):=by
    rw[cZ,yi];refine⟨by simp only[cL,ea,gL];omega,(λh=>by cases h),λb4 _=>⟨?_,l4,kX,?_⟩⟩;·simp only;rw[<-ez,lF];simp
    ·simp only;rw[<-fi];refine pV ?_;simp only[cL,ea,gL];omega
   refine aZ.mk [.int .i64 i] (lD (b:=cj) (cs:=aS) (T:=285) (by simp[aU.aq]) pZ) ?_;refine a9.mk (λa'=>?_) (λa'=>by simp at aa a';omega);refine aZ.mk [.int .u8 t.ns[j].k] (cX (T:=66) (b:=b6) (cs:=t.ns[j].cells) (k:=0) (n:=1) (.head _) (bH rfl)) ?_;refine dP.mk t.ns[j].k.toNat (by have:=o8.k;omega) (by have:=oF.k;have:=o8.k;omega) ?_;refine aZ.mk _ (jZ.s.rd _ (by have:=oF.k;have:=o8.k;show t.ns[j].k.toNat*3+1<30;omega)) ?_;refine bd.mk (x.M g) [⟨b6,.cells t.ns[j].cells.toArray 66 (0,0)⟩,⟨cj,.cells aS.toArray 285 (0,0)⟩] _ (ep (l₁:=[_,_])) (rS g CH _ (by have:=CE (t.ns[j].k.toNat*3+1);show _+(pX (t.ns[j].k.toNat*3+1)).length<=_;omega)) ?_;rintro v qJ pP -⟨rfl,rfl,z,wg,aax,rfl⟩;have qR:z.b8=x.b8++z4 t.ns[j]:=aax;refine dh.draw a4 rfl rfl rfl ?_;refine aZ.mk _ (cX (T:=66) (b:=b6) (cs:=t.ns[j].cells) (k:=8) (n:=1) (by simp) (bH rfl)) ?_;refine aZ.mk [.int .i64 i] (lD (b:=cj) (cs:=aS) (T:=285) (by simp[aU.aq]) pZ) ?_;refine bu.mk gp i fe rfl ev ?_;refine aZ.mk [.int .i64 (q:Nat)] (by have fj:=e1;rw[wc]at fj;exact fj _) ?_;refine aZ.mk [.int .i64 i] (lD (b:=cj) (cs:=aS) (T:=285) (by simp[aU.aq]) pZ) ?_;refine bi.mk ((i+1:Nat):Int) fG ?_;refine cn.v7 (z.M g++[⟨b6,.cells t.ns[j].cells.toArray 66 (0,0)⟩]) [] aS.toArray 285 (by simp[aU.aq]) ?_ rfl ?_;·simp only[rE];show(n-1)*3+1+1<=_;omega
   refine dh.draw a4 rfl rfl rfl ?_;refine aZ.mk [.int .u8 t.ns[j].k] (cX (T:=66) (b:=b6) (cs:=t.ns[j].cells) (k:=0) (n:=1) (by simp) (bH rfl)) ?_;refine bu.mk pb q uD rfl mQ ?_;refine aZ.mk [.int .u8 t.ns[q].k] (uF _) ?_;refine fv.mk _ (JF t.ns[j].k t.ns[q].k) ?_;rintro v z7 oX -⟨rfl,rfl,rfl⟩;refine cJ.mk λcz qW yl=>?_;refine br.append a4 rfl (by simp) (e:=285) rfl rfl rfl ⟨some cj,n,ew,bQ aS ((n-1)*3+1) [.int .i64 ((i+1:Nat):Int)]⟩ (xs:=nr (g5++[(j,i+1,w)])) yk rfl (m:=1) rfl (cq:=lI (q,0,gN t.ns[j].k t.ns[q].k)) (by decide) (cX (b:=cz) (cs:=lI (q,0,gN t.ns[j].k t.ns[q].k)) (k:=0) (n:=3) (T:=285) (.head _) (bH rfl)) rfl (Mr:=⟨cz,.cells (lI (q,0,gN t.ns[j].k t.ns[q].k)).toArray 285 (0,0)⟩::(z.M g++[⟨b6,.cells t.ns[j].cells.toArray 66 (0,0)⟩])) (by exact ep (l₁:=(⟨cz,.cells (lI (q,0,gN t.ns[j].k t.ns[q].k)).toArray 285 (0,0)⟩:aE)::(z.M g++[⟨b6,.cells t.ns[j].cells.toArray 66 (0,0)⟩])) (l₂:=[⟨cj,.cells (bQ aS ((n-1)*3+1) [.int .i64 ((i+1:Nat):Int)]).toArray 285 (0,0)⟩])) (by show n+1<=_;simp only[maxLen];omega) (by show(n+1)*24<=_;omega) ?_;intro cN c' iP hf g4 jY lE;refine⟨(g,z,⟨some cN,n+1,c',iP⟩,g5++[(j,i+1,w)]++[(q,0,gN t.ns[j].k t.ns[q].k)],_),aO _ ⟨bg,wg,⟨?_,(λh=>by cases h),λb4 _=>⟨hf,g4,jY,?_⟩⟩,by simp,?_,?_,?_⟩ ?_,.perm (M1:=[⟨cz,.cells (lI (q,0,gN t.ns[j].k t.ns[q].k)).toArray 285 (0,0)⟩,⟨b6,.cells t.ns[j].cells.toArray 66 (0,0)⟩]++(⟨cN,.cells iP.toArray 285 (0,0)⟩::z.M g)) (JU _ _ _ _) (.sub (lr _ _) .refl),g1,.cons rfl .nil⟩;·show _=(n+1)*3;rw[CF];simp;omega
   ·show iP.take ((n+1)*3)=_;rw[yi (g5++[(j,i+1,w)])];exact lE
   ·intro e he;simp only[cO,eK]at he;rcases he with(he | rfl) | rfl
    ·exact dy e (by simp[he])
    ·exact ai
    ·exact gX
   ·simp only;rw[yg,yg,qR,<-l7,hP];rw[show decide (0<(i:Int))=true from a',show mP aF t.ns (j,i,w)=[]from by simp only[mP,aa,b0]];simp
   ·simp only;rw[pY,pY];omega
   ·simp only;rw[pY,pY];omega
  ·have ev:t.ns[j].ap.length<=i:=by simp at ae;omega
   have aay:=JS (aF:=aF) ai (w:=w) ev;have hP:r0 aF t.ns (j,i,w)=nq t.ns[j]++(bif w then [41]else []):=by rw[aay];simp only[mP,aa,b0,jq]
   have l2:=FN t.ns[j];refine aZ.mk _ (cX (T:=66) (b:=b6) (cs:=t.ns[j].cells) (k:=0) (n:=9) (.head _) (bH rfl)) ?_;refine bd.mk [] (⟨b6,.cells t.ns[j].cells.toArray 66 (0,0)⟩::⟨cj,.cells aS.toArray 285 (0,0)⟩::x.M g) _ (.refl _) (JN jZ.c jZ.p jZ.s o8 oF) ?_;rintro v z7 oX -⟨rfl,rfl,rfl⟩;refine bd.mk (x.M g) [⟨b6,.cells t.ns[j].cells.toArray 66 (0,0)⟩,⟨cj,.cells aS.toArray 285 (0,0)⟩] _ (ep (l₁:=[_,_])) (rS g CH _ (by show _+(nq t.ns[j]).length<=_;omega)) ?_;rintro v JY JZ -⟨rfl,rfl,a,aY,j0,rfl⟩;have Q7:a.b8.length<=2412*t.ns.length+2410:=by rw[j0,cL];show _+(nq t.ns[j]).length<=_;omega
   refine aZ.mk [.bool w] (lD (b:=cj) (cs:=aS) (T:=285) (by simp[aU.aq]) FR) ?_;refine a9.mk (λhw=>?_) (λhw=>?_)
   ·subst hw;refine bd.mk (a.M g) [⟨b6,.cells t.ns[j].cells.toArray 66 (0,0)⟩,⟨cj,.cells aS.toArray 285 (0,0)⟩] _ (by simp) (nl g aY 41 (by omega)) ?_;rintro v Q8 Q9 -⟨rfl,rfl,c,au,il,rfl⟩;refine bi.mk (((n-1:Nat)):Int) wb ?_;refine kA.mk 0 (n-1) rfl rfl (dO _) (by show n-1<=ew;omega) ?_;refine a9.mk (λa'=>?_) (λa'=>?_)
    ·have gv:0<n-1:=by simp at a';omega
     refine⟨(g,c,⟨some cj,n-1,ew,aS⟩,g5,_),aO _ ⟨bg,au,⟨?_,(λh=>by cases h),λb4 _=>⟨ez,by show n-1<=ew;omega,kX,?_⟩⟩,?_,λe he=>dy e (by simp[he]),?_,?_⟩ ?_,.perm (M1:=[⟨b6,.cells t.ns[j].cells.toArray 66 (0,0)⟩]++(⟨cj,.cells aS.toArray 285 (0,0)⟩::c.M g)) (ep (l₂:=[_,_])) (.sub (lr _ _) .refl),g1,.cons rfl .nil⟩;·exact hy
     ·show aS.take ((n-1)*3)=_;rw[lF,<-hy];exact pV rfl
     ·intro h;simp only at h;rw[h]at hp;simp at hp;omega
     ·simp only;rw[il,j0,<-l7,hP];simp[strOf]
     ·simp only;omega
     ·simp only[l6];omega
    ·have gv:n-1=0:=by simp at a';omega
     have r3:g5=[]:=im (by omega);have mR:c.b8=jv aF t.ns t.bm:=by rw[il,j0,<-l7,hP,r3];simp[r1,strOf]
     refine bd.mk (c.M g) [⟨b6,.cells t.ns[j].cells.toArray 66 (0,0)⟩,⟨cj,.cells aS.toArray 285 (0,0)⟩] _ (by simp) (uy g au (by rw[mR];omega)) ?_;rintro v z8 z9 -⟨rfl,rfl,rfl⟩;refine⟨_,_,.sub (gn _) .refl,?_,bg,rfl⟩;rw[mR];rfl
   ·subst hw;refine bi.mk (((n-1:Nat)):Int) wb ?_;refine kA.mk 0 (n-1) rfl rfl (dO _) (by show n-1<=ew;omega) ?_;refine a9.mk (λa'=>?_) (λa'=>?_)
    ·have gv:0<n-1:=by simp at a';omega
     refine⟨(g,a,⟨some cj,n-1,ew,aS⟩,g5,_),aO _ ⟨bg,aY,⟨?_,(λh=>by cases h),λb4 _=>⟨ez,by show n-1<=ew;omega,kX,?_⟩⟩,?_,λe he=>dy e (by simp[he]),?_,?_⟩ ?_,.perm (M1:=[⟨b6,.cells t.ns[j].cells.toArray 66 (0,0)⟩]++(⟨cj,.cells aS.toArray 285 (0,0)⟩::a.M g)) (ep (l₂:=[_,_])) (.sub (lr _ _) .refl),g1,.cons rfl .nil⟩;·exact hy
     ·show aS.take ((n-1)*3)=_;rw[lF,<-hy];exact pV rfl
     ·intro h;simp only at h;rw[h]at hp;simp at hp;omega
     ·simp only;rw[j0,<-l7,hP];simp[strOf]
     ·simp only;omega
     ·simp only[l6];omega
    ·have gv:n-1=0:=by simp at a';omega
     have r3:g5=[]:=im (by omega);have mR:a.b8=jv aF t.ns t.bm:=by rw[j0,<-l7,hP,r3];simp[r1,strOf]
     refine bd.mk (a.M g) [⟨b6,.cells t.ns[j].cells.toArray 66 (0,0)⟩,⟨cj,.cells aS.toArray 285 (0,0)⟩] _ (by simp) (uy g aY (by rw[mR];omega)) ?_;rintro v z8 z9 -⟨rfl,rfl,rfl⟩;refine⟨_,_,.sub (gn _) .refl,?_,bg,rfl⟩;rw[mR];rfl
def Q'{X:cB}{c:Code}{M:List aE}{K:jo}{t1 t2 t3:Nat}{a b d:dd}{e:Option (List Value)}(h:∀ G yj,V X c (fM (fM (fM G t3 d) t2 b) t1 a) (hX yj t1 e) I M K)
  (aa:F t1=a) (ad:F t2=b) (al:F t3=d) (aL:C t1=e):V X c F C I M K:=by
 have:=h F C;rwa [JT al,JT ad,JT aa,aat aL]at this
def aaz(bl:gg I aF)(aw:t.ok I)(aJ:t.n<=1024):Spec Tryz.prog 191 [t.val] I [] λr I' M'=>r=.string (strOf (lH aF t))/\(∀ b o,I b=some o->I' b=some o)/\M'=[]:=by
 refine cp [3] a4 Tryz.func191 rfl rfl rfl ?_;intro B ay;have oW:=aw.n;cases af:right t with
 |true=>
  have J0:lH aF t=jv aF t.ns t.bm:=by simp[lH,af]
  rw[J0];have mN:=kG af;obtain⟨r,te⟩:=eN mN.1;have eh:r<t.ns.length:=by omega
  obtain⟨ns,FT,FU,FV,bm⟩:=t;simp only at te;subst te;have te:(⟨ns,FT,FU,FV,Int.ofNat r⟩:bw).bm=Int.ofNat r:=rfl;refine dh.scope a4 rfl (λy:Nat×CG=>Q2 ⟨ns,FT,FU,FV,Int.ofNat r⟩ y.1 y.2) (λ_=>0) (λy=>FQ I aF ⟨ns,FT,FU,FV,Int.ofNat r⟩ y.2) (λy=>tg ns y.2.2.2.1) (λ_=>Q1 (FP (Tryz.f191.body.getD .skip)) 0) (λ_ _=>⟨by kernel_rfl,by kernel_rfl⟩) ?_ ?_
  ·refine bd.mk [] [] _ (.refl _) (rQ bl.c aw) ?_;rintro v I' M' -⟨rfl,rfl,rfl⟩;rw[af];refine a9.mk (λh=>by cases h) (λ_=>?_);refine cJ.mk λg ax zY=>?_;refine cJ.mk λgx wh alq=>?_;refine Q' (t1:=1) (t2:=3) (t3:=4) (λG yj=>Q3 bl aw af aJ (p:=λl y=>FQ _ aF ⟨ns,FT,FU,FV,Int.ofNat r⟩ y.2/\0=l) (g:=g) (fk.new,⟨some gx,1,1,lI (r,0,false)⟩,[(r,0,false)],I') ?_ (λy aD _=>⟨aD,rfl⟩) B ay G yj) rfl rfl rfl rfl;refine⟨λ_ _ h=>h,fk.FE,⟨rfl,(λh=>by cases h),λb4 _=>⟨rfl,cI _,by simp only[maxLen];omega,rfl⟩⟩,by simp,?_,?_,?_⟩
   ·intro e he;simp only[eK]at he;subst he;exact eh
   ·simp only[r1,vS,jO,List.flatMap_nil,ee];have fj:=QZ (aF:=aF) af eh false;simp only at fj |-;rw[fj];simp[fk.new,paren]
   ·have aa:=Q0 af eh false;have ad:=aas af;simp only[x6]at aa ad;simp only[tg,cc,h3,jb,zV];omega
  ·rintro⟨g,x⟩ab;refine Q' (t1:=1) (t2:=3) (t3:=4) (λG yj=>Q3 bl aw af aJ (g:=g) x ab (λy aD aW=>⟨⟨aD,rfl⟩,aW⟩) B ay G yj) rfl rfl rfl rfl
 |false=>
  have J0:lH aF t=[]:=by simp[lH,af]
  rw[J0];refine dh.scope a4 rfl (ι:=Empty) (λe=>nomatch e) (λe=>nomatch e) (λe=>nomatch e) (λe=>nomatch e) (λ_=>.skip) (λe=>nomatch e) ?_ (λe=>nomatch e);refine bd.mk [] [] _ (.refl _) (rQ bl.c aw) ?_;rintro v I' M' -⟨rfl,rfl,rfl⟩;rw[af];refine a9.mk (λ_=>?_) (λh=>by cases h);exact⟨_,_,.refl,rfl,λ_ _ h=>h,rfl⟩
def a2.val(d:a2):Value:=.agg #[.string d.name,.slice d.t.a d.t.n d.t.c,.int .i64 d.t.bm]
def n8(aF:List Int)(d:a2):List UInt8:=
 bif decide (strOf (lH aF d.t)=⟨#[]⟩) || !mK d.name then []else d.name.data.toList++[32,60,45,32]++lH aF d.t++[10]
def Ra(h:mK s=true):s.size<=32:=by unfold mK at h;simp only[b',hk]at h;omega
def aaA(aF:List Int)(d:a2):(n8 aF d).length<=37+2412*d.t.ns.length:=by
 have aa:=QV aF d.t;unfold n8;cases au:(decide (strOf (lH aF d.t)=⟨#[]⟩) || !mK d.name)with
 |true=>simp| false=>simp only[qN,Bool.not_eq_false']at au;have ad:=Ra au.2;have al:d.name.data.toList.length=d.name.size:=rfl;simp only[b0,cL,ea,gL];omega
def aaB(bl:gg I aF){d:a2}(aj:d.ok I)(aJ:d.t.n<=1024):Spec Tryz.prog 147 [d.val] I [] λr I' M'=>r=.string (strOf (n8 aF d))/\(∀ b o,I b=some o->I' b=some o)/\M'=[]:=by
 refine cp [] a4 Tryz.func147 rfl rfl rfl ?_;intro B ay;refine bd.mk [] [] _ (.refl _) (aaz bl aj.t aJ) ?_;rintro v cT M1 -⟨rfl,dg,rfl⟩;refine cP.mk (λaa=>?_) (λaa=>?_)
 ·refine bd.mk [] [] _ (.refl _) (Jr _ d.name) ?_;rintro v I' M' -⟨rfl,rfl,rfl⟩;refine a9.mk (λad=>?_) (λad=>?_)
  ·refine⟨_,_,.refl,?_,dg,rfl⟩;have:n8 aF d=[]:=by unfold n8;rw[aa,ad];rfl
   rw[this];rfl
  ·have hm:mK d.name=true:=by simpa using ad
   have ad:=Ra hm;have al:d.name.data.toList.length=d.name.size:=rfl;have aL:=QV aF d.t;have bG:=aj.t.n;refine ft.concat (a:=d.name) (b:=strOf [32,60,45,32]) (by show _+4<=_;omega) ?_;refine ft.concat (a:=d.name++strOf [32,60,45,32]) (b:=strOf (lH aF d.t)) (by rw[Fy];show _+4+(lH aF d.t).length<=_;omega) ?_;refine ft.concat (a:=d.name++strOf [32,60,45,32]++strOf (lH aF d.t)) (b:=strOf [10]) (by rw[Fy,Fy];show _+4+(lH aF d.t).length+1<=_;omega) ?_;refine⟨_,_,.refl,?_,dg,rfl⟩;refine congrArg Value.string (z0 ?_);rw[n8,aa,hm];simp[strOf]
 ·refine⟨_,_,.refl,?_,dg,rfl⟩;have:n8 aF d=[]:=by unfold n8;rw[aa];rfl
  rw[this];rfl
def n9(aF:List Int):List a2->List UInt8->List UInt8
 |[],aP=>aP| d::ds,aP=>bif decide (strOf (n8 aF d)=⟨#[]⟩)then []else n9 aF ds (aP++n8 aF d)
def aaC(bl:gg I aF){g:eo}(ax:g.ok I)(aJ:g.n<=64)(aw:∀ d∈g.ds,d.t.n<=1024):Spec Tryz.prog 95 [g.val] I [] λr I' M'=>r=.string (strOf (n9 aF g.ds []))/\(∀ b o,I b=some o->I' b=some o)/\M'=[]:=by
 refine cp [3] a4 Tryz.func95 rfl rfl rfl ?_;intro B ay;have jw:=ax.n;have wa:∀ d∈g.ds,d.t.ns.length<=1024:=λd aj=>by rw[(ax.ds d aj).t.n];exact aw d aj
 refine cJ.mk λb ah uu=>?_;refine dI.inv (ι:=Nat×fk×aM) (λp=>{ bn:=[(3,.val (ptr b)),(8,.val (.slice g.a g.n g.c)),(9,.val (.int .i64 g.n)),(10,.val (.int .i64 p.1))],c2:=p.2.2,dx:=p.2.1.M b }) (λp=>p.1<=g.n/\p.2.1.ok/\(∀ b o,I b=some o->p.2.2 b=some o)/\p.2.1.b8.length<=2500000*p.1/\n9 aF g.ds []=n9 aF (g.ds.drop p.1) p.2.1.b8) (λp=>g.n-p.1) ?_ ?_
 ·exact⟨(0,fk.new,I),⟨by simp,fk.FE,λ_ _ h=>h,by simp[fk.new],rfl⟩,.refl,fr,.nil⟩
 ·rintro⟨i,x,cT⟩⟨hi,ab,dg,l5,kZ⟩;simp only at hi ab dg l5 kZ;refine a9.mk (λh=>?_) (λh=>?_)
  ·have aW:i<g.n:=by simpa using h
   have cy:i<g.ds.length:=by omega
   have o5:=ax.mono dg;obtain⟨aV,bU,bB⟩:=o5.bb.row a2.da aW cy;have gh:g.ds[i]∈g.ds:=b9 cy;have wi:=aaA aF g.ds[i];have fj:=wa _ gh;have kj:g.ds.drop i=g.ds[i]::g.ds.drop (i+1):=e6 cy;refine bu.mk aV i bU rfl aW ?_;refine aZ.mk _ (bB _) ?_;refine bd.mk [] (x.M b) _ (.refl _) (aaB (bl.mono dg) (o5.ds _ gh) (aw _ gh)) ?_;rintro v eE dB -⟨rfl,gd,rfl⟩;refine a9.mk (λaa=>?_) (λaa=>?_);·refine⟨_,_,.sub (gn _) .refl,?_,λb o h=>gd _ _ (dg _ _ h),rfl⟩;rw[kZ,kj,n9,aa];rfl
   ·refine bd.mk (x.M b) [] _ (by simp) (rS b ab _ (by show _+(n8 aF g.ds[i]).length<=_;omega)) ?_;rintro v I' M' -⟨rfl,rfl,y,aD,fV,rfl⟩;have Rb:y.b8=x.b8++n8 aF g.ds[i]:=fV;have fG:IntKind.i64.wrap ((i:Int)+1)=((i+1:Nat):Int):=by rw[wrap_i64 ⟨by omega,by omega⟩];omega
    refine bi.mk _ fG ?_;refine⟨(i+1,y,_),⟨⟨by simp only;omega,aD,λb o h=>gd _ _ (dg _ _ h),?_,?_⟩,by simp only;omega⟩,.perm (by simp) .refl,fr,.nil⟩;·simp only;rw[Rb,cL];omega
    ·simp only;rw[kZ,kj,n9,aa,Rb];rfl
  ·have cV:g.n<=i:=by simpa using h
   have g':g.ds.drop i=[]:=ls (by omega);refine bd.mk (x.M b) [] _ (by simp) (uy b ab (by omega)) ?_;rintro v I' M' -⟨rfl,rfl,rfl⟩;refine⟨_,_,.refl,?_,dg,by simp⟩;rw[kZ,g'];rfl
def aaD(bl:gg I aF){g:eo}(ax:g.ok I)(aJ:g.n<=64)(aw:∀ d∈g.ds,d.t.n<=1024):Spec Tryz.prog 47 [g.val] I [] λr I' M'=>r=.int .i64 ((n9 aF g.ds []).length:Int)/\(∀ b o,I b=some o->I' b=some o)/\M'=[]:=by refine cp [] a4 Tryz.func47 rfl rfl rfl ?_;intro B ay;refine bd.mk [] [] _ (.refl _) (aaC bl ax aJ aw) ?_;rintro v I' M' -⟨rfl,bC,rfl⟩;exact⟨_,_,.refl,rfl,bC,rfl⟩
def jd(ns:List an)(kind:Int):List Int->Bool
 |[]=>true| k::ks=>bif decide (ho ns k=kind)||(decide (ho ns k=0)&&decide (kind=4))then false else jd ns kind ks
def jx(ns:List an):List an->Bool
 |[]=>true| d::ds=>bif !decide (d.k=4) && !decide (d.k=5)then jx ns ds else bif jd ns d.k d.ap then jx ns ds else false
def normal(t:bw):Bool:=right t&&jx t.ns t.ns
def de(h:i<=140737488355328):IntKind.i64.wrap ((i:Int)+1)=((i+1:Nat):Int):=by rw[wrap_i64 ⟨by omega,by omega⟩];omega
def aaE(au:oZ I)(aw:t.ok I):Spec Tryz.prog 66 [t.val] I [] (λv I' M'=>v=.bool (normal t)/\I'=I/\M'=[]):=by
 refine cp [] a4 Tryz.func66 rfl rfl rfl ?_;intro B ay;have aJ:=aw.n;have iN:=aw.bb.cap;refine bd.mk [] [] _ (.refl _) (rQ au aw) ?_;rintro v I' M' -⟨rfl,rfl,rfl⟩;refine a9.mk (λh=>?_) (λh=>?_)
 ·refine⟨_,_,.refl,?_,rfl,rfl⟩;simp[normal,show right t=false by simpa using h]
 ·have af:right t=true:=by simpa using h
  have dR:normal t=jx t.ns t.ns:=by simp[normal,af]
  rw[dR];refine dI.inv (ι:=Nat) (λi=>{ bn:=[(1,.ref 1 0),(12,.val (.slice t.a t.n t.c)),(13,.val (.int .i64 t.n)),(14,.val (.int .i64 i))],cl:=[(1,t.cells)],c2:=I' }) (λi=>i<=t.n/\jx t.ns t.ns=jx t.ns (t.ns.drop i)) (λi=>t.n-i) ?_ ?_;·exact⟨0,⟨by simp,rfl⟩,.refl,fr,.cons rfl .nil⟩
  ·rintro i⟨hi,dy⟩;refine a9.mk (λh=>?_) (λh=>?_)
   ·have aW:i<t.n:=by simpa using h
    have cy:i<t.ns.length:=by omega
    obtain⟨aV,bU,bB⟩:=aw.bb.row an.da aW cy;have fS:=aw.ns t.ns[i] (b9 cy);have e':=fS.aT;have kj:t.ns.drop i=t.ns[i]::t.ns.drop (i+1):=e6 cy;refine bu.mk aV i bU rfl aW ?_;refine aZ.mk _ (bB _) ?_;refine cP.mk (λdS=>?_) (λdS=>?_)
    ·refine a9.mk (λch=>?_) (λch=>?_)
     ·refine bi.mk _ (de (i:=i) (by omega)) ?_;refine⟨i+1,⟨⟨by omega,?_⟩,by omega⟩,.refl,fr,.cons rfl .nil⟩;rw[dy,kj,jx,dS,ch];rfl
     ·have hx:jx t.ns t.ns=bif jd t.ns t.ns[i].k t.ns[i].ap then jx t.ns (t.ns.drop (i+1))else false:=by rw[dy,kj,jx,dS,ch];rfl
      refine dI.inv (ι:=Nat) (λj=>{ bn:=[(1,.ref 1 0),(4,.ref 4 0),(12,.val (.slice t.a t.n t.c)),(13,.val (.int .i64 t.n)),(14,.val (.int .i64 i)),(27,.val (.slice t.ns[i].cW t.ns[i].aT t.ns[i].c5)),(28,.val (.int .i64 t.ns[i].aT)),(29,.val (.int .i64 j))],cl:=[(1,t.cells),(4,t.ns[i].cells)],c2:=I' }) (λj=>j<=t.ns[i].aT/\jd t.ns t.ns[i].k t.ns[i].ap=jd t.ns t.ns[i].k (t.ns[i].ap.drop j)) (λj=>t.ns[i].aT-j) ?_ ?_;·exact⟨0,⟨by simp,rfl⟩,.refl,h1,.cons rfl (.cons rfl .nil)⟩
      ·rintro j⟨ai,k0⟩;refine a9.mk (λh=>?_) (λh=>?_)
       ·have fx:j<t.ns[i].aT:=by simpa using h
        have mM:j<t.ns[i].ap.length:=by omega
        obtain⟨gp,fe,e1⟩:=fS.bb.one fx mM;have ir:t.ns[i].ap.drop j=t.ns[i].ap[j]::t.ns[i].ap.drop (j+1):=e6 mM;have ei:=jX af i cy _ (b9 mM);generalize gW:t.ns[i].ap[j]=aaF at *;obtain⟨q,rfl⟩:=eN ei.1;have gX:q<t.ns.length:=by omega
        have mQ:q<t.n:=by omega
        obtain⟨pb,uD,uE⟩:=aw.bb.row an.da mQ gX;have uF:∀ M,c7 I' M ((pb.add (q*9)).add 0) 1 [.int .u8 t.ns[q].k]:=λM=>(uE M).part (k:=0) (m:=1) (by decide);have r2:ho t.ns ((q:Nat):Int)=t.ns[q].k:=by simp[ho,cv,gX]
        have bad:(decide (t.ns[q].k=t.ns[i].k)||(decide (t.ns[q].k=0)&&decide (t.ns[i].k=4)))=true->jx t.ns t.ns=false:=λah=>by rw[hx,k0,ir,jd,r2,ah];rfl
        have CJ:(decide (t.ns[q].k=t.ns[i].k)||(decide (t.ns[q].k=0)&&decide (t.ns[i].k=4)))=false->jd t.ns t.ns[i].k t.ns[i].ap=jd t.ns t.ns[i].k (t.ns[i].ap.drop (j+1)):=λah=>by rw[k0,ir,jd,r2,ah];rfl
        have fG:=de (i:=j) (by have:=fS.bb.cap;omega);refine bu.mk gp j fe rfl fx ?_;refine aZ.mk _ (e1 _) ?_;refine bu.mk pb q uD rfl mQ ?_;refine aZ.mk _ (uF _) ?_;refine cP.mk (λhH=>?_) (λhH=>?_)
        ·refine cP.mk (λha=>?_) (λha=>?_)
         ·refine a9.mk (λp1=>?_) (λp1=>?_)
          ·refine⟨_,_,.refl,?_,rfl,rfl⟩;rw[bad (by rw[hH,ha,p1];rfl)]
          ·refine bi.mk _ fG ?_;exact⟨j+1,⟨⟨by omega,CJ (by rw[hH,ha,p1];rfl)⟩,by omega⟩,.refl,h1,.cons rfl (.cons rfl .nil)⟩
         ·refine bi.mk _ fG ?_;exact⟨j+1,⟨⟨by omega,CJ (by rw[hH,ha];rfl)⟩,by omega⟩,.refl,h1,.cons rfl (.cons rfl .nil)⟩
        ·refine⟨_,_,.refl,?_,rfl,rfl⟩;rw[bad (by rw[hH];rfl)]
       ·have x4:t.ns[i].ap.drop j=[]:=ls (by simp at h;omega);refine bi.mk _ (de (i:=i) (by omega)) ?_;refine⟨i+1,⟨⟨by omega,?_⟩,by omega⟩,.refl,fr,.cons rfl .nil⟩;rw[hx,k0,x4];rfl
    ·have hx:jx t.ns t.ns=bif jd t.ns t.ns[i].k t.ns[i].ap then jx t.ns (t.ns.drop (i+1))else false:=by rw[dy,kj,jx,dS];rfl
     refine dI.inv (ι:=Nat) (λj=>{ bn:=[(1,.ref 1 0),(4,.ref 4 0),(12,.val (.slice t.a t.n t.c)),(13,.val (.int .i64 t.n)),(14,.val (.int .i64 i)),(27,.val (.slice t.ns[i].cW t.ns[i].aT t.ns[i].c5)),(28,.val (.int .i64 t.ns[i].aT)),(29,.val (.int .i64 j))],cl:=[(1,t.cells),(4,t.ns[i].cells)],c2:=I' }) (λj=>j<=t.ns[i].aT/\jd t.ns t.ns[i].k t.ns[i].ap=jd t.ns t.ns[i].k (t.ns[i].ap.drop j)) (λj=>t.ns[i].aT-j) ?_ ?_;·exact⟨0,⟨by simp,rfl⟩,.refl,h1,.cons rfl (.cons rfl .nil)⟩
     ·rintro j⟨ai,k0⟩;refine a9.mk (λh=>?_) (λh=>?_)
      ·have fx:j<t.ns[i].aT:=by simpa using h
       have mM:j<t.ns[i].ap.length:=by omega
       obtain⟨gp,fe,e1⟩:=fS.bb.one fx mM;have ir:t.ns[i].ap.drop j=t.ns[i].ap[j]::t.ns[i].ap.drop (j+1):=e6 mM;have ei:=jX af i cy _ (b9 mM);generalize gW:t.ns[i].ap[j]=aaF at *;obtain⟨q,rfl⟩:=eN ei.1;have gX:q<t.ns.length:=by omega
       have mQ:q<t.n:=by omega
       obtain⟨pb,uD,uE⟩:=aw.bb.row an.da mQ gX;have uF:∀ M,c7 I' M ((pb.add (q*9)).add 0) 1 [.int .u8 t.ns[q].k]:=λM=>(uE M).part (k:=0) (m:=1) (by decide);have r2:ho t.ns ((q:Nat):Int)=t.ns[q].k:=by simp[ho,cv,gX]
       have bad:(decide (t.ns[q].k=t.ns[i].k)||(decide (t.ns[q].k=0)&&decide (t.ns[i].k=4)))=true->jx t.ns t.ns=false:=λah=>by rw[hx,k0,ir,jd,r2,ah];rfl
       have CJ:(decide (t.ns[q].k=t.ns[i].k)||(decide (t.ns[q].k=0)&&decide (t.ns[i].k=4)))=false->jd t.ns t.ns[i].k t.ns[i].ap=jd t.ns t.ns[i].k (t.ns[i].ap.drop (j+1)):=λah=>by rw[k0,ir,jd,r2,ah];rfl
       have fG:=de (i:=j) (by have:=fS.bb.cap;omega);refine bu.mk gp j fe rfl fx ?_;refine aZ.mk _ (e1 _) ?_;refine bu.mk pb q uD rfl mQ ?_;refine aZ.mk _ (uF _) ?_;refine cP.mk (λhH=>?_) (λhH=>?_)
       ·refine cP.mk (λha=>?_) (λha=>?_)
        ·refine a9.mk (λp1=>?_) (λp1=>?_)
         ·refine⟨_,_,.refl,?_,rfl,rfl⟩;rw[bad (by rw[hH,ha,p1];rfl)]
         ·refine bi.mk _ fG ?_;exact⟨j+1,⟨⟨by omega,CJ (by rw[hH,ha,p1];rfl)⟩,by omega⟩,.refl,h1,.cons rfl (.cons rfl .nil)⟩
        ·refine bi.mk _ fG ?_;exact⟨j+1,⟨⟨by omega,CJ (by rw[hH,ha];rfl)⟩,by omega⟩,.refl,h1,.cons rfl (.cons rfl .nil)⟩
       ·refine⟨_,_,.refl,?_,rfl,rfl⟩;rw[bad (by rw[hH];rfl)]
      ·have x4:t.ns[i].ap.drop j=[]:=ls (by simp at h;omega);refine bi.mk _ (de (i:=i) (by omega)) ?_;refine⟨i+1,⟨⟨by omega,?_⟩,by omega⟩,.refl,fr,.cons rfl .nil⟩;rw[hx,k0,x4];rfl
   ·have cV:t.n<=i:=by simpa using h
    have g':t.ns.drop i=[]:=ls (by omega);refine⟨_,_,.refl,?_,rfl,rfl⟩;rw[dy,g'];rfl
def p2(t:bw):Nat:=bif right t then t.n else 0
def r4(g:eo):Nat:=(g.ds.map λd=>p2 d.t).sum
def Rc{α:Type}(f:α->Nat)(m:Nat):∀ (l:List α),(∀ x∈l,f x<=m)->(l.map f).sum<=m*l.length
 |[],_=>by simp
 |x::l,h=>by have aa:=h x (by simp);have ad:=Rc f m l λy aD=>h y (by simp[aD]);simp only[cc,jb,ea,Nat.mul_add];omega
def aaG(au:oZ I){g:eo}(ax:g.ok I)(aJ:g.n<=64)(aw:∀ d∈g.ds,d.t.n<=1024):Spec Tryz.prog 35 [g.val] I [] (λv I' M'=>v=.int .i64 (r4 g:Nat)/\I'=I/\M'=[]):=by
 refine cp [] a4 Tryz.func35 rfl rfl rfl ?_;intro B ay;have jw:=ax.n;refine dI.inv (ι:=Nat) (λi=>{ bn:=[(3,.val (.int .i64 (((g.ds.take i).map λd=>p2 d.t).sum:Nat))),(7,.val (.slice g.a g.n g.c)),(8,.val (.int .i64 g.n)),(9,.val (.int .i64 i))],c2:=I }) (λi=>i<=g.n) (λi=>g.n-i) ?_ ?_
 ·exact⟨0,by simp,.refl,fr,.nil⟩
 ·intro i hi;refine a9.mk (λh=>?_) (λh=>?_)
  ·have aW:i<g.n:=by simpa using h
   have cy:i<g.ds.length:=by omega
   obtain⟨aV,bU,bB⟩:=ax.bb.row a2.da aW cy;have gh:g.ds[i]∈g.ds:=b9 cy;have ar:((g.ds.take i).map λd=>p2 d.t).sum<=1024*(g.ds.take i).length:=Rc _ 1024 _ λd aj=>by
    have:=aw d (zR aj);unfold p2;cases right d.t<;>simp
    omega
   have av:=zT i g.ds;have fc:p2 g.ds[i].t<=1024:=by
    have:=aw _ gh;unfold p2;cases right g.ds[i].t<;>simp
    omega
   refine bu.mk aV i bU rfl aW ?_;refine aZ.mk _ (bB _) ?_;refine bd.mk [] [] _ (.refl _) (ZL au (ax.ds _ gh).t) ?_;rintro v I' M' -⟨rfl,rfl,rfl⟩;have aA:(bif right g.ds[i].t then(g.ds[i].t.n:Int)else 0)=(p2 g.ds[i].t:Nat):=by
    unfold p2;cases right g.ds[i].t<;>rfl
   rw[aA];refine bi.mk ((((g.ds.take (i+1)).map λd=>p2 d.t).sum:Nat):Int) ?_ ?_;·rw[wrap_i64 ⟨by omega,by omega⟩,gD cy,dc,rR];simp
   refine bi.mk _ (de (i:=i) (by omega)) ?_;exact⟨i+1,⟨by omega,by omega⟩,.refl,fr,.nil⟩
  ·have cV:g.n<=i:=by simpa using h
   refine⟨_,_,.refl,?_,rfl,rfl⟩;rw[fT (by omega)];rfl
def n'(aF:List Int)(g:eo):Bool:=
 decide (64<g.n)||((!g.ds.all λd=>nk d.t)||(decide (1024<r4 g)||decide (8192<(n9 aF g.ds []).length)))
def aaH(bl:gg I aF){g:eo}(ax:g.ok I):Spec Tryz.prog 67 [g.val] I [] (λv I' M'=>v=.bool (n' aF g)/\(∀ b o,I b=some o->I' b=some o)/\M'=[]):=by
 refine cp [] a4 Tryz.func67 rfl rfl rfl ?_;intro B ay;have jw:=ax.n;refine a9.mk (λaa=>?_) (λaa=>?_)
 ·refine⟨_,_,.refl,?_,λ_ _ h=>h,rfl⟩;have:64<g.n:=by simp at aa;omega
  simp[n',this]
 ·have aJ:g.n<=64:=by simp at aa;omega
  have c1:n' aF g=((!g.ds.all λd=>nk d.t)||(decide (1024<r4 g)||decide (8192<(n9 aF g.ds []).length))):=by
   have:¬ 64<g.n:=by omega
   simp[n',this]
  rw[c1];refine dI.inv (ι:=Nat) (λi=>{ bn:=[(1,.ref 1 0),(10,.val (.slice g.a g.n g.c)),(11,.val (.int .i64 g.n)),(12,.val (.int .i64 i))],cl:=[(1,[.slice g.a g.n g.c])],c2:=I }) (λi=>i<=g.n/\(g.ds.take i).all (λd=>nk d.t)=true) (λi=>g.n-i) ?_ ?_;·exact⟨0,⟨by simp,rfl⟩,.refl,fr,.cons rfl .nil⟩
  ·rintro i⟨hi,dN⟩;refine a9.mk (λh=>?_) (λh=>?_)
   ·have aW:i<g.n:=by simpa using h
    have cy:i<g.ds.length:=by omega
    obtain⟨aV,bU,bB⟩:=ax.bb.row a2.da aW cy;have gh:g.ds[i]∈g.ds:=b9 cy;refine bu.mk aV i bU rfl aW ?_;refine aZ.mk _ (bB _) ?_;refine bd.mk [] [] _ (.refl _) (ZP bl.c (ax.ds _ gh).t) ?_;rintro v I' M' -⟨rfl,rfl,rfl⟩;refine a9.mk (λad=>?_) (λad=>?_)
    ·refine⟨_,_,.refl,?_,λ_ _ h=>h,rfl⟩;have az:nk g.ds[i].t=false:=by simpa using ad
     have:(g.ds.all λd=>nk d.t)=false:=by rw[Fz];exact⟨_,gh,by simp[az]⟩
     rw[this];rfl
    ·have az:nk g.ds[i].t=true:=by simpa using ad
     refine bi.mk _ (de (i:=i) (by omega)) ?_;refine⟨i+1,⟨⟨by omega,?_⟩,by omega⟩,.refl,fr,.cons rfl .nil⟩;rw[gD cy,Cl,dN];simp[az]
   ·have cV:g.n<=i:=by simpa using h
    rw[fT (by omega)]at dN;rw[dN];have z':∀ d∈g.ds,d.t.n<=1024:=λd aj=>by have:=fL.1 dN d aj;unfold nk at this;simp only[b',hk]at this;exact this.1
    refine bd.mk [] [] _ (.refl _) (aaG bl.c ax aJ z') ?_;rintro v I' M' -⟨rfl,rfl,rfl⟩;refine cP.mk (λad=>?_) (λad=>?_)
    ·refine bd.mk [] [] _ (.refl _) (aaD bl ax aJ z') ?_;rintro v eE M' -⟨rfl,gd,rfl⟩;refine⟨_,_,.refl,?_,gd,rfl⟩;have mL:¬ 1024<r4 g:=by simp at ad;omega
     simp[mL];omega
    ·refine⟨_,_,.refl,?_,λ_ _ h=>h,rfl⟩;have mL:1024<r4 g:=by simp at ad;omega
     simp[mL]
def d'(name:ByteArray):List a2->Nat->Int
 |[],_=>-1| d::ds,i=>bif decide (d.name=name)then(i:Int)else d' name ds (i+1)
def aaI{g:eo}(ax:g.ok I)(name:ByteArray):Spec Tryz.prog 31 [g.val,.string name] I [] (λv I' M'=>v=.int .i64 (d' name g.ds 0)/\I'=I/\M'=[]):=by
 refine cp [] a4 Tryz.func31 rfl rfl rfl ?_;intro B ay;have jw:=ax.n;have iN:=ax.bb.cap;refine dI.inv (ι:=Nat) (λi=>{ bn:=[(1,.val (.string name)),(8,.val (.slice g.a g.n g.c)),(9,.val (.int .i64 g.n)),(10,.val (.int .i64 i))],c2:=I }) (λi=>i<=g.n/\d' name g.ds 0=d' name (g.ds.drop i) i) (λi=>g.n-i) ?_ ?_
 ·exact⟨0,⟨by simp,rfl⟩,.refl,fr,.nil⟩
 ·rintro i⟨hi,az⟩;refine a9.mk (λh=>?_) (λh=>?_)
  ·have aW:i<g.n:=by simpa using h
   have cy:i<g.ds.length:=by omega
   obtain⟨aV,bU,bB⟩:=ax.bb.row a2.da aW cy;have kj:g.ds.drop i=g.ds[i]::g.ds.drop (i+1):=e6 cy;refine bu.mk aV i bU rfl aW ?_;refine aZ.mk _ (bB _) ?_;refine a9.mk (λad=>?_) (λad=>?_);·refine⟨_,_,.refl,?_,rfl,rfl⟩;rw[az,kj,d',ad];rfl
   ·refine bi.mk _ (de (i:=i) (by omega)) ?_;refine⟨i+1,⟨⟨by omega,?_⟩,by omega⟩,.refl,fr,.nil⟩;rw[az,kj,d',ad];rfl
  ·have cV:g.n<=i:=by simpa using h
   refine⟨_,_,.refl,?_,rfl,rfl⟩;rw[az,ls (by omega)];rfl
def drop_cons{L:List α}{x:α}{bc:List α}(h:L.drop k=x::bc):∃ ae:k<L.length,L[k]=x/\L.drop (k+1)=bc:=by
 have ae:k<L.length:=by apply Nat.lt_of_not_le;intro bg;rw[ls bg]at h;cases h
 have aj:=e6 ae;rw[h]at aj;obtain⟨aa,ad⟩:=List.cons.inj aj;exact⟨ae,aa.symm,ad.symm⟩
def qX:Nat->List a2->List (List Value)
 |_,[]=>[]| i,d::ds=>d.t.ns.map (λn=>[.int .i64 i,n.val])++qX (i+1) ds
def aaJ(g:eo):Spec Tryz.prog 68 [g.val] I [] λr I' M'=>∃ b,r=.func (.func 120) #[] #[ptr b]/\I' b=some (.cells #[.slice g.a g.n g.c] 24 (0,0))/\(∀ b o,I b=some o->I' b=some o)/\M'=[]:=by refine cp [1] a4 Tryz.func68 rfl rfl rfl ?_;intro B ay;refine cJ.mk λg ax zY=>?_;exact⟨_,_,.vt rfl (by simp) .refl,g,rfl,z1 ..,z2 ax,rfl⟩
def aaK{g:eo}(ax:g.ok I)(ah:I b=some (.cells #[.slice g.a g.n g.c] 24 (0,0))) :
  Iter Tryz.prog 120 [ptr b] I (qX 0 g.ds):=by
 intro l R kU v0 dj M0 v3 kh;refine BR [] a4 Tryz.func120 rfl rfl rfl ?_;intro B ay;have jw:=ax.n;have iN:=ax.bb.cap;have bB:∀ (M:List aE),c7 dj M ((⟨b,0,none⟩:Addr).add 0) 1 [.slice g.a g.n g.c]:=λM=>⟨rfl,_,_,_,.inl (v3 _ _ ah),rfl,rfl⟩;refine aZ.mk _ (bB _) ?_;refine dI.inv (ι:=Nat×Nat×aM×List aE) (λx=>{ bn:=[(0,.val (.func (.yield l) #[] #[])),(8,.val (.slice g.a g.n g.c)),(9,.val (.int .i64 g.n)),(10,.val (.int .i64 x.1))],c2:=x.2.2.1,dx:=x.2.2.2 }) (λx=>x.1<=g.n/\(∀ b o,I b=some o->x.2.2.1 b=some o)/\R x.2.1 x.2.2.1 x.2.2.2/\x.2.1<=(qX 0 g.ds).length/\(qX 0 g.ds).drop x.2.1=qX x.1 (g.ds.drop x.1)) (λx=>g.n-x.1) ?_ ?_
 ·exact⟨(0,0,dj,M0),⟨by simp,v3,kh,by simp,rfl⟩,.refl,fr,.nil⟩
 ·rintro⟨i,k,cT,M1⟩⟨hi,dg,lC,c0,hv⟩;simp only at hi dg lC c0 hv;refine a9.mk (λh=>?_) (λh=>?_)
  ·have aW:i<g.n:=by simpa using h
   have cy:i<g.ds.length:=by omega
   have o5:=ax.mono dg;obtain⟨aV,bU,J1⟩:=o5.bb.row a2.da aW cy;have gh:g.ds[i]∈g.ds:=b9 cy;have l9:=(ax.ds _ gh).t.n;have alr:=(ax.ds _ gh).t.bb.cap;have kj:g.ds.drop i=g.ds[i]::g.ds.drop (i+1):=e6 cy;refine bu.mk aV i bU rfl aW ?_;refine aZ.mk _ (J1 _) ?_;refine dI.inv (ι:=Nat×Nat×aM×List aE) (λx=>{ bn:=[(0,.val (.func (.yield l) #[] #[])),(3,.val (.int .i64 i)),(8,.val (.slice g.a g.n g.c)),(9,.val (.int .i64 g.n)),(10,.val (.int .i64 i)),(17,.val (.slice g.ds[i].t.a g.ds[i].t.n g.ds[i].t.c)),(18,.val (.int .i64 g.ds[i].t.n)),(19,.val (.int .i64 x.1))],c2:=x.2.2.1,dx:=x.2.2.2 }) (λx=>x.1<=g.ds[i].t.n/\(∀ b o,I b=some o->x.2.2.1 b=some o)/\R x.2.1 x.2.2.1 x.2.2.2/\x.2.1<=(qX 0 g.ds).length/\(qX 0 g.ds).drop x.2.1=(g.ds[i].t.ns.drop x.1).map (λn=>[.int .i64 i,n.val])++qX (i+1) (g.ds.drop (i+1))) (λx=>g.ds[i].t.n-x.1) ?_ ?_;·refine⟨(0,k,cT,M1),⟨by simp,dg,lC,c0,?_⟩,.refl,h1,.nil⟩;simp only;rw[hv,kj];rfl
   ·rintro⟨j,k,cT,M1⟩⟨ai,dg,lC,c0,hv⟩;simp only at ai dg lC c0 hv;refine a9.mk (λh=>?_) (λh=>?_)
    ·have fx:j<g.ds[i].t.n:=by simpa using h
     have mM:j<g.ds[i].t.ns.length:=by omega
     have o5:=ax.mono dg;obtain⟨qY,r5,kE⟩:=(o5.ds _ gh).t.bb.row an.da fx mM;have bJ:g.ds[i].t.ns.drop j=g.ds[i].t.ns[j]::g.ds[i].t.ns.drop (j+1):=e6 mM;rw[bJ,cc,qO]at hv;obtain⟨ae,ag,p3⟩:=drop_cons hv;refine bu.mk qY j r5 rfl fx ?_;refine aZ.mk _ (kE _) ?_;refine br.yield rfl (by simp) rfl rfl ?_;have aD:=v0 k ae cT M1 dg lC;rw[ag]at aD;refine Fs.mk M1 [] _ (by simp) aD ?_;rintro v eE dB gd (⟨rfl,oY⟩ | ⟨rfl,ab⟩);·refine a9.mk (λh=>by simp at h) (λ_=>?_);refine bi.mk _ (de (i:=j) (by omega)) ?_;exact⟨(j+1,k+1,eE,dB),⟨⟨by simp only;omega,λb o h=>gd b o (dg b o h),oY,ae,p3⟩,by simp only;omega⟩,.perm (by simp) .refl,h1,.nil⟩
     ·refine a9.mk (λ_=>?_) (λh=>by simp at h);exact⟨_,_,.perm (by simp) .refl,.inr ab⟩
    ·have cV:g.ds[i].t.n<=j:=by simpa using h
     rw[ls (show g.ds[i].t.ns.length<=j by omega),h3,jq]at hv;refine bi.mk _ (de (i:=i) (by omega)) ?_;exact⟨(i+1,k,cT,M1),⟨⟨by simp only;omega,dg,lC,c0,hv⟩,by simp only;omega⟩,.refl,fr,.nil⟩
  ·have cV:g.n<=i:=by simpa using h
   refine⟨_,_,.refl,.inl ?_⟩;rw[ls (show g.ds.length<=i by omega)]at hv;have yb:k=(qX 0 g.ds).length:=by have:=Ju.1 hv;omega
   rw[<-yb];exact lC
section
variable{X:cB}{β:Nat->Nat}{a:Act}{w:World}{F:Fr}{C:dp}{I:aM}{M:List aE}{o:Oper}{K:fD}
def cg.swap{n:Nat}{mI FW:Obj}{w':World}(h:cg X β a w F C I (⟨n,mI⟩::M))(ar:w'.heap.size=w.heap.size)(aJ:w'.heap[n]?=some FW)(ah:∀ b,b≠n->w'.heap[b]?=w.heap[b]?)(aC:mv w w'):cg X β a w' F C I (⟨n,FW⟩::M):=by
 have aa:=h.P1 ar ah aC;have ga:(⟨n,mI⟩:aE)∈(⟨n,mI⟩:aE)::M:=by simp
 have bJ:=h.holds.bX;simp only[cc,kN]at bJ;have mem:∀ x,x∈(⟨n,FW⟩:aE)::M->x=⟨n,FW⟩\/x∈M:=λx ab=>dW.1 ab;exact {
  size:=aa.size
  defers:=by
   obtain⟨bb,aA,a0,bY⟩:=aa.defers;obtain⟨aaL,f1,f2,f3⟩:=h.defers;refine⟨bb,aA,a0,λr af=>{ bY r af with ef:=λx ab=>?_ }⟩;rcases mem x ab with rfl | ab
   ·have dE:bb=aaL:=by
     have:=aA.symm.trans f1;have ym:∀ l ed:List Nat,l.map tY=ed.map tY->l=ed:=by
      intro l
      induction l with
      |nil=>intro ed h;cases ed with
       |nil=>rfl| cons=>simp at h
      |cons y l aR=>intro ed h;cases ed with
       |nil=>simp at h
       |cons z ed=>
        simp only[cc,vU,tY,Deferred.mk.injEq]at h;have aD:y=z:=by simpa using h.1
        rw[aD,aR ed h.2]
     exact ym _ _ this
    subst dE;exact(f3 r af).ef ⟨n,mI⟩ ga
   ·exact(bY r af).ef x ab
  holds:={
   i:=aa.holds.i
   m:=λx ab=>by
    rcases mem x ab with rfl | ab;·exact aJ
    ·exact aa.holds.m x ab
   d:=λx ab=>by
    rcases mem x ab with rfl | ab;·exact h.holds.d ⟨n,mI⟩ ga
    ·exact aa.holds.d x ab
   bX:=by simpa using bJ }
  ak:=h.ak
  bR:=λs cs lq=>by
   have rD:=h.bR s cs lq;refine { aa.bR s cs lq with ef:=λx ab=>?_ };rcases mem x ab with rfl | ab;·exact rD.ef ⟨n,mI⟩ ga
   ·exact(aa.bR s cs lq).ef x ab
  inj:=h.inj
  g9:=h.g9
  gT:=h.gT
  own:=λx ab=>by
   rcases mem x ab with rfl | ab;·exact h.own ⟨n,mI⟩ ga
   ·exact aa.own x ab
  dA:=aa.dA
  out:=aa.out
  sz:=aa.sz
  eI:=aa.eI }
def mS(l:List (ByteArray×Int)):Nat->List MapEntry
 |i=>match l with
  |[]=>[]| p::l=>{ key:=.string p.1,val:=.int .i64 p.2,born:=i }::mS l (i+1)
def h8(l:List (ByteArray×Int)):Obj:=.map (mS l 0).toArray l.length
def dz(s:ByteArray):List (ByteArray×Int)->Option Int
 |[]=>none| p::l=>bif decide (s=p.1)then some p.2 else dz s l
def aaM(l:List (ByteArray×Int))(p:ByteArray×Int):∀ i,mS (l++[p]) i=mS l i++[{ key:=.string p.1,val:=.int .i64 p.2,born:=i+l.length }]:=by
 induction l with
 |nil=>intro i;simp[mS]| cons q l aR=>intro i;simp only[qO,mS,aR,ea,vU,true_and,List.append_cancel_left_eq,MapEntry.mk.injEq,and_true];omega
def bytes_beq(a b:ByteArray):(a == b)=decide (a=b):=by
 rw[rq];simp only[hk];constructor
 ·intro h
  first | exact eq_of_beq h | exact sL (eq_of_beq (a:=a.data) (b:=b.data) h)
 ·rintro rfl
  first | exact BZ _ | exact BZ a.data
def FX(s:ByteArray):∀ (l:List (ByteArray×Int)) (i j:Nat),∃ r,Instr.findNow .string (.string s) (mS l i) j=some r/\r.map (·.2)=(dz s l).map (Value.int .i64)
 |[],i,j=>⟨none,rfl,rfl⟩
 |p::l,i,j=>by
  obtain⟨r,aa,ad⟩:=FX s l (i+1) (j+1);unfold mS Instr.findNow;simp only[Instr.sameNow,bytes_beq];cases ah:decide (s=p.1)with
  |true=>exact⟨_,rfl,by simp[dz,ah]⟩| false=>exact⟨r,aa,by simp only[dz,ah,b0];exact ad⟩
def br.makeMap(aG:cw X.P X.E){t:Nat}{r:Operand}(aC:o.op=.makeMap t (some r))(aj:∀ d,o.dst=some d->d<X.n)(aw:X.E t=some c8)(dQ:c8.bE=.map k e)
  {q:IntKind} {n:Int} (af:bt F r=.val (.int q n)) (h:∀ b,K (put o.dst (.val (.map (some b))) F) C I (⟨b,h8 []⟩::M)):br X o F C I M K:=by
 refine⟨λa w Q ⟨β,aX⟩=>?_⟩;obtain⟨d,e0,eF⟩:=(aG _ _ aw).eW;have aa:d=.map k e:=by rw[dQ]at eF;cases d<;>simp_all[eR]
 subst aa;have J2:=cS aX.ak af;refine iE (by rw[aC];simp) (v:=.map (some w.heap.size)) (w':=w.alloc (.map #[] 0)) ?_ ⟨_,_,_,_,⟨β,cg.put (x:=.val (.map (some w.heap.size))) (aX.nb (h8 [])) aj rfl⟩,h _⟩;unfold execOp;simp only[aC,ka,J2];simp[Instr.makeMap,run_underlying e0,asInt,mA]
def br.lookup(aG:cw X.P X.E){t:Nat}(aC:o.op=.lookup t x y true)(aj:∀ d,o.dst=some d->d<X.n)(aw:X.E t=some c8)(dQ:c8.bE=.map k e)(ae:X.E k=some qP)(fl:qP.bE=.string)(a':∀ w,(zeroValue e).run X.P w=.ok (.int .i64 0) w)(ab:bt F x=.val (.map (some g)))(aD:bt F y=.val (.string s))(a3:(⟨g,h8 l⟩:aE)∈M)
  (h:K (put o.dst (.val (.tuple #[.int .i64 ((dz s l).getD 0),.bool (dz s l).isSome])) F) C I M):br X o F C I M K:=by
 refine⟨λa w Q ⟨β,aX⟩=>?_⟩;obtain⟨d,e0,eF⟩:=(aG _ _ aw).eW;have aa:d=.map k e:=by rw[dQ]at eF;cases d<;>simp_all[eR]
 subst aa;obtain⟨c6,p6,fS⟩:=(aG _ _ ae).eW;have ad:c6=.string:=by rw[fl]at fS;cases c6<;>simp_all[eR]
 subst ad;have ax:w.heap[g]?=some (.map (mS l 0).toArray l.length):=aX.holds.m _ a3;have ex:=cS aX.ak ab;have mJ:=cS aX.ak aD;obtain⟨r,sR,kH⟩:=FX s l 0 0;have au:(Instr.checkKey (mS l 0).toArray.isEmpty 10000 k (.string s)).run X.P w=.ok () w:=zS (k:=.string s) p6 (by simp[MapKept.IsKey]) _ 9999;have r6:(Instr.findKey k (.string s) (mS l 0)).run X.P w=.ok r w:=zU p6 sR;have eT:(Instr.lookup t (.map (some g)) (.string s) true).run X.P w=.ok (.tuple #[.int .i64 ((dz s l).getD 0),.bool (dz s l).isSome]) w:=by
  unfold Instr.lookup;simp only[bV,run_underlying e0,bN,zP ax,cH,au,r6];cases r with
  |none=>
   cases av:dz s l with
   |none=>simp[a']| some v=>rw[av]at kH;simp at kH
  |some p=>
   cases av:dz s l with
   |none=>rw[av]at kH;simp at kH| some v=>rw[av]at kH;simp only[ka,jl]at kH;simp[kH]
 refine sQ aX aj (by rw[aC];simp) ?_ h;unfold execOp;simp only[aC,ex,mJ,bV,eT,bN,cH]
def br.Rd(aG:cw X.P X.E){t:Nat}{z:Operand}(aC:o.op=.mapUpdate t x y z)(aj:o.dst=none)(aw:X.E t=some c8)(dQ:c8.bE=.map k e)(ae:X.E k=some qP)(fl:qP.bE=.string)
 {v:Int} (ab:bt F x=.val (.map (some g))) (aD:bt F y=.val (.string s)) (xK:bt F z=.val (.int .i64 v)) (av:dz s l=none)
  {Mr:List aE} (a3:M.Perm (⟨g,h8 l⟩::Mr)) (h:K F C I (⟨g,h8 (l++[(s,v)])⟩::Mr)):br X o F C I M K:=by
 refine⟨λa w Q ⟨β,kh⟩=>?_⟩;have aX:cg X β a w F C I (⟨g,h8 l⟩::Mr):=kh.hs (.perm a3 .refl);obtain⟨d,e0,eF⟩:=(aG _ _ aw).eW;have aa:d=.map k e:=by rw[dQ]at eF;cases d<;>simp_all[eR]
 subst aa;obtain⟨c6,p6,fS⟩:=(aG _ _ ae).eW;have ad:c6=.string:=by rw[fl]at fS;cases c6<;>simp_all[eR]
 subst ad;have ax:w.heap[g]?=some (.map (mS l 0).toArray l.length):=aX.holds.m ⟨g,h8 l⟩ (by simp);have ex:=cS aX.ak ab;have mJ:=cS aX.ak aD;have J3:=cS aX.ak xK;obtain⟨r,sR,kH⟩:=FX s l 0 0;have af:r=none:=by
  rw[av]at kH;cases r with
  |none=>rfl| some _=>simp at kH
 subst af;have au:(Instr.checkKey false 10000 k (.string s)).run X.P w=.ok () w:=zS (k:=.string s) p6 (by simp[MapKept.IsKey]) _ 9999;have r6:(Instr.findKey k (.string s) (mS l 0)).run X.P w=.ok none w:=zU p6 sR;have eZ:h8 (l++[(s,v)])=.map ((mS l 0).toArray.push { key:=.string s,val:=.int .i64 v,born:=l.length }) (l.length+1):=by unfold h8;rw[aaM];simp
 have eT:(Instr.mapUpdate t (.map (some g)) (.string s) (.int .i64 v)).run X.P w=.ok () { w with heap:=w.heap.setIfInBounds g (h8 (l++[(s,v)])) }:=by unfold Instr.mapUpdate;simp only[bV,run_underlying e0,bN,zP ax,au,r6,Jt _ ax,eZ]
 have fR:=MapKept.heap_set (o':=h8 (l++[(s,v)])) ax;refine zq (by rw[aC];simp) (w':={ w with heap:=w.heap.setIfInBounds g (h8 (l++[(s,v)])) }) ?_ ⟨F,C,I,_,⟨β,?_⟩,h⟩
 ·unfold execOp;simp only[aC,ex,mJ,J3,bV,eT,bN,cH]
 ·rw[aj];exact aX.swap (by simp) fR.1 fR.2 ⟨rfl,rfl⟩
end
end Go.V
