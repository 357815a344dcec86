/- Part 3 of what the proofs of this seat share: the executor, data in memory, walks.
-/
import Derived.Test.YtmncamccjfmbpaaGreatDoorK2
import Derived.Lib.Builder
import Derived.Lib.Bytealg
import Derived.Laws.Pointers
import Derived.Laws.StructEq
import Derived.WideMake
set_option linter.all false
set_option maxHeartbeats 8000000
set_option maxRecDepth 100000
namespace Go.V
open Go Go.Proofs
def eA:=@Int.eq_ofNat_of_zero_le
def eF:=@List.perm_append_comm
def dT:=@List.append_assoc
def ft:=@List.take_of_length_le
def eB:=@decide_eq_false
def gM:=@List.map_congr_left
def dz:=@Nat.zero_le
def hd:=@List.flatMap_append
def fL:=@List.length_nil
def fu:=@decide_eq_true
def g7:=@List.getElem_map
def mT:=@List.getElem?_append_right
def ia:=@List.getElem?_set
def jK:=@List.sum_cons
def mU:=@List.cons_append
def sm:=@List.length_replicate
def sp:=@List.take_append_drop
def sq:=@Bool.or_eq_false_iff
def nW:=@Bool.true_and
def qn:=@List.take_left'
def vY:=@List.eq_nil_or_concat
def xy:=@Int.ofNat_eq_natCast
def zc:=@List.sublist_cons_self
def zd:=@List.reverse_singleton
def uD:=@List.sum_append
def ze:=@Int.toNat_of_nonneg
def zf:=@List.filter_sublist
def Bq:=@List.drop_eq_nil_iff
def Dv:=@MapKept.run_getObj_map
def zg:=@List.ext_getElem?
def Br:=@List.length_take_le
def xz:=@List.cons.injEq
def Dw:=@MapKept.run_checkKey
def xA:=@Bool.false_and
def Dx:=@MapKept.run_findKey
def J3:=@Int.fdiv_eq_ediv_of_nonneg
def J4:=@List.perm_append_singleton
def Bs:=@List.drop_left'
def J5:=@ByteArray.size_append
def Gw:=@List.all_append
def OD:=@MapKept.run_setObj_map
def J6:=@List.all_eq_false
def Dy:=@List.sum_nil
def J7:=@BitVec.toNat_and
def J8:=@Nat.lt_of_not_le
def OE:=@List.mem_of_mem_take
def Gx:=@List.cons.inj
def OF:=@List.getElem_set
def J9:=@List.set_set
variable{I:aI}{b j g c bm e T k i:Nat}{s:ByteArray}{v pz p:Value}{t:bR}{P:Program}{w:Bool}{sa:Option Addr}{x y:Operand}{c7 tj:dD}{cs:List Value}{aw:List Int}{os:aX}{α:Type}{F:Fr}{C:dB}{l:List (ByteArray×Int)}
def dC(b:Nat)(s:List Int):aD:=⟨b,.cells (s.map (Value.int .i64)).toArray 3 (0,0)⟩
def Gy{M:List aD}{s:List Int}(a':dC b s∈M)(ai:j<s.length):cM I M ((⟨b,0,none⟩:Addr).add (j*1)) 1 [.int .i64 s[j]]:=by
 rw[eP _ rfl];refine⟨rfl,_,3,(0,0),.inr ⟨_,a',rfl,rfl⟩,?_,rfl⟩;have aa:j<(s.map (Value.int .i64)).length:=by simpa using ai
 simp only[db,e0];rw[eR aa,qb,re];simp
def Gz{M:List aD}{s:List Int}{v:Int}(ai:j<s.length)(ah:s[j]=v)(a':dC b s∈M):cM I M ((⟨b,0,none⟩:Addr).add (j*1)) 1 [.int .i64 v]:=ah ▸ Gy a' ai
def oF(s:List Int)(j:Nat)(ai:j<s.length)(b:Int):ck (s.map (Value.int .i64)) j [.int .i64 b]=(s.set j b).map (Value.int .i64):=by unfold ck;rw[sd,F3];simp[ai]
def agv(ap:mS I)(av:t.ok I):Spec Tryz.prog 36 [t.val] I [] (λv I' M'=>v=.int .i64 (bif right t then(t.n:Int)else 0)/\I'=I/\M'=[]):=by
 refine bZ [] a5 Tryz.func36 rfl rfl rfl ?_;intro B az;refine bc.mk [] [] _ (.refl _) (qm ap av) ?_;rintro v I' M' -⟨rfl,rfl,rfl⟩;refine aZ.mk (λh=>?_) (λh=>?_)
 ·refine⟨_,_,.refl,?_,rfl,rfl⟩;rw[show right t=false by simpa using h];rfl
 ·refine⟨_,_,.refl,?_,rfl,rfl⟩;rw[show right t=true by simpa using h];rfl
def VH{i:Nat}:∀ {ks:List Int} {s b3:List Bool},kU i ks s=some b3->∀ k∈ks,0<=k/\k<i
 |[],s,b3,_,k,ae=>by cases ae
 |x::ks,s,b3,h,k,ae=>by
  unfold kU at h;cases ag:(decide (x<0)||(decide ((i:Int)<=x)||s.getD x.toNat false))with
  |true=>rw[ag]at h;cases h
  |false=>
   rw[ag]at h;simp only[sq,sb]at ag;rcases ee.1 ae with rfl | ae;·omega
   ·exact VH h k ae
def VI:∀ {i:Nat} {ds:List an} {s b3:List Bool},jt i ds s=some b3->∀ j (h:j<ds.length),∀ k∈ds[j].ax,0<=k/\k<(i+j:Nat)
 |i,[],s,b3,_,j,ai,_,_=>by cases ai
 |i,d::ds,s,b3,h,j,ai,k,ae=>by
  unfold jt at h;cases aA:fits d d.ax.length with
  |false=>rw[aA]at h;cases h
  |true=>
   rw[aA]at h;simp only[ca]at h;cases aH:kU i d.ax s with
   |none=>rw[aH]at h;cases h
   |some s1=>
    rw[aH]at h;cases j with
    |zero=>exact VH aH k (by simpa using ae)| succ j=>have:=VI h j (by simpa using ai) k (by simpa using ae);omega
def mm(h:right t=true):∀ j (ai:j<t.ns.length),∀ k∈t.ns[j].ax,0<=k/\k<j:=by
 unfold right at h;simp only[cB]at h;obtain⟨_,_,h⟩:=h;split at h
 ·rename_i s ar;intro j ai k ae;have:=VI ar j ai k ae;omega
 ·cases h
def qo(h:right t=true):0<=t.bA/\t.bA<t.ns.length:=by unfold right at h;simp only[cB,hR]at h;exact⟨h.1,h.2.1⟩
def GA(gX:List Int):List Int->Int->Int
 |[],m=>m| k::ks,m=>GA gX ks (max m (gX.getD k.toNat 0))
def vZ:Nat->List an->List Int->List Int
 |_,[],gX=>gX| i,d::ds,gX=>vZ (i+1) ds (gX.set i (GA gX d.ax 0+1))
def depth(t:bR):Int:=bif right t then(vZ 0 t.ns (List.replicate t.ns.length 0)).getD t.bA.toNat 0 else 0
def agw(ap:mS I)(av:t.ok I):Spec Tryz.prog 48 [t.val] I [] (λv I' M'=>v=.int .i64 (depth t)/\I'=I/\M'=[]):=by
 refine bZ [] a5 Tryz.func48 rfl rfl rfl ?_;intro B az;have aB:=av.n;have ju:=av.a0.cap;refine bc.mk [] [] _ (.refl _) (qm ap av) ?_;rintro v I' M' -⟨rfl,rfl,rfl⟩;refine aZ.mk (λh=>?_) (λh=>?_)
 ·refine⟨_,_,.refl,?_,rfl,rfl⟩;simp[depth,show right t=false by simpa using h]
 ·have af:right t=true:=by simpa using h
  have v0:=mm af;obtain⟨a8,ba⟩:=qo af;refine mG.mk t.n t.n rfl rfl (cc _) (by show 8*t.n<=_;omega) (by omega) ?_;refine bX.mk λb ag sj=>?_;refine de.inv (ι:=Nat×List Int) (λx=>{ bj:=[(1,.ref 1 0),(3,.val (.slice (some ⟨b,0,none⟩) t.n t.n)),(16,.val (.slice t.a t.n t.c)),(17,.val (.int .i64 t.n)),(18,.val (.int .i64 x.1))],cl:=[(1,t.cells)],cI:=I',c1:=[dC b x.2] }) (λx=>x.1<=t.n/\x.2.length=t.n/\(∀ j,0<=x.2.getD j 0/\x.2.getD j 0<=x.1)/\(∀ j,x.1<=j->x.2.getD j 0=0)/\vZ 0 t.ns (List.replicate t.ns.length 0)=vZ x.1 (t.ns.drop x.1) x.2) (λx=>t.n-x.1) ?_ ?_
  ·have z:∀ j,(List.replicate t.n (0:Int)).getD j 0=0:=λj=>by
    by_cases ai:j<t.n<;>simp[bz,ai]
   refine⟨(0,List.replicate t.n 0),⟨by omega,by simp,λj=>by rw[z];simp,λj _=>z j,by simp[aB]⟩,?_,gf,.cons rfl .nil⟩;show h7 _ _ [⟨b,.cells (rowOf [Value.int .i64 0] (t.n*1)).toArray 3 (0,0)⟩] _ [dC b (List.replicate t.n 0)];rw[th,e0];simp only[dC,xm];exact .refl
  ·rintro⟨i,gX⟩⟨fh,iJ,il,ko,A5⟩;simp only at fh iJ il ko A5;refine aZ.mk (λh=>?_) (λh=>?_)
   ·have aV:i<t.n:=by simpa using h
    have ch:i<t.ns.length:=by omega
    obtain⟨aS,bH,bl⟩:=av.a0.row an.cS aV ch;have hH:=av.ns t.ns[i] (bx ch);have e8:=hH.aL;have ja:t.ns.drop i=t.ns[i]::t.ns.drop (i+1):=eR ch;refine bf.mk aS i bH rfl aV ?_;refine aO.mk t.ns[i].cells (bl _) ?_;refine de.inv (ι:=Nat×Int) (λx=>{ bj:=[(1,.ref 1 0),(3,.val (.slice (some ⟨b,0,none⟩) t.n t.n)),(4,.val (.int .i64 i)),(16,.val (.slice t.a t.n t.c)),(17,.val (.int .i64 t.n)),(18,.val (.int .i64 i)),(24,.val (.slice t.ns[i].dy t.ns[i].aL t.ns[i].dq)),(25,.val (.int .i64 t.ns[i].aL)),(26,.val (.int .i64 x.1))],cl:=[(1,t.cells)],cI:=I',c1:=[dC b (gX.set i x.2)] }) (λx=>x.1<=t.ns[i].aL/\0<=x.2/\x.2<=i/\GA gX t.ns[i].ax 0=GA gX (t.ns[i].ax.drop x.1) x.2) (λx=>t.ns[i].aL-x.1) ?_ ?_
    ·refine⟨(0,0),⟨by omega,by omega,by simp,rfl⟩,?_,j3,.cons rfl .nil⟩;have e:gX.set i 0=gX:=by
      have aa:=ko i (cc _);rw[bz]at aa;apply zg;intro j;rw[ia];split
      ·rename_i e;subst e;have:i<gX.length:=by omega
       simp[this]at aa |-;exact aa.symm
      ·rfl
     simp only;rw[e];exact .refl
    ·rintro⟨j,m⟩⟨J2,ti,Du,OG⟩;simp only at J2 ti Du OG;refine aZ.mk (λh=>?_) (λh=>?_)
     ·have eM:j<t.ns[i].aL:=by simpa using h
      have iy:j<t.ns[i].ax.length:=by omega
      obtain⟨gg,fs,e'⟩:=hH.a0.one eM iy;have lr:t.ns[i].ax.drop j=t.ns[i].ax[j]::t.ns[i].ax.drop (j+1):=eR iy;have ae:=v0 i ch t.ns[i].ax[j] (bx iy);have lP:t.ns[i].ax[j]=((t.ns[i].ax[j].toNat:Nat):Int):=by omega
      have cy:t.ns[i].ax[j].toNat<t.n:=by omega
      refine bf.mk gg j fs rfl eM ?_;refine aO.mk [.int .i64 t.ns[i].ax[j]] (e' _) ?_;refine cY.draw a5 rfl rfl rfl ?_;have dI:i<(gX.set i m).length:=by simp;omega
      have mj:t.ns[i].ax[j].toNat<(gX.set i m).length:=by simp;omega
      have OH:(gX.set i m)[i]=m:=by simp
      have fc:(gX.set i m)[t.ns[i].ax[j].toNat]=gX.getD t.ns[i].ax[j].toNat 0:=by
       have bn:i≠t.ns[i].ax[j].toNat:=by omega
       have dN:t.ns[i].ax[j].toNat<gX.length:=by omega
       rw[OF,bU bn];simp[bz,dN]
      refine bf.mk ⟨b,0,none⟩ i rfl rfl aV ?_;refine aO.mk [.int .i64 m] (Gz dI OH (by simp)) ?_;refine bf.mk ⟨b,0,none⟩ t.ns[i].ax[j].toNat rfl lP cy ?_;refine aO.mk [.int .i64 (gX.getD t.ns[i].ax[j].toNat 0)] (Gz mj fc (by simp)) ?_;refine bf.mk ⟨b,0,none⟩ i rfl rfl aV ?_;refine b2.add [] [] _ 3 rfl ?_ rfl ?_;·simp only[ow,bF];show 0+i*1+1<=_;simp;omega
      have fP:IntKind.i64.wrap ((j:Int)+1)=((j+1:Nat):Int):=by rw[wrap_i64 ⟨by omega,by have:=hH.a0.cap;omega⟩];omega
      refine bg.mk _ fP ?_;have at7:=il t.ns[i].ax[j].toNat;refine⟨(j+1,max m (gX.getD t.ns[i].ax[j].toNat 0)),⟨⟨by omega,by simp only;omega,by simp only;omega,?_⟩,by show _<_;simp only;omega⟩,?_,j3,.cons rfl .nil⟩;·simp only;rw[OG,lr];rfl
      ·have e:=oF (gX.set i m) i dI (max m (gX.getD t.ns[i].ax[j].toNat 0));simp only[dC];rw[J9]at e;rw[<-e];simp only[db,e0];exact .refl
     ·have eM:¬ j<t.ns[i].aL:=by simpa using h
      have Bp:t.ns[i].ax.drop j=[]:=jH (by omega);have hm:GA gX t.ns[i].ax 0=m:=by rw[OG,Bp];rfl
      have dI:i<(gX.set i m).length:=by simp;omega
      have OH:(gX.set i m)[i]=m:=by simp
      have OI:IntKind.i64.wrap (m+1)=m+1:=wrap_i64 ⟨by omega,by omega⟩;have fP:IntKind.i64.wrap ((i:Int)+1)=((i+1:Nat):Int):=by rw[wrap_i64 ⟨by omega,by omega⟩];omega
      refine bf.mk ⟨b,0,none⟩ i rfl rfl aV ?_;refine aO.mk [.int .i64 m] (Gz dI OH (by simp)) ?_;refine bg.mk _ OI ?_;refine bf.mk ⟨b,0,none⟩ i rfl rfl aV ?_;refine b2.add [] [] _ 3 rfl ?_ rfl ?_;·simp only[ow,bF];show 0+i*1+1<=_;omega
      refine bg.mk _ fP ?_;refine⟨(i+1,gX.set i (m+1)),⟨⟨by omega,by simp[iJ],?_,?_,?_⟩,by show _<_;simp only;omega⟩,?_,gf,.cons rfl .nil⟩
      ·intro q;have agx:=il q;simp only[bz,ia]at agx |-;split
       ·rename_i e;subst e;have:i<gX.length:=by omega
        simp[this];omega
       ·omega
      ·intro q aP;have VJ:=ko q (by omega);simp only at aP;simp only[bz,ia]at VJ |-;rw[bU (by omega)];exact VJ
      ·simp only;rw[A5,ja];simp only[vZ,hm]
      ·have e:=oF (gX.set i m) i dI (m+1);simp only[dC];rw[J9]at e;rw[<-e];simp only[db,e0];exact .refl
   ·have cA:¬ i<t.n:=by simpa using h
    have hj:t.ns.drop i=[]:=jH (by omega);have gq:vZ 0 t.ns (List.replicate t.ns.length 0)=gX:=by rw[A5,hj];rfl
    have rz:t.bA=((t.bA.toNat:Nat):Int):=by omega
    have fa:t.bA.toNat<gX.length:=by omega
    refine bf.mk ⟨b,0,none⟩ t.bA.toNat rfl rz (by omega) ?_;refine aO.mk [.int .i64 gX[t.bA.toNat]] (Gz fa rfl (by simp)) ?_;refine⟨_,_,.sub (fp _) .refl,?_,rfl,rfl⟩;have:depth t=gX[t.bA.toNat]:=by unfold depth;rw[af,gq];simp[bz,fa]
    rw[this];rfl
def pA(t:bR):Bool:=decide (t.n<=1024)&&(right t&&decide (depth t<=32))
def agy(ap:mS I)(av:t.ok I):Spec Tryz.prog 119 [t.val] I [] (λv I' M'=>v=.bool (pA t)/\I'=I/\M'=[]):=by
 refine bZ [] a5 Tryz.func119 rfl rfl rfl ?_;intro B az;refine cq.mk (λaa=>?_) (λaa=>?_)
 ·refine bc.mk [] [] _ (.refl _) (qm ap av) ?_;rintro v I' M' -⟨rfl,rfl,rfl⟩;refine cq.mk (λab=>?_) (λab=>?_)
  ·refine bc.mk [] [] _ (.refl _) (agw ap av) ?_;rintro v I' M' -⟨rfl,rfl,rfl⟩;refine⟨_,_,.refl,?_,rfl,rfl⟩;have tk:t.n<=1024:=by simp at aa;omega
   simp[pA,tk,ab]
  ·refine⟨_,_,.refl,?_,rfl,rfl⟩;have lO:right t=false:=ab;simp[pA,lO]
 ·refine⟨_,_,.refl,?_,rfl,rfl⟩;have tk:¬ t.n<=1024:=by simp at aa;omega
  simp[pA,tk]
def gC{α:Type}(z:α)(f:an->(Int->α)->α):List an->List α->List α
 |[],a6=>a6| d::ds,a6=>gC z f ds (a6++[f d λk=>a6.getD k.toNat z])
section
variable{α:Type}{z:α}{f:an->(Int->α)->α}
def OJ:∀ (ds:List an) (a6:List α),(gC z f ds a6).length=a6.length+ds.length
 |[],a6=>by simp[gC]
 |d::ds,a6=>by rw[gC,OJ ds];simp;omega
def OK:∀ (ds:List an) (a6:List α) (j:Nat),j<a6.length->(gC z f ds a6)[j]?=a6[j]?
 |[],a6,j,_=>rfl| d::ds,a6,j,h=>by rw[gC,OK ds _ j (by simp;omega),q' h]
def OL:∀ (ds:List an) (a6:List α) (j:Nat) (h:j<ds.length),(gC z f ds a6)[a6.length+j]?=some (f ds[j] λk=>((gC z f ds a6).take (a6.length+j)).getD k.toNat z)
 |d::ds,a6,0,_=>by
  rw[gC,pk,OK ds _ a6.length (by simp)];simp only[List.getElem?_concat_length,uq,kk];congr 1;funext k;have:(gC z f ds (a6++[f d λk=>a6.getD k.toNat z])).take a6.length=a6:=by
   apply zg;intro i;rw[k6];split;·rename_i hi;rw[OK ds _ i (by simp;omega),q' hi]
   ·rw[qa (by omega)]
  rw[this]
 |d::ds,a6,j+1,h=>by have:=OL ds (a6++[f d λk=>a6.getD k.toNat z]) j (by simpa using h);rw[gC];simp only[cm,dx,fL,db,F5]at this |-;rw[show a6.length+(j+1)=a6.length+1+j from by omega];exact this
def mo(z:α)(f:an->(Int->α)->α)(ns:List an)(k:Int):α:=(gC z f ns []).getD k.toNat z
def Dz(aA:∀ d g dJ,(∀ k∈d.ax,g k=dJ k)->f d g=f d dJ)(af:right t=true)(ai:j<t.ns.length):mo z f t.ns j=f t.ns[j] (mo z f t.ns):=by have h:=OL (z:=z) (f:=f) t.ns [] j ai;simp only[fL,db]at h;unfold mo;rw[bz,show((j:Int).toNat)=j from by omega,h,jV];refine aA _ _ _ λk ae=>?_;have:=mm af j ai k ae;rw[bz,bz,k6,bQ (by omega)]
end
def free(g:Nat->Nat)(s:List Bool):Nat->Nat
 |0=>0| i+1=>free g s i+(bif s.getD i false then 0 else g i)
def VK{g:Nat->Nat}{s:List Bool}{k:Nat}:∀ {i:Nat},i<=k->free g (s.set k true) i=free g s i
 |0,_=>rfl| i+1,h=>by unfold free;rw[VK (by omega)];simp only[bz,ia];rw[bU (by omega)]
def VL{g:Nat->Nat}{s:List Bool}{k:Nat}(ar:s.getD k false=false)(ay:k<s.length):∀ {i:Nat},k<i->free g (s.set k true) i+g k=free g s i
 |i+1,h=>by
  unfold free;by_cases e:i=k;·subst e;rw[VK (cc _),ar];simp[bz,ay]
  ·have:=VL (g:=g) ar ay (i:=i) (by omega);simp only[bz,ia]at this |-;rw[bU (by omega)];omega
def gY(g:Int->Nat)(ks:List Int):Nat:=(ks.map g).sum
def VM{g:Nat->Nat}{i:Nat}:∀ {ks:List Int} {s b3:List Bool},kU i ks s=some b3->i<=s.length->b3.length=s.length/\free g b3 i+gY (λk=>g k.toNat) ks=free g s i
 |[],s,b3,h,_=>by simp only[kU,kk]at h;subst h;exact⟨rfl,rfl⟩
 |x::ks,s,b3,h,ay=>by
  unfold kU at h;cases ag:(decide (x<0)||(decide ((i:Int)<=x)||s.getD x.toNat false))with
  |true=>rw[ag]at h;cases h| false=>rw[ag]at h;simp only[sq,sb]at ag;obtain⟨aa,ab,ak⟩:=ag;obtain⟨aG,a7⟩:=VM (g:=g) h (by simpa using ay);have cr:=VL (g:=g) ak (by omega) (i:=i) (by omega);refine⟨by simpa using aG,?_⟩;simp only[gY,cb,jK]at a7 |-;omega
def OM{g:Nat->Nat}{c:an->Nat}:∀ {ds:List an} {i:Nat} {s b3:List Bool},jt i ds s=some b3->i+ds.length<=s.length->(∀ j (h:j<ds.length),g (i+j)<=c ds[j]+gY (λk=>g k.toNat) ds[j].ax) -> b3.length=s.length/\free g b3 (i+ds.length)<=free g s i+(ds.map c).sum
 |[],i,s,b3,h,_,_=>by simp only[jt,kk]at h;subst h;simp
 |d::ds,i,s,b3,h,ay,au=>by
  unfold jt at h;cases aA:fits d d.ax.length with
  |false=>rw[aA]at h;cases h
  |true=>
   rw[aA]at h;simp only[ca]at h;cases aH:kU i d.ax s with
   |none=>rw[aH]at h;cases h
   |some s1=>
    rw[aH]at h;simp only[dx]at ay;obtain⟨aG,a7⟩:=VM (g:=g) aH (by omega);obtain⟨cr,ea⟩:=OM (g:=g) (c:=c) h (by omega) (λj ai=>by
     have:=au (j+1) (by simp;omega);simp only[F5]at this;rw[show i+1+j=i+(j+1)from by omega];exact this)
    have az:=au 0 (by simp);simp only[pk,uq]at az;refine⟨by omega,?_⟩;have ls:free g s1 (i+1)<=free g s1 i+g i:=by
     show free g s1 i+_<=_;cases s1.getD i false<;>simp
    simp only[dx,cb,jK];rw[show i+(ds.length+1)=i+1+ds.length from by omega];omega
def VN{bA:Int}:∀ {s:List Bool} {i:Nat},ru bA i s=true->∀ j,j<s.length->(i+j:Nat)=bA->s.getD j false=false
 |b::s,i,h,j,ai,e=>by
  unfold ru at h;cases ag:(b == decide ((i:Int)=bA))with
  |true=>rw[ag]at h;cases h
  |false=>
   rw[ag]at h;cases j with
   |zero=>
    have:decide ((i:Int)=bA)=true:=by simpa using e
    rw[this]at ag;simpa using ag
   |succ j=>have:=VN (i:=i+1) h j (by simpa using ai) (by omega);simpa using this
def VO{g:Nat->Nat}{s:List Bool}{k:Nat}(ae:s.getD k false=false):∀ {n:Nat},k<n->g k<=free g s n
 |n+1,h=>by
  unfold free;by_cases e:n=k;·subst e;rw[ae];simp
  ·have:=VO (g:=g) ae (n:=n) (by omega);omega
def ON(af:right t=true){g:Int->Nat}{c:an->Nat}(h:∀ j (ai:j<t.ns.length),g j<=c t.ns[j]+gY g t.ns[j].ax):g t.bA<=(t.ns.map c).sum:=by
 have tl:=qo af;have ae:=mm af;unfold right at af;simp only[cB]at af;obtain⟨_,_,af⟩:=af;split at af
 ·rename_i s ar;obtain⟨aG,a7⟩:=OM (g:=λk=>g k) (c:=c) ar (by simp) (λj ai=>by refine k9 (by rw[db];exact h j ai) (Nat.le_of_eq ?_);congr 1;unfold gY;congr 1;refine gM λk fc=>?_;have:=ae j ai k fc;rw[ze this.1]);simp only[sm,db]at aG a7;have bb:=VN af t.bA.toNat (by omega) (by omega);have:=VO (g:=λk=>g k) bb (n:=t.ns.length) (by omega);rw[ze tl.1]at this;simp only[free]at a7;omega
 ·cases af
def DA(af:right t=true)(ai:j<t.ns.length):fits t.ns[j] t.ns[j].ax.length=true:=by
 have aux:∀ {ds:List an} {i:Nat} {s b3:List Bool},jt i ds s=some b3->∀ j (h:j<ds.length),fits ds[j] ds[j].ax.length=true:=by
  intro ds
  induction ds with
  |nil=>intro i s b3 _ j ai;cases ai
  |cons d ds aN=>
   intro i s b3 h j ai;unfold jt at h;cases aA:fits d d.ax.length with
   |false=>rw[aA]at h;cases h
   |true=>
    rw[aA]at h;simp only[ca]at h;cases aH:kU i d.ax s with
    |none=>rw[aH]at h;cases h
    |some s1=>
     rw[aH]at h;cases j with
     |zero=>exact aA| succ j=>exact aN h j (by simpa using ai)
 unfold right at af;simp only[cB]at af;obtain⟨_,_,af⟩:=af;split at af
 ·rename_i s ar;exact aux ar j ai
 ·cases af
def agz{w:World}(t u ty e:Nat)(i:TypeInfo)(av:P.underlying t=some (.slice e)){mi:TypeDesc}(hu:P.underlying u=some mi)(nV:∀ k,mi≠.int k)(hi:P.info? e=some i)
 {n:Nat} (mQ:n<=c) (az:(∃ b c,pz=.slice b 0 c)\/pz=.string .empty):(Builtin.append_ #[t,u] ty #[.slice sa n c,pz]).run P w=.ok (.slice sa n c) w:=by
 have Gs:(match mi with | .int _=>true | _=>false)=false:=by cases mi<;>first | rfl | exact(nV _ rfl).elim
 rcases az with⟨b,c',rfl⟩ | rfl
 ·cases b<;>cases sa<;>simp[Builtin.append_,run_underlying av,run_underlying hu,sizeOf,typeInfo,hi,Gs,Builtin.lenOf,mQ,Builtin.firstCells,Builtin.zeroCells,loadCells,loadCellsFrom,storeCells]
 ·cases sa<;>simp[Builtin.append_,run_underlying av,run_underlying hu,sizeOf,typeInfo,hi,Gs,Builtin.lenOf,mQ,Builtin.firstCells,loadCells,storeCells]
section
variable{X:cV}{β:Nat->Nat}{a:Act}{w:World}{F:Fr}{C:dB}{I:aI}{M:List aD}{o:Oper}{K:gd}
def bw.bin{op:BinOp}{t:Nat}(aH:o.op=.binOp op t x y bm)(aj:∀ d,o.dst=some d->d<X.n){q:Value}(ad:bE F x=.val p)(aE:bE F y=.val q)
  (au:∀ w,(eqGuard op t x y p q).run X.P w=.ok () w) (af:∀ w,ey I M w->(binOp op t p q).run X.P w=.ok v w) (h:K (put o.dst (.val v) F) C I M):bw X o F C I M K:=by
 refine⟨λac w Q ⟨β,aW⟩=>?_⟩;have ex:=dc aW.al ad;have oE:=dc aW.al aE;refine vG aW aj (by rw[aH];simp) ?_ h;unfold execOp;simp only[aH,cj,ex,oE,au,bV,af w aW.holds,c0]
def bw.conv{s t:Nat}(aH:o.op=.convert s t x)(aj:∀ d,o.dst=some d->d<X.n)(ad:bE F x=.val p)
  (af:∀ w,ey I M w->(convert s t p).run X.P w=.ok v w) (h:K (put o.dst (.val v) F) C I M):bw X o F C I M K:=by
 refine⟨λac w Q ⟨β,aW⟩=>?_⟩;have ex:=dc aW.al ad;refine vG aW aj (by rw[aH];simp) ?_ h;unfold execOp;simp only[aH,cj,ex,bV,af w aW.holds,c0]
def bw.un{op:UnOp}{t:Nat}(aH:o.op=.unOp op t x)(aj:∀ d,o.dst=some d->d<X.n)(ad:bE F x=.val p)
  (af:∀ w,ey I M w->(Op.unary op p).run X.P w=.ok v w) (h:K (put o.dst (.val v) F) C I M):bw X o F C I M K:=by
 refine⟨λac w Q ⟨β,aW⟩=>?_⟩;have ex:=dc aW.al ad;refine vG aW aj (by rw[aH];simp) ?_ h;unfold execOp;simp only[aH,cj,ex,bV,af w aW.holds,c0]
def jv(x:Int):Int:=IntKind.u64.wrap (BitVec.ofInt 64 IntKind.u64.max ^^^ BitVec.ofInt 64 x).toNat
def bw.GB{t:Nat}(aH:o.op=.unOp .xor t x)(aj:∀ d,o.dst=some d->d<X.n){n:Int}(ad:bE F x=.val (.int .u64 n))(h:K (put o.dst (.val (.int .u64 (jv n))) F) C I M):bw X o F C I M K:=
 .un aH aj ad (λw _=>rfl) h
def bw.OO(aM:cU X.P X.E){s:Operand}{t u:Nat}(aH:o.op=.call { callee:=.builtin .append,args:=#[s,x],argTypes:=#[t,u] })(aj:∀ d,o.dst=some d->d<X.n)
 {lM aF:dD} (av:X.E t=some c7) (dR:c7.bL=.slice e) (hu:X.E u=some lM) (fE:∀ k,lM.bL≠.int k) (he:X.E e=some aF)
 {n:Nat} (ar:bE F s=.val (.slice sa n c)) (mQ:n<=c)
 (ad:bE F x=.val pz) (az:(∃ b c,pz=.slice b 0 c)\/pz=.string .empty)
  (h:K (put o.dst (.val (.slice sa n c)) F) C I M):bw X o F C I M K:=by
 refine⟨λa w Q ⟨β,aW⟩=>?_⟩;obtain⟨inf,z,hi,fh,iJ,il,ko⟩:=(aM _ _ he).inf;obtain⟨d,fF,fi⟩:=(aM _ _ hu).fl;obtain⟨fK,jJ,j4⟩:=(aM _ _ av).fl;have qi:fK=.slice e:=by rw[dR]at j4;cases fK<;>simp_all[fk]
 subst qi;have e9:=agz (w:=w) t u o.type e inf jJ fF (λk cW=>fE k (by rw[<-fi,cW];rfl)) hi (sa:=sa) mQ az;have es:=dc aW.al ar;have ex:=dc aW.al ad;refine vG aW aj (by rw[aH];simp) ?_ h;unfold execOp;simp only[aH,resolve,invoke,builtin,cj,c0,bV,sc,cb,hr,es,ex,e9]
def VP(op:BinOp)(t:Nat)(x y:Operand)(p q:Option Addr)(P:Program)(w:World):(eqGuard op t x y (.pointer p) (.pointer q)).run P w=.ok () w:=by
 unfold eqGuard;cases op<;>rfl
def bw.J'(aM:cU X.P X.E){t:Nat}(aH:o.op=.binOp .eql t x y bm)(aj:∀ d,o.dst=some d->d<X.n)(av:X.E t=some c7)(dR:c7.bL=.pointer e)
  {p:Option Addr} (ad:bE F x=.val (.pointer p)) (aE:bE F y=.val (.pointer none)) (h:K (put o.dst (.val (.bool p.isNone)) F) C I M):bw X o F C I M K:=by
 obtain⟨d,fF,fi⟩:=(aM _ _ av).fl;have aa:d=.pointer e:=by rw[dR]at fi;cases d<;>simp_all[fk]
 subst aa;exact .bin aH aj ad aE (λw=>VP ..) (λw _=>run_eql_pointer_nil w t p (by simp[Program.pointee,fF])) h
def bw.VQ(aM:cU X.P X.E){t:Nat}(aH:o.op=.binOp .neq t x y bm)(aj:∀ d,o.dst=some d->d<X.n){agA:dD}(av:X.E t=some c7)(dR:c7.bL=.pointer e)(he:X.E e=some agA)
  {p:Addr} (ad:bE F x=.val (.pointer (some p))) (aE:bE F y=.val (.pointer (some p))) (h:K (put o.dst (.val (.bool false)) F) C I M):bw X o F C I M K:=by
 obtain⟨d,fF,fi⟩:=(aM _ _ av).fl;have aa:d=.pointer e:=by rw[dR]at fi;cases d<;>simp_all[fk]
 subst aa;obtain⟨inf,z,hi,_⟩:=(aM _ _ he).inf;exact .bin aH aj ad aE (λw=>VP ..) (λw _=>Lib.run_neq_ptr_same w p fF hi) h
end
def VR{f:Nat}{fn:Func}{e:Array Value->Sem Value}{args:List Value}{M:List aD}(aA:P.funcs[f]?=some fn)(Ka:(fn.name == "runtime.NumGoroutine")=false)
  (ag:fn.body.isNone=true) (aB:Extern.findNext fn=none) (he:Extern.find fn=some e) (af:∀ w,(e args.toArray).run P w=.ok v w):Spec P f args I M λr I' M'=>r=v/\I'=I/\M'=M:=by
 refine .inr λw hw=>⟨v,w,I,M,?_,⟨rfl,rfl,rfl⟩,hw,λ_ _ h=>h,λ_ _ h=>.inl h,λx ad=>.inl ⟨x,ad,rfl⟩,λ_ _ _=>rfl,.refl _,cc _⟩;rw[run_callFunc_extern aA Ka ag aB he,af];rfl
def zh(l:List UInt8):List Value:=l.map λb=>.int .u8 b.toNat
structure gh where
 tm:Bool
 os:aX
 bK:List UInt8
def gh.aq(b:Nat)(x:gh):aD:=⟨b,.cells #[.pointer (bif x.tm then some ⟨b,0,none⟩else none),x.os.val] 207 (0,0)⟩
def gh.M(b:Nat)(x:gh):List aD:=x.aq b::x.os.aq 5
structure gh.ok(x:gh):Prop where
 os:x.os.ok 1 (zh x.bK)
 ne:∀ g,x.os.a=some g->x.bK≠[]
def gh.new:gh:=⟨false,⟨none,0,0,[]⟩,[]⟩
def gh.Kb:gh.new.ok:=⟨⟨rfl,λ_=>⟨rfl,rfl⟩,λg h=>by cases h⟩,λg h=>by cases h⟩
def gh.ok.n{x:gh}(h:x.ok):x.os.n=x.bK.length:=by have:=h.os.len;simp[zh]at this;omega
def ptr(b:Nat):Value:=.pointer (some ⟨b,0,none⟩)
def c4{M:List aD}(a':(⟨b,.cells cs.toArray T (0,0)⟩:aD)∈M){n:Nat}(h:k+n<=cs.length):cM I M ((⟨b,0,none⟩:Addr).add k) n ((cs.drop k).take n):=by
 rw[eP _ rfl];refine⟨rfl,_,T,(0,0),.inr ⟨_,a',rfl,rfl⟩,?_,?_⟩
 ·simp
 ·simp;omega
def OP{M:List aD}(v:Value):Spec Tryz.prog 234 [v] I M λr I' M'=>r=v/\I'=I/\M'=M:=
 VR Tryz.func234 (by kernel_rfl) (by kernel_rfl) (by kernel_rfl) (e:=Extern.AbiNoEscape.same) (by kernel_rfl) (λw=>Lib.run_noEscape w _)
def VS{M:List aD}(s:ByteArray)(c:UInt8):Spec Tryz.prog 325 [.string s,.int .u8 c.toNat] I M λr I' M'=>r=.int .i64 (Lib.indexByte s.data.toList c)/\I'=I/\M'=M:=
 VR Tryz.func325 (by kernel_rfl) (by kernel_rfl) (by kernel_rfl) (e:=Extern.BytealgIndexByte.indexByte) (by kernel_rfl) (λw=>by
  have:=Lib.run_indexByteString (P:=Tryz.prog) s (c.toNat:Int) w;simpa using this)
def agB(s:ByteArray)(c:UInt8):Spec Tryz.prog 307 [.string s,.int .u8 c.toNat] I [] λr I' M'=>r=.int .i64 (Lib.indexByte s.data.toList c)/\I'=I/\M'=[]:=by refine bZ [] a5 Tryz.func307 rfl rfl rfl ?_;intro B az;refine bc.mk [] [] _ (.refl _) (VS s c) ?_;rintro v I' M' -⟨rfl,rfl,rfl⟩;exact⟨_,_,.refl,rfl,rfl,rfl⟩
def VT(s:ByteArray)(c:UInt8):Spec Tryz.prog 291 [.string s,.int .u8 c.toNat] I [] λr I' M'=>r=.int .i64 (Lib.indexByte s.data.toList c)/\I'=I/\M'=[]:=by refine bZ [] a5 Tryz.func291 rfl rfl rfl ?_;intro B az;refine bc.mk [] [] _ (.refl _) (agB s c) ?_;rintro v I' M' -⟨rfl,rfl,rfl⟩;exact⟨_,_,.refl,rfl,rfl,rfl⟩
def Kc{M:List aD}{w:World}(h:ey I M w){cs:Array Value}{al:Nat×Nat}(a':(⟨b,.cells cs T al⟩:aD)∈M):w.shape? b=some (T,cs.size):=by have:=h.m _ a';simp only at this;simp[World.shape?,this]
def VU(b:Nat)(x:gh):Spec Tryz.prog 192 [ptr b] I [x.aq b] λr I' M'=>r=.tuple #[]/\I'=I/\M'=[{ x with tm:=true:gh }.aq b]:=by
 obtain⟨tm,os,bK⟩:=x;obtain⟨inf,z,hi,fh,_⟩:=(a5 207 _ rfl).inf;refine bZ [] a5 Tryz.func192 rfl rfl rfl ?_;intro B az;cases tm with
 |false=>refine aO.mk [.pointer none] (c4 (cs:=[.pointer none,os.val]) (k:=0) (n:=1) (T:=207) (ek.2 rfl) (by simp)) ?_;refine .other (bw.J' a5 rfl (by simp) rfl rfl rfl rfl ?_);refine aZ.mk (λ_=>?_) (λh=>by cases h);refine bw.conv rfl (by simp) rfl (λw hw=>Lib.run_to_unsafe (t:=207) (e:=207) (cells:=2) w ⟨b,0,none⟩ (by kernel_rfl) (by kernel_rfl) (j:=inf) hi (by rw[fh];decide) (Kc (cs:=#[.pointer none,os.val]) hw (ek.2 rfl)) (by simp)) ?_;refine bc.mk [gh.aq b ⟨false,os,bK⟩] [] _ (by simp) (OP _) ?_;rintro v I' M' -⟨rfl,rfl,rfl⟩;refine bw.conv rfl (by simp) rfl (λw hw=>Lib.run_from_unsafe (u:=207) (e:=207) (cells:=2) w ⟨b,0,none⟩ (by kernel_rfl) (by kernel_rfl) (j:=inf) hi (Kc (cs:=#[.pointer none,os.val]) hw (ek.2 rfl)) (by kernel_rfl)) ?_;refine b2.add [] [] _ _ rfl (bJ rfl) rfl ?_;exact⟨_,_,.refl,rfl,rfl,rfl⟩
 |true=>refine aO.mk [ptr b] (c4 (cs:=[ptr b,os.val]) (k:=0) (n:=1) (T:=207) (ek.2 rfl) (by simp)) ?_;refine .other (bw.J' a5 rfl (by simp) rfl rfl rfl rfl ?_);refine aZ.mk (λh=>by cases h) (λ_=>?_);refine aO.mk [ptr b] (c4 (cs:=[ptr b,os.val]) (k:=0) (n:=1) (T:=207) (ek.2 rfl) (by simp)) ?_;refine .other (bw.VQ a5 rfl (by simp) rfl rfl rfl rfl rfl ?_);refine aZ.mk (λh=>by cases h) (λ_=>?_);exact⟨_,_,.refl,rfl,rfl,rfl⟩
def pB(b:Nat){x:gh}(ad:x.ok)(c:UInt8)(ay:x.bK.length<70368744177664):Spec Tryz.prog 230 [ptr b,.int .u8 c.toNat] I (x.M b)
  λr I' M'=>r=.nilIface/\I'=I/\∃ y:gh,y.ok/\y.bK=x.bK++[c]/\M'=y.M b:=by
 refine bZ [] a5 Tryz.func230 rfl rfl rfl ?_;intro B az;have aB:=ad.n;refine bc.mk [x.aq b] (x.os.aq 5) _ (.refl _) (VU b x) ?_;rintro v I' M' -⟨rfl,rfl,rfl⟩;refine aO.mk [x.os.val] (c4 (cs:=[ptr b,x.os.val]) (k:=1) (n:=1) (T:=207) (.head _) (by simp)) ?_;refine bX.mk λg au Bt=>?_;refine bw.append a5 rfl (by simp) (e:=5) rfl rfl rfl x.os (xs:=zh x.bK) ad.os rfl (m:=1) rfl (b8:=[.int .u8 c.toNat]) (by decide) ?_ rfl (Mr:=[⟨g,.cells #[.int .u8 c.toNat] 5 (0,0)⟩,{ x with tm:=true:gh }.aq b]) ?_ ?_ ?_ ?_
 ·exact c4 (cs:=[.int .u8 c.toNat]) (k:=0) (n:=1) (T:=5) (.head _) (by simp)
 ·exact eF (l₁:=[_,_]) (l₂:=x.os.aq 5)
 ·simp only[maxLen];omega
 ·show(x.os.n+1)*1<=_;omega
 ·intro dJ c' aR aa ab ak aJ;refine b2.add [⟨dJ,.cells aR.toArray 5 (0,0)⟩,⟨g,.cells #[.int .u8 c.toNat] 5 (0,0)⟩] [] _ _ rfl (bJ rfl) rfl ?_;refine⟨_,_,.perm (M1:=[⟨g,.cells #[.int .u8 c.toNat] 5 (0,0)⟩]++gh.M b ⟨true,⟨some dJ,x.os.n+1,c',aR⟩,x.bK++[c]⟩) ?_ (.sub (mb _ _) .refl),rfl,rfl,_,?_,rfl,rfl⟩
  ·exact eF (l₁:=[_]) (l₂:=[_,_])
  ·refine⟨⟨?_,λh=>by simp at h,?_⟩,by simp⟩
   ·simp[zh,aB]
   ·intro ba kV;refine⟨aa,ab,ak,?_⟩;rw[aJ];simp[zh]
def uE(b:Nat){x:gh}(ad:x.ok)(s:ByteArray)(ay:x.bK.length+s.size<=70368744177664):Spec Tryz.prog 148 [ptr b,.string s] I (x.M b)
  λr I' M'=>r=.tuple #[.int .i64 s.size,.nilIface]/\I'=I/\∃ y:gh,y.ok/\y.bK=x.bK++s.data.toList/\M'=y.M b:=by
 refine bZ [] a5 Tryz.func148 rfl rfl rfl ?_;intro B az;have aB:=ad.n;refine bc.mk [x.aq b] (x.os.aq 5) _ (.refl _) (VU b x) ?_;rintro v I' M' -⟨rfl,rfl,rfl⟩;refine aO.mk [x.os.val] (c4 (cs:=[ptr b,x.os.val]) (k:=1) (n:=1) (T:=207) (.head _) (by simp)) ?_;by_cases ar:s.size=0
 ·have he:s=.empty:=vB (N4 ar);subst he;have mQ:x.os.n<=x.os.c:=by
   cases a2:x.os.a with
   |none=>obtain⟨aa,ab⟩:=ad.os.nil a2;omega
   |some g=>exact(ad.os.cap g a2).2.1
  refine bw.OO a5 rfl (by simp) (e:=5) rfl rfl rfl (by simp) rfl rfl mQ rfl (.inr rfl) ?_;refine b2.add [] (x.os.aq 5) _ _ rfl (bJ rfl) rfl ?_;exact⟨_,_,.refl,rfl,rfl,⟨true,x.os,x.bK⟩,⟨ad.os,ad.ne⟩,by simp,rfl⟩
 ·refine bw.agk a5 rfl (by simp) (e:=5) rfl rfl rfl rfl rfl rfl x.os (xs:=zh x.bK) ad.os rfl rfl (by omega) (Mr:=[{ x with tm:=true:gh }.aq b]) (eF (l₁:=[_])) ?_ ?_ ?_
  ·simp only[maxLen];omega
  ·show(x.os.n+s.size)*1<=_;omega
  ·intro dJ c' aR aa ab ak aJ;refine b2.add [⟨dJ,.cells aR.toArray 5 (0,0)⟩] [] _ _ rfl (bJ rfl) rfl ?_;refine⟨_,_,.perm (M1:=gh.M b ⟨true,⟨some dJ,x.os.n+s.size,c',aR⟩,x.bK++s.data.toList⟩) ?_ .refl,rfl,rfl,_,?_,rfl,rfl⟩
   ·exact eF (l₁:=[_]) (l₂:=[_])
   ·refine⟨⟨?_,λh=>by simp at h,?_⟩,λg _ h=>?_⟩
    ·simp[zh,aB]
    ·intro ba kV;refine⟨aa,ab,ak,?_⟩;rw[aJ];simp[zh,ll]
    ·have bB:=congrArg List.length (List.append_eq_nil_iff.1 h).2;exact ar (by simpa using bB)
def xB(b:Nat){x:gh}(ad:x.ok)(ay:x.bK.length<=70368744177664):Spec Tryz.prog 149 [ptr b] I (x.M b)
  λr I' M'=>r=.string ⟨x.bK.toArray⟩/\I'=I/\M'=[]:=by
 refine bZ [] a5 Tryz.func149 rfl rfl rfl ?_;intro B az;have aB:=ad.n;obtain⟨tm,⟨a,n,c,aR⟩,bK⟩:=x;simp only at aB ay;subst aB;refine cY.draw a5 rfl rfl rfl ?_;cases a with
 |none=>obtain⟨aa,ab⟩:=ad.os.nil rfl;simp only at aa ab;have pC:bK=[]:=iK aa;subst pC;subst ab;refine aO.mk [.slice none 0 0] (c4 (cs:=[.pointer (bif tm then some ⟨b,0,none⟩else none),.slice none 0 0]) (k:=1) (n:=1) (T:=207) (.head _) (by simp)) ?_;refine aO.mk [.slice none 0 0] (c4 (cs:=[.pointer (bif tm then some ⟨b,0,none⟩else none),.slice none 0 0]) (k:=1) (n:=1) (T:=207) (.head _) (by simp)) ?_;refine bw.Vl rfl (by simp) rfl rfl ?_;exact⟨_,_,.sub (fp _) .refl,rfl,rfl,rfl⟩
 |some g=>
  obtain⟨aa,ab,ak,aJ⟩:=ad.os.cap g rfl;have bn:=ad.ne g rfl;simp only at aa ab ak aJ bn;have ot:bK.length≠0:=λh=>bn (iK h);refine aO.mk [.slice (some ⟨g,0,none⟩) bK.length c] (c4 (cs:=[.pointer (bif tm then some ⟨b,0,none⟩else none),.slice (some ⟨g,0,none⟩) bK.length c]) (k:=1) (n:=1) (T:=207) (.head _) (by simp)) ?_;refine C5.mk (by omega) ?_;refine aO.mk [.slice (some ⟨g,0,none⟩) bK.length c] (c4 (cs:=[.pointer (bif tm then some ⟨b,0,none⟩else none),.slice (some ⟨g,0,none⟩) bK.length c]) (k:=1) (n:=1) (T:=207) (.head _) (by simp)) ?_;refine bw.Ou a5 rfl (by simp) (e:=5) rfl rfl rfl rfl (l:=bK) (g:=g) (cs:=aR.toArray) rfl rfl bn (by omega) (Mr:=[gh.aq b ⟨tm,⟨some g,bK.length,c,aR⟩,bK⟩]) (eF (l₁:=[_]) (l₂:=[_])) ?_ ?_;·rw[e0]at aJ;exact aJ
  ·exact⟨_,_,.sub (fp _) .refl,rfl,rfl,rfl⟩
def Bu(c:UInt8)(left:ByteArray):Bool:=decide ((32:Int)<=c.toNat)&&(decide ((c.toNat:Int)<=126)&&(!decide ((c.toNat:Int)=92)&&decide (Lib.indexByte left.data.toList c<0)))
def agC(c:UInt8)(left:ByteArray):Spec Tryz.prog 298 [.int .u8 c.toNat,.string left] I [] λr I' M'=>r=.bool (Bu c left)/\I'=I/\M'=[]:=by
 refine bZ [] a5 Tryz.func298 rfl rfl rfl ?_;intro B az;refine cq.mk (λaa=>?_) (λaa=>?_)
 ·refine cq.mk (λab=>?_) (λab=>?_)
  ·refine cq.mk (λak=>?_) (λak=>?_)
   ·refine bc.mk [] [] _ (.refl _) (VT left c) ?_;rintro v I' M' -⟨rfl,rfl,rfl⟩;refine⟨_,_,.refl,?_,rfl,rfl⟩;simp only[Bu,aa,ab,ak,nW]
   ·refine⟨_,_,.refl,?_,rfl,rfl⟩;simp only[Bu,aa,ab,ak,nW,uu,xA]
  ·refine⟨_,_,.refl,?_,rfl,rfl⟩;simp only[Bu,aa,ab,nW,uu,xA]
 ·refine⟨_,_,.refl,?_,rfl,rfl⟩;simp only[Bu,aa,nW,uu,xA]
def DB:ByteArray:=⟨#[48,49,50,51,52,53,54,55,56,57,97,98,99,100,101,102]⟩
def zi(n:Nat):UInt8:=DB.data.toList.getD n 0
def oG(c:UInt8)(left:ByteArray):List UInt8:=
 bif Bu c left then [c]else
 bif decide ((c.toNat:Int)=10)then [92,110]else
 bif decide ((c.toNat:Int)=13)then [92,114]else
 bif decide ((c.toNat:Int)=9)then [92,116]else
 bif decide ((c.toNat:Int)=92)||decide ((0:Int)<=Lib.indexByte left.data.toList c)then [92,c]else [92,120,zi (c.toNat/16),zi (c.toNat%16)]
def GC(c:UInt8)(left:ByteArray):(oG c left).length<=4:=by
 unfold oG;cases Bu c left<;>cases decide ((c.toNat:Int)=10)<;>cases decide ((c.toNat:Int)=13)<;>cases decide ((c.toNat:Int)=9)<;>cases(decide ((c.toNat:Int)=92)||decide ((0:Int)<=Lib.indexByte left.data.toList c))<;>simp
def agD:∀ n:Nat,n<256->IntKind.u8.wrap ((BitVec.ofInt 8 (n:Int)) &&& (BitVec.ofInt 8 15)).toNat=((n%16:Nat):Int):=by decide +kernel
def VV(ai:j<DB.size):DB[j]=zi j:=by have:j<DB.data.toList.length:=ai;simp only[zi,bz,da this,jV];rfl
def Kd(b:Nat){x:gh}(ad:x.ok)(c:UInt8)(left:ByteArray)(ay:x.bK.length<=70368744177600):Spec Tryz.prog 279 [ptr b,.int .u8 c.toNat,.string left] I (x.M b)
  λr I' M'=>I'=I/\∃ y:gh,y.ok/\y.bK=x.bK++oG c left/\M'=y.M b:=by
 refine bZ [] a5 Tryz.func279 rfl rfl rfl ?_;intro B az;refine bc.mk [] (x.M b) _ (.refl _) (agC c left) ?_;rintro v I' M' -⟨rfl,rfl,rfl⟩;refine aZ.mk (λaa=>?_) (λaa=>?_)
 ·refine bc.mk (x.M b) [] _ (by simp) (pB b ad c (by omega)) ?_;rintro v I' M' -⟨rfl,rfl,y,aE,gZ,rfl⟩;refine⟨_,_,.refl,rfl,y,aE,?_,by simp⟩;rw[gZ,oG,aa];rfl
 ·refine aZ.mk (λab=>?_) (λab=>?_)
  ·refine bc.mk (x.M b) [] _ (by simp) (uE b ad _ (by show _+2<=_;omega)) ?_;rintro v I' M' -⟨rfl,rfl,y,aE,gZ,rfl⟩;refine⟨_,_,.refl,rfl,y,aE,?_,by simp⟩;rw[gZ,oG,aa,ab];rfl
  ·refine aZ.mk (λak=>?_) (λak=>?_)
   ·refine bc.mk (x.M b) [] _ (by simp) (uE b ad _ (by show _+2<=_;omega)) ?_;rintro v I' M' -⟨rfl,rfl,y,aE,gZ,rfl⟩;refine⟨_,_,.refl,rfl,y,aE,?_,by simp⟩;rw[gZ,oG,aa,ab,ak];rfl
   ·refine aZ.mk (λaJ=>?_) (λaJ=>?_)
    ·refine bc.mk (x.M b) [] _ (by simp) (uE b ad _ (by show _+2<=_;omega)) ?_;rintro v I' M' -⟨rfl,rfl,y,aE,gZ,rfl⟩;refine⟨_,_,.refl,rfl,y,aE,?_,by simp⟩;rw[gZ,oG,aa,ab,ak,aJ];rfl
    ·have two:∀ (I1:aI),(decide ((c.toNat:Int)=92)||decide ((0:Int)<=Lib.indexByte left.data.toList c))=true->oG c left=[92,c]:=λ_ h=>by rw[oG,aa,ab,ak,aJ,h];rfl
     have other:(decide ((c.toNat:Int)=92)||decide ((0:Int)<=Lib.indexByte left.data.toList c))=false->oG c left=[92,120,zi (c.toNat/16),zi (c.toNat%16)]:=λh=>by rw[oG,aa,ab,ak,aJ,h];rfl
     have ap:=c.toNat_lt;refine cq.mk (λbB=>?_) (λbB=>?_)
     ·refine bc.mk [] (x.M b) _ (.refl _) (VT left c) ?_;rintro v I' M' -⟨rfl,rfl,rfl⟩;refine aZ.mk (λb5=>?_) (λb5=>?_)
      ·refine bc.mk (x.M b) [] _ (by simp) (pB b ad 92 (by omega)) ?_;rintro v I' M' -⟨rfl,rfl,y,aE,gZ,rfl⟩;refine bc.mk (y.M b) [] _ (by simp) (pB b aE c (by rw[gZ];simp;omega)) ?_;rintro v I' M' -⟨rfl,rfl,z,bb,tn,rfl⟩;refine⟨_,_,.refl,rfl,z,bb,?_,by simp⟩;rw[tn,gZ,two I' (by rw[bB];exact b5)];simp
      ·refine bc.mk (x.M b) [] _ (by simp) (uE b ad _ (by show _+2<=_;omega)) ?_;rintro v I' M' -⟨rfl,rfl,y,aE,gZ,rfl⟩;have Ke:y.bK.length=x.bK.length+2:=by rw[gZ];simp
       refine w7.mk 4 rfl ?_;refine AU.mk (s:=DB) (c.toNat/16) ?_ (by show _<16;omega) ?_
       ·show(c.toNat:Int).fdiv (2^(min 4 (IntKind.u8.bits)))=_;have agE:((2:Int)^(min 4 IntKind.u8.bits))=16:=by decide
        rw[agE,J3 _ (by omega)];omega
       rw[VV];refine bc.mk (y.M b) [] _ (by simp) (pB b aE (zi (c.toNat/16)) (by omega)) ?_;rintro v I' M' -⟨rfl,rfl,z,bb,tn,rfl⟩;have xC:z.bK.length=x.bK.length+3:=by rw[tn];simp;omega
       refine AU.mk (s:=DB) (c.toNat%16) (agD c.toNat ap) (by show _<16;omega) ?_;rw[VV];refine bc.mk (z.M b) [] _ (by simp) (pB b bb (zi (c.toNat%16)) (by omega)) ?_;rintro v I' M' -⟨rfl,rfl,u,hu,xD,rfl⟩;refine⟨_,_,.refl,rfl,u,hu,?_,by simp⟩;rw[xD,tn,gZ,other (by rw[bB];exact b5)];simp
     ·refine bc.mk (x.M b) [] _ (by simp) (pB b ad 92 (by omega)) ?_;rintro v I' M' -⟨rfl,rfl,y,aE,gZ,rfl⟩;refine bc.mk (y.M b) [] _ (by simp) (pB b aE c (by rw[gZ];simp;omega)) ?_;rintro v I' M' -⟨rfl,rfl,z,bb,tn,rfl⟩;refine⟨_,_,.refl,rfl,z,bb,?_,by simp⟩;rw[tn,gZ,two I' (by rw[bB];rfl)];simp
def nz(n:Nat):List UInt8:=bif Nat.blt n 10 then [UInt8.ofNat (48+n)]else [UInt8.ofNat (48+n/10),UInt8.ofNat (48+n%10)]
def zj(n:Nat):ByteArray:=⟨(nz n).toArray⟩
def VW:ByteArray:=⟨((List.range 10).map (λn=>UInt8.ofNat (48+n))++(List.range 26).map (λn=>UInt8.ofNat (97+n))).toArray⟩
def VX:ByteArray:=⟨((List.range 100).flatMap λn=>[UInt8.ofNat (48+n/10),UInt8.ofNat (48+n%10)]).toArray⟩
def agF:∀ n:Fin 10,(VW.extract n.val (n.val+1)).data.toList=nz n.val:=by decide +kernel
def agG:∀ n:Fin 100,10<=n.val->(VX.extract (n.val*2) (n.val*2+2)).data.toList=nz n.val:=by decide +kernel
def DC{a b:ByteArray}(h:a.data.toList=b.data.toList):a=b:=vB (gS h)
def GD(n:Nat):(nz n).length<=2:=by
 unfold nz;cases Nat.blt n 10<;>simp
def agH(n:Nat)(aB:n<100):Spec Tryz.prog 336 [.int .i64 n] I [] λr I' M'=>r=.string (zj n)/\I'=I/\M'=[]:=by
 refine bZ [] a5 Tryz.func336 rfl rfl rfl ?_;intro B az;refine aZ.mk (λh=>?_) (λh=>?_)
 ·have aV:n<10:=by simp at h;omega
  refine bg.mk ((n+1:Nat):Int) (by rw[wrap_i64 ⟨by omega,by omega⟩];omega) ?_;refine l7.mk n (n+1) rfl rfl (by omega) (by show _<=36;omega) ?_;refine⟨_,_,.refl,?_,rfl,rfl⟩;have:VW.extract n (n+1)=zj n:=DC (agF ⟨n,aV⟩);rw[<-this];rfl
 ·have cA:10<=n:=by simp at h;omega
  refine bg.mk ((n*2:Nat):Int) (by rw[wrap_i64 ⟨by omega,by omega⟩];omega) ?_;refine bg.mk ((n*2:Nat):Int) (by rw[wrap_i64 ⟨by omega,by omega⟩];omega) ?_;refine bg.mk ((n*2+2:Nat):Int) (by rw[wrap_i64 ⟨by omega,by omega⟩];omega) ?_;refine l7.mk (n*2) (n*2+2) rfl rfl (by omega) (by show _<=200;omega) ?_;refine⟨_,_,.refl,?_,rfl,rfl⟩;have:VX.extract (n*2) (n*2+2)=zj n:=DC (agG ⟨n,aB⟩ cA);rw[<-this];rfl
def agI(n:Nat)(aB:n<100):Spec Tryz.prog 329 [.int .i64 n,.int .i64 10] I [] λr I' M'=>r=.string (zj n)/\I'=I/\M'=[]:=by refine bZ [] a5 Tryz.func329 rfl rfl rfl ?_;intro B az;refine aZ.mk (λh=>?_) (λh=>by cases h);refine cq.mk (λh=>?_) (λh=>by simp at h;try omega);refine aZ.mk (λh=>?_) (λh=>by simp at h;try omega);refine bc.mk [] [] _ (.refl _) (agH n aB) ?_;rintro v I' M' -⟨rfl,rfl,rfl⟩;exact⟨_,_,.refl,rfl,rfl,rfl⟩
def agJ(n:Nat)(aB:n<100):Spec Tryz.prog 316 [.int .i64 n] I [] λr I' M'=>r=.string (zj n)/\I'=I/\M'=[]:=by refine bZ [] a5 Tryz.func316 rfl rfl rfl ?_;intro B az;refine bc.mk [] [] _ (.refl _) (agI n aB) ?_;rintro v I' M' -⟨rfl,rfl,rfl⟩;exact⟨_,_,.refl,rfl,rfl,rfl⟩
def agK(n:Nat)(aB:n<100):Spec Tryz.prog 301 [.int .i64 n] I [] λr I' M'=>r=.string (zj n)/\I'=I/\M'=[]:=by refine bZ [] a5 Tryz.func301 rfl rfl rfl ?_;intro B az;refine bc.mk [] [] _ (.refl _) (agJ n aB) ?_;rintro v I' M' -⟨rfl,rfl,rfl⟩;exact⟨_,_,.refl,rfl,rfl,rfl⟩
def Kf(n:Nat)(aB:n<100):Spec Tryz.prog 282 [.int .i64 n] I [] λr I' M'=>r=.string (zj n)/\I'=I/\M'=[]:=by refine bZ [] a5 Tryz.func282 rfl rfl rfl ?_;intro B az;refine bc.mk [] [] _ (.refl _) (agK n aB) ?_;rintro v I' M' -⟨rfl,rfl,rfl⟩;exact⟨_,_,.refl,rfl,rfl,rfl⟩
def hv(node mV:Int):Bool:=
 bif decide (node=5)then decide (mV=5)else
 bif decide (node=4)||(decide (node=7)||decide (node=8))then decide (mV=4)||decide (mV=5)else
 bif decide (node=6)then decide (mV=4)||(decide (mV=5)||(decide (mV=6)||(decide (mV=7)||decide (mV=8))))else false
def OQ(a b:Int):Spec Tryz.prog 232 [.int .u8 a,.int .u8 b] I [] λr I' M'=>r=.bool (hv a b)/\I'=I/\M'=[]:=by
 refine bZ [] a5 Tryz.func232 rfl rfl rfl ?_;intro B az;refine aZ.mk (λaa=>?_) (λaa=>?_)
 ·refine⟨_,_,.refl,?_,rfl,rfl⟩;simp only[hv,aa];rfl
 ·have two:∀ (I1:aI) (h:(decide (a=4)||(decide (a=7)||decide (a=8)))=true),hv a b=(decide (b=4)||decide (b=5)):=λ_ h=>by simp only[hv,aa,h];rfl
  have OR:(decide (a=4)||(decide (a=7)||decide (a=8)))=true->cq (decide (b=4)) false (vL [] I [] λI' M'=>Value.bool (decide (b=5))=.bool (hv a b)/\I'=I/\M'=[]) (vL [] I [] λI' M'=>Value.bool true=.bool (hv a b)/\I'=I/\M'=[]):=λh=>by
   refine cq.mk (λaJ=>?_) (λaJ=>?_);·refine⟨_,_,.refl,?_,rfl,rfl⟩;rw[two I h,aJ];rfl
   ·refine⟨_,_,.refl,?_,rfl,rfl⟩;rw[two I h,aJ];rfl
  refine aZ.mk (λab=>?_) (λab=>?_);·refine aZ.mk (λ_=>?_) (λh=>by rw[ab]at h;cases h);exact OR (by rw[ab];rfl)
  ·refine aZ.mk (λak=>?_) (λak=>?_)
   ·refine aZ.mk (λ_=>?_) (λh=>by rw[ak]at h;cases h);exact OR (by rw[ak];simp)
   ·refine aZ.mk (λaJ=>?_) (λaJ=>?_)
    ·exact OR (by rw[aJ];simp)
    ·have hw:hv a b=(bif decide (a=6)then decide (b=4)||(decide (b=5)||(decide (b=6)||(decide (b=7)||decide (b=8))))else false):=by simp only[hv,aa,ab,ak,aJ];rfl
     refine aZ.mk (λbB=>?_) (λbB=>?_)
     ·rw[bB]at hw;simp only[ca]at hw;refine cq.mk (λez=>?_) (λez=>?_)
      ·refine cq.mk (λcJ=>?_) (λcJ=>?_)
       ·refine cq.mk (λhc=>?_) (λhc=>?_)
        ·refine cq.mk (λmq=>?_) (λmq=>?_)
         ·refine⟨_,_,.refl,?_,rfl,rfl⟩;rw[hw,ez,cJ,hc,mq];rfl
         ·refine⟨_,_,.refl,?_,rfl,rfl⟩;rw[hw,ez,cJ,hc,mq];rfl
        ·refine⟨_,_,.refl,?_,rfl,rfl⟩;rw[hw,ez,cJ,hc];rfl
       ·refine⟨_,_,.refl,?_,rfl,rfl⟩;rw[hw,ez,cJ];rfl
      ·refine⟨_,_,.refl,?_,rfl,rfl⟩;rw[hw,ez];rfl
     ·refine⟨_,_,.refl,?_,rfl,rfl⟩;rw[hw,bB];rfl
def wrap_u64(x:Int):g6 (IntKind.u64.wrap x):=by unfold IntKind.wrap g6;simp only[IntKind.bits,IntKind.signed];simp;omega
def wrap_u8(x:Int):0<=IntKind.u8.wrap x/\IntKind.u8.wrap x<256:=by unfold IntKind.wrap;simp only[IntKind.bits,IntKind.signed];simp;omega
def VY{x:Int}(h:g6 x):IntKind.u64.wrap x=x:=by obtain⟨aa,ab⟩:=h;unfold IntKind.wrap;simp only[IntKind.bits,IntKind.signed];simp;omega
def sr(I:aI)(aw:List Int):Prop:=aw.length=64/\(∀ x∈aw,0<=x/\x<256)/\∃ T al,I 3=some (.cells (aw.map (Value.int .u8)).toArray T al)
def sr.rd(h:sr I aw)(M:List aD)(ai:j<64):cM I M (Addr.add ⟨3,0,none⟩ (j*1)) 1 [.int .u8 (aw.getD j 0)]:=by
 obtain⟨ay,_,T,al,h⟩:=h;rw[eP _ rfl];refine⟨rfl,_,T,al,.inl h,?_,rfl⟩;have aa:j<(aw.map (Value.int .u8)).length:=by simp[ay,ai]
 have ab:j<aw.length:=by omega
 simp only[db,e0];rw[eR aa,qb,re];simp[bz,ab]
def sr.at(h:sr I aw)(j:Nat):0<=aw.getD j 0/\aw.getD j 0<256:=by
 rw[bz];by_cases ai:j<aw.length
 ·rw[da ai];exact h.2.1 _ (bx ai)
 ·simp[ai]
def GF(x y:Int):Int:=IntKind.u64.wrap (BitVec.ofInt 64 x &&& BitVec.ofInt 64 y).toNat
def to(x:Int):Int:=IntKind.u64.wrap (GF x (IntKind.u64.wrap (0-x))*285870213051353865)
def uF(aw:List Int)(x:Int):Int:=bif decide (x=0)then 64 else aw.getD ((to x).toNat/2^58) 0
def agL(h:sr I aw)(x:Int):0<=uF aw x/\uF aw x<256:=by
 unfold uF;cases decide (x=0)
 ·exact h.at _
 ·simp
def agM(ag:sr I aw)(x:Int):Spec Tryz.prog 315 [.int .u64 x] I [] λr I' M'=>r=.int .i64 (uF aw x)/\I'=I/\M'=[]:=by
 refine bZ [] a5 Tryz.func315 rfl rfl rfl ?_;intro B az;refine aZ.mk (λh=>?_) (λh=>?_)
 ·refine⟨_,_,.refl,?_,rfl,rfl⟩;simp only[uF,h];rfl
 ·have a2:=wrap_u64 (GF x (IntKind.u64.wrap (0-x))*285870213051353865);refine bg.mk _ rfl ?_;refine bg.mk (to x) rfl ?_;refine w7.mk 58 rfl ?_;have aG:((2:Int)^(min 58 IntKind.u64.bits))=2^58:=by decide
  rw[aG];obtain⟨Bv,DD⟩:=a2;have a7:(to x).fdiv (2^58)=(((to x).toNat/2^58:Nat):Int):=by rw[J3 _ (by decide)];have:to x=((to x).toNat:Int):=(ze Bv).symm;omega
  rw[a7];have ai:(to x).toNat/2^58<64:=by have:to x<18446744073709551616:=DD;omega
  refine eD.mk ((to x).toNat/2^58) rfl ai ?_;refine aO.mk [.int .u8 (aw.getD ((to x).toNat/2^58) 0)] (ag.rd _ ai) ?_;have aj:=ag.at ((to x).toNat/2^58);refine bg.mk (aw.getD ((to x).toNat/2^58) 0) (wrap_i64 ⟨by omega,by omega⟩) ?_;refine⟨_,_,.refl,?_,rfl,rfl⟩;simp only[uF,h];rfl
def agN(a b c d:Int):Nat->List Value
 |0=>[.int .u64 (a),.int .u64 (b),.int .u64 (c),.int .u64 (d)]| 1=>[.int .u64 (jv a),.int .u64 (b),.int .u64 (c),.int .u64 (d)]| 2=>[.int .u64 (jv a),.int .u64 (jv b),.int .u64 (c),.int .u64 (d)]| 3=>[.int .u64 (jv a),.int .u64 (jv b),.int .u64 (jv c),.int .u64 (d)]| _=>[.int .u64 (jv a),.int .u64 (jv b),.int .u64 (jv c),.int .u64 (jv d)]
def agO(a b c d:Int):Spec Tryz.prog 299 [.agg #[.int .u64 a,.int .u64 b,.int .u64 c,.int .u64 d]] I [] λr I' M'=>r=.agg #[.int .u64 (jv a),.int .u64 (jv b),.int .u64 (jv c),.int .u64 (jv d)]/\I'=I/\M'=[]:=by
 refine bZ [] a5 Tryz.func299 rfl rfl rfl ?_;intro B az;refine de.inv (ι:=Nat) (λi=>{ bj:=[(1,.ref 1 0),(2,.ref 2 0),(5,.val (.agg #[.int .u64 a,.int .u64 b,.int .u64 c,.int .u64 d])),(6,.val (.int .i64 i))],cl:=[(1,agN a b c d i),(2,[.int .u64 0,.int .u64 0,.int .u64 0,.int .u64 0])],cI:=I }) (λi=>i<=4) (λi=>4-i) ?_ ?_
 ·exact⟨0,by simp,.refl,eE,.cons rfl (.cons rfl .nil)⟩
 ·intro i hi
  match i,hi with
  |0,_=>refine aZ.mk (λ_=>?_) (λh=>by simp at h);refine eD.mk 0 rfl (by decide) ?_;refine bw.GB rfl (by simp) rfl ?_;refine eD.mk 0 rfl (by decide) ?_;refine bg.mk 1 (by decide) ?_;exact⟨1,⟨by simp,by simp⟩,.refl,eE,.cons rfl (.cons rfl .nil)⟩| 1,_=>refine aZ.mk (λ_=>?_) (λh=>by simp at h);refine eD.mk 1 rfl (by decide) ?_;refine bw.GB rfl (by simp) rfl ?_;refine eD.mk 1 rfl (by decide) ?_;refine bg.mk 2 (by decide) ?_;exact⟨2,⟨by simp,by simp⟩,.refl,eE,.cons rfl (.cons rfl .nil)⟩| 2,_=>refine aZ.mk (λ_=>?_) (λh=>by simp at h);refine eD.mk 2 rfl (by decide) ?_;refine bw.GB rfl (by simp) rfl ?_;refine eD.mk 2 rfl (by decide) ?_;refine bg.mk 3 (by decide) ?_;exact⟨3,⟨by simp,by simp⟩,.refl,eE,.cons rfl (.cons rfl .nil)⟩| 3,_=>refine aZ.mk (λ_=>?_) (λh=>by simp at h);refine eD.mk 3 rfl (by decide) ?_;refine bw.GB rfl (by simp) rfl ?_;refine eD.mk 3 rfl (by decide) ?_;refine bg.mk 4 (by decide) ?_;exact⟨4,⟨by simp,by simp⟩,.refl,eE,.cons rfl (.cons rfl .nil)⟩| 4,_=>refine aZ.mk (λh=>by simp at h) (λ_=>?_);exact⟨_,_,.refl,rfl,rfl,rfl⟩
def agP:Spec Tryz.prog 280 [] I [] λr I' M'=>r=.agg #[.int .u64 (jv 0),.int .u64 (jv 0),.int .u64 (jv 0),.int .u64 (jv 0)]/\I'=I/\M'=[]:=by refine bZ [] a5 Tryz.func280 rfl rfl rfl ?_;intro B az;refine bc.mk [] [] _ (.refl _) (agO 0 0 0 0) ?_;rintro v I' M' -⟨rfl,rfl,rfl⟩;exact⟨_,_,.refl,rfl,rfl,rfl⟩
def mr(I:aI)(b:Nat)(o:Obj):ins I b o b=some o:=by simp[ins]
def hI{o:Obj}(ag:I b=none):∀ c p,I c=some p->ins I b o c=some p:=by
 intro c p h;unfold ins;cases e:Nat.beq c b with
 |false=>exact h| true=>have:=dQ e;subst this;rw[ag]at h;cases h
def agQ{x y:Int}(ad:g6 x)(aE:g6 y):GF x y=((x.toNat &&& y.toNat:Nat):Int):=by
 obtain⟨x,rfl⟩:=eA ad.1;obtain⟨y,rfl⟩:=eA aE.1;have aa:x<18446744073709551616:=by have:=ad.2;omega
 have ab:y<18446744073709551616:=by have:=aE.2;omega
 have e:∀ z:Nat,z<18446744073709551616->(BitVec.ofInt 64 (z:Int)).toNat=z:=λz bb=>by rw[BitVec.toNat_ofInt];omega
 unfold GF;rw[J7,e x aa,e y ab,VY]
 ·simp
 ·have:=Nat.and_le_left (n:=x) (m:=y);exact⟨by omega,by omega⟩
def zk(x:Int):Int:=GF x (IntKind.u64.wrap (x-1))
def Bw(n:Nat):Nat:=((List.range 64).filter n.testBit).length
def agR(n:Nat):Bw n<=64:=by have:=Ba n.testBit (List.range 64);simpa[Bw]using this
def agS{x:Int}(ad:g6 x)(az:x≠0):g6 (zk x)/\Bw (zk x).toNat<Bw x.toNat:=by
 obtain⟨n,rfl⟩:=eA ad.1;have aa:n<18446744073709551616:=by have:=ad.2;omega
 have ot:0<n:=by omega
 have ar:g6 ((n:Int)-1):=⟨by omega,by omega⟩;have e:zk (n:Int)=((n &&& (n-1):Nat):Int):=by unfold zk;rw[VY ar,agQ ad ar];congr 2;omega
 have bp:n &&& (n-1)<=n-1:=Nat.and_le_right;refine⟨by rw[e];exact⟨by omega,by omega⟩,?_⟩;rw[e];simp only[gl];unfold Bw;have kx:List.Sublist ((List.range 64).filter (n &&& (n-1)).testBit) ((List.range 64).filter n.testBit):=by
  have:(List.range 64).filter (n &&& (n-1)).testBit=((List.range 64).filter n.testBit).filter (n-1).testBit:=by rw[List.filter_filter];congr 1;funext i;rw[Nat.testBit_and,Bool.and_comm]
  rw[this];exact zf
 rcases Nat.lt_or_eq_of_le kx.length_le with h | h
 ·exact h
 ·exfalso;have oH:=kx.eq_of_length h;have:n &&& (n-1)=n:=by
   apply Nat.eq_of_testBit_eq;intro i;by_cases hi:i<64
   ·have hm:i∈(List.range 64).filter (n &&& (n-1)).testBit ↔ i∈(List.range 64).filter n.testBit:=by rw[oH]
    simp only[iX,g',hi,true_and]at hm;cases aa:(n &&& (n-1)).testBit i<;>cases ab:n.testBit i<;>simp_all
   ·have ab:2^64<=2^i:=Nat.pow_le_pow_right (by omega) (by omega);rw[Nat.testBit_lt_two_pow (by omega),Nat.testBit_lt_two_pow (by omega)]
  omega
def byteOf(aw:List Int)(i:Nat)(w:Int):UInt8:=UInt8.ofNat (IntKind.u8.wrap ((i:Int)*64+uF aw w)).toNat
def agT(aw:List Int)(i:Nat)(w:Int):((byteOf aw i w).toNat:Int)=IntKind.u8.wrap ((i:Int)*64+uF aw w):=by have:=wrap_u8 ((i:Int)*64+uF aw w);unfold byteOf;rw[UInt8.toNat_ofNat'];omega
def uG(aw:List Int)(i:Nat):Nat->Int->List UInt8
 |0,_=>[]| f+1,w=>bif decide (w=0)then []else byteOf aw i w::uG aw i f (zk w)
def jc(aw:List Int):Nat->List Int->List UInt8
 |_,[]=>[]| i,w::ws=>uG aw i 64 w++jc aw (i+1) ws
def VZ(aw:List Int)(i:Nat):∀ f w,(uG aw i f w).length<=f
 |0,_=>by simp[uG]
 |f+1,w=>by
  unfold uG;have:=VZ aw i f (zk w);cases decide (w=0)<;>simp
  exact this
def OS(aw:List Int):∀ ws i,(jc aw i ws).length<=64*ws.length
 |[],_=>by simp[jc]
 |w::ws,i=>by have aa:=VZ aw i 64 w;have ab:=OS aw ws (i+1);simp only[jc,cm,dx];omega
def tp(l:List UInt8):List (List Value):=l.map λc=>[.int .u8 c.toNat]
def DE(a b c d:Int):List Value:=[.int .u64 a,.int .u64 b,.int .u64 c,.int .u64 d]
def agU(a b c d:Int):Spec Tryz.prog 300 [.agg #[.int .u64 a,.int .u64 b,.int .u64 c,.int .u64 d]] I [] λr I' M'=>∃ g,r=.func (.func 314) #[] #[ptr g]/\I' g=some (.cells (DE a b c d).toArray 64 (0,0))/\(∀ b o,I b=some o->I' b=some o)/\M'=[]:=by refine bZ [1] a5 Tryz.func300 rfl rfl rfl ?_;intro B az;refine bX.mk λg au Bt=>?_;exact⟨_,_,.kN rfl (by simp) .refl,g,rfl,mr ..,hI au,rfl⟩
def agV(Bx:sr I aw){a b c d:Int}(ss:∀ x∈[a,b,c,d],g6 x)(au:I g=some (.cells (DE a b c d).toArray 64 (0,0))) :
  Iter Tryz.prog 314 [ptr g] I (tp (jc aw 0 [a,b,c,d])):=by
 intro l R kS qp dp M0 lu iu;refine yT [] a5 Tryz.func314 rfl rfl rfl ?_;intro B az;have bl:∀ (I1:aI) (M:List aD),(∀ b o,I b=some o->I1 b=some o)->cM I1 M ⟨g,0,none⟩ 4 (DE a b c d):=λI1 M h=>⟨rfl,_,_,_,.inl (h _ _ au),rfl,rfl⟩;refine aO.mk _ (bl _ _ lu) ?_;refine de.inv (ι:=Nat×Nat×aI×List aD) (λx=>{ bj:=[(0,.val (.func (.yield l) #[] #[])),(5,.val (.agg (DE a b c d).toArray)),(6,.val (.int .i64 x.1))],cI:=x.2.2.1,c1:=x.2.2.2 }) (λx=>x.1<=4/\(∀ b o,I b=some o->x.2.2.1 b=some o)/\R x.2.1 x.2.2.1 x.2.2.2/\x.2.1<=(jc aw 0 [a,b,c,d]).length/\(jc aw 0 [a,b,c,d]).drop x.2.1=jc aw x.1 ([a,b,c,d].drop x.1)) (λx=>4-x.1) ?_ ?_
 ·exact⟨(0,0,dp,M0),⟨by simp,lu,iu,by simp,rfl⟩,.refl,hG,.nil⟩
 ·rintro⟨i,k,I1,M1⟩⟨hi,cn,g0,cy,g8⟩;simp only at hi cn g0 cy g8;refine aZ.mk (λh=>?_) (λh=>?_)
  ·have aV:i<4:=by simp at h;omega
   have ch:i < [a,b,c,d].length:=aV;refine eD.mk i rfl aV ?_;have tq:pack false ((((DE a b c d).toArray).toList.drop (i*1)).take 1)=.int .u64 [a,b,c,d][i]:=by
    match i,aV with
    |0,_=>rfl| 1,_=>rfl| 2,_=>rfl| 3,_=>rfl
   have ja:[a,b,c,d].drop i=[a,b,c,d][i]::[a,b,c,d].drop (i+1):=eR ch;refine de.inv (ι:=Int×Nat×Nat×aI×List aD) (λx=>{ bj:=[(0,.val (.func (.yield l) #[] #[])),(3,.val (.int .i64 i)),(4,.val (.int .u64 x.1)),(5,.val (.agg (DE a b c d).toArray)),(6,.val (.int .i64 i))],cI:=x.2.2.2.1,c1:=x.2.2.2.2 }) (λx=>g6 x.1/\Bw x.1.toNat<=x.2.1/\(∀ b o,I b=some o->x.2.2.2.1 b=some o)/\R x.2.2.1 x.2.2.2.1 x.2.2.2.2/\x.2.2.1<=(jc aw 0 [a,b,c,d]).length/\(jc aw 0 [a,b,c,d]).drop x.2.2.1=uG aw i x.2.1 x.1++jc aw (i+1) ([a,b,c,d].drop (i+1))) (λx=>Bw x.1.toNat) ?_ ?_
   ·refine⟨([a,b,c,d][i],64,k,I1,M1),⟨ss _ (bx ch),agR _,cn,g0,cy,?_⟩,.refl,.cons .refl (.cons .refl (.cons ?_ (xl))),.nil⟩
    ·simp only;rw[g8,ja];rfl
    ·simp only;rw[<-tq];exact .refl
   ·rintro⟨w,f,k,I1,M1⟩⟨hw,aA,cn,g0,cy,g8⟩;simp only at hw aA cn g0 cy g8;refine aZ.mk (λh=>?_) (λh=>?_)
    ·have Kg:w≠0:=by simpa using h
     obtain⟨qq,j5⟩:=agS hw Kg;obtain⟨f,rfl⟩:∃ uH,f=uH+1:=⟨f-1,by omega⟩;have ag:uG aw i (f+1) w=byteOf aw i w::uG aw i f (zk w):=by simp[uG,Kg]
     rw[ag,mU]at g8;have ae:k<(jc aw 0 [a,b,c,d]).length:=by apply J8;intro bp;rw[jH bp]at g8;cases g8
     have hH:=eR ae;rw[g8]at hH;obtain⟨tr,eN⟩:=Gx hH;have jd:k<(tp (jc aw 0 [a,b,c,d])).length:=by simpa[tp]using ae
     have ah:(tp (jc aw 0 [a,b,c,d]))[k]=[.int .u8 (IntKind.u8.wrap ((i:Int)*64+uF aw w))]:=by simp only[tp,g7,<-tr,agT]
     have lQ:sr I1 aw:=by obtain⟨dG,eI,T,al,eG⟩:=Bx;exact⟨dG,eI,T,al,cn _ _ eG⟩
     have aua:=agL lQ w;refine bg.mk ((i:Int)*64) (wrap_i64 ⟨by omega,by omega⟩) ?_;refine bc.mk [] M1 _ (.refl _) (agM lQ w) ?_;rintro v I' M' -⟨rfl,rfl,rfl⟩;refine bg.mk ((i:Int)*64+uF aw w) (wrap_i64 ⟨by omega,by omega⟩) ?_;refine bg.mk _ rfl ?_;refine bw.yield rfl (by simp) rfl rfl ?_;have aE:=qp k jd I' M1 cn g0;rw[ah]at aE;refine y6.mk M1 [] _ (by simp) aE ?_;rintro v dv df en (⟨rfl,lp⟩ | ⟨rfl,ad⟩);·refine aZ.mk (λh=>by simp at h) (λ_=>?_);refine bg.mk _ rfl ?_;exact⟨(zk w,f,k+1,dv,df),⟨⟨qq,by simp only;omega,λb o h=>en b o (cn b o h),lp,ae,eN.symm⟩,by simp only;exact j5⟩,.perm (by simp) .refl,gf,.nil⟩
     ·refine aZ.mk (λ_=>?_) (λh=>by simp at h);exact⟨_,_,.perm (by simp) .refl,.inr ad⟩
    ·have Kg:w=0:=by simpa using h
     have fP:IntKind.i64.wrap ((i:Int)+1)=((i+1:Nat):Int):=by rw[wrap_i64 ⟨by omega,by omega⟩];omega
     refine bg.mk _ fP ?_;have ag:uG aw i f w=[]:=by cases f<;>simp[uG,Kg]
     rw[ag,iq]at g8;exact⟨(i+1,k,I1,M1),⟨⟨by simp only;omega,cn,g0,cy,g8⟩,by simp only;omega⟩,.refl,hG,.nil⟩
  ·have ko:i=4:=by simp at h;omega
   subst ko;refine⟨_,_,.refl,.inl ?_⟩;have oB:(jc aw 0 [a,b,c,d]).drop k=[]:=by rw[g8];rfl
   have xE:k=(tp (jc aw 0 [a,b,c,d])).length:=by have:=Bq.1 oB;simp only[tp,bF];omega
   rw[<-xE];exact g0
def uI(l:List (UInt8×UInt8))(b:UInt8):List (UInt8×UInt8):=match l.getLast? with
 |some p=>bif decide ((p.2.toNat:Int)+1=b.toNat)then l.dropLast++[(p.1,b)]else l++[(b,b)]| none=>[(b,b)]
def pD(l:List UInt8):List (UInt8×UInt8):=l.foldl uI []
def j6(p:UInt8×UInt8):List Value:=[.int .u8 p.1.toNat,.int .u8 p.2.toNat]
def pE(l:List (UInt8×UInt8)):List Value:=l.flatMap j6
def Kh(l:List (UInt8×UInt8)):(pE l).length=l.length*2:=iv j6 2 (λ_=>rfl) l
def agW(l:List (UInt8×UInt8))(b:UInt8):(uI l b).length<=l.length+1:=by
 unfold uI;split
 ·rename_i p h;cases decide ((p.2.toNat:Int)+1=b.toNat)<;>simp
 ·simp
def V0(l:List UInt8):(pD l).length<=l.length:=by
 have:∀ (l:List UInt8) (a6:List (UInt8×UInt8)),(l.foldl uI a6).length<=a6.length+l.length:=by
  intro l
  induction l with
  |nil=>intro a6;simp| cons b l aN=>intro a6;have aa:=aN (uI a6 b);have ab:=agW a6 b;simp only[jn,dx];omega
 simpa[pD]using this l []
def zl:((⟨b,0,none⟩:Addr).add i).add j=(⟨b,0,none⟩:Addr).add (i+j):=by rw[eP ⟨_,0,none⟩ rfl i,eP _ rfl j,eP _ rfl (i+j)];simp
def nA{M:List aD}(a':(⟨b,.cells cs.toArray T (0,0)⟩:aD)∈M)(h:cs[i+j]?=some v):cM I M (((⟨b,0,none⟩:Addr).add i).add j) 1 [v]:=by obtain⟨ay,rfl⟩:=h5.1 h;have:=c4 (I:=I) a' (k:=i+j) (n:=1) (by omega);rw[eR ay,qb,re]at this;rw[zl];exact this
def V1(a9:List Value)(u v z:Value)(bi:List Value)(k:Nat)(ae:k=a9.length+1):ck (a9++([u,v]++bi)) k [z]=a9++([u,z]++bi):=by
 subst ae;unfold ck;have aG:(a9++([u,v]++bi)).take (a9.length+1)=a9++[u]:=by rw[show a9++([u,v]++bi)=(a9++[u])++(v::bi)from by simp];exact qn (by simp)
 have a7:(a9++([u,v]++bi)).drop (a9.length+1+[z].length)=bi:=by rw[show a9++([u,v]++bi)=(a9++[u,v])++bi from by simp];exact Bs (by simp)
 rw[aG,a7];simp
def OT{a0:List (UInt8×UInt8)}{x:UInt8}(bS:os.ok 2 (pE a0)){aR:List Value}(aa:aR.length=c*2)(ab:os.n+1<=c)(ak:c<=maxLen)(aJ:aR.take ((os.n+1)*2)=pE a0++j6 (x,x)) :
  aX.ok ⟨some g,os.n+1,c,aR⟩ 2 (pE (a0++[(x,x)])):=by
 have xF:pE (a0++[(x,x)])=pE a0++j6 (x,x):=by simp[pE]
 have ay:=bS.len;refine⟨?_,(λh=>by cases h),λbP rA=>⟨aa,ab,ak,by rw[xF];exact aJ⟩⟩;rw[xF,cm,ay];simp[j6];omega
def agX(l:List UInt8)(x:UInt8):pD (l++[x])=uI (pD l) x:=by simp[pD]
def agY(Bx:sr I aw){a b c d:Int}(ss:∀ x∈[a,b,c,d],g6 x):Spec Tryz.prog 281 [.agg #[.int .u64 a,.int .u64 b,.int .u64 c,.int .u64 d]] I []
  λr I' M'=>(∀ b o,I b=some o->I' b=some o)/\∃ os:aX,r=os.val/\os.ok 2 (pE (pD (jc aw 0 [a,b,c,d])))/\M'=os.aq 344:=by
 refine bZ [3] a5 Tryz.func281 rfl rfl rfl ?_;intro B az;refine bX.mk λg au Bt=>?_;refine bc.mk [] [⟨g,.cells #[.slice none 0 0] 342 (0,0)⟩] _ (.refl _) (agU a b c d) ?_;rintro v I1 M1 -⟨a8,rfl,pF,cn,rfl⟩;have agZ:sr I1 aw:=by obtain⟨dG,eI,T,al,eG⟩:=Bx;exact⟨dG,eI,T,al,cn _ _ eG⟩
 have b4:=OS aw [a,b,c,d] 0;refine cY.range a5 rfl rfl rfl .refl (agV agZ ss pF) (λvs h=>?_) (λk I' M'=>(∀ b o,I1 b=some o->I' b=some o)/\∃ os:aX,os.ok 2 (pE (pD ((jc aw 0 [a,b,c,d]).take k)))/\M'=⟨g,.cells #[os.val] 342 (0,0)⟩::os.aq 344) (λ_ _ _=>False) ⟨λ_ _ h=>h,⟨none,0,0,[]⟩,⟨rfl,λ_=>⟨rfl,rfl⟩,λg h=>by cases h⟩,rfl⟩ ?_ ?_ (λ_ _ _ _ h=>h.elim)
 ·obtain⟨c,_,rfl⟩:=cC.1 h;rfl
 ·rintro k ae I' M' -⟨je,os,bS,rfl⟩l B az g5;have OU:k<(jc aw 0 [a,b,c,d]).length:=by simpa[tp]using ae
  generalize aub:jc aw 0 [a,b,c,d]=L at *;generalize ad:L[k]=x;have ah:(tp L)[k]=[.int .u8 x.toNat]:=by simp[tp,ad]
  rw[ah];have mR:pD (L.take (k+1))=uI (pD (L.take k)) x:=by rw[fZ OU,ad,agX]
  rw[mR];have fa:(pD (L.take k)).length<=256:=by have aa:=V0 (L.take k);have ab:=Br k L;simp only[dx,fL]at b4;omega
  generalize er:pD (L.take k)=a0 at *;have hl:=x.toNat_lt;obtain⟨xG,n,eV,aR⟩:=os;have aB:a0.length=n:=by have:=bS.len;rw[Kh]at this;simp only at this;omega
  cases xG with
  |none=>
   obtain⟨aG,a7⟩:=bS.nil rfl;simp only at aG a7;subst aG;subst a7;have rz:a0=[]:=iK aB;have iz:uI a0 x=a0++[(x,x)]:=by rw[rz];rfl
   refine aO.mk [.slice none 0 0] (c4 (cs:=[.slice none 0 0]) (k:=0) (n:=1) (T:=342) (.head _) (by simp)) ?_;refine bg.mk (-1) (by decide) ?_;refine cq.mk (λh=>by simp at h) (λ_=>?_);refine aO.mk [.slice none 0 0] (c4 (cs:=[.slice none 0 0]) (k:=0) (n:=1) (T:=342) (.head _) (by simp)) ?_;refine bX.mk λba kV V2=>?_;refine bw.append a5 rfl (by simp) (e:=344) rfl rfl rfl (⟨none,0,0,aR⟩:aX) bS rfl (m:=1) rfl (b8:=j6 (x,x)) (by decide) (c4 (cs:=j6 (x,x)) (k:=0) (n:=2) (T:=344) (.head _) (by simp[j6])) rfl (Mr:=[⟨ba,.cells (j6 (x,x)).toArray 344 (0,0)⟩,⟨g,.cells #[.slice none 0 0] 342 (0,0)⟩]) (eF (l₁:=[_,_])) (by simp only[maxLen];omega) (by show(_+1)*2<=_;simp only;omega) ?_;intro dJ c' hx dG eI eG iA;refine b2.mk [⟨dJ,.cells hx.toArray 344 (0,0)⟩,⟨ba,.cells (j6 (x,x)).toArray 344 (0,0)⟩] [] _ _ rfl rfl (bJ rfl) rfl ?_;refine⟨_,_,.perm (M1:=[⟨ba,.cells (j6 (x,x)).toArray 344 (0,0)⟩]++(⟨g,.cells #[aX.val ⟨some dJ,(⟨none,0,0,aR⟩:aX).n+1,c',hx⟩] 342 (0,0)⟩::aX.aq ⟨some dJ,(⟨none,0,0,aR⟩:aX).n+1,c',hx⟩ 344)) (eF (l₁:=[_]) (l₂:=[_,_])) (.sub (mb _ _) .refl),je,⟨some dJ,(⟨none,0,0,aR⟩:aX).n+1,c',hx⟩,?_,rfl⟩;rw[iz];exact OT bS dG eI eG iA
  |some cG=>
   obtain⟨d',mQ,kv,eb⟩:=bS.cap cG rfl;simp only at d' mQ kv eb;refine aO.mk [.slice (some ⟨cG,0,none⟩) n eV] (c4 (cs:=[.slice (some ⟨cG,0,none⟩) n eV]) (k:=0) (n:=1) (T:=342) (.head _) (by simp)) ?_;refine bg.mk ((n:Int)-1) (wrap_i64 ⟨by omega,by omega⟩) ?_;refine cq.mk (λaa=>?_) (λaa=>?_)
   ·have ot:1<=n:=by simp at aa;omega
    obtain⟨uJ,p,rfl⟩:∃ uJ p,a0=uJ++[p]:=by
     rcases vY a0 with h | ⟨r,p,h⟩;·subst h;simp at aB;omega
     ·exact⟨r,p,by simpa using h⟩
    have uz:uJ.length=n-1:=by simp at aB;omega
    have gN:(pE uJ).length=(n-1)*2:=by rw[Kh,uz]
    obtain⟨bi,ms⟩:∃ bi,aR=pE uJ++([.int .u8 p.1.toNat,.int .u8 p.2.toNat]++bi):=by refine⟨aR.drop (n*2),?_⟩;have ab:=sp (n*2) aR;rw[eb]at ab;rw[<-ab,Bs (by rw[Kh,aB])];simp[pE,j6]
    have fb:aR[(n-1)*2+1*1]?=some (.int .u8 p.2.toNat):=by rw[ms,<-gN,mT (by omega)];simp
    have jw:=p.2.toNat_lt;refine aO.mk [.slice (some ⟨cG,0,none⟩) n eV] (c4 (cs:=[.slice (some ⟨cG,0,none⟩) n eV]) (k:=0) (n:=1) (T:=342) (.head _) (by simp)) ?_;refine bf.mk ⟨cG,0,none⟩ (n-1) rfl (by omega) (by omega) ?_;refine eD.mk 1 rfl (by decide) ?_;refine aO.mk [.int .u8 p.2.toNat] (nA (b:=cG) (cs:=aR) (T:=344) (by simp[aX.aq]) fb) ?_;refine bg.mk (p.2.toNat:Int) (wrap_i64 ⟨by omega,by omega⟩) ?_;refine bg.mk ((p.2.toNat:Int)+1) (wrap_i64 ⟨by omega,by omega⟩) ?_;refine bg.mk (x.toNat:Int) (wrap_i64 ⟨by omega,by omega⟩) ?_;have iz:uI (uJ++[p]) x=bif decide ((p.2.toNat:Int)+1=x.toNat)then uJ++[(p.1,x)]else uJ++[p]++[(x,x)]:=by simp[uI]
    refine aZ.mk (λab=>?_) (λab=>?_)
    ·rw[ab]at iz;refine aO.mk [.slice (some ⟨cG,0,none⟩) n eV] (c4 (cs:=[.slice (some ⟨cG,0,none⟩) n eV]) (k:=0) (n:=1) (T:=342) (.head _) (by simp)) ?_;refine bf.mk ⟨cG,0,none⟩ (n-1) rfl (by omega) (by omega) ?_;refine eD.mk 1 rfl (by decide) ?_;rw[zl];refine b2.add [⟨g,.cells #[.slice (some ⟨cG,0,none⟩) n eV] 342 (0,0)⟩] [] aR.toArray _ rfl ?_ rfl ?_
     ·simp only[ow];show 0+((n-1)*2+1)+1<=_;omega
     ·refine⟨_,_,.refl,je,⟨some cG,n,eV,ck aR (0+((n-1)*2+1*1)) [.int .u8 x.toNat]⟩,?_,rfl⟩;have dK:ck aR (0+((n-1)*2+1*1)) [.int .u8 x.toNat]=pE uJ++([.int .u8 p.1.toNat,.int .u8 x.toNat]++bi):=by rw[ms];exact V1 _ _ _ _ _ _ (by omega)
      rw[iz,dK];have xF:pE (uJ++[(p.1,x)])=pE uJ++[.int .u8 p.1.toNat,.int .u8 x.toNat]:=by simp[pE,j6]
      refine⟨?_,(λh=>by cases h),λbP rA=>⟨?_,mQ,kv,?_⟩⟩;·simp only[ca];rw[xF,cm,gN];simp;omega
      ·simp only;rw[<-d',ms];simp
      ·simp only[ca];rw[xF,<-dT];refine qn ?_;rw[cm,gN];simp;omega
    ·rw[ab]at iz;simp only[b']at iz;refine aO.mk [.slice (some ⟨cG,0,none⟩) n eV] (c4 (cs:=[.slice (some ⟨cG,0,none⟩) n eV]) (k:=0) (n:=1) (T:=342) (.head _) (by simp)) ?_;refine bX.mk λba kV V2=>?_;refine bw.append a5 rfl (by simp) (e:=344) rfl rfl rfl (⟨some cG,n,eV,aR⟩:aX) bS rfl (m:=1) rfl (b8:=j6 (x,x)) (by decide) (c4 (cs:=j6 (x,x)) (k:=0) (n:=2) (T:=344) (.head _) (by simp[j6])) rfl (Mr:=[⟨ba,.cells (j6 (x,x)).toArray 344 (0,0)⟩,⟨g,.cells #[.slice (some ⟨cG,0,none⟩) n eV] 342 (0,0)⟩]) (eF (l₁:=[_,_])) (by simp only[maxLen];omega) (by show(_+1)*2<=_;simp only;omega) ?_;intro dJ c' hx dG eI eG iA;refine b2.mk [⟨dJ,.cells hx.toArray 344 (0,0)⟩,⟨ba,.cells (j6 (x,x)).toArray 344 (0,0)⟩] [] _ _ rfl rfl (bJ rfl) rfl ?_;refine⟨_,_,.perm (M1:=[⟨ba,.cells (j6 (x,x)).toArray 344 (0,0)⟩]++(⟨g,.cells #[aX.val ⟨some dJ,(⟨some cG,n,eV,aR⟩:aX).n+1,c',hx⟩] 342 (0,0)⟩::aX.aq ⟨some dJ,(⟨some cG,n,eV,aR⟩:aX).n+1,c',hx⟩ 344)) (eF (l₁:=[_]) (l₂:=[_,_])) (.sub (mb _ _) .refl),je,⟨some dJ,(⟨some cG,n,eV,aR⟩:aX).n+1,c',hx⟩,?_,rfl⟩;rw[iz];exact OT bS dG eI eG iA
   ·have uz:n=0:=by simp at aa;omega
    have rz:a0=[]:=iK (by omega);have iz:uI a0 x=a0++[(x,x)]:=by rw[rz];rfl
    refine aO.mk [.slice (some ⟨cG,0,none⟩) n eV] (c4 (cs:=[.slice (some ⟨cG,0,none⟩) n eV]) (k:=0) (n:=1) (T:=342) (.head _) (by simp)) ?_;refine bX.mk λba kV V2=>?_;refine bw.append a5 rfl (by simp) (e:=344) rfl rfl rfl (⟨some cG,n,eV,aR⟩:aX) bS rfl (m:=1) rfl (b8:=j6 (x,x)) (by decide) (c4 (cs:=j6 (x,x)) (k:=0) (n:=2) (T:=344) (.head _) (by simp[j6])) rfl (Mr:=[⟨ba,.cells (j6 (x,x)).toArray 344 (0,0)⟩,⟨g,.cells #[.slice (some ⟨cG,0,none⟩) n eV] 342 (0,0)⟩]) (eF (l₁:=[_,_])) (by simp only[maxLen];omega) (by show(_+1)*2<=_;simp only;omega) ?_;intro dJ c' hx dG eI eG iA;refine b2.mk [⟨dJ,.cells hx.toArray 344 (0,0)⟩,⟨ba,.cells (j6 (x,x)).toArray 344 (0,0)⟩] [] _ _ rfl rfl (bJ rfl) rfl ?_;refine⟨_,_,.perm (M1:=[⟨ba,.cells (j6 (x,x)).toArray 344 (0,0)⟩]++(⟨g,.cells #[aX.val ⟨some dJ,(⟨some cG,n,eV,aR⟩:aX).n+1,c',hx⟩] 342 (0,0)⟩::aX.aq ⟨some dJ,(⟨some cG,n,eV,aR⟩:aX).n+1,c',hx⟩ 344)) (eF (l₁:=[_]) (l₂:=[_,_])) (.sub (mb _ _) .refl),je,⟨some dJ,(⟨some cG,n,eV,aR⟩:aX).n+1,c',hx⟩,?_,rfl⟩;rw[iz];exact OT bS dG eI eG iA
 ·rintro I' M' -⟨je,os,bS,rfl⟩;refine aO.mk [os.val] (c4 (cs:=[os.val]) (k:=0) (n:=1) (T:=342) (.head _) (by simp)) ?_;refine⟨_,_,.sub (zc _ _) .refl,λb o h=>je _ _ (cn _ _ h),os,rfl,?_,rfl⟩;have:(jc aw 0 [a,b,c,d]).take (tp (jc aw 0 [a,b,c,d])).length=jc aw 0 [a,b,c,d]:=ft (by simp[tp]);rw[this]at bS;exact bS
def aX.ok.row{M:List aD}{f:α->List Value}{size:Nat}(aA:∀ x,(f x).length=size)(az:0<size){l:List α}(h:os.ok size (l.flatMap f))(a':∀ x∈os.aq e,x∈M)(ai:j<l.length) :
  ∃ aS,os.a.map (λg=>(⟨g,0,none⟩:Addr))=some aS/\cM I M (aS.add (j*size)) size (f l[j]):=by
 have aB:l.length=os.n:=by have aa:=h.len;rw[iv f size aA]at aa;exact Nat.eq_of_mul_eq_mul_right az aa
 cases a2:os.a with
 |none=>have:=(h.nil a2).1;omega
 |some g=>
  obtain⟨aa,ab,ak,aJ⟩:=h.cap g a2;refine⟨⟨g,0,none⟩,rfl,?_⟩;have bp:j*size+size<=os.n*size:=by have:=vA size (show j+1<=os.n by omega);rw[lL,oy]at this;exact this
  have d':os.n*size<=os.aR.length:=by rw[aa];exact vA _ ab
  have:=c4 (I:=I) (M:=M) (b:=g) (T:=e) (cs:=os.aR) (a' _ (by simp[aX.aq,a2])) (k:=j*size) (n:=size) (by omega);have aG:(os.aR.drop (j*size)).take size=f l[j]:=by rw[<-Ds f size aA l j ai,<-aJ,F8,Bb];congr 1;omega
  rw[aG]at this;exact this
def By:ByteArray:=⟨#[34]⟩
def zm:ByteArray:=⟨#[93,45,94]⟩
def GG(s:ByteArray):List UInt8:=[34]++s.data.toList.flatMap (oG · By)++[34]
def strOf(l:List UInt8):ByteArray:=⟨l.toArray⟩
def GH{α β:Type}(f:α->List β)(m:Nat)(aA:∀ x,(f x).length<=m):∀ l:List α,(l.flatMap f).length<=m*l.length
 |[]=>by simp
 |x::l=>by have aa:=GH f m aA l;have ab:=aA x;simp only[kr,cm,dx,Nat.mul_add];omega
def V3(s:ByteArray)(ar:s.size<=1099511627776):Spec Tryz.prog 259 [.string s] I [] λr I' M'=>r=.string (strOf (GG s))/\I'=I/\M'=[]:=by
 refine bZ [3] a5 Tryz.func259 rfl rfl rfl ?_;intro B az;refine bX.mk λb ag sj=>?_;refine bc.mk (gh.new.M b) [] _ (.refl _) (pB b gh.Kb 34 (by decide)) ?_;rintro v I' M' -⟨rfl,rfl,sg,f',GI,rfl⟩;refine de.inv (ι:=Nat×gh) (λp=>{ bj:=[(0,.val (.string s)),(3,.val (ptr b)),(4,.val (.int .i64 p.1))],cI:=I',c1:=p.2.M b }) (λp=>p.1<=s.size/\p.2.ok/\p.2.bK=[34]++(s.data.toList.take p.1).flatMap (oG · By)) (λp=>s.size-p.1) ?_ ?_
 ·exact⟨(0,sg),⟨by simp,f',by simp[GI,gh.new]⟩,.perm (by simp) .refl,hG,.nil⟩
 ·rintro⟨i,x⟩⟨hi,ad,ky⟩;simp only at hi ad ky;have c2:x.bK.length<=1+4*i:=by rw[ky];have:=GH (oG · By) 4 (λc=>GC c By) (s.data.toList.take i);have ab:=Br i s.data.toList;simp only[cm,dx,fL];omega
  refine aZ.mk (λh=>?_) (λh=>?_)
  ·have aV:i<s.size:=by simpa using h
   have ch:i<s.data.toList.length:=aV;refine AU.mk i rfl aV ?_;refine bc.mk (x.M b) [] _ (by simp) (Kd b ad s[i] By (by omega)) ?_;rintro v I' M' -⟨rfl,y,aE,gZ,rfl⟩;have fP:IntKind.i64.wrap ((i:Int)+1)=((i+1:Nat):Int):=by rw[wrap_i64 ⟨by omega,by omega⟩];omega
   refine bg.mk _ fP ?_;refine⟨(i+1,y),⟨⟨by simp only;omega,aE,?_⟩,by simp only;omega⟩,.perm (by simp) .refl,hG,.nil⟩;simp only;rw[gZ,ky,fZ ch,hd,dT];congr 1;simp;rfl
  ·have cA:s.size<=i:=by simpa using h
   have gq:s.data.toList.take i=s.data.toList:=ft cA;refine bc.mk (x.M b) [] _ (by simp) (pB b ad 34 (by omega)) ?_;rintro v I' M' -⟨rfl,rfl,y,aE,gZ,rfl⟩;refine bc.mk (y.M b) [] _ (by simp) (xB b aE (by rw[gZ];simp;omega)) ?_;rintro v I' M' -⟨rfl,rfl,rfl⟩;refine⟨_,_,.refl,?_,rfl,by simp⟩;rw[gZ,ky,gq];rfl
def uK(p:UInt8×UInt8):List UInt8:=
 oG p.1 zm++((bif decide (1<IntKind.u8.wrap ((p.2.toNat:Int)-p.1.toNat))then [45]else [])++(bif !decide ((p.2.toNat:Int)=p.1.toNat)then oG p.2 zm else []))
def Bz(aw:List Int)(a b c d:Int):List UInt8:=
 bif (a == jv 0&&(b == jv 0&&(c == jv 0&&d == jv 0)))then [46]else [91]++(pD (jc aw 0 [a,b,c,d])).flatMap uK++[93]
def V4(p:UInt8×UInt8):(uK p).length<=9:=by
 have aa:=GC p.1 zm;have ab:=GC p.2 zm;unfold uK;cases decide (1<IntKind.u8.wrap ((p.2.toNat:Int)-p.1.toNat))<;>cases decide ((p.2.toNat:Int)=p.1.toNat)<;>simp<;>omega
def V5(aw:List Int)(a b c d:Int):(pD (jc aw 0 [a,b,c,d])).length<=256:=by have aa:=OS aw [a,b,c,d] 0;have ab:=V0 (jc aw 0 [a,b,c,d]);simp only[dx,fL]at aa;omega
def ag0(aw:List Int)(a b c d:Int):(Bz aw a b c d).length<=2306:=by
 have aa:=V5 aw a b c d;have ab:=GH uK 9 V4 (pD (jc aw 0 [a,b,c,d]));unfold Bz;cases(a == jv 0&&(b == jv 0&&(c == jv 0&&d == jv 0)))
 ·simp only[b',cm,dx,fL];omega
 ·simp
def ag1(Bx:sr I aw){a b c d:Int}(ss:∀ x∈[a,b,c,d],g6 x):Spec Tryz.prog 260 [.agg #[.int .u64 a,.int .u64 b,.int .u64 c,.int .u64 d]] I []
  λr I' M'=>r=.string (strOf (Bz aw a b c d))/\(∀ b o,I b=some o->I' b=some o)/\M'=[]:=by
 refine bZ [3] a5 Tryz.func260 rfl rfl rfl ?_;intro B az;refine cY.draw a5 rfl rfl rfl ?_;refine eL.mk _ agP ?_;rintro v I' M' -⟨rfl,rfl,rfl⟩;refine gn.Oo a5 (e:=62) rfl rfl rfl rfl (by kernel_rfl) ?_;refine aZ.mk (λh=>?_) (λh=>?_)
 ·refine⟨_,_,.refl,?_,λ_ _ h=>h,rfl⟩;simp only[Bz,h];rfl
 ·refine bX.mk λg au Bt=>?_;refine bc.mk (gh.new.M g) [] _ (.refl _) (pB g gh.Kb 91 (by decide)) ?_;rintro v I' M' -⟨rfl,rfl,sg,f',GI,rfl⟩;refine bc.mk [] (sg.M g) _ (by simp) (agY Bx ss) ?_;rintro v I1 M1 -⟨cn,os,rfl,bS,rfl⟩;have fa:=V5 aw a b c d;have d':Bz aw a b c d=[91]++(pD (jc aw 0 [a,b,c,d])).flatMap uK++[93]:=by simp only[Bz,h];rfl
  generalize er:pD (jc aw 0 [a,b,c,d])=a0 at *;have aB:a0.length=os.n:=by have:=bS.len;rw[Kh]at this;omega
  refine de.inv (ι:=Nat×gh) (λp=>{ bj:=[(3,.val (ptr g)),(11,.val os.val),(12,.val (.int .i64 os.n)),(13,.val (.int .i64 p.1))],cI:=I1,c1:=p.2.M g++os.aq 344 }) (λp=>p.1<=os.n/\p.2.ok/\p.2.bK=[91]++(a0.take p.1).flatMap uK) (λp=>os.n-p.1) ?_ ?_;·exact⟨(0,sg),⟨by simp,f',by simp[GI,gh.new]⟩,.perm (by simpa using eF) .refl,eE,.nil⟩
  ·rintro⟨i,x⟩⟨hi,ad,ky⟩;simp only at hi ad ky;have c2:x.bK.length<=1+9*i:=by rw[ky];have:=GH uK 9 V4 (a0.take i);have ab:=Br i a0;simp only[cm,dx,fL];omega
   refine aZ.mk (λh=>?_) (λh=>?_)
   ·have aV:i<os.n:=by simpa using h
    have ch:i<a0.length:=by omega
    obtain⟨aS,bH,bl⟩:=aX.ok.row (I:=I1) (M:=x.M g++os.aq 344) (f:=j6) (λ_=>rfl) (by decide) bS (e:=344) (λy aE=>by simp[aE]) ch;refine bf.mk aS i bH rfl aV ?_;refine aO.mk _ bl ?_;generalize aC:a0[i]=p;refine eD.mk 0 rfl (by decide) ?_;refine bc.mk (x.M g) (os.aq 344) _ (.refl _) (Kd g ad p.1 zm (by omega)) ?_;rintro v I' M' -⟨rfl,y,aE,gZ,rfl⟩;have Ke:y.bK.length<=5+9*i:=by rw[gZ,cm];have:=GC p.1 zm;omega
    refine eD.mk 1 rfl (by decide) ?_;refine eD.mk 0 rfl (by decide) ?_;refine bg.mk _ rfl ?_;refine aZ.mk (λez=>?_) (λez=>?_)
    ·refine bc.mk (y.M g) (os.aq 344) _ (by simp) (pB g aE 45 (by omega)) ?_;rintro v I' M' -⟨rfl,rfl,u,hu,xD,rfl⟩;have xH:u.bK.length<=6+9*i:=by rw[xD];simp;omega
     refine eD.mk 1 rfl (by decide) ?_;refine eD.mk 0 rfl (by decide) ?_;refine aZ.mk (λcJ=>?_) (λcJ=>?_)
     ·refine eD.mk 1 rfl (by decide) ?_;refine bc.mk (u.M g) (os.aq 344) _ (by simp) (Kd g hu p.2 zm (by omega)) ?_;rintro v I' M' -⟨rfl,z,bb,tn,rfl⟩;have fP:IntKind.i64.wrap ((i:Int)+1)=((i+1:Nat):Int):=by rw[wrap_i64 ⟨by omega,by omega⟩];omega
      refine bg.mk _ fP ?_;refine⟨(i+1,z),⟨⟨by simp only;omega,bb,?_⟩,by simp only;omega⟩,.perm (by simp) .refl,eE,.nil⟩;simp only;rw[tn,xD,gZ,ky,fZ ch,hd,aC];simp[uK,ez,cJ]
     ·have fP:IntKind.i64.wrap ((i:Int)+1)=((i+1:Nat):Int):=by rw[wrap_i64 ⟨by omega,by omega⟩];omega
      refine bg.mk _ fP ?_;refine⟨(i+1,u),⟨⟨by simp only;omega,hu,?_⟩,by simp only;omega⟩,.perm (by simp) .refl,eE,.nil⟩;simp only;rw[xD,gZ,ky,fZ ch,hd,aC];simp[uK,ez,cJ]
    ·refine eD.mk 1 rfl (by decide) ?_;refine eD.mk 0 rfl (by decide) ?_;refine aZ.mk (λcJ=>?_) (λcJ=>?_)
     ·refine eD.mk 1 rfl (by decide) ?_;refine bc.mk (y.M g) (os.aq 344) _ (by simp) (Kd g aE p.2 zm (by omega)) ?_;rintro v I' M' -⟨rfl,z,bb,tn,rfl⟩;have fP:IntKind.i64.wrap ((i:Int)+1)=((i+1:Nat):Int):=by rw[wrap_i64 ⟨by omega,by omega⟩];omega
      refine bg.mk _ fP ?_;refine⟨(i+1,z),⟨⟨by simp only;omega,bb,?_⟩,by simp only;omega⟩,.perm (by simp) .refl,eE,.nil⟩;simp only;rw[tn,gZ,ky,fZ ch,hd,aC];simp[uK,ez,cJ]
     ·have fP:IntKind.i64.wrap ((i:Int)+1)=((i+1:Nat):Int):=by rw[wrap_i64 ⟨by omega,by omega⟩];omega
      refine bg.mk _ fP ?_;refine⟨(i+1,y),⟨⟨by simp only;omega,aE,?_⟩,by simp only;omega⟩,.perm (by simp) .refl,eE,.nil⟩;simp only;rw[gZ,ky,fZ ch,hd,aC];simp[uK,ez,cJ]
   ·have cA:os.n<=i:=by simpa using h
    have gq:a0.take i=a0:=ft (by omega);refine bc.mk (x.M g) (os.aq 344) _ (.refl _) (pB g ad 93 (by omega)) ?_;rintro v I' M' -⟨rfl,rfl,y,aE,gZ,rfl⟩;refine bc.mk (y.M g) (os.aq 344) _ (.refl _) (xB g aE (by rw[gZ];simp;omega)) ?_;rintro v I' M' -⟨rfl,rfl,rfl⟩;refine⟨_,_,.sub (fp _) .refl,?_,cn,rfl⟩;rw[gZ,ky,gq,d'];rfl
structure Ki(d:an):Prop where
 k:d.k<10
 t:d.t.size<=255
 GJ:d.k=6->0<=d.lo/\d.lo<=99/\(d.hi=-1\/(d.lo<=d.hi/\d.hi<=99))
def OV{d:an}{n:Int}(h:fits d n=true):Ki d:=by
 unfold fits at h;cases aa:decide (10<=d.k)with
 |true=>rw[aa]at h;cases h
 |false=>
  rw[aa]at h;simp only[b']at h;have ae:d.k<10:=by simpa using aa
  cases ab:(decide (n<uC d.k.toNat)||(decide (0<=sk d.k.toNat)&&decide (sk d.k.toNat<n)))with
  |true=>rw[ab]at h;cases h
  |false=>
   rw[ab]at h;simp only[b']at h;have dF:d.t=⟨#[]⟩->d.t.size<=255:=λe=>by rw[e];decide
   cases ak:decide (d.k=1)with
   |true=>rw[ak]at h;simp only[ca,cB,hR]at h;exact⟨ae,dF h.1,λe=>by simp at ak;omega⟩
   |false=>
    rw[ak]at h;simp only[b']at h;cases aJ:decide (d.k=2)with
    |true=>rw[aJ]at h;simp only[ca,cB,ta,sq,sb]at h;exact⟨ae,by omega,λe=>by simp at aJ;omega⟩
    |false=>
     rw[aJ]at h;simp only[b']at h;cases bB:(decide (d.k=3)||decide (d.k=9))with
     |true=>rw[bB]at h;simp only[ca,cB]at h;refine⟨ae,?_,λe=>by simp at bB;omega⟩;have:=h.1;unfold ny at this;simp only[cB,hR]at this;omega
     |false=>
      rw[bB]at h;simp only[b']at h;cases b5:decide (d.k=6)with
      |true=>
       rw[b5]at h;simp only[ca,cB,hR,ta,sq,sb,Bool.and_eq_false_iff]at h;refine⟨ae,dF h.2.2,λ_=>?_⟩;obtain⟨⟨a8,ba,bP⟩,_⟩:=h;refine⟨by omega,by omega,?_⟩;rcases bP with bP | bP
       ·left
        simpa using bP
       ·right
        omega
      |false=>rw[b5]at h;simp only[b',cB,hR]at h;exact⟨ae,dF h.2.1,λe=>by simp at b5;omega⟩
def GK:List Value:=[.int .i64 0,.int .i64 1,.string ⟨#[63]⟩,.int .i64 0,.int .i64 (-1),.string ⟨#[42]⟩,.int .i64 1,.int .i64 (-1),.string ⟨#[43]⟩]
def OW(I:aI):Prop:=∃ T al,I 2=some (.cells GK.toArray T al)
def BA(lo:Nat)(hi:Int):List UInt8:=
 bif decide (hi=lo)then [123]++nz lo++[125]else
 bif decide (hi=-1)then [123]++nz lo++[44,125]else [123]++nz lo++[44]++nz hi.toNat++[125]
def ts(lo:Nat)(hi:Int):List UInt8:=
 bif decide ((0:Int)=lo)&&decide (1=hi)then [63]else
 bif decide ((0:Int)=lo)&&decide (-1=hi)then [42]else
 bif decide ((1:Int)=lo)&&decide (-1=hi)then [43]else BA lo hi
def ag2(lo:Nat)(hi:Int):(BA lo hi).length<=7:=by
 have aa:=GD lo;have ab:=GD hi.toNat;unfold BA;cases decide (hi=lo)<;>cases decide (hi=-1)<;>simp<;>omega
def ag3(lo:Nat)(hi:Int):(ts lo hi).length<=7:=by
 have aa:=ag2 lo hi;unfold ts;cases(decide ((0:Int)=lo)&&decide (1=hi))<;>cases(decide ((0:Int)=lo)&&decide (-1=hi))<;>cases(decide ((1:Int)=lo)&&decide (-1=hi))<;>simp<;>omega
def V6(n:Nat):(zj n).size<=2:=GD n
def qs(lo hi:Int):an:=⟨6,0,0,0,0,⟨#[]⟩,lo,hi,none,0,0,[]⟩
def ag4{lo:Nat}{hi:Int}(eT:lo<=99)(gw:hi=-1\/((lo:Int)<=hi/\hi<=99)):fits (qs lo hi) 1=true:=by
 have aG:uC 6=1:=by decide
 have a7:sk 6=1:=by decide
 rcases gw with rfl | ⟨aa,ab⟩
 ·simp[fits,qs,aG,a7,an.rs];exact⟨eB (by omega),eB (by omega)⟩
 ·simp[fits,qs,aG,a7,an.rs];exact⟨eB (by omega),eB (by omega),.inr ⟨eB (by omega),eB (by omega)⟩⟩
def ag5(a b:List UInt8):strOf a++strOf b=strOf (a++b):=by apply DC;simp[strOf]
def gn.zn{t:Nat}{a b:List UInt8}(ar:a.length+b.length<=9223372036854775807){V:Value->Prop}{other:Prop}(h:V (.string (strOf (a++b)))):gn P .add t x y (.val (.string (strOf a))) (.val (.string (strOf b))) V other:=
 gn.concat (a:=strOf a) (b:=strOf b) ar (by rw[ag5];exact h)
def ag6(ap:mS I)(aC:OW I)(lo:Nat)(hi:Int)(eT:lo<=99)(gw:hi=-1\/((lo:Int)<=hi/\hi<=99)):Spec Tryz.prog 261 [.int .i64 lo,.int .i64 hi] I []
  λr I' M'=>r=.string (strOf (ts lo hi))/\I'=I/\M'=[]:=by
 refine bZ [] a5 Tryz.func261 rfl rfl rfl ?_;intro B az;have bu:(qs lo hi).ok I:=⟨by simp[qs],by simp[qs,g6],by simp[qs,g6],by simp[qs,g6],by simp[qs,g6],by show(0:Nat)<=_;omega,⟨by simp only[qs];omega,by simp only[qs];omega⟩,⟨by simp only[qs];omega,by simp only[qs];omega⟩,⟨rfl,⟨cc _,by simp[qs]⟩,.inl rfl⟩,by simp[qs]⟩;refine bc.mk [] [] _ (.refl _) (VE ap bu 1) ?_;rintro v I' M' -⟨rfl,rfl,rfl⟩;rw[ag4 eT gw];refine aZ.mk (λh=>by cases h) (λ_=>?_);have bl:cM I' ([]++[]) ⟨2,0,none⟩ 9 GK:=by obtain⟨T,al,aC⟩:=aC;exact⟨rfl,_,T,al,.inl aC,rfl,rfl⟩
 refine aO.mk _ bl ?_;refine de.inv (ι:=Nat) (λi=>{ bj:=[(0,.val (.int .i64 lo)),(1,.val (.int .i64 hi)),(12,.val (.agg GK.toArray)),(13,.val (.int .i64 i))],cI:=I' }) (λi=>i<=3/\(1<=i->(decide ((0:Int)=lo)&&decide (1=hi))=false)/\(2<=i->(decide ((0:Int)=lo)&&decide (-1=hi))=false)/\(3<=i->(decide ((1:Int)=lo)&&decide (-1=hi))=false)) (λi=>3-i) ?_ ?_
 ·exact⟨0,⟨by simp,by simp,by simp,by simp⟩,.refl,eE,.nil⟩
 ·rintro i⟨il,c5,m2,GL⟩
  match i,il with
  |0,_=>
   refine aZ.mk (λ_=>?_) (λh=>by simp at h);refine eD.mk 0 rfl (by decide) ?_;have next:(decide ((0:Int)=lo)&&decide (1=hi))=false->(((0+1:Nat)<=3/\(1<=(0+1:Nat)->(decide ((0:Int)=lo)&&decide (1=hi))=false)/\(2<=(0+1:Nat)->(decide ((0:Int)=lo)&&decide (-1=hi))=false)/\(3<=(0+1:Nat)->(decide ((1:Int)=lo)&&decide (-1=hi))=false))/\3-(0+1)<3-0):=λh=>by
    refine⟨⟨by simp,λ_=>?_,λcv=>?_,λcv=>?_⟩,by simp⟩;·exact h
    ·simp at cv
    ·simp at cv
   refine cq.mk (λa8=>?_) (λa8=>?_)
   ·refine aZ.mk (λba=>?_) (λba=>?_)
    ·refine⟨_,_,.refl,?_,rfl,rfl⟩;have:ts lo hi=[63]:=by unfold ts;rw[a8,ba];rfl
     rw[this];rfl
    ·refine bg.mk 1 (by decide) ?_;exact⟨1,next (by rw[a8,ba];rfl),.refl,eE,.nil⟩
   ·refine bg.mk 1 (by decide) ?_;exact⟨1,next (by rw[a8];rfl),.refl,eE,.nil⟩
  |1,_=>
   refine aZ.mk (λ_=>?_) (λh=>by simp at h);refine eD.mk 1 rfl (by decide) ?_;have next:(decide ((0:Int)=lo)&&decide (-1=hi))=false->(((1+1:Nat)<=3/\(1<=(1+1:Nat)->(decide ((0:Int)=lo)&&decide (1=hi))=false)/\(2<=(1+1:Nat)->(decide ((0:Int)=lo)&&decide (-1=hi))=false)/\(3<=(1+1:Nat)->(decide ((1:Int)=lo)&&decide (-1=hi))=false))/\3-(1+1)<3-1):=λh=>by
    refine⟨⟨by simp,λ_=>?_,λcv=>?_,λcv=>?_⟩,by simp⟩;·exact c5 (by decide)
    ·exact h
    ·simp at cv
   refine cq.mk (λa8=>?_) (λa8=>?_)
   ·refine aZ.mk (λba=>?_) (λba=>?_)
    ·refine⟨_,_,.refl,?_,rfl,rfl⟩;have:ts lo hi=[42]:=by unfold ts;rw[c5 (by decide),a8,ba];rfl
     rw[this];rfl
    ·refine bg.mk 2 (by decide) ?_;exact⟨2,next (by rw[a8,ba];rfl),.refl,eE,.nil⟩
   ·refine bg.mk 2 (by decide) ?_;exact⟨2,next (by rw[a8];rfl),.refl,eE,.nil⟩
  |2,_=>
   refine aZ.mk (λ_=>?_) (λh=>by simp at h);refine eD.mk 2 rfl (by decide) ?_;have next:(decide ((1:Int)=lo)&&decide (-1=hi))=false->(((2+1:Nat)<=3/\(1<=(2+1:Nat)->(decide ((0:Int)=lo)&&decide (1=hi))=false)/\(2<=(2+1:Nat)->(decide ((0:Int)=lo)&&decide (-1=hi))=false)/\(3<=(2+1:Nat)->(decide ((1:Int)=lo)&&decide (-1=hi))=false))/\3-(2+1)<3-2):=λh=>by
    refine⟨⟨by simp,λ_=>?_,λcv=>?_,λcv=>?_⟩,by simp⟩;·exact c5 (by decide)
    ·exact m2 (by decide)
    ·exact h
   refine cq.mk (λa8=>?_) (λa8=>?_)
   ·refine aZ.mk (λba=>?_) (λba=>?_)
    ·refine⟨_,_,.refl,?_,rfl,rfl⟩;have:ts lo hi=[43]:=by unfold ts;rw[c5 (by decide),m2 (by decide),a8,ba];rfl
     rw[this];rfl
    ·refine bg.mk 3 (by decide) ?_;exact⟨3,next (by rw[a8,ba];rfl),.refl,eE,.nil⟩
   ·refine bg.mk 3 (by decide) ?_;exact⟨3,next (by rw[a8];rfl),.refl,eE,.nil⟩
  |3,_=>
   refine aZ.mk (λh=>by simp at h) (λ_=>?_);have aG:=c5 (by decide);have a7:=m2 (by decide);have cr:=GL (by decide);have jG:ts lo hi=BA lo hi:=by unfold ts;rw[aG,a7,cr];rfl
   rw[jG];have v3:=V6 lo;have A1:=V6 hi.toNat;have v3:=GD lo;refine aZ.mk (λh=>?_) (λh=>?_);·refine bc.mk [] [] _ (.refl _) (Kf lo (by omega)) ?_;rintro v I' M' -⟨rfl,rfl,rfl⟩;refine gn.zn (a:=[123]) (b:=nz lo) (by simp;omega) ?_;refine gn.zn (a:=[123]++nz lo) (b:=[125]) (by simp;omega) ?_;refine⟨_,_,.refl,?_,rfl,rfl⟩;rw[BA,h];rfl
   ·refine aZ.mk (λk=>?_) (λk=>?_)
    ·refine bc.mk [] [] _ (.refl _) (Kf lo (by omega)) ?_;rintro v I' M' -⟨rfl,rfl,rfl⟩;refine gn.zn (a:=[123]) (b:=nz lo) (by simp;omega) ?_;refine gn.zn (a:=[123]++nz lo) (b:=[44,125]) (by simp;omega) ?_;refine⟨_,_,.refl,?_,rfl,rfl⟩;rw[BA,h,k];rfl
    ·refine bc.mk [] [] _ (.refl _) (Kf lo (by omega)) ?_;rintro v I' M' -⟨rfl,rfl,rfl⟩;have ae:hi≠-1:=by simpa using k
     obtain⟨aB,rfl⟩:=eA (show 0<=hi by omega);have A1:=GD aB;refine gn.zn (a:=[123]) (b:=nz lo) (by simp;omega) ?_;refine gn.zn (a:=[123]++nz lo) (b:=[44]) (by simp;omega) ?_;refine bc.mk [] [] _ (.refl _) (Kf aB (by omega)) ?_;rintro v I' M' -⟨rfl,rfl,rfl⟩;refine gn.zn (a:=[123]++nz lo++[44]) (b:=nz aB) (by simp;omega) ?_;refine gn.zn (a:=[123]++nz lo++[44]++nz aB) (b:=[125]) (by simp;omega) ?_;refine⟨_,_,.refl,?_,rfl,rfl⟩;rw[BA,h,k];rfl
def uL:List (List UInt8):=[[],[],[],[],[],[],[],[],[],[],[],[],[],[32],[],[],[32,47,32],[],[],[],[],[38],[],[],[33],[],[],[60],[],[62]]
def st(j:Nat):List UInt8:=uL.getD j []
def GM(I:aI):Prop:=∃ T al,I 1=some (.cells (uL.map λl=>Value.string (strOf l)).toArray T al)
def GM.rd(h:GM I)(M:List aD)(ai:i+j<30):cM I M ((Addr.add ⟨1,0,none⟩ i).add j) 1 [.string (strOf (st (i+j)))]:=by
 obtain⟨T,al,h⟩:=h;rw[zl,eP _ rfl];refine⟨rfl,_,T,al,.inl h,?_,rfl⟩;have aa:i+j<(uL.map λl=>Value.string (strOf l)).length:=by simp[uL];omega
 have ab:i+j<uL.length:=by simp[uL];omega
 simp only[db];rw[eR aa,qb,re];simp[st,bz,ab]
def GN(j:Nat):(st j).length<=3:=by
 by_cases h:j<30
 ·have:∀ j:Fin 30,(st j.val).length<=3:=by decide
  exact this ⟨j,h⟩
 ·have:uL.length<=j:=by simp[uL];omega
  simp[st,bz,this]
def rB(aw:List Int)(d:an):List UInt8:=
 bif decide (d.k=0)||decide (d.k=2)then GG d.t else
 bif decide (d.k=1)then Bz aw d.cz d.s1 d.s2 d.cZ else
 bif decide (d.k=3)then d.t.data.toList else
 bif decide (d.k=9)then st 27++d.t.data.toList++[58,32]else st (d.k.toNat*3)
def pG(d:an):List UInt8:=bif decide (d.k=6)then ts d.lo.toNat d.hi else st (d.k.toNat*3+2)
def ag7(s:ByteArray):strOf s.data.toList=s:=DC (by simp[strOf])
def OX(ap:mS I)(aC:OW I)(DF:GM I){d:an}(aj:d.ok I)(aA:Ki d):Spec Tryz.prog 233 [d.val] I [] λr I' M'=>r=.string (strOf (pG d))/\I'=I/\M'=[]:=by
 refine bZ [] a5 Tryz.func233 rfl rfl rfl ?_;intro B az;refine aZ.mk (λh=>?_) (λh=>?_)
 ·obtain⟨a8,ba,bP⟩:=aA.GJ (by simpa using h);have aG:d.lo=((d.lo.toNat:Nat):Int):=by omega
  have nq:=ag6 ap aC d.lo.toNat d.hi (by omega) (by omega);rw[<-aG]at nq;refine bc.mk [] [] _ (.refl _) nq ?_;rintro v I' M' -⟨rfl,rfl,rfl⟩;refine⟨_,_,.refl,?_,rfl,rfl⟩;simp only[pG,h];rfl
 ·have ae:=aj.k;have tr:=aA.k;refine eD.mk d.k.toNat (by omega) (by omega) ?_;refine aO.mk _ (DF.rd _ (by show d.k.toNat*3+2<30;omega)) ?_;refine⟨_,_,.refl,?_,rfl,rfl⟩;simp only[pG,h];rfl
def V7(Bx:sr I aw)(DF:GM I){d:an}(aj:d.ok I)(aA:Ki d):Spec Tryz.prog 231 [d.val] I []
  λr I' M'=>r=.string (strOf (rB aw d))/\(∀ b o,I b=some o->I' b=some o)/\M'=[]:=by
 refine bZ [] a5 Tryz.func231 rfl rfl rfl ?_;intro B az;have ae:=aj.k;have tr:=aA.k;have av:=aA.t;have lit:(decide (d.k=0)||decide (d.k=2))=true->rB aw d=GG d.t:=λh=>by simp only[rB,h];rfl
 refine aZ.mk (λaa=>?_) (λaa=>?_)
 ·refine aZ.mk (λ_=>?_) (λh=>by rw[aa]at h;cases h);refine bc.mk [] [] _ (.refl _) (V3 d.t (by omega)) ?_;rintro v I' M' -⟨rfl,rfl,rfl⟩;refine⟨_,_,.refl,?_,λ_ _ h=>h,rfl⟩;rw[lit (by rw[aa];rfl)]
 ·refine aZ.mk (λab=>?_) (λab=>?_)
  ·refine bc.mk [] [] _ (.refl _) (V3 d.t (by omega)) ?_;rintro v I' M' -⟨rfl,rfl,rfl⟩;refine⟨_,_,.refl,?_,λ_ _ h=>h,rfl⟩;rw[lit (by rw[ab];simp)]
  ·refine aZ.mk (λak=>?_) (λak=>?_)
   ·refine bc.mk [] [] _ (.refl _) (ag1 Bx (a:=d.cz) (b:=d.s1) (c:=d.s2) (d:=d.cZ) (λx ad=>by
     simp only[ee,List.not_mem_nil,or_false]at ad;rcases ad with rfl | rfl | rfl | rfl;·exact aj.cz
     ·exact aj.s1
     ·exact aj.s2
     ·exact aj.cZ)) ?_
    rintro v I' M' -⟨rfl,bt,rfl⟩;refine⟨_,_,.refl,?_,bt,rfl⟩;simp only[rB,aa,ab,ak];rfl
   ·refine aZ.mk (λaJ=>?_) (λaJ=>?_)
    ·refine⟨_,_,.refl,?_,λ_ _ h=>h,rfl⟩;simp only[rB,aa,ab,ak,aJ];rw[<-ag7 d.t];rfl
    ·refine aZ.mk (λbB=>?_) (λbB=>?_)
     ·have ag8:d.k=9:=by simpa using bB
      refine cY.draw a5 rfl rfl rfl ?_;refine eD.mk 9 ag8 (by decide) ?_;refine aO.mk _ (DF.rd _ (by decide)) ?_;have fo:(strOf (st 27)).size=1:=by decide
      refine gn.concat (a:=strOf (st 27)) (b:=d.t) (by omega) ?_;refine gn.concat (a:=strOf (st 27)++d.t) (b:=strOf [58,32]) (by rw[J5];show _+2<=_;omega) ?_;refine⟨_,_,.refl,?_,λ_ _ h=>h,rfl⟩;simp only[rB,aa,ab,ak,aJ,bB];refine congrArg Value.string (DC ?_);simp[strOf]
     ·refine eD.mk d.k.toNat (by omega) (by omega) ?_;refine aO.mk _ (DF.rd _ (by show d.k.toNat*3+0<30;omega)) ?_;refine⟨_,_,.refl,?_,λ_ _ h=>h,rfl⟩;simp only[rB,aa,ab,ak,aJ,bB];rfl
def iB(ns:List an)(k:Int):Int:=(ns.map (·.k)).getD k.toNat 0
def paren(w:Bool)(s:List UInt8):List UInt8:=(bif w then [40]else [])++(s++(bif w then [41]else []))
def uM(sep:List UInt8)(f:Int->List UInt8):Bool->List Int->List UInt8
 |_,[]=>[]| b,k::ks=>(bif b then sep else [])++(f k++uM sep f true ks)
def DG(d:an):List UInt8:=st (d.k.toNat*3+1)
def DH(aw:List Int)(ns:List an)(d:an)(g:Int->List UInt8):List UInt8:=
 rB aw d++(uM (DG d) (λk=>paren (hv d.k (iB ns k)) (g k)) false d.ax++pG d)
def kW(aw:List Int)(ns:List an):Int->List UInt8:=mo [] (DH aw ns) ns
def nB(aw:List Int)(t:bR):List UInt8:=bif right t then kW aw t.ns t.bA else []
def V8{sep:List UInt8}{f g:Int->List UInt8}:∀ {ks:List Int} {b:Bool},(∀ k∈ks,f k=g k)->uM sep f b ks=uM sep g b ks
 |[],b,_=>rfl| k::ks,b,h=>by unfold uM;rw[h k (by simp),V8 λx ad=>h x (by simp[ad])]
def V9(af:right t=true)(ai:j<t.ns.length):kW aw t.ns j=DH aw t.ns t.ns[j] (kW aw t.ns):=by refine Dz (λd g dJ h=>?_) af ai;unfold DH;rw[V8 λk ae=>by rw[h k ae]]
def ag9(w:Bool)(s:List UInt8):(paren w s).length<=s.length+2:=by cases w<;>simp[paren]
def V'{sep:List UInt8}{f:Int->List UInt8}(ar:sep.length<=3){g:Int->Nat}(aA:∀ k,(f k).length+3<=g k):∀ {ks:List Int} {b:Bool},(uM sep f b ks).length<=gY g ks
 |[],b=>by simp[uM,gY]
 |k::ks,b=>by
  have aa:=V' ar aA (ks:=ks) (b:=true);have ab:=aA k;unfold uM;simp only[cm,gY,cb,jK]at aa |-;cases b<;>simp<;>omega
def OY(aw:List Int){d:an}(aA:Ki d):(rB aw d).length<=2400:=by
 have aa:(GG d.t).length<=2+4*d.t.size:=by have:=GH (oG · By) 4 (λc=>GC c By) d.t.data.toList;have ab:d.t.data.toList.length=d.t.size:=rfl;simp only[GG,cm,dx,fL];omega
 have ab:=ag0 aw d.cz d.s1 d.s2 d.cZ;have ak:=aA.t;have aJ:=GN 27;have bB:=GN (d.k.toNat*3);have b5:d.t.data.toList.length=d.t.size:=rfl;unfold rB;cases(decide (d.k=0)||decide (d.k=2))<;>cases decide (d.k=1)<;>cases decide (d.k=3)<;>cases decide (d.k=9)<;>simp only[ca,b',cm,dx,fL]<;>omega
def Kj(d:an):(pG d).length<=7:=by
 have aa:=ag3 d.lo.toNat d.hi;have ab:=GN (d.k.toNat*3+2);unfold pG;cases decide (d.k=6)<;>simp only[ca,b']<;>omega
def Kk{α:Type}(c:Nat):∀ l:List α,(l.map λ_=>c).sum=c*l.length
 |[]=>by simp
 |x::l=>by rw[cb,jK,Kk c l,dx,Nat.mul_add];omega
def Wa(af:right t=true):(kW aw t.ns t.bA).length+5<=2412*t.ns.length:=by
 have h:=ON af (g:=λk=>(kW aw t.ns k).length+5) (c:=λ_=>2412) λj ai=>by rw[V9 af ai];have aa:=OY aw (OV (DA af ai));have ab:=Kj t.ns[j];have ak:=V' (sep:=DG t.ns[j]) (GN _) (f:=λk=>paren (hv t.ns[j].k (iB t.ns k)) (kW aw t.ns k)) (g:=λk=>(kW aw t.ns k).length+5) (λk=>by have:=ag9 (hv t.ns[j].k (iB t.ns k)) (kW aw t.ns k);omega) (ks:=t.ns[j].ax) (b:=false);unfold DH;simp only[cm];omega
 rw[Kk]at h;exact h
def Wb(aw:List Int)(t:bR):(nB aw t).length<=2412*t.ns.length:=by
 unfold nB;cases af:right t with
 |false=>simp| true=>have:=Wa (aw:=aw) af;simp only[ca];omega
abbrev Open:=Nat×Nat×Bool
def nC(e:Open):List Value:=[.int .i64 e.1,.int .i64 e.2.1,.bool e.2.2]
def nodeAt(ns:List an)(j:Nat):an:=ns.getD j ⟨0,0,0,0,0,.empty,0,0,none,0,0,[]⟩
def OZ(aw:List Int)(ns:List an)(d:an)(k:Int):List UInt8:=paren (hv d.k (iB ns k)) (kW aw ns k)
def oI(aw:List Int)(ns:List an)(e:Open):List UInt8:=bif decide ((e.2.1:Int)=0)then(bif e.2.2 then [40]else [])++rB aw (nodeAt ns e.1)else []
def uN(aw:List Int)(ns:List an)(e:Open):List UInt8:=
 oI aw ns e++(uM (DG (nodeAt ns e.1)) (OZ aw ns (nodeAt ns e.1)) (decide (0<(e.2.1:Int))) ((nodeAt ns e.1).ax.drop e.2.1)++(pG (nodeAt ns e.1)++(bif e.2.2 then [41]else [])))
def zo(ns:List an):Int->Nat:=mo 0 (λd g=>2+gY g d.ax) ns
def nX(ns:List an)(e:Open):Nat:=1+gY (zo ns) ((nodeAt ns e.1).ax.drop e.2.1)
def v5(ns:List an)(aY:List Open):Nat:=(aY.map (nX ns)).sum
def uO(aw:List Int)(ns:List an)(aY:List Open):List UInt8:=aY.reverse.flatMap (uN aw ns)
def BB(aw:List Int)(ns:List an)(aY:List Open)(e:Open):uO aw ns (aY++[e])=uN aw ns e++uO aw ns aY:=by simp[uO]
def su(ns:List an)(aY:List Open)(e:Open):v5 ns (aY++[e])=v5 ns aY+nX ns e:=by simp[v5]
def Wc(ns:List an):∀ aY:List Open,aY.length<=v5 ns aY
 |[]=>by simp
 |e::aY=>by have:=Wc ns aY;simp only[v5,cb,jK,dx,nX]at this |-;omega
def gD{ns:List an}(h:j<ns.length):nodeAt ns j=ns[j]:=by simp[nodeAt,bz,h]
def Wd{g dJ:Int->Nat}{ks:List Int}(h:∀ k∈ks,g k=dJ k):gY g ks=gY dJ ks:=by unfold gY;rw[gM h]
def We(af:right t=true)(ai:j<t.ns.length):zo t.ns j=2+gY (zo t.ns) t.ns[j].ax:=
 Dz (λd g dJ h=>by rw[Wd h]) af ai
def aha(af:right t=true):zo t.ns t.bA<=2*t.ns.length:=by
 have:=ON af (g:=zo t.ns) (c:=λ_=>2) λj ai=>by rw[We af ai];exact cc _
 rwa [Kk]at this
def Wf(af:right t=true)(ai:j<t.ns.length)(w:Bool):uN aw t.ns (j,0,w)=paren w (kW aw t.ns j):=by rw[V9 af ai];simp only[uN,oI,gD ai];cases w<;>simp[paren,DH,OZ]<;>rfl
def Wg(af:right t=true)(ai:j<t.ns.length)(w:Bool):nX t.ns (j,0,w)+1=zo t.ns j:=by rw[We af ai];simp[nX,gD ai];omega
def O0(af:right t=true)(ai:j<t.ns.length)(hi:i<t.ns[j].ax.length) :
  uN aw t.ns (j,i,w)=oI aw t.ns (j,i,w)++((bif decide (0<(i:Int))then DG t.ns[j]else [])++(uN aw t.ns (t.ns[j].ax[i].toNat,0,hv t.ns[j].k (iB t.ns t.ns[j].ax[i]))++uN aw t.ns (j,i+1,w))):=by
 have ae:=mm af j ai _ (bx hi);rw[Wf af (by omega)];have aG:(((t.ns[j].ax[i].toNat:Nat):Int))=t.ns[j].ax[i]:=ze ae.1;rw[aG];have aj:=eR hi;simp only[uN,gD ai];rw[aj];have a7:oI aw t.ns (j,i+1,w)=[]:=by have:decide (((i+1:Nat):Int)=0)=false:=eB (by omega);simp only[oI,this,b']
 have cr:decide (0<((i+1:Nat):Int))=true:=fu (by omega);rw[a7,cr];simp only[uM,OZ,dT,iq]
def O1(af:right t=true)(ai:j<t.ns.length){w':Bool}(hi:i<t.ns[j].ax.length):nX t.ns (j,i+1,w)+nX t.ns (t.ns[j].ax[i].toNat,0,w')+1=nX t.ns (j,i,w):=by
 have ae:=mm af j ai _ (bx hi);have aa:=Wg af (j:=t.ns[j].ax[i].toNat) (by omega) w';have aG:(((t.ns[j].ax[i].toNat:Nat):Int))=t.ns[j].ax[i]:=ze ae.1;rw[aG]at aa;have aj:=eR hi;have cr:nX t.ns (j,i,w)=1+gY (zo t.ns) (t.ns[j].ax.drop i):=by simp[nX,gD ai]
 have ea:nX t.ns (j,i+1,w)=1+gY (zo t.ns) (t.ns[j].ax.drop (i+1)):=by simp[nX,gD ai]
 rw[cr,ea,aj];simp only[gY,cb,jK];omega
def O2(ai:j<t.ns.length)(hi:t.ns[j].ax.length<=i):uN aw t.ns (j,i,w)=oI aw t.ns (j,i,w)++(pG t.ns[j]++(bif w then [41]else [])):=by simp only[uN,gD ai,jH hi];rfl
def DI{d:Nat}{x:dA}(h:F d=x):fY F d x=F:=by
 funext t;unfold fY;cases e:Nat.beq t d with
 |false=>rfl| true=>have:=dQ e;subst this;exact h.symm
def ahb{d:Nat}{x:Option (List Value)}(h:C d=x):jo C d x=C:=by
 funext t;unfold jo;cases e:Nat.beq t d with
 |false=>rfl| true=>have:=dQ e;subst this;exact h.symm
def DJ:Code->Code
 | .scope c=>c
 | .seq a b=>match DJ a with
  | .skip=>DJ b| c=>c
 |_=>.skip
def Kl(c:Code)(l:Nat):Code:=(findLabel c l).getD .skip
def b2.zl{M:List aD}{vs:List Value}{K:List aD->Prop}(a9 post:List aD)(cs:Array Value)(T:Nat)(a':M=a9++⟨b,.cells cs T (0,0)⟩::post)(ag:i+j+vs.length<=cs.size)(aa:gm vs=true)
  (h:K (a9++⟨b,.cells (ck cs.toList (i+j) vs).toArray T (0,0)⟩::post)):b2 M (((⟨b,0,none⟩:Addr).add i).add j) vs K:=by
 rw[Go.V.zl];refine b2.add a9 post cs T a' (by omega) aa ?_;rw[db];exact h
structure fQ(I:aI)(aw:List Int):Prop where
 c:mS I
 p:OW I
 s:GM I
 d:sr I aw
def O3(a b c:α)(L:List α):(a::b::(L++[c])).Perm ([b,c]++(a::L)):=
 (List.Perm.swap b a _).trans (((((J4 c L).cons a)).trans (List.Perm.swap c a L)).cons b)
def O4(a9:List Value)(a b c z:Value)(bi:List Value):ck (a9++([a,b,c]++bi)) (a9.length+1) [z]=a9++([a,z,c]++bi):=by have:=V1 a9 a b z (c::bi) _ rfl;exact this
def fQ.mono{I':aI}(h:fQ I aw)(bt:∀ b o,I b=some o->I' b=some o):fQ I' aw:=by obtain⟨⟨ahc,f1,aa⟩,⟨BC,f2,ab⟩,⟨ahd,f3,ak⟩,⟨aJ,bB,O5,f4,b5⟩⟩:=h;exact⟨⟨ahc,f1,bt _ _ aa⟩,⟨BC,f2,bt _ _ ab⟩,⟨ahd,f3,bt _ _ ak⟩,⟨aJ,bB,O5,f4,bt _ _ b5⟩⟩
def pH(aY:List Open):List Value:=aY.flatMap nC
def GO(aY:List Open):(pH aY).length=aY.length*3:=iv nC 3 (λ_=>rfl) aY
def BD(aY:List Open)(e:Open):pH (aY++[e])=pH aY++[.int .i64 e.1,.int .i64 e.2.1,.bool e.2.2]:=by simp[pH,nC]
abbrev GP:=gh×aX×List Open×aI
def Wh(t:bR)(g:Nat)(x:GP):vJ:={ bj:=[(1,.ref 1 0),(3,.val (ptr g)),(4,.val x.2.1.val)],cl:=[(1,t.cells)],cI:=x.2.2.2,c1:=x.2.1.aq 285++x.1.M g }
structure Km(dp:aI)(aw:List Int)(t:bR)(x:GP):Prop where
 le:∀ b o,dp b=some o->x.2.2.2 b=some o
 ok:x.1.ok
 os:x.2.1.ok 3 (pH x.2.2.1)
 ne:x.2.2.1≠[]
 auc:∀ e∈x.2.2.1,e.1<t.ns.length
 aud:x.1.bK++uO aw t.ns x.2.2.1=kW aw t.ns t.bA
 GQ:v5 t.ns x.2.2.1<=2*t.ns.length
def Wi{dp:aI}(bs:fQ dp aw)(av:t.ok dp)(af:right t=true)(aB:t.n<=1024){p:Nat->Nat×GP->Prop}(x:GP)(ad:Km dp aw t x)(aC:∀ y,Km dp aw t y->v5 t.ns y.2.2.1<v5 t.ns x.2.2.1->p 0 (g,y))(B:Nat)(az:World)(G:Fr)(oJ:dB) :
  V ⟨Tryz.prog,qk,[3],Tryz.f191.ntmps,B,az,dp,[],none⟩ (Kl (DJ (Tryz.f191.body.getD .skip)) 0) (fY (fY (fY G 4 (.val x.2.1.val)) 3 (.val (ptr g))) 1 (.ref 1 0)) (jo oJ 1 (some t.cells)) x.2.2.2 (x.2.1.aq 285++x.1.M g)
   (JV (λl=>pt [] (λy=>Wh t y.1 y.2) (p l)) (uo ⟨Tryz.prog,qk,[3],Tryz.f191.ntmps,B,az,dp,[],none⟩ Tryz.f191.results.toList
    (λr I' M'=>r=.string (strOf (kW aw t.ns t.bA))/\(∀ b o,dp b=some o->I' b=some o)/\M'=[]))):=by
 obtain⟨x,⟨xG,n,eV,aR⟩,aY,I1⟩:=x;obtain⟨bp,GR,bS,bn,fv,nY,rC⟩:=ad;simp only at bp GR bS bn fv nY rC aC |-;have jx:=bs.mono bp;have BE:=av.mono bp;have nw:=av.n;obtain⟨hY,⟨j,i,w⟩,rfl⟩:∃ hY e,aY=hY++[e]:=by
  rcases vY aY with h | ⟨r,e,h⟩;·exact(bn h).elim
  ·exact⟨r,e,by simpa using h⟩
 have e2:hY.length+1=n:=by have aa:=bS.len;rw[GO]at aa;simp at aa;omega
 have ai:j<t.ns.length:=fv (j,i,w) (by simp);have im:j<t.n:=by omega
 cases xG with
 |none=>have:=(bS.nil rfl).1;simp only at this;omega| some cG=>
 obtain⟨d',mQ,kv,eb⟩:=bS.cap cG rfl;simp only at d' mQ kv eb;have gN:(pH hY).length=(n-1)*3:=by rw[GO];omega
 obtain⟨bi,ms⟩:∃ bi,aR=pH hY++([.int .i64 j,.int .i64 i,.bool w]++bi):=by refine⟨aR.drop (n*3),?_⟩;have ab:=sp (n*3) aR;rw[eb,BD,dT]at ab;exact ab.symm
 have ahe:aR[(n-1)*3+0]?=some (.int .i64 j):=by rw[ms,<-gN,mT (by omega)];simp
 have sv:aR[(n-1)*3+1]?=some (.int .i64 i):=by rw[ms,<-gN,mT (by omega)];simp
 have Kn:aR[(n-1)*3+2]?=some (.bool w):=by rw[ms,<-gN,mT (by omega)];simp
 have uP:=Wa (aw:=aw) af;have hl:x.bK.length<=2412*t.ns.length:=by have:=congrArg List.length nY;rw[cm]at this;omega
 have Wj:=Wc t.ns (hY++[(j,i,w)]);simp only[cm,dx,fL]at Wj;have hH:=BE.ns t.ns[j] (bx ai);have e8:=hH.aL;have q3:=OV (DA af ai);obtain⟨aS,bH,bl⟩:=BE.a0.row an.cS im ai;rw[BB]at nY;rw[su]at rC aC Wj;have qt:IntKind.i64.wrap ((n:Int)-1)=((n-1:Nat):Int):=by rw[wrap_i64 ⟨by omega,by omega⟩];omega
 refine bg.mk (((n-1:Nat)):Int) qt ?_;refine bf.mk ⟨cG,0,none⟩ (n-1) rfl rfl (by show n-1<n;omega) ?_;refine cY.draw a5 rfl rfl rfl ?_;refine aO.mk [.int .i64 j] (nA (b:=cG) (cs:=aR) (T:=285) (by simp[aX.aq]) ahe) ?_;refine bf.mk aS j bH rfl im ?_;refine aO.mk _ (bl _) ?_;refine bX.mk λb6 BF O6=>?_;refine b2.mk [] (⟨cG,.cells aR.toArray 285 (0,0)⟩::x.M g) _ _ rfl rfl (bJ rfl) rfl ?_;refine aO.mk [.int .i64 i] (nA (b:=cG) (cs:=aR) (T:=285) (by simp[aX.aq]) sv) ?_;refine aZ.mk (λaa=>?_) (λaa=>?_)
 ·refine aO.mk [.bool w] (nA (b:=cG) (cs:=aR) (T:=285) (by simp[aX.aq]) Kn) ?_;refine aZ.mk (λab=>?_) (λab=>?_)
  ·refine bc.mk (x.M g) [⟨b6,.cells t.ns[j].cells.toArray 66 (0,0)⟩,⟨cG,.cells aR.toArray 285 (0,0)⟩] _ (eF (l₁:=[_,_])) (pB g GR 40 (by omega)) ?_;rintro v dv df -⟨rfl,rfl,y,aE,gZ,rfl⟩;have Ke:y.bK.length<=2412*t.ns.length+1:=by rw[gZ];simp;omega
   refine aO.mk _ (c4 (T:=66) (b:=b6) (cs:=t.ns[j].cells) (k:=0) (n:=9) (by simp) (bJ rfl)) ?_;refine bc.mk [] (y.M g++[⟨b6,.cells t.ns[j].cells.toArray 66 (0,0)⟩,⟨cG,.cells aR.toArray 285 (0,0)⟩]) _ (by simp) (V7 jx.d jx.s hH q3) ?_;rintro v dv df -⟨rfl,en,rfl⟩;have iC:∀ b o,dp b=some o->dv b=some o:=λb o h=>en _ _ (bp _ _ h);have DK:=OY aw q3;refine bc.mk (y.M g) [⟨b6,.cells t.ns[j].cells.toArray 66 (0,0)⟩,⟨cG,.cells aR.toArray 285 (0,0)⟩] _ (by simp) (uE g aE _ (by show _+(rB aw t.ns[j]).length<=_;omega)) ?_;rintro v hW sh -⟨rfl,rfl,u,hu,xD,rfl⟩;have sw:u.bK=x.bK++oI aw t.ns (j,i,w):=by rw[xD,gZ];simp only[oI,aa,ab,gD ai,ca,b'];simp[strOf]
   have xH:u.bK.length<=2412*t.ns.length+2401:=by rw[sw,cm];simp only[oI,aa,ab,gD ai,ca,b',cm,dx,fL];omega
   have ib:=bs.mono iC;have sy:=av.mono iC;have rD:=sy.ns t.ns[j] (bx ai);have GS:∀ {k m:Nat},k+m<=9->cM hW (u.M g++[⟨b6,.cells t.ns[j].cells.toArray 66 (0,0)⟩,⟨cG,.cells aR.toArray 285 (0,0)⟩]) ((⟨b6,0,none⟩:Addr).add k) m ((t.ns[j].cells.drop k).take m):=λh=>c4 (T:=66) (by simp) h;refine cY.draw a5 rfl rfl rfl ?_;refine aO.mk [.int .i64 i] (nA (b:=cG) (cs:=aR) (T:=285) (by simp[aX.aq]) sv) ?_;refine aO.mk _ (GS (by decide)) ?_;refine aZ.mk (λae=>?_) (λae=>?_)
   ·have dI:i<t.ns[j].aL:=by simpa using ae
    have lR:i<t.ns[j].ax.length:=by omega
    obtain⟨gg,fs,e'⟩:=rD.a0.one dI lR;have fc:=mm af j ai _ (bx lR);obtain⟨q,xI⟩:=eA fc.1;have ff:q<t.ns.length:=by omega
    have oK:q<t.n:=by omega
    obtain⟨oL,tt,xJ⟩:=sy.a0.row an.cS oK ff;have qu:∀ M,cM hW M ((oL.add (q*9)).add 0) 1 [.int .u8 t.ns[q].k]:=λM=>(xJ M).part (k:=0) (m:=1) (by decide);have uQ:iB t.ns ((q:Nat):Int)=t.ns[q].k:=by simp[iB,bz,ff]
    have hJ:=O0 (aw:=aw) af ai (w:=w) lR;have zp:=O1 af ai (w:=w) (w':=hv t.ns[j].k t.ns[q].k) lR;rw[xI]at hJ zp;simp only[xy,gl]at hJ zp;rw[uQ]at hJ;have fP:IntKind.i64.wrap ((i:Int)+1)=((i+1:Nat):Int):=by have:=rD.a0.cap;rw[wrap_i64 ⟨by omega,by omega⟩];omega
    have dK:ck aR ((n-1)*3+1) [.int .i64 ((i+1:Nat):Int)]=pH hY++([.int .i64 j,.int .i64 ((i+1:Nat):Int),.bool w]++bi):=by rw[ms,<-gN];exact O4 _ _ _ _ _ _
    have BG:aX.ok ⟨some cG,n,eV,ck aR ((n-1)*3+1) [.int .i64 ((i+1:Nat):Int)]⟩ 3 (pH (hY++[(j,i+1,w)])):=by
     rw[dK,BD];refine⟨by simp only[cm,dx,fL];omega,(λh=>by cases h),λbP _=>⟨?_,mQ,kv,?_⟩⟩;·simp only;rw[<-d',ms];simp
     ·simp only;rw[<-dT];refine qn ?_;simp only[cm,dx,fL];omega
    refine aO.mk [.int .i64 i] (nA (b:=cG) (cs:=aR) (T:=285) (by simp[aX.aq]) sv) ?_;refine aZ.mk (λbb=>by simp at aa bb;omega) (λbb=>?_);refine cY.draw a5 rfl rfl rfl ?_;refine aO.mk _ (c4 (T:=66) (b:=b6) (cs:=t.ns[j].cells) (k:=8) (n:=1) (by simp) (bJ rfl)) ?_;refine aO.mk [.int .i64 i] (nA (b:=cG) (cs:=aR) (T:=285) (by simp[aX.aq]) sv) ?_;refine bf.mk gg i fs rfl dI ?_;refine aO.mk [.int .i64 (q:Nat)] (by have dN:=e';rw[xI]at dN;exact dN _) ?_;refine aO.mk [.int .i64 i] (nA (b:=cG) (cs:=aR) (T:=285) (by simp[aX.aq]) sv) ?_;refine bg.mk ((i+1:Nat):Int) fP ?_;refine b2.zl (u.M g++[⟨b6,.cells t.ns[j].cells.toArray 66 (0,0)⟩]) [] aR.toArray 285 (by simp[aX.aq]) ?_ rfl ?_;·simp only[ow];show(n-1)*3+1+1<=_;omega
    refine cY.draw a5 rfl rfl rfl ?_;refine aO.mk [.int .u8 t.ns[j].k] (c4 (T:=66) (b:=b6) (cs:=t.ns[j].cells) (k:=0) (n:=1) (by simp) (bJ rfl)) ?_;refine bf.mk oL q tt rfl oK ?_;refine aO.mk [.int .u8 t.ns[q].k] (qu _) ?_;refine eL.mk _ (OQ t.ns[j].k t.ns[q].k) ?_;rintro v zq py -⟨rfl,rfl,rfl⟩;refine bX.mk λb9 kX uR=>?_;refine bw.append a5 rfl (by simp) (e:=285) rfl rfl rfl ⟨some cG,n,eV,ck aR ((n-1)*3+1) [.int .i64 ((i+1:Nat):Int)]⟩ (xs:=pH (hY++[(j,i+1,w)])) BG rfl (m:=1) rfl (b8:=nC (q,0,hv t.ns[j].k t.ns[q].k)) (by decide) (c4 (b:=b9) (cs:=nC (q,0,hv t.ns[j].k t.ns[q].k)) (k:=0) (n:=3) (T:=285) (.head _) (bJ rfl)) rfl (Mr:=⟨b9,.cells (nC (q,0,hv t.ns[j].k t.ns[q].k)).toArray 285 (0,0)⟩::(u.M g++[⟨b6,.cells t.ns[j].cells.toArray 66 (0,0)⟩])) (by exact eF (l₁:=(⟨b9,.cells (nC (q,0,hv t.ns[j].k t.ns[q].k)).toArray 285 (0,0)⟩:aD)::(u.M g++[⟨b6,.cells t.ns[j].cells.toArray 66 (0,0)⟩])) (l₂:=[⟨cG,.cells (ck aR ((n-1)*3+1) [.int .i64 ((i+1:Nat):Int)]).toArray 285 (0,0)⟩])) (by show n+1<=_;simp only[maxLen];omega) (by show(n+1)*24<=_;omega) ?_;intro dJ c' hx dG eI eG iA;refine⟨(g,u,⟨some dJ,n+1,c',hx⟩,hY++[(j,i+1,w)]++[(q,0,hv t.ns[j].k t.ns[q].k)],_),aC _ ⟨iC,hu,⟨?_,(λh=>by cases h),λbP _=>⟨dG,eI,eG,?_⟩⟩,by simp,?_,?_,?_⟩ ?_,.perm (M1:=[⟨b9,.cells (nC (q,0,hv t.ns[j].k t.ns[q].k)).toArray 285 (0,0)⟩,⟨b6,.cells t.ns[j].cells.toArray 66 (0,0)⟩]++(⟨dJ,.cells hx.toArray 285 (0,0)⟩::u.M g)) (O3 _ _ _ _) (.sub (mb _ _) .refl),hG,.cons rfl .nil⟩;·show _=(n+1)*3;rw[GO];simp;omega
    ·show hx.take ((n+1)*3)=_;rw[BD (hY++[(j,i+1,w)])];exact iA
    ·intro e he;simp only[cE,ek]at he;rcases he with(he | rfl) | rfl
     ·exact fv e (by simp[he])
     ·exact ai
     ·exact ff
    ·simp only;rw[BB,BB,sw,<-nY,hJ];rw[show decide (0<(i:Int))=false from bb];simp
    ·simp only;rw[su,su];omega
    ·simp only;rw[su,su];omega
   ·have dI:t.ns[j].ax.length<=i:=by simp at ae;omega
    have hJ:=O2 (aw:=aw) ai (w:=w) dI;have mO:=Kj t.ns[j];refine aO.mk _ (c4 (T:=66) (b:=b6) (cs:=t.ns[j].cells) (k:=0) (n:=9) (by simp) (bJ rfl)) ?_;refine bc.mk [] (u.M g++[⟨b6,.cells t.ns[j].cells.toArray 66 (0,0)⟩,⟨cG,.cells aR.toArray 285 (0,0)⟩]) _ (.refl _) (OX ib.c ib.p ib.s rD q3) ?_;rintro v zq py -⟨rfl,rfl,rfl⟩;refine bc.mk (u.M g) [⟨b6,.cells t.ns[j].cells.toArray 66 (0,0)⟩,⟨cG,.cells aR.toArray 285 (0,0)⟩] _ (by simp) (uE g hu _ (by show _+(pG t.ns[j]).length<=_;omega)) ?_;rintro v tu Wk -⟨rfl,rfl,a,a2,jf,rfl⟩;have Wl:a.bK.length<=2412*t.ns.length+2410:=by rw[jf,cm];show _+(pG t.ns[j]).length<=_;omega
    refine aO.mk [.bool w] (nA (b:=cG) (cs:=aR) (T:=285) (by simp[aX.aq]) Kn) ?_;refine aZ.mk (λhw=>?_) (λhw=>?_)
    ·subst hw;refine bc.mk (a.M g) [⟨b6,.cells t.ns[j].cells.toArray 66 (0,0)⟩,⟨cG,.cells aR.toArray 285 (0,0)⟩] _ (by simp) (pB g a2 41 (by omega)) ?_;rintro v Wm Wn -⟨rfl,rfl,c,ap,jG,rfl⟩;refine bg.mk (((n-1:Nat)):Int) qt ?_;refine l7.mk 0 (n-1) rfl rfl (dz _) (by show n-1<=eV;omega) ?_;refine aZ.mk (λbb=>?_) (λbb=>?_)
     ·have g4:0<n-1:=by simp at bb;omega
      refine⟨(g,c,⟨some cG,n-1,eV,aR⟩,hY,_),aC _ ⟨iC,ap,⟨?_,(λh=>by cases h),λbP _=>⟨d',by show n-1<=eV;omega,kv,?_⟩⟩,?_,λe he=>fv e (by simp[he]),?_,?_⟩ ?_,.perm (M1:=[⟨b6,.cells t.ns[j].cells.toArray 66 (0,0)⟩]++(⟨cG,.cells aR.toArray 285 (0,0)⟩::c.M g)) (eF (l₂:=[_,_])) (.sub (mb _ _) .refl),hG,.cons rfl .nil⟩;·exact gN
      ·show aR.take ((n-1)*3)=_;rw[ms,<-gN];exact qn rfl
      ·intro h;simp only at h;rw[h]at e2;simp at e2;omega
      ·simp only;rw[jG,jf,sw,<-nY,hJ];simp[strOf]
      ·simp only;omega
      ·simp only[nX];omega
     ·have g4:n-1=0:=by simp at bb;omega
      have uS:hY=[]:=iK (by omega);have nD:c.bK=kW aw t.ns t.bA:=by rw[jG,jf,sw,<-nY,hJ,uS];simp[uO,strOf]
      refine bc.mk (c.M g) [⟨b6,.cells t.ns[j].cells.toArray 66 (0,0)⟩,⟨cG,.cells aR.toArray 285 (0,0)⟩] _ (by simp) (xB g ap (by rw[nD];omega)) ?_;rintro v GU GV -⟨rfl,rfl,rfl⟩;refine⟨_,_,.sub (fp _) .refl,?_,iC,rfl⟩;rw[nD];rfl
    ·subst hw;refine bg.mk (((n-1:Nat)):Int) qt ?_;refine l7.mk 0 (n-1) rfl rfl (dz _) (by show n-1<=eV;omega) ?_;refine aZ.mk (λbb=>?_) (λbb=>?_)
     ·have g4:0<n-1:=by simp at bb;omega
      refine⟨(g,a,⟨some cG,n-1,eV,aR⟩,hY,_),aC _ ⟨iC,a2,⟨?_,(λh=>by cases h),λbP _=>⟨d',by show n-1<=eV;omega,kv,?_⟩⟩,?_,λe he=>fv e (by simp[he]),?_,?_⟩ ?_,.perm (M1:=[⟨b6,.cells t.ns[j].cells.toArray 66 (0,0)⟩]++(⟨cG,.cells aR.toArray 285 (0,0)⟩::a.M g)) (eF (l₂:=[_,_])) (.sub (mb _ _) .refl),hG,.cons rfl .nil⟩;·exact gN
      ·show aR.take ((n-1)*3)=_;rw[ms,<-gN];exact qn rfl
      ·intro h;simp only at h;rw[h]at e2;simp at e2;omega
      ·simp only;rw[jf,sw,<-nY,hJ];simp[strOf]
      ·simp only;omega
      ·simp only[nX];omega
     ·have g4:n-1=0:=by simp at bb;omega
      have uS:hY=[]:=iK (by omega);have nD:a.bK=kW aw t.ns t.bA:=by rw[jf,sw,<-nY,hJ,uS];simp[uO,strOf]
      refine bc.mk (a.M g) [⟨b6,.cells t.ns[j].cells.toArray 66 (0,0)⟩,⟨cG,.cells aR.toArray 285 (0,0)⟩] _ (by simp) (xB g a2 (by rw[nD];omega)) ?_;rintro v GU GV -⟨rfl,rfl,rfl⟩;refine⟨_,_,.sub (fp _) .refl,?_,iC,rfl⟩;rw[nD];rfl
  ·refine aO.mk _ (c4 (T:=66) (b:=b6) (cs:=t.ns[j].cells) (k:=0) (n:=9) (.head _) (bJ rfl)) ?_;refine bc.mk [] (⟨b6,.cells t.ns[j].cells.toArray 66 (0,0)⟩::⟨cG,.cells aR.toArray 285 (0,0)⟩::x.M g) _ (.refl _) (V7 jx.d jx.s hH q3) ?_;rintro v dv df -⟨rfl,en,rfl⟩;have iC:∀ b o,dp b=some o->dv b=some o:=λb o h=>en _ _ (bp _ _ h);have DK:=OY aw q3;refine bc.mk (x.M g) [⟨b6,.cells t.ns[j].cells.toArray 66 (0,0)⟩,⟨cG,.cells aR.toArray 285 (0,0)⟩] _ (eF (l₁:=[_,_])) (uE g GR _ (by show _+(rB aw t.ns[j]).length<=_;omega)) ?_;rintro v hW sh -⟨rfl,rfl,u,hu,xD,rfl⟩;have sw:u.bK=x.bK++oI aw t.ns (j,i,w):=by rw[xD];simp only[oI,aa,ab,gD ai,ca,b'];simp[strOf]
   have xH:u.bK.length<=2412*t.ns.length+2401:=by rw[sw,cm];simp only[oI,aa,ab,gD ai,ca,b',cm,dx,fL];omega
   have ib:=bs.mono iC;have sy:=av.mono iC;have rD:=sy.ns t.ns[j] (bx ai);have GS:∀ {k m:Nat},k+m<=9->cM hW (u.M g++[⟨b6,.cells t.ns[j].cells.toArray 66 (0,0)⟩,⟨cG,.cells aR.toArray 285 (0,0)⟩]) ((⟨b6,0,none⟩:Addr).add k) m ((t.ns[j].cells.drop k).take m):=λh=>c4 (T:=66) (by simp) h;refine cY.draw a5 rfl rfl rfl ?_;refine aO.mk [.int .i64 i] (nA (b:=cG) (cs:=aR) (T:=285) (by simp[aX.aq]) sv) ?_;refine aO.mk _ (GS (by decide)) ?_;refine aZ.mk (λae=>?_) (λae=>?_)
   ·have dI:i<t.ns[j].aL:=by simpa using ae
    have lR:i<t.ns[j].ax.length:=by omega
    obtain⟨gg,fs,e'⟩:=rD.a0.one dI lR;have fc:=mm af j ai _ (bx lR);obtain⟨q,xI⟩:=eA fc.1;have ff:q<t.ns.length:=by omega
    have oK:q<t.n:=by omega
    obtain⟨oL,tt,xJ⟩:=sy.a0.row an.cS oK ff;have qu:∀ M,cM hW M ((oL.add (q*9)).add 0) 1 [.int .u8 t.ns[q].k]:=λM=>(xJ M).part (k:=0) (m:=1) (by decide);have uQ:iB t.ns ((q:Nat):Int)=t.ns[q].k:=by simp[iB,bz,ff]
    have hJ:=O0 (aw:=aw) af ai (w:=w) lR;have zp:=O1 af ai (w:=w) (w':=hv t.ns[j].k t.ns[q].k) lR;rw[xI]at hJ zp;simp only[xy,gl]at hJ zp;rw[uQ]at hJ;have fP:IntKind.i64.wrap ((i:Int)+1)=((i+1:Nat):Int):=by have:=rD.a0.cap;rw[wrap_i64 ⟨by omega,by omega⟩];omega
    have dK:ck aR ((n-1)*3+1) [.int .i64 ((i+1:Nat):Int)]=pH hY++([.int .i64 j,.int .i64 ((i+1:Nat):Int),.bool w]++bi):=by rw[ms,<-gN];exact O4 _ _ _ _ _ _
    have BG:aX.ok ⟨some cG,n,eV,ck aR ((n-1)*3+1) [.int .i64 ((i+1:Nat):Int)]⟩ 3 (pH (hY++[(j,i+1,w)])):=by
     rw[dK,BD];refine⟨by simp only[cm,dx,fL];omega,(λh=>by cases h),λbP _=>⟨?_,mQ,kv,?_⟩⟩;·simp only;rw[<-d',ms];simp
     ·simp only;rw[<-dT];refine qn ?_;simp only[cm,dx,fL];omega
    refine aO.mk [.int .i64 i] (nA (b:=cG) (cs:=aR) (T:=285) (by simp[aX.aq]) sv) ?_;refine aZ.mk (λbb=>by simp at aa bb;omega) (λbb=>?_);refine cY.draw a5 rfl rfl rfl ?_;refine aO.mk _ (c4 (T:=66) (b:=b6) (cs:=t.ns[j].cells) (k:=8) (n:=1) (by simp) (bJ rfl)) ?_;refine aO.mk [.int .i64 i] (nA (b:=cG) (cs:=aR) (T:=285) (by simp[aX.aq]) sv) ?_;refine bf.mk gg i fs rfl dI ?_;refine aO.mk [.int .i64 (q:Nat)] (by have dN:=e';rw[xI]at dN;exact dN _) ?_;refine aO.mk [.int .i64 i] (nA (b:=cG) (cs:=aR) (T:=285) (by simp[aX.aq]) sv) ?_;refine bg.mk ((i+1:Nat):Int) fP ?_;refine b2.zl (u.M g++[⟨b6,.cells t.ns[j].cells.toArray 66 (0,0)⟩]) [] aR.toArray 285 (by simp[aX.aq]) ?_ rfl ?_;·simp only[ow];show(n-1)*3+1+1<=_;omega
    refine cY.draw a5 rfl rfl rfl ?_;refine aO.mk [.int .u8 t.ns[j].k] (c4 (T:=66) (b:=b6) (cs:=t.ns[j].cells) (k:=0) (n:=1) (by simp) (bJ rfl)) ?_;refine bf.mk oL q tt rfl oK ?_;refine aO.mk [.int .u8 t.ns[q].k] (qu _) ?_;refine eL.mk _ (OQ t.ns[j].k t.ns[q].k) ?_;rintro v zq py -⟨rfl,rfl,rfl⟩;refine bX.mk λb9 kX uR=>?_;refine bw.append a5 rfl (by simp) (e:=285) rfl rfl rfl ⟨some cG,n,eV,ck aR ((n-1)*3+1) [.int .i64 ((i+1:Nat):Int)]⟩ (xs:=pH (hY++[(j,i+1,w)])) BG rfl (m:=1) rfl (b8:=nC (q,0,hv t.ns[j].k t.ns[q].k)) (by decide) (c4 (b:=b9) (cs:=nC (q,0,hv t.ns[j].k t.ns[q].k)) (k:=0) (n:=3) (T:=285) (.head _) (bJ rfl)) rfl (Mr:=⟨b9,.cells (nC (q,0,hv t.ns[j].k t.ns[q].k)).toArray 285 (0,0)⟩::(u.M g++[⟨b6,.cells t.ns[j].cells.toArray 66 (0,0)⟩])) (by exact eF (l₁:=(⟨b9,.cells (nC (q,0,hv t.ns[j].k t.ns[q].k)).toArray 285 (0,0)⟩:aD)::(u.M g++[⟨b6,.cells t.ns[j].cells.toArray 66 (0,0)⟩])) (l₂:=[⟨cG,.cells (ck aR ((n-1)*3+1) [.int .i64 ((i+1:Nat):Int)]).toArray 285 (0,0)⟩])) (by show n+1<=_;simp only[maxLen];omega) (by show(n+1)*24<=_;omega) ?_;intro dJ c' hx dG eI eG iA;refine⟨(g,u,⟨some dJ,n+1,c',hx⟩,hY++[(j,i+1,w)]++[(q,0,hv t.ns[j].k t.ns[q].k)],_),aC _ ⟨iC,hu,⟨?_,(λh=>by cases h),λbP _=>⟨dG,eI,eG,?_⟩⟩,by simp,?_,?_,?_⟩ ?_,.perm (M1:=[⟨b9,.cells (nC (q,0,hv t.ns[j].k t.ns[q].k)).toArray 285 (0,0)⟩,⟨b6,.cells t.ns[j].cells.toArray 66 (0,0)⟩]++(⟨dJ,.cells hx.toArray 285 (0,0)⟩::u.M g)) (O3 _ _ _ _) (.sub (mb _ _) .refl),hG,.cons rfl .nil⟩;·show _=(n+1)*3;rw[GO];simp;omega
    ·show hx.take ((n+1)*3)=_;rw[BD (hY++[(j,i+1,w)])];exact iA
    ·intro e he;simp only[cE,ek]at he;rcases he with(he | rfl) | rfl
     ·exact fv e (by simp[he])
     ·exact ai
     ·exact ff
    ·simp only;rw[BB,BB,sw,<-nY,hJ];rw[show decide (0<(i:Int))=false from bb];simp
    ·simp only;rw[su,su];omega
    ·simp only;rw[su,su];omega
   ·have dI:t.ns[j].ax.length<=i:=by simp at ae;omega
    have hJ:=O2 (aw:=aw) ai (w:=w) dI;have mO:=Kj t.ns[j];refine aO.mk _ (c4 (T:=66) (b:=b6) (cs:=t.ns[j].cells) (k:=0) (n:=9) (by simp) (bJ rfl)) ?_;refine bc.mk [] (u.M g++[⟨b6,.cells t.ns[j].cells.toArray 66 (0,0)⟩,⟨cG,.cells aR.toArray 285 (0,0)⟩]) _ (.refl _) (OX ib.c ib.p ib.s rD q3) ?_;rintro v zq py -⟨rfl,rfl,rfl⟩;refine bc.mk (u.M g) [⟨b6,.cells t.ns[j].cells.toArray 66 (0,0)⟩,⟨cG,.cells aR.toArray 285 (0,0)⟩] _ (by simp) (uE g hu _ (by show _+(pG t.ns[j]).length<=_;omega)) ?_;rintro v tu Wk -⟨rfl,rfl,a,a2,jf,rfl⟩;have Wl:a.bK.length<=2412*t.ns.length+2410:=by rw[jf,cm];show _+(pG t.ns[j]).length<=_;omega
    refine aO.mk [.bool w] (nA (b:=cG) (cs:=aR) (T:=285) (by simp[aX.aq]) Kn) ?_;refine aZ.mk (λhw=>?_) (λhw=>?_)
    ·subst hw;refine bc.mk (a.M g) [⟨b6,.cells t.ns[j].cells.toArray 66 (0,0)⟩,⟨cG,.cells aR.toArray 285 (0,0)⟩] _ (by simp) (pB g a2 41 (by omega)) ?_;rintro v Wm Wn -⟨rfl,rfl,c,ap,jG,rfl⟩;refine bg.mk (((n-1:Nat)):Int) qt ?_;refine l7.mk 0 (n-1) rfl rfl (dz _) (by show n-1<=eV;omega) ?_;refine aZ.mk (λbb=>?_) (λbb=>?_)
     ·have g4:0<n-1:=by simp at bb;omega
      refine⟨(g,c,⟨some cG,n-1,eV,aR⟩,hY,_),aC _ ⟨iC,ap,⟨?_,(λh=>by cases h),λbP _=>⟨d',by show n-1<=eV;omega,kv,?_⟩⟩,?_,λe he=>fv e (by simp[he]),?_,?_⟩ ?_,.perm (M1:=[⟨b6,.cells t.ns[j].cells.toArray 66 (0,0)⟩]++(⟨cG,.cells aR.toArray 285 (0,0)⟩::c.M g)) (eF (l₂:=[_,_])) (.sub (mb _ _) .refl),hG,.cons rfl .nil⟩;·exact gN
      ·show aR.take ((n-1)*3)=_;rw[ms,<-gN];exact qn rfl
      ·intro h;simp only at h;rw[h]at e2;simp at e2;omega
      ·simp only;rw[jG,jf,sw,<-nY,hJ];simp[strOf]
      ·simp only;omega
      ·simp only[nX];omega
     ·have g4:n-1=0:=by simp at bb;omega
      have uS:hY=[]:=iK (by omega);have nD:c.bK=kW aw t.ns t.bA:=by rw[jG,jf,sw,<-nY,hJ,uS];simp[uO,strOf]
      refine bc.mk (c.M g) [⟨b6,.cells t.ns[j].cells.toArray 66 (0,0)⟩,⟨cG,.cells aR.toArray 285 (0,0)⟩] _ (by simp) (xB g ap (by rw[nD];omega)) ?_;rintro v GU GV -⟨rfl,rfl,rfl⟩;refine⟨_,_,.sub (fp _) .refl,?_,iC,rfl⟩;rw[nD];rfl
    ·subst hw;refine bg.mk (((n-1:Nat)):Int) qt ?_;refine l7.mk 0 (n-1) rfl rfl (dz _) (by show n-1<=eV;omega) ?_;refine aZ.mk (λbb=>?_) (λbb=>?_)
     ·have g4:0<n-1:=by simp at bb;omega
      refine⟨(g,a,⟨some cG,n-1,eV,aR⟩,hY,_),aC _ ⟨iC,a2,⟨?_,(λh=>by cases h),λbP _=>⟨d',by show n-1<=eV;omega,kv,?_⟩⟩,?_,λe he=>fv e (by simp[he]),?_,?_⟩ ?_,.perm (M1:=[⟨b6,.cells t.ns[j].cells.toArray 66 (0,0)⟩]++(⟨cG,.cells aR.toArray 285 (0,0)⟩::a.M g)) (eF (l₂:=[_,_])) (.sub (mb _ _) .refl),hG,.cons rfl .nil⟩;·exact gN
      ·show aR.take ((n-1)*3)=_;rw[ms,<-gN];exact qn rfl
      ·intro h;simp only at h;rw[h]at e2;simp at e2;omega
      ·simp only;rw[jf,sw,<-nY,hJ];simp[strOf]
      ·simp only;omega
      ·simp only[nX];omega
     ·have g4:n-1=0:=by simp at bb;omega
      have uS:hY=[]:=iK (by omega);have nD:a.bK=kW aw t.ns t.bA:=by rw[jf,sw,<-nY,hJ,uS];simp[uO,strOf]
      refine bc.mk (a.M g) [⟨b6,.cells t.ns[j].cells.toArray 66 (0,0)⟩,⟨cG,.cells aR.toArray 285 (0,0)⟩] _ (by simp) (xB g a2 (by rw[nD];omega)) ?_;rintro v GU GV -⟨rfl,rfl,rfl⟩;refine⟨_,_,.sub (fp _) .refl,?_,iC,rfl⟩;rw[nD];rfl
 ·have aue:x.bK=x.bK++oI aw t.ns (j,i,w):=by simp only[oI,aa,b',ef]
  have ib:=bs.mono bp;have sy:=av.mono bp;have rD:=sy.ns t.ns[j] (bx ai);have GS:∀ {k m:Nat},k+m<=9->cM I1 (⟨b6,.cells t.ns[j].cells.toArray 66 (0,0)⟩::⟨cG,.cells aR.toArray 285 (0,0)⟩::x.M g) ((⟨b6,0,none⟩:Addr).add k) m ((t.ns[j].cells.drop k).take m):=λh=>c4 (T:=66) (by simp) h;refine cY.draw a5 rfl rfl rfl ?_;refine aO.mk [.int .i64 i] (nA (b:=cG) (cs:=aR) (T:=285) (by simp[aX.aq]) sv) ?_;refine aO.mk _ (GS (by decide)) ?_;refine aZ.mk (λae=>?_) (λae=>?_)
  ·have dI:i<t.ns[j].aL:=by simpa using ae
   have lR:i<t.ns[j].ax.length:=by omega
   obtain⟨gg,fs,e'⟩:=rD.a0.one dI lR;have fc:=mm af j ai _ (bx lR);obtain⟨q,xI⟩:=eA fc.1;have ff:q<t.ns.length:=by omega
   have oK:q<t.n:=by omega
   obtain⟨oL,tt,xJ⟩:=sy.a0.row an.cS oK ff;have qu:∀ M,cM I1 M ((oL.add (q*9)).add 0) 1 [.int .u8 t.ns[q].k]:=λM=>(xJ M).part (k:=0) (m:=1) (by decide);have uQ:iB t.ns ((q:Nat):Int)=t.ns[q].k:=by simp[iB,bz,ff]
   have hJ:=O0 (aw:=aw) af ai (w:=w) lR;have zp:=O1 af ai (w:=w) (w':=hv t.ns[j].k t.ns[q].k) lR;rw[xI]at hJ zp;simp only[xy,gl]at hJ zp;rw[uQ]at hJ;have fP:IntKind.i64.wrap ((i:Int)+1)=((i+1:Nat):Int):=by have:=rD.a0.cap;rw[wrap_i64 ⟨by omega,by omega⟩];omega
   have dK:ck aR ((n-1)*3+1) [.int .i64 ((i+1:Nat):Int)]=pH hY++([.int .i64 j,.int .i64 ((i+1:Nat):Int),.bool w]++bi):=by rw[ms,<-gN];exact O4 _ _ _ _ _ _
   have BG:aX.ok ⟨some cG,n,eV,ck aR ((n-1)*3+1) [.int .i64 ((i+1:Nat):Int)]⟩ 3 (pH (hY++[(j,i+1,w)])):=by
    rw[dK,BD];refine⟨by simp only[cm,dx,fL];omega,(λh=>by cases h),λbP _=>⟨?_,mQ,kv,?_⟩⟩;·simp only;rw[<-d',ms];simp
    ·simp only;rw[<-dT];refine qn ?_;simp only[cm,dx,fL];omega
   refine aO.mk [.int .i64 i] (nA (b:=cG) (cs:=aR) (T:=285) (by simp[aX.aq]) sv) ?_;refine aZ.mk (λbb=>?_) (λbb=>by simp at aa bb;omega);refine aO.mk [.int .u8 t.ns[j].k] (c4 (T:=66) (b:=b6) (cs:=t.ns[j].cells) (k:=0) (n:=1) (.head _) (bJ rfl)) ?_;refine eD.mk t.ns[j].k.toNat (by have:=rD.k;omega) (by have:=q3.k;have:=rD.k;omega) ?_;refine aO.mk _ (ib.s.rd _ (by have:=q3.k;have:=rD.k;show t.ns[j].k.toNat*3+1<30;omega)) ?_;refine bc.mk (x.M g) [⟨b6,.cells t.ns[j].cells.toArray 66 (0,0)⟩,⟨cG,.cells aR.toArray 285 (0,0)⟩] _ (eF (l₁:=[_,_])) (uE g GR _ (by have:=GN (t.ns[j].k.toNat*3+1);show _+(st (t.ns[j].k.toNat*3+1)).length<=_;omega)) ?_;rintro v rr rq -⟨rfl,rfl,z,uT,ahf,rfl⟩;have tn:z.bK=x.bK++DG t.ns[j]:=ahf;refine cY.draw a5 rfl rfl rfl ?_;refine aO.mk _ (c4 (T:=66) (b:=b6) (cs:=t.ns[j].cells) (k:=8) (n:=1) (by simp) (bJ rfl)) ?_;refine aO.mk [.int .i64 i] (nA (b:=cG) (cs:=aR) (T:=285) (by simp[aX.aq]) sv) ?_;refine bf.mk gg i fs rfl dI ?_;refine aO.mk [.int .i64 (q:Nat)] (by have dN:=e';rw[xI]at dN;exact dN _) ?_;refine aO.mk [.int .i64 i] (nA (b:=cG) (cs:=aR) (T:=285) (by simp[aX.aq]) sv) ?_;refine bg.mk ((i+1:Nat):Int) fP ?_;refine b2.zl (z.M g++[⟨b6,.cells t.ns[j].cells.toArray 66 (0,0)⟩]) [] aR.toArray 285 (by simp[aX.aq]) ?_ rfl ?_;·simp only[ow];show(n-1)*3+1+1<=_;omega
   refine cY.draw a5 rfl rfl rfl ?_;refine aO.mk [.int .u8 t.ns[j].k] (c4 (T:=66) (b:=b6) (cs:=t.ns[j].cells) (k:=0) (n:=1) (by simp) (bJ rfl)) ?_;refine bf.mk oL q tt rfl oK ?_;refine aO.mk [.int .u8 t.ns[q].k] (qu _) ?_;refine eL.mk _ (OQ t.ns[j].k t.ns[q].k) ?_;rintro v zq py -⟨rfl,rfl,rfl⟩;refine bX.mk λb9 kX uR=>?_;refine bw.append a5 rfl (by simp) (e:=285) rfl rfl rfl ⟨some cG,n,eV,ck aR ((n-1)*3+1) [.int .i64 ((i+1:Nat):Int)]⟩ (xs:=pH (hY++[(j,i+1,w)])) BG rfl (m:=1) rfl (b8:=nC (q,0,hv t.ns[j].k t.ns[q].k)) (by decide) (c4 (b:=b9) (cs:=nC (q,0,hv t.ns[j].k t.ns[q].k)) (k:=0) (n:=3) (T:=285) (.head _) (bJ rfl)) rfl (Mr:=⟨b9,.cells (nC (q,0,hv t.ns[j].k t.ns[q].k)).toArray 285 (0,0)⟩::(z.M g++[⟨b6,.cells t.ns[j].cells.toArray 66 (0,0)⟩])) (by exact eF (l₁:=(⟨b9,.cells (nC (q,0,hv t.ns[j].k t.ns[q].k)).toArray 285 (0,0)⟩:aD)::(z.M g++[⟨b6,.cells t.ns[j].cells.toArray 66 (0,0)⟩])) (l₂:=[⟨cG,.cells (ck aR ((n-1)*3+1) [.int .i64 ((i+1:Nat):Int)]).toArray 285 (0,0)⟩])) (by show n+1<=_;simp only[maxLen];omega) (by show(n+1)*24<=_;omega) ?_;intro dJ c' hx dG eI eG iA;refine⟨(g,z,⟨some dJ,n+1,c',hx⟩,hY++[(j,i+1,w)]++[(q,0,hv t.ns[j].k t.ns[q].k)],_),aC _ ⟨bp,uT,⟨?_,(λh=>by cases h),λbP _=>⟨dG,eI,eG,?_⟩⟩,by simp,?_,?_,?_⟩ ?_,.perm (M1:=[⟨b9,.cells (nC (q,0,hv t.ns[j].k t.ns[q].k)).toArray 285 (0,0)⟩,⟨b6,.cells t.ns[j].cells.toArray 66 (0,0)⟩]++(⟨dJ,.cells hx.toArray 285 (0,0)⟩::z.M g)) (O3 _ _ _ _) (.sub (mb _ _) .refl),hG,.cons rfl .nil⟩;·show _=(n+1)*3;rw[GO];simp;omega
   ·show hx.take ((n+1)*3)=_;rw[BD (hY++[(j,i+1,w)])];exact iA
   ·intro e he;simp only[cE,ek]at he;rcases he with(he | rfl) | rfl
    ·exact fv e (by simp[he])
    ·exact ai
    ·exact ff
   ·simp only;rw[BB,BB,tn,<-nY,hJ];rw[show decide (0<(i:Int))=true from bb,show oI aw t.ns (j,i,w)=[]from by simp only[oI,aa,b']];simp
   ·simp only;rw[su,su];omega
   ·simp only;rw[su,su];omega
  ·have dI:t.ns[j].ax.length<=i:=by simp at ae;omega
   have ahg:=O2 (aw:=aw) ai (w:=w) dI;have hJ:uN aw t.ns (j,i,w)=pG t.ns[j]++(bif w then [41]else []):=by rw[ahg];simp only[oI,aa,b',iq]
   have mO:=Kj t.ns[j];refine aO.mk _ (c4 (T:=66) (b:=b6) (cs:=t.ns[j].cells) (k:=0) (n:=9) (.head _) (bJ rfl)) ?_;refine bc.mk [] (⟨b6,.cells t.ns[j].cells.toArray 66 (0,0)⟩::⟨cG,.cells aR.toArray 285 (0,0)⟩::x.M g) _ (.refl _) (OX ib.c ib.p ib.s rD q3) ?_;rintro v zq py -⟨rfl,rfl,rfl⟩;refine bc.mk (x.M g) [⟨b6,.cells t.ns[j].cells.toArray 66 (0,0)⟩,⟨cG,.cells aR.toArray 285 (0,0)⟩] _ (eF (l₁:=[_,_])) (uE g GR _ (by show _+(pG t.ns[j]).length<=_;omega)) ?_;rintro v tu Wk -⟨rfl,rfl,a,a2,jf,rfl⟩;have Wl:a.bK.length<=2412*t.ns.length+2410:=by rw[jf,cm];show _+(pG t.ns[j]).length<=_;omega
   refine aO.mk [.bool w] (nA (b:=cG) (cs:=aR) (T:=285) (by simp[aX.aq]) Kn) ?_;refine aZ.mk (λhw=>?_) (λhw=>?_)
   ·subst hw;refine bc.mk (a.M g) [⟨b6,.cells t.ns[j].cells.toArray 66 (0,0)⟩,⟨cG,.cells aR.toArray 285 (0,0)⟩] _ (by simp) (pB g a2 41 (by omega)) ?_;rintro v Wm Wn -⟨rfl,rfl,c,ap,jG,rfl⟩;refine bg.mk (((n-1:Nat)):Int) qt ?_;refine l7.mk 0 (n-1) rfl rfl (dz _) (by show n-1<=eV;omega) ?_;refine aZ.mk (λbb=>?_) (λbb=>?_)
    ·have g4:0<n-1:=by simp at bb;omega
     refine⟨(g,c,⟨some cG,n-1,eV,aR⟩,hY,_),aC _ ⟨bp,ap,⟨?_,(λh=>by cases h),λbP _=>⟨d',by show n-1<=eV;omega,kv,?_⟩⟩,?_,λe he=>fv e (by simp[he]),?_,?_⟩ ?_,.perm (M1:=[⟨b6,.cells t.ns[j].cells.toArray 66 (0,0)⟩]++(⟨cG,.cells aR.toArray 285 (0,0)⟩::c.M g)) (eF (l₂:=[_,_])) (.sub (mb _ _) .refl),hG,.cons rfl .nil⟩;·exact gN
     ·show aR.take ((n-1)*3)=_;rw[ms,<-gN];exact qn rfl
     ·intro h;simp only at h;rw[h]at e2;simp at e2;omega
     ·simp only;rw[jG,jf,<-nY,hJ];simp[strOf]
     ·simp only;omega
     ·simp only[nX];omega
    ·have g4:n-1=0:=by simp at bb;omega
     have uS:hY=[]:=iK (by omega);have nD:c.bK=kW aw t.ns t.bA:=by rw[jG,jf,<-nY,hJ,uS];simp[uO,strOf]
     refine bc.mk (c.M g) [⟨b6,.cells t.ns[j].cells.toArray 66 (0,0)⟩,⟨cG,.cells aR.toArray 285 (0,0)⟩] _ (by simp) (xB g ap (by rw[nD];omega)) ?_;rintro v GU GV -⟨rfl,rfl,rfl⟩;refine⟨_,_,.sub (fp _) .refl,?_,bp,rfl⟩;rw[nD];rfl
   ·subst hw;refine bg.mk (((n-1:Nat)):Int) qt ?_;refine l7.mk 0 (n-1) rfl rfl (dz _) (by show n-1<=eV;omega) ?_;refine aZ.mk (λbb=>?_) (λbb=>?_)
    ·have g4:0<n-1:=by simp at bb;omega
     refine⟨(g,a,⟨some cG,n-1,eV,aR⟩,hY,_),aC _ ⟨bp,a2,⟨?_,(λh=>by cases h),λbP _=>⟨d',by show n-1<=eV;omega,kv,?_⟩⟩,?_,λe he=>fv e (by simp[he]),?_,?_⟩ ?_,.perm (M1:=[⟨b6,.cells t.ns[j].cells.toArray 66 (0,0)⟩]++(⟨cG,.cells aR.toArray 285 (0,0)⟩::a.M g)) (eF (l₂:=[_,_])) (.sub (mb _ _) .refl),hG,.cons rfl .nil⟩;·exact gN
     ·show aR.take ((n-1)*3)=_;rw[ms,<-gN];exact qn rfl
     ·intro h;simp only at h;rw[h]at e2;simp at e2;omega
     ·simp only;rw[jf,<-nY,hJ];simp[strOf]
     ·simp only;omega
     ·simp only[nX];omega
    ·have g4:n-1=0:=by simp at bb;omega
     have uS:hY=[]:=iK (by omega);have nD:a.bK=kW aw t.ns t.bA:=by rw[jf,<-nY,hJ,uS];simp[uO,strOf]
     refine bc.mk (a.M g) [⟨b6,.cells t.ns[j].cells.toArray 66 (0,0)⟩,⟨cG,.cells aR.toArray 285 (0,0)⟩] _ (by simp) (xB g a2 (by rw[nD];omega)) ?_;rintro v GU GV -⟨rfl,rfl,rfl⟩;refine⟨_,_,.sub (fp _) .refl,?_,bp,rfl⟩;rw[nD];rfl
def Wo{X:cV}{c:Code}{M:List aD}{K:j0}{t1 t2 t3:Nat}{a b d:dA}{e:Option (List Value)}(h:∀ G oJ,V X c (fY (fY (fY G t3 d) t2 b) t1 a) (jo oJ t1 e) I M K)
  (aa:F t1=a) (ab:F t2=b) (ak:F t3=d) (aJ:C t1=e):V X c F C I M K:=by
 have:=h F C;rwa [DI ak,DI ab,DI aa,ahb aJ]at this
def ahh(bs:fQ I aw)(av:t.ok I)(aB:t.n<=1024):Spec Tryz.prog 191 [t.val] I [] λr I' M'=>r=.string (strOf (nB aw t))/\(∀ b o,I b=some o->I' b=some o)/\M'=[]:=by
 refine bZ [3] a5 Tryz.func191 rfl rfl rfl ?_;intro B az;have nw:=av.n;cases af:right t with
 |true=>
  have BH:nB aw t=kW aw t.ns t.bA:=by simp[nB,af]
  rw[BH];have tl:=qo af;obtain⟨r,rz⟩:=eA tl.1;have fa:r<t.ns.length:=by omega
  obtain⟨ns,nZ,jy,oM,bA⟩:=t;simp only at rz;subst rz;have rz:(⟨ns,nZ,jy,oM,Int.ofNat r⟩:bR).bA=Int.ofNat r:=rfl;refine cY.scope a5 rfl (λy:Nat×GP=>Wh ⟨ns,nZ,jy,oM,Int.ofNat r⟩ y.1 y.2) (λ_=>0) (λy=>Km I aw ⟨ns,nZ,jy,oM,Int.ofNat r⟩ y.2) (λy=>v5 ns y.2.2.2.1) (λ_=>Kl (DJ (Tryz.f191.body.getD .skip)) 0) (λ_ _=>⟨by kernel_rfl,by kernel_rfl⟩) ?_ ?_
  ·refine bc.mk [] [] _ (.refl _) (qm bs.c av) ?_;rintro v I' M' -⟨rfl,rfl,rfl⟩;rw[af];refine aZ.mk (λh=>by cases h) (λ_=>?_);refine bX.mk λg au Bt=>?_;refine bX.mk λfr DL auf=>?_;refine Wo (t1:=1) (t2:=3) (t3:=4) (λG oJ=>Wi bs av af aB (p:=λl y=>Km _ aw ⟨ns,nZ,jy,oM,Int.ofNat r⟩ y.2/\0=l) (g:=g) (gh.new,⟨some fr,1,1,nC (r,0,false)⟩,[(r,0,false)],I') ?_ (λy aE _=>⟨aE,rfl⟩) B az G oJ) rfl rfl rfl rfl;refine⟨λ_ _ h=>h,gh.Kb,⟨rfl,(λh=>by cases h),λbP _=>⟨rfl,cc _,by simp only[maxLen];omega,rfl⟩⟩,by simp,?_,?_,?_⟩
   ·intro e he;simp only[ek]at he;subst he;exact fa
   ·simp only[uO,zd,kr,List.flatMap_nil,ef];have dN:=Wf (aw:=aw) af fa false;simp only at dN |-;rw[dN];simp[gh.new,paren]
   ·have aa:=Wg af fa false;have ab:=aha af;simp only[xy]at aa ab;simp only[v5,cb,hr,jK,Dy];omega
  ·rintro⟨g,x⟩ad;refine Wo (t1:=1) (t2:=3) (t3:=4) (λG oJ=>Wi bs av af aB (g:=g) x ad (λy aE aV=>⟨⟨aE,rfl⟩,aV⟩) B az G oJ) rfl rfl rfl rfl
 |false=>
  have BH:nB aw t=[]:=by simp[nB,af]
  rw[BH];refine cY.scope a5 rfl (ι:=Empty) (λe=>nomatch e) (λe=>nomatch e) (λe=>nomatch e) (λe=>nomatch e) (λ_=>.skip) (λe=>nomatch e) ?_ (λe=>nomatch e);refine bc.mk [] [] _ (.refl _) (qm bs.c av) ?_;rintro v I' M' -⟨rfl,rfl,rfl⟩;rw[af];refine aZ.mk (λ_=>?_) (λh=>by cases h);exact⟨_,_,.refl,rfl,λ_ _ h=>h,rfl⟩
def aQ.val(d:aQ):Value:=.agg #[.string d.name,.slice d.t.a d.t.n d.t.c,.int .i64 d.t.bA]
def qv(aw:List Int)(d:aQ):List UInt8:=
 bif decide (strOf (nB aw d.t)=⟨#[]⟩) || !ny d.name then []else d.name.data.toList++[32,60,45,32]++nB aw d.t++[10]
def Wp(h:ny s=true):s.size<=32:=by unfold ny at h;simp only[cB,hR]at h;omega
def ahi(aw:List Int)(d:aQ):(qv aw d).length<=37+2412*d.t.ns.length:=by
 have aa:=Wb aw d.t;unfold qv;cases ap:(decide (strOf (nB aw d.t)=⟨#[]⟩) || !ny d.name)with
 |true=>simp| false=>simp only[sq,Bool.not_eq_false']at ap;have ab:=Wp ap.2;have ak:d.name.data.toList.length=d.name.size:=rfl;simp only[b',cm,dx,fL];omega
def ahj(bs:fQ I aw){d:aQ}(aj:d.ok I)(aB:d.t.n<=1024):Spec Tryz.prog 147 [d.val] I [] λr I' M'=>r=.string (strOf (qv aw d))/\(∀ b o,I b=some o->I' b=some o)/\M'=[]:=by
 refine bZ [] a5 Tryz.func147 rfl rfl rfl ?_;intro B az;refine bc.mk [] [] _ (.refl _) (ahh bs aj.t aB) ?_;rintro v I1 M1 -⟨rfl,cn,rfl⟩;refine cq.mk (λaa=>?_) (λaa=>?_)
 ·refine bc.mk [] [] _ (.refl _) (OC _ d.name) ?_;rintro v I' M' -⟨rfl,rfl,rfl⟩;refine aZ.mk (λab=>?_) (λab=>?_)
  ·refine⟨_,_,.refl,?_,cn,rfl⟩;have:qv aw d=[]:=by unfold qv;rw[aa,ab];rfl
   rw[this];rfl
  ·have hm:ny d.name=true:=by simpa using ab
   have ab:=Wp hm;have ak:d.name.data.toList.length=d.name.size:=rfl;have aJ:=Wb aw d.t;have bB:=aj.t.n;refine gn.concat (a:=d.name) (b:=strOf [32,60,45,32]) (by show _+4<=_;omega) ?_;refine gn.concat (a:=d.name++strOf [32,60,45,32]) (b:=strOf (nB aw d.t)) (by rw[J5];show _+4+(nB aw d.t).length<=_;omega) ?_;refine gn.concat (a:=d.name++strOf [32,60,45,32]++strOf (nB aw d.t)) (b:=strOf [10]) (by rw[J5,J5];show _+4+(nB aw d.t).length+1<=_;omega) ?_;refine⟨_,_,.refl,?_,cn,rfl⟩;refine congrArg Value.string (DC ?_);rw[qv,aa,hm];simp[strOf]
 ·refine⟨_,_,.refl,?_,cn,rfl⟩;have:qv aw d=[]:=by unfold qv;rw[aa];rfl
  rw[this];rfl
def qw(aw:List Int):List aQ->List UInt8->List UInt8
 |[],a6=>a6| d::ds,a6=>bif decide (strOf (qv aw d)=⟨#[]⟩)then []else qw aw ds (a6++qv aw d)
def ahk(bs:fQ I aw){g:cx}(au:g.ok I)(aB:g.n<=64)(av:∀ d∈g.ds,d.t.n<=1024):Spec Tryz.prog 95 [g.val] I [] λr I' M'=>r=.string (strOf (qw aw g.ds []))/\(∀ b o,I b=some o->I' b=some o)/\M'=[]:=by
 refine bZ [3] a5 Tryz.func95 rfl rfl rfl ?_;intro B az;have fM:=au.n;have uP:∀ d∈g.ds,d.t.ns.length<=1024:=λd aj=>by rw[(au.ds d aj).t.n];exact av d aj
 refine bX.mk λb ag sj=>?_;refine de.inv (ι:=Nat×gh×aI) (λp=>{ bj:=[(3,.val (ptr b)),(8,.val (.slice g.a g.n g.c)),(9,.val (.int .i64 g.n)),(10,.val (.int .i64 p.1))],cI:=p.2.2,c1:=p.2.1.M b }) (λp=>p.1<=g.n/\p.2.1.ok/\(∀ b o,I b=some o->p.2.2 b=some o)/\p.2.1.bK.length<=2500000*p.1/\qw aw g.ds []=qw aw (g.ds.drop p.1) p.2.1.bK) (λp=>g.n-p.1) ?_ ?_
 ·exact⟨(0,gh.new,I),⟨by simp,gh.Kb,λ_ _ h=>h,by simp[gh.new],rfl⟩,.refl,eE,.nil⟩
 ·rintro⟨i,x,I1⟩⟨hi,ad,cn,hl,ky⟩;simp only at hi ad cn hl ky;refine aZ.mk (λh=>?_) (λh=>?_)
  ·have aV:i<g.n:=by simpa using h
   have ch:i<g.ds.length:=by omega
   have pF:=au.mono cn;obtain⟨aS,bH,bl⟩:=pF.a0.row aQ.cS aV ch;have gr:g.ds[i]∈g.ds:=bx ch;have zr:=ahi aw g.ds[i];have dN:=uP _ gr;have ja:g.ds.drop i=g.ds[i]::g.ds.drop (i+1):=eR ch;refine bf.mk aS i bH rfl aV ?_;refine aO.mk _ (bl _) ?_;refine bc.mk [] (x.M b) _ (.refl _) (ahj (bs.mono cn) (pF.ds _ gr) (av _ gr)) ?_;rintro v dv df -⟨rfl,en,rfl⟩;refine aZ.mk (λaa=>?_) (λaa=>?_);·refine⟨_,_,.sub (fp _) .refl,?_,λb o h=>en _ _ (cn _ _ h),rfl⟩;rw[ky,ja,qw,aa];rfl
   ·refine bc.mk (x.M b) [] _ (by simp) (uE b ad _ (by show _+(qv aw g.ds[i]).length<=_;omega)) ?_;rintro v I' M' -⟨rfl,rfl,y,aE,gZ,rfl⟩;have Wq:y.bK=x.bK++qv aw g.ds[i]:=gZ;have fP:IntKind.i64.wrap ((i:Int)+1)=((i+1:Nat):Int):=by rw[wrap_i64 ⟨by omega,by omega⟩];omega
    refine bg.mk _ fP ?_;refine⟨(i+1,y,_),⟨⟨by simp only;omega,aE,λb o h=>en _ _ (cn _ _ h),?_,?_⟩,by simp only;omega⟩,.perm (by simp) .refl,eE,.nil⟩;·simp only;rw[Wq,cm];omega
    ·simp only;rw[ky,ja,qw,aa,Wq];rfl
  ·have cA:g.n<=i:=by simpa using h
   have hj:g.ds.drop i=[]:=jH (by omega);refine bc.mk (x.M b) [] _ (by simp) (xB b ad (by omega)) ?_;rintro v I' M' -⟨rfl,rfl,rfl⟩;refine⟨_,_,.refl,?_,cn,by simp⟩;rw[ky,hj];rfl
def ahl(bs:fQ I aw){g:cx}(au:g.ok I)(aB:g.n<=64)(av:∀ d∈g.ds,d.t.n<=1024):Spec Tryz.prog 47 [g.val] I [] λr I' M'=>r=.int .i64 ((qw aw g.ds []).length:Int)/\(∀ b o,I b=some o->I' b=some o)/\M'=[]:=by refine bZ [] a5 Tryz.func47 rfl rfl rfl ?_;intro B az;refine bc.mk [] [] _ (.refl _) (ahk bs au aB av) ?_;rintro v I' M' -⟨rfl,bt,rfl⟩;exact⟨_,_,.refl,rfl,bt,rfl⟩
def kz(ns:List an)(kind:Int):List Int->Bool
 |[]=>true| k::ks=>bif decide (iB ns k=kind)||(decide (iB ns k=0)&&decide (kind=4))then false else kz ns kind ks
def kY(ns:List an):List an->Bool
 |[]=>true| d::ds=>bif !decide (d.k=4) && !decide (d.k=5)then kY ns ds else bif kz ns d.k d.ax then kY ns ds else false
def normal(t:bR):Bool:=right t&&kY t.ns t.ns
def cK(h:i<=140737488355328):IntKind.i64.wrap ((i:Int)+1)=((i+1:Nat):Int):=by rw[wrap_i64 ⟨by omega,by omega⟩];omega
def ahm(ap:mS I)(av:t.ok I):Spec Tryz.prog 66 [t.val] I [] (λv I' M'=>v=.bool (normal t)/\I'=I/\M'=[]):=by
 refine bZ [] a5 Tryz.func66 rfl rfl rfl ?_;intro B az;have aB:=av.n;have ju:=av.a0.cap;refine bc.mk [] [] _ (.refl _) (qm ap av) ?_;rintro v I' M' -⟨rfl,rfl,rfl⟩;refine aZ.mk (λh=>?_) (λh=>?_)
 ·refine⟨_,_,.refl,?_,rfl,rfl⟩;simp[normal,show right t=false by simpa using h]
 ·have af:right t=true:=by simpa using h
  have dY:normal t=kY t.ns t.ns:=by simp[normal,af]
  rw[dY];refine de.inv (ι:=Nat) (λi=>{ bj:=[(1,.ref 1 0),(12,.val (.slice t.a t.n t.c)),(13,.val (.int .i64 t.n)),(14,.val (.int .i64 i))],cl:=[(1,t.cells)],cI:=I' }) (λi=>i<=t.n/\kY t.ns t.ns=kY t.ns (t.ns.drop i)) (λi=>t.n-i) ?_ ?_;·exact⟨0,⟨by simp,rfl⟩,.refl,eE,.cons rfl .nil⟩
  ·rintro i⟨hi,fv⟩;refine aZ.mk (λh=>?_) (λh=>?_)
   ·have aV:i<t.n:=by simpa using h
    have ch:i<t.ns.length:=by omega
    obtain⟨aS,bH,bl⟩:=av.a0.row an.cS aV ch;have hH:=av.ns t.ns[i] (bx ch);have e8:=hH.aL;have ja:t.ns.drop i=t.ns[i]::t.ns.drop (i+1):=eR ch;refine bf.mk aS i bH rfl aV ?_;refine aO.mk _ (bl _) ?_;refine cq.mk (λez=>?_) (λez=>?_)
    ·refine aZ.mk (λcJ=>?_) (λcJ=>?_)
     ·refine bg.mk _ (cK (i:=i) (by omega)) ?_;refine⟨i+1,⟨⟨by omega,?_⟩,by omega⟩,.refl,eE,.cons rfl .nil⟩;rw[fv,ja,kY,ez,cJ];rfl
     ·have iz:kY t.ns t.ns=bif kz t.ns t.ns[i].k t.ns[i].ax then kY t.ns (t.ns.drop (i+1))else false:=by rw[fv,ja,kY,ez,cJ];rfl
      refine de.inv (ι:=Nat) (λj=>{ bj:=[(1,.ref 1 0),(4,.ref 4 0),(12,.val (.slice t.a t.n t.c)),(13,.val (.int .i64 t.n)),(14,.val (.int .i64 i)),(27,.val (.slice t.ns[i].dy t.ns[i].aL t.ns[i].dq)),(28,.val (.int .i64 t.ns[i].aL)),(29,.val (.int .i64 j))],cl:=[(1,t.cells),(4,t.ns[i].cells)],cI:=I' }) (λj=>j<=t.ns[i].aL/\kz t.ns t.ns[i].k t.ns[i].ax=kz t.ns t.ns[i].k (t.ns[i].ax.drop j)) (λj=>t.ns[i].aL-j) ?_ ?_;·exact⟨0,⟨by simp,rfl⟩,.refl,kq,.cons rfl (.cons rfl .nil)⟩
      ·rintro j⟨ai,mW⟩;refine aZ.mk (λh=>?_) (λh=>?_)
       ·have eM:j<t.ns[i].aL:=by simpa using h
        have iy:j<t.ns[i].ax.length:=by omega
        obtain⟨gg,fs,e'⟩:=hH.a0.one eM iy;have lr:t.ns[i].ax.drop j=t.ns[i].ax[j]::t.ns[i].ax.drop (j+1):=eR iy;have fc:=mm af i ch _ (bx iy);generalize jd:t.ns[i].ax[j]=ahn at *;obtain⟨q,rfl⟩:=eA fc.1;have ff:q<t.ns.length:=by omega
        have oK:q<t.n:=by omega
        obtain⟨oL,tt,xJ⟩:=av.a0.row an.cS oK ff;have qu:∀ M,cM I' M ((oL.add (q*9)).add 0) 1 [.int .u8 t.ns[q].k]:=λM=>(xJ M).part (k:=0) (m:=1) (by decide);have uQ:iB t.ns ((q:Nat):Int)=t.ns[q].k:=by simp[iB,bz,ff]
        have bad:(decide (t.ns[q].k=t.ns[i].k)||(decide (t.ns[q].k=0)&&decide (t.ns[i].k=4)))=true->kY t.ns t.ns=false:=λag=>by rw[iz,mW,lr,kz,uQ,ag];rfl
        have GW:(decide (t.ns[q].k=t.ns[i].k)||(decide (t.ns[q].k=0)&&decide (t.ns[i].k=4)))=false->kz t.ns t.ns[i].k t.ns[i].ax=kz t.ns t.ns[i].k (t.ns[i].ax.drop (j+1)):=λag=>by rw[mW,lr,kz,uQ,ag];rfl
        have fP:=cK (i:=j) (by have:=hH.a0.cap;omega);refine bf.mk gg j fs rfl eM ?_;refine aO.mk _ (e' _) ?_;refine bf.mk oL q tt rfl oK ?_;refine aO.mk _ (qu _) ?_;refine cq.mk (λgz=>?_) (λgz=>?_)
        ·refine cq.mk (λgJ=>?_) (λgJ=>?_)
         ·refine aZ.mk (λqx=>?_) (λqx=>?_)
          ·refine⟨_,_,.refl,?_,rfl,rfl⟩;rw[bad (by rw[gz,gJ,qx];rfl)]
          ·refine bg.mk _ fP ?_;exact⟨j+1,⟨⟨by omega,GW (by rw[gz,gJ,qx];rfl)⟩,by omega⟩,.refl,kq,.cons rfl (.cons rfl .nil)⟩
         ·refine bg.mk _ fP ?_;exact⟨j+1,⟨⟨by omega,GW (by rw[gz,gJ];rfl)⟩,by omega⟩,.refl,kq,.cons rfl (.cons rfl .nil)⟩
        ·refine⟨_,_,.refl,?_,rfl,rfl⟩;rw[bad (by rw[gz];rfl)]
       ·have Bp:t.ns[i].ax.drop j=[]:=jH (by simp at h;omega);refine bg.mk _ (cK (i:=i) (by omega)) ?_;refine⟨i+1,⟨⟨by omega,?_⟩,by omega⟩,.refl,eE,.cons rfl .nil⟩;rw[iz,mW,Bp];rfl
    ·have iz:kY t.ns t.ns=bif kz t.ns t.ns[i].k t.ns[i].ax then kY t.ns (t.ns.drop (i+1))else false:=by rw[fv,ja,kY,ez];rfl
     refine de.inv (ι:=Nat) (λj=>{ bj:=[(1,.ref 1 0),(4,.ref 4 0),(12,.val (.slice t.a t.n t.c)),(13,.val (.int .i64 t.n)),(14,.val (.int .i64 i)),(27,.val (.slice t.ns[i].dy t.ns[i].aL t.ns[i].dq)),(28,.val (.int .i64 t.ns[i].aL)),(29,.val (.int .i64 j))],cl:=[(1,t.cells),(4,t.ns[i].cells)],cI:=I' }) (λj=>j<=t.ns[i].aL/\kz t.ns t.ns[i].k t.ns[i].ax=kz t.ns t.ns[i].k (t.ns[i].ax.drop j)) (λj=>t.ns[i].aL-j) ?_ ?_;·exact⟨0,⟨by simp,rfl⟩,.refl,kq,.cons rfl (.cons rfl .nil)⟩
     ·rintro j⟨ai,mW⟩;refine aZ.mk (λh=>?_) (λh=>?_)
      ·have eM:j<t.ns[i].aL:=by simpa using h
       have iy:j<t.ns[i].ax.length:=by omega
       obtain⟨gg,fs,e'⟩:=hH.a0.one eM iy;have lr:t.ns[i].ax.drop j=t.ns[i].ax[j]::t.ns[i].ax.drop (j+1):=eR iy;have fc:=mm af i ch _ (bx iy);generalize jd:t.ns[i].ax[j]=ahn at *;obtain⟨q,rfl⟩:=eA fc.1;have ff:q<t.ns.length:=by omega
       have oK:q<t.n:=by omega
       obtain⟨oL,tt,xJ⟩:=av.a0.row an.cS oK ff;have qu:∀ M,cM I' M ((oL.add (q*9)).add 0) 1 [.int .u8 t.ns[q].k]:=λM=>(xJ M).part (k:=0) (m:=1) (by decide);have uQ:iB t.ns ((q:Nat):Int)=t.ns[q].k:=by simp[iB,bz,ff]
       have bad:(decide (t.ns[q].k=t.ns[i].k)||(decide (t.ns[q].k=0)&&decide (t.ns[i].k=4)))=true->kY t.ns t.ns=false:=λag=>by rw[iz,mW,lr,kz,uQ,ag];rfl
       have GW:(decide (t.ns[q].k=t.ns[i].k)||(decide (t.ns[q].k=0)&&decide (t.ns[i].k=4)))=false->kz t.ns t.ns[i].k t.ns[i].ax=kz t.ns t.ns[i].k (t.ns[i].ax.drop (j+1)):=λag=>by rw[mW,lr,kz,uQ,ag];rfl
       have fP:=cK (i:=j) (by have:=hH.a0.cap;omega);refine bf.mk gg j fs rfl eM ?_;refine aO.mk _ (e' _) ?_;refine bf.mk oL q tt rfl oK ?_;refine aO.mk _ (qu _) ?_;refine cq.mk (λgz=>?_) (λgz=>?_)
       ·refine cq.mk (λgJ=>?_) (λgJ=>?_)
        ·refine aZ.mk (λqx=>?_) (λqx=>?_)
         ·refine⟨_,_,.refl,?_,rfl,rfl⟩;rw[bad (by rw[gz,gJ,qx];rfl)]
         ·refine bg.mk _ fP ?_;exact⟨j+1,⟨⟨by omega,GW (by rw[gz,gJ,qx];rfl)⟩,by omega⟩,.refl,kq,.cons rfl (.cons rfl .nil)⟩
        ·refine bg.mk _ fP ?_;exact⟨j+1,⟨⟨by omega,GW (by rw[gz,gJ];rfl)⟩,by omega⟩,.refl,kq,.cons rfl (.cons rfl .nil)⟩
       ·refine⟨_,_,.refl,?_,rfl,rfl⟩;rw[bad (by rw[gz];rfl)]
      ·have Bp:t.ns[i].ax.drop j=[]:=jH (by simp at h;omega);refine bg.mk _ (cK (i:=i) (by omega)) ?_;refine⟨i+1,⟨⟨by omega,?_⟩,by omega⟩,.refl,eE,.cons rfl .nil⟩;rw[iz,mW,Bp];rfl
   ·have cA:t.n<=i:=by simpa using h
    have hj:t.ns.drop i=[]:=jH (by omega);refine⟨_,_,.refl,?_,rfl,rfl⟩;rw[fv,hj];rfl
def sA(t:bR):Nat:=bif right t then t.n else 0
def uU(g:cx):Nat:=(g.ds.map λd=>sA d.t).sum
def Wr{α:Type}(f:α->Nat)(m:Nat):∀ (l:List α),(∀ x∈l,f x<=m)->(l.map f).sum<=m*l.length
 |[],_=>by simp
 |x::l,h=>by have aa:=h x (by simp);have ab:=Wr f m l λy aE=>h y (by simp[aE]);simp only[cb,jK,dx,Nat.mul_add];omega
def aho(ap:mS I){g:cx}(au:g.ok I)(aB:g.n<=64)(av:∀ d∈g.ds,d.t.n<=1024):Spec Tryz.prog 35 [g.val] I [] (λv I' M'=>v=.int .i64 (uU g:Nat)/\I'=I/\M'=[]):=by
 refine bZ [] a5 Tryz.func35 rfl rfl rfl ?_;intro B az;have fM:=au.n;refine de.inv (ι:=Nat) (λi=>{ bj:=[(3,.val (.int .i64 (((g.ds.take i).map λd=>sA d.t).sum:Nat))),(7,.val (.slice g.a g.n g.c)),(8,.val (.int .i64 g.n)),(9,.val (.int .i64 i))],cI:=I }) (λi=>i<=g.n) (λi=>g.n-i) ?_ ?_
 ·exact⟨0,by simp,.refl,eE,.nil⟩
 ·intro i hi;refine aZ.mk (λh=>?_) (λh=>?_)
  ·have aV:i<g.n:=by simpa using h
   have ch:i<g.ds.length:=by omega
   obtain⟨aS,bH,bl⟩:=au.a0.row aQ.cS aV ch;have gr:g.ds[i]∈g.ds:=bx ch;have ar:((g.ds.take i).map λd=>sA d.t).sum<=1024*(g.ds.take i).length:=Wr _ 1024 _ λd aj=>by
    have:=av d (OE aj);unfold sA;cases right d.t<;>simp
    omega
   have ay:=Br i g.ds;have fo:sA g.ds[i].t<=1024:=by
    have:=av _ gr;unfold sA;cases right g.ds[i].t<;>simp
    omega
   refine bf.mk aS i bH rfl aV ?_;refine aO.mk _ (bl _) ?_;refine bc.mk [] [] _ (.refl _) (agv ap (au.ds _ gr).t) ?_;rintro v I' M' -⟨rfl,rfl,rfl⟩;have aG:(bif right g.ds[i].t then(g.ds[i].t.n:Int)else 0)=(sA g.ds[i].t:Nat):=by
    unfold sA;cases right g.ds[i].t<;>rfl
   rw[aG];refine bg.mk ((((g.ds.take (i+1)).map λd=>sA d.t).sum:Nat):Int) ?_ ?_;·rw[wrap_i64 ⟨by omega,by omega⟩,fZ ch,cP,uD];simp
   refine bg.mk _ (cK (i:=i) (by omega)) ?_;exact⟨i+1,⟨by omega,by omega⟩,.refl,eE,.nil⟩
  ·have cA:g.n<=i:=by simpa using h
   refine⟨_,_,.refl,?_,rfl,rfl⟩;rw[ft (by omega)];rfl
def oN(aw:List Int)(g:cx):Bool:=
 decide (64<g.n)||((!g.ds.all λd=>pA d.t)||(decide (1024<uU g)||decide (8192<(qw aw g.ds []).length)))
def ahp(bs:fQ I aw){g:cx}(au:g.ok I):Spec Tryz.prog 67 [g.val] I [] (λv I' M'=>v=.bool (oN aw g)/\(∀ b o,I b=some o->I' b=some o)/\M'=[]):=by
 refine bZ [] a5 Tryz.func67 rfl rfl rfl ?_;intro B az;have fM:=au.n;refine aZ.mk (λaa=>?_) (λaa=>?_)
 ·refine⟨_,_,.refl,?_,λ_ _ h=>h,rfl⟩;have:64<g.n:=by simp at aa;omega
  simp[oN,this]
 ·have aB:g.n<=64:=by simp at aa;omega
  have dF:oN aw g=((!g.ds.all λd=>pA d.t)||(decide (1024<uU g)||decide (8192<(qw aw g.ds []).length))):=by
   have:¬ 64<g.n:=by omega
   simp[oN,this]
  rw[dF];refine de.inv (ι:=Nat) (λi=>{ bj:=[(1,.ref 1 0),(10,.val (.slice g.a g.n g.c)),(11,.val (.int .i64 g.n)),(12,.val (.int .i64 i))],cl:=[(1,[.slice g.a g.n g.c])],cI:=I }) (λi=>i<=g.n/\(g.ds.take i).all (λd=>pA d.t)=true) (λi=>g.n-i) ?_ ?_;·exact⟨0,⟨by simp,rfl⟩,.refl,eE,.cons rfl .nil⟩
  ·rintro i⟨hi,gq⟩;refine aZ.mk (λh=>?_) (λh=>?_)
   ·have aV:i<g.n:=by simpa using h
    have ch:i<g.ds.length:=by omega
    obtain⟨aS,bH,bl⟩:=au.a0.row aQ.cS aV ch;have gr:g.ds[i]∈g.ds:=bx ch;refine bf.mk aS i bH rfl aV ?_;refine aO.mk _ (bl _) ?_;refine bc.mk [] [] _ (.refl _) (agy bs.c (au.ds _ gr).t) ?_;rintro v I' M' -⟨rfl,rfl,rfl⟩;refine aZ.mk (λab=>?_) (λab=>?_)
    ·refine⟨_,_,.refl,?_,λ_ _ h=>h,rfl⟩;have aA:pA g.ds[i].t=false:=by simpa using ab
     have:(g.ds.all λd=>pA d.t)=false:=by rw[J6];exact⟨_,gr,by simp[aA]⟩
     rw[this];rfl
    ·have aA:pA g.ds[i].t=true:=by simpa using ab
     refine bg.mk _ (cK (i:=i) (by omega)) ?_;refine⟨i+1,⟨⟨by omega,?_⟩,by omega⟩,.refl,eE,.cons rfl .nil⟩;rw[fZ ch,Gw,gq];simp[aA]
   ·have cA:g.n<=i:=by simpa using h
    rw[ft (by omega)]at gq;rw[gq];have zs:∀ d∈g.ds,d.t.n<=1024:=λd aj=>by have:=fx.1 gq d aj;unfold pA at this;simp only[cB,hR]at this;exact this.1
    refine bc.mk [] [] _ (.refl _) (aho bs.c au aB zs) ?_;rintro v I' M' -⟨rfl,rfl,rfl⟩;refine cq.mk (λab=>?_) (λab=>?_)
    ·refine bc.mk [] [] _ (.refl _) (ahl bs au aB zs) ?_;rintro v dv M' -⟨rfl,en,rfl⟩;refine⟨_,_,.refl,?_,en,rfl⟩;have lO:¬ 1024<uU g:=by simp at ab;omega
     simp[lO];omega
    ·refine⟨_,_,.refl,?_,λ_ _ h=>h,rfl⟩;have lO:1024<uU g:=by simp at ab;omega
     simp[lO]
def ct(name:ByteArray):List aQ->Nat->Int
 |[],_=>-1| d::ds,i=>bif decide (d.name=name)then(i:Int)else ct name ds (i+1)
def GX{g:cx}(au:g.ok I)(name:ByteArray):Spec Tryz.prog 31 [g.val,.string name] I [] (λv I' M'=>v=.int .i64 (ct name g.ds 0)/\I'=I/\M'=[]):=by
 refine bZ [] a5 Tryz.func31 rfl rfl rfl ?_;intro B az;have fM:=au.n;have ju:=au.a0.cap;refine de.inv (ι:=Nat) (λi=>{ bj:=[(1,.val (.string name)),(8,.val (.slice g.a g.n g.c)),(9,.val (.int .i64 g.n)),(10,.val (.int .i64 i))],cI:=I }) (λi=>i<=g.n/\ct name g.ds 0=ct name (g.ds.drop i) i) (λi=>g.n-i) ?_ ?_
 ·exact⟨0,⟨by simp,rfl⟩,.refl,eE,.nil⟩
 ·rintro i⟨hi,aA⟩;refine aZ.mk (λh=>?_) (λh=>?_)
  ·have aV:i<g.n:=by simpa using h
   have ch:i<g.ds.length:=by omega
   obtain⟨aS,bH,bl⟩:=au.a0.row aQ.cS aV ch;have ja:g.ds.drop i=g.ds[i]::g.ds.drop (i+1):=eR ch;refine bf.mk aS i bH rfl aV ?_;refine aO.mk _ (bl _) ?_;refine aZ.mk (λab=>?_) (λab=>?_);·refine⟨_,_,.refl,?_,rfl,rfl⟩;rw[aA,ja,ct,ab];rfl
   ·refine bg.mk _ (cK (i:=i) (by omega)) ?_;refine⟨i+1,⟨⟨by omega,?_⟩,by omega⟩,.refl,eE,.nil⟩;rw[aA,ja,ct,ab];rfl
  ·have cA:g.n<=i:=by simpa using h
   refine⟨_,_,.refl,?_,rfl,rfl⟩;rw[aA,jH (by omega)];rfl
def drop_cons{L:List α}{x:α}{bi:List α}(h:L.drop k=x::bi):∃ ae:k<L.length,L[k]=x/\L.drop (k+1)=bi:=by
 have ae:k<L.length:=by apply J8;intro bp;rw[jH bp]at h;cases h
 have aj:=eR ae;rw[h]at aj;obtain⟨aa,ab⟩:=Gx aj;exact⟨ae,aa.symm,ab.symm⟩
def tv:Nat->List aQ->List (List Value)
 |_,[]=>[]| i,d::ds=>d.t.ns.map (λn=>[.int .i64 i,n.val])++tv (i+1) ds
def ahq(g:cx):Spec Tryz.prog 68 [g.val] I [] λr I' M'=>∃ b,r=.func (.func 120) #[] #[ptr b]/\I' b=some (.cells #[.slice g.a g.n g.c] 24 (0,0))/\(∀ b o,I b=some o->I' b=some o)/\M'=[]:=by refine bZ [1] a5 Tryz.func68 rfl rfl rfl ?_;intro B az;refine bX.mk λg au Bt=>?_;exact⟨_,_,.kN rfl (by simp) .refl,g,rfl,mr ..,hI au,rfl⟩
def ahr{g:cx}(au:g.ok I)(ag:I b=some (.cells #[.slice g.a g.n g.c] 24 (0,0))) :
  Iter Tryz.prog 120 [ptr b] I (tv 0 g.ds):=by
 intro l R kS qp dp M0 lu iu;refine yT [] a5 Tryz.func120 rfl rfl rfl ?_;intro B az;have fM:=au.n;have ju:=au.a0.cap;have bl:∀ (M:List aD),cM dp M ((⟨b,0,none⟩:Addr).add 0) 1 [.slice g.a g.n g.c]:=λM=>⟨rfl,_,_,_,.inl (lu _ _ ag),rfl,rfl⟩;refine aO.mk _ (bl _) ?_;refine de.inv (ι:=Nat×Nat×aI×List aD) (λx=>{ bj:=[(0,.val (.func (.yield l) #[] #[])),(8,.val (.slice g.a g.n g.c)),(9,.val (.int .i64 g.n)),(10,.val (.int .i64 x.1))],cI:=x.2.2.1,c1:=x.2.2.2 }) (λx=>x.1<=g.n/\(∀ b o,I b=some o->x.2.2.1 b=some o)/\R x.2.1 x.2.2.1 x.2.2.2/\x.2.1<=(tv 0 g.ds).length/\(tv 0 g.ds).drop x.2.1=tv x.1 (g.ds.drop x.1)) (λx=>g.n-x.1) ?_ ?_
 ·exact⟨(0,0,dp,M0),⟨by simp,lu,iu,by simp,rfl⟩,.refl,eE,.nil⟩
 ·rintro⟨i,k,I1,M1⟩⟨hi,cn,g0,cy,g8⟩;simp only at hi cn g0 cy g8;refine aZ.mk (λh=>?_) (λh=>?_)
  ·have aV:i<g.n:=by simpa using h
   have ch:i<g.ds.length:=by omega
   have pF:=au.mono cn;obtain⟨aS,bH,O7⟩:=pF.a0.row aQ.cS aV ch;have gr:g.ds[i]∈g.ds:=bx ch;have ic:=(au.ds _ gr).t.n;have aug:=(au.ds _ gr).t.a0.cap;have ja:g.ds.drop i=g.ds[i]::g.ds.drop (i+1):=eR ch;refine bf.mk aS i bH rfl aV ?_;refine aO.mk _ (O7 _) ?_;refine de.inv (ι:=Nat×Nat×aI×List aD) (λx=>{ bj:=[(0,.val (.func (.yield l) #[] #[])),(3,.val (.int .i64 i)),(8,.val (.slice g.a g.n g.c)),(9,.val (.int .i64 g.n)),(10,.val (.int .i64 i)),(17,.val (.slice g.ds[i].t.a g.ds[i].t.n g.ds[i].t.c)),(18,.val (.int .i64 g.ds[i].t.n)),(19,.val (.int .i64 x.1))],cI:=x.2.2.1,c1:=x.2.2.2 }) (λx=>x.1<=g.ds[i].t.n/\(∀ b o,I b=some o->x.2.2.1 b=some o)/\R x.2.1 x.2.2.1 x.2.2.2/\x.2.1<=(tv 0 g.ds).length/\(tv 0 g.ds).drop x.2.1=(g.ds[i].t.ns.drop x.1).map (λn=>[.int .i64 i,n.val])++tv (i+1) (g.ds.drop (i+1))) (λx=>g.ds[i].t.n-x.1) ?_ ?_;·refine⟨(0,k,I1,M1),⟨by simp,cn,g0,cy,?_⟩,.refl,kq,.nil⟩;simp only;rw[g8,ja];rfl
   ·rintro⟨j,k,I1,M1⟩⟨ai,cn,g0,cy,g8⟩;simp only at ai cn g0 cy g8;refine aZ.mk (λh=>?_) (λh=>?_)
    ·have eM:j<g.ds[i].t.n:=by simpa using h
     have iy:j<g.ds[i].t.ns.length:=by omega
     have pF:=au.mono cn;obtain⟨j7,j8,gL⟩:=(pF.ds _ gr).t.a0.row an.cS eM iy;have bI:g.ds[i].t.ns.drop j=g.ds[i].t.ns[j]::g.ds[i].t.ns.drop (j+1):=eR iy;rw[bI,cb,mU]at g8;obtain⟨ae,ah,qy⟩:=drop_cons g8;refine bf.mk j7 j j8 rfl eM ?_;refine aO.mk _ (gL _) ?_;refine bw.yield rfl (by simp) rfl rfl ?_;have aE:=qp k ae I1 M1 cn g0;rw[ah]at aE;refine y6.mk M1 [] _ (by simp) aE ?_;rintro v dv df en (⟨rfl,lp⟩ | ⟨rfl,ad⟩);·refine aZ.mk (λh=>by simp at h) (λ_=>?_);refine bg.mk _ (cK (i:=j) (by omega)) ?_;exact⟨(j+1,k+1,dv,df),⟨⟨by simp only;omega,λb o h=>en b o (cn b o h),lp,ae,qy⟩,by simp only;omega⟩,.perm (by simp) .refl,kq,.nil⟩
     ·refine aZ.mk (λ_=>?_) (λh=>by simp at h);exact⟨_,_,.perm (by simp) .refl,.inr ad⟩
    ·have cA:g.ds[i].t.n<=j:=by simpa using h
     rw[jH (show g.ds[i].t.ns.length<=j by omega),hr,iq]at g8;refine bg.mk _ (cK (i:=i) (by omega)) ?_;exact⟨(i+1,k,I1,M1),⟨⟨by simp only;omega,cn,g0,cy,g8⟩,by simp only;omega⟩,.refl,eE,.nil⟩
  ·have cA:g.n<=i:=by simpa using h
   refine⟨_,_,.refl,.inl ?_⟩;rw[jH (show g.ds.length<=i by omega)]at g8;have xE:k=(tv 0 g.ds).length:=by have:=Bq.1 g8;omega
   rw[<-xE];exact g0
def hK(ns:List an):List ByteArray:=(ns.filter λd=>decide (d.k=3)).map (·.t)
def ahs(t:bR):Spec Tryz.prog 190 [t.val] I [] λr I' M'=>∃ b,r=.func (.func 229) #[] #[ptr b]/\I' b=some (.cells #[.slice t.a t.n t.c,.int .i64 t.bA] 31 (0,0))/\(∀ b o,I b=some o->I' b=some o)/\M'=[]:=by refine bZ [1] a5 Tryz.func190 rfl rfl rfl ?_;intro B az;refine bX.mk λg au Bt=>?_;exact⟨_,_,.kN rfl (by simp) .refl,g,rfl,mr ..,hI au,rfl⟩
def aht(av:t.ok I)(ag:I b=some (.cells #[.slice t.a t.n t.c,.int .i64 t.bA] 31 (0,0))) :
  Iter Tryz.prog 229 [ptr b] I ((hK t.ns).map λs=>[.string s]):=by
 intro l R kS qp dp M0 lu iu;refine yT [] a5 Tryz.func229 rfl rfl rfl ?_;intro B az;have ic:=av.n;have ju:=av.a0.cap;have bl:∀ (M:List aD),cM dp M ((⟨b,0,none⟩:Addr).add 0) 1 [.slice t.a t.n t.c]:=λM=>⟨rfl,_,_,_,.inl (lu _ _ ag),rfl,rfl⟩;refine aO.mk _ (bl _) ?_;refine de.inv (ι:=Nat×Nat×aI×List aD) (λx=>{ bj:=[(0,.val (.func (.yield l) #[] #[])),(6,.val (.slice t.a t.n t.c)),(7,.val (.int .i64 t.n)),(8,.val (.int .i64 x.1))],cI:=x.2.2.1,c1:=x.2.2.2 }) (λx=>x.1<=t.n/\(∀ b o,I b=some o->x.2.2.1 b=some o)/\R x.2.1 x.2.2.1 x.2.2.2/\x.2.1<=((hK t.ns).map λs=>[Value.string s]).length/\((hK t.ns).map λs=>[Value.string s]).drop x.2.1=(hK (t.ns.drop x.1)).map λs=>[.string s]) (λx=>t.n-x.1) ?_ ?_
 ·exact⟨(0,0,dp,M0),⟨by simp,lu,iu,by simp,rfl⟩,.refl,eE,.nil⟩
 ·rintro⟨j,k,I1,M1⟩⟨ai,cn,g0,cy,g8⟩;simp only at ai cn g0 cy g8;refine aZ.mk (λh=>?_) (λh=>?_)
  ·have eM:j<t.n:=by simpa using h
   have iy:j<t.ns.length:=by omega
   have BE:=av.mono cn;obtain⟨j7,j8,gL⟩:=BE.a0.row an.cS eM iy;have bI:t.ns.drop j=t.ns[j]::t.ns.drop (j+1):=eR iy;refine bf.mk j7 j j8 rfl eM ?_;refine aO.mk _ (gL _) ?_;refine cq.mk (λaa=>?_) (λaa=>?_)
   ·have qt:hK (t.ns.drop j)=t.ns[j].t::hK (t.ns.drop (j+1)):=by rw[bI];simp only[hK,ox,aa,p2,cb]
    rw[qt,cb]at g8;obtain⟨ae,ah,qy⟩:=drop_cons g8;refine bw.yield rfl (by simp) rfl rfl ?_;have aE:=qp k ae I1 M1 cn g0;rw[ah]at aE;refine y6.mk M1 [] _ (by simp) aE ?_;rintro v dv df en (⟨rfl,lp⟩ | ⟨rfl,ad⟩);·refine aZ.mk (λh=>by simp at h) (λ_=>?_);refine bg.mk _ (cK (i:=j) (by omega)) ?_;exact⟨(j+1,k+1,dv,df),⟨⟨by simp only;omega,λb o h=>en b o (cn b o h),lp,ae,qy⟩,by simp only;omega⟩,.perm (by simp) .refl,eE,.nil⟩
    ·refine aZ.mk (λ_=>?_) (λh=>by simp at h);exact⟨_,_,.perm (by simp) .refl,.inr ad⟩
   ·have qt:hK (t.ns.drop j)=hK (t.ns.drop (j+1)):=by rw[bI];have tk:decide (t.ns[j].k=3)=false:=aa;simp only[hK,ox,tk];rfl
    rw[qt]at g8;refine bg.mk _ (cK (i:=j) (by omega)) ?_;exact⟨(j+1,k,I1,M1),⟨⟨by simp only;omega,cn,g0,cy,g8⟩,by simp only;omega⟩,.refl,eE,.nil⟩
  ·have cA:t.n<=j:=by simpa using h
   refine⟨_,_,.refl,.inl ?_⟩;rw[jH (show t.ns.length<=j by omega)]at g8;have xE:k=((hK t.ns).map λs=>[Value.string s]).length:=by have:=Bq.1 g8;omega
   rw[<-xE];exact g0
section
variable{X:cV}{β:Nat->Nat}{a:Act}{w:World}{F:Fr}{C:dB}{I:aI}{M:List aD}{o:Oper}{K:gd}
def cH.swap{n:Nat}{nx Ko:Obj}{w':World}(h:cH X β a w F C I (⟨n,nx⟩::M))(ar:w'.heap.size=w.heap.size)(aB:w'.heap[n]?=some Ko)(ag:∀ b,b≠n->w'.heap[b]?=w.heap[b]?)(aH:oh w w'):cH X β a w' F C I (⟨n,Ko⟩::M):=by
 have aa:=h.Vk ar ag aH;have f':(⟨n,nx⟩:aD)∈(⟨n,nx⟩:aD)::M:=by simp
 have bI:=h.holds.cd;simp only[cb,kM]at bI;have mem:∀ x,x∈(⟨n,Ko⟩:aD)::M->x=⟨n,Ko⟩\/x∈M:=λx ad=>ee.1 ad;exact {
  size:=aa.size
  defers:=by
   obtain⟨a0,aG,a7,cr⟩:=aa.defers;obtain⟨ahu,f1,f2,f3⟩:=h.defers;refine⟨a0,aG,a7,λr af=>{ cr r af with eX:=λx ad=>?_ }⟩;rcases mem x ad with rfl | ad
   ·have ea:a0=ahu:=by
     have:=aG.symm.trans f1;have Kp:∀ l dL:List Nat,l.map w9=dL.map w9->l=dL:=by
      intro l
      induction l with
      |nil=>intro dL h;cases dL with
       |nil=>rfl| cons=>simp at h
      |cons y l aN=>intro dL h;cases dL with
       |nil=>simp at h
       |cons z dL=>
        simp only[cb,xz,w9,Deferred.mk.injEq]at h;have aE:y=z:=by simpa using h.1
        rw[aE,aN dL h.2]
     exact Kp _ _ this
    subst ea;exact(f3 r af).eX ⟨n,nx⟩ f'
   ·exact(cr r af).eX x ad
  holds:={
   i:=aa.holds.i
   m:=λx ad=>by
    rcases mem x ad with rfl | ad;·exact aB
    ·exact aa.holds.m x ad
   d:=λx ad=>by
    rcases mem x ad with rfl | ad;·exact h.holds.d ⟨n,nx⟩ f'
    ·exact aa.holds.d x ad
   cd:=by simpa using bI }
  al:=h.al
  cf:=λs cs nq=>by
   have q9:=h.cf s cs nq;refine { aa.cf s cs nq with eX:=λx ad=>?_ };rcases mem x ad with rfl | ad;·exact q9.eX ⟨n,nx⟩ f'
   ·exact(aa.cf s cs nq).eX x ad
  inj:=h.inj
  h8:=h.h8
  hD:=h.hD
  own:=λx ad=>by
   rcases mem x ad with rfl | ad;·exact h.own ⟨n,nx⟩ f'
   ·exact aa.own x ad
  dE:=aa.dE
  out:=aa.out
  sz:=aa.sz
  fm:=aa.fm }
def oO(l:List (ByteArray×Int)):Nat->List MapEntry
 |i=>match l with
  |[]=>[]| p::l=>{ key:=.string p.1,val:=.int .i64 p.2,born:=i }::oO l (i+1)
def jz(l:List (ByteArray×Int)):Obj:=.map (oO l 0).toArray l.length
def ev(s:ByteArray):List (ByteArray×Int)->Option Int
 |[]=>none| p::l=>bif decide (s=p.1)then some p.2 else ev s l
def ahv(l:List (ByteArray×Int))(p:ByteArray×Int):∀ i,oO (l++[p]) i=oO l i++[{ key:=.string p.1,val:=.int .i64 p.2,born:=i+l.length }]:=by
 induction l with
 |nil=>intro i;simp[oO]| cons q l aN=>intro i;simp only[mU,oO,aN,dx,xz,true_and,List.append_cancel_left_eq,MapEntry.mk.injEq,and_true];omega
def bytes_beq(a b:ByteArray):(a == b)=decide (a=b):=by
 rw[r6];simp only[hR];constructor
 ·intro h
  first | exact eq_of_beq h | exact vB (eq_of_beq (a:=a.data) (b:=b.data) h)
 ·rintro rfl
  first | exact F7 _ | exact F7 a.data
def Kq(s:ByteArray):∀ (l:List (ByteArray×Int)) (i j:Nat),∃ r,Instr.findNow .string (.string s) (oO l i) j=some r/\r.map (·.2)=(ev s l).map (Value.int .i64)
 |[],i,j=>⟨none,rfl,rfl⟩
 |p::l,i,j=>by
  obtain⟨r,aa,ab⟩:=Kq s l (i+1) (j+1);unfold oO Instr.findNow;simp only[Instr.sameNow,bytes_beq];cases ag:decide (s=p.1)with
  |true=>exact⟨_,rfl,by simp[ev,ag]⟩| false=>exact⟨r,aa,by simp only[ev,ag,b'];exact ab⟩
def bw.makeMap(aM:cU X.P X.E){t:Nat}{r:Operand}(aH:o.op=.makeMap t (some r))(aj:∀ d,o.dst=some d->d<X.n)(av:X.E t=some c7)(dR:c7.bL=.map k e)
  {q:IntKind} {n:Int} (af:bE F r=.val (.int q n)) (h:∀ b,K (put o.dst (.val (.map (some b))) F) C I (⟨b,jz []⟩::M)):bw X o F C I M K:=by
 refine⟨λa w Q ⟨β,aW⟩=>?_⟩;obtain⟨d,fF,fi⟩:=(aM _ _ av).fl;have aa:d=.map k e:=by rw[dR]at fi;cases d<;>simp_all[fk]
 subst aa;have O8:=dc aW.al af;refine iV (by rw[aH];simp) (v:=.map (some w.heap.size)) (w':=w.alloc (.map #[] 0)) ?_ ⟨_,_,_,_,⟨β,cH.put (x:=.val (.map (some w.heap.size))) (aW.nS (jz [])) aj rfl⟩,h _⟩;unfold execOp;simp only[aH,k8,O8];simp[Instr.makeMap,run_underlying fF,asInt,oo]
def bw.lookup(aM:cU X.P X.E){t:Nat}(aH:o.op=.lookup t x y true)(aj:∀ d,o.dst=some d->d<X.n)(av:X.E t=some c7)(dR:c7.bL=.map k e)(ae:X.E k=some tj)(eW:tj.bL=.string)(bb:∀ w,(zeroValue e).run X.P w=.ok (.int .i64 0) w)(ad:bE F x=.val (.map (some g)))(aE:bE F y=.val (.string s))(a':(⟨g,jz l⟩:aD)∈M)
  (h:K (put o.dst (.val (.tuple #[.int .i64 ((ev s l).getD 0),.bool (ev s l).isSome])) F) C I M):bw X o F C I M K:=by
 refine⟨λa w Q ⟨β,aW⟩=>?_⟩;obtain⟨d,fF,fi⟩:=(aM _ _ av).fl;have aa:d=.map k e:=by rw[dR]at fi;cases d<;>simp_all[fk]
 subst aa;obtain⟨dd,sB,hH⟩:=(aM _ _ ae).fl;have ab:dd=.string:=by rw[eW]at hH;cases dd<;>simp_all[fk]
 subst ab;have au:w.heap[g]?=some (.map (oO l 0).toArray l.length):=aW.holds.m _ a';have ex:=dc aW.al ad;have oE:=dc aW.al aE;obtain⟨r,vH,mu⟩:=Kq s l 0 0;have ap:(Instr.checkKey (oO l 0).toArray.isEmpty 10000 k (.string s)).run X.P w=.ok () w:=Dw (k:=.string s) sB (by simp[MapKept.IsKey]) _ 9999;have uV:(Instr.findKey k (.string s) (oO l 0)).run X.P w=.ok r w:=Dx sB vH;have e9:(Instr.lookup t (.map (some g)) (.string s) true).run X.P w=.ok (.tuple #[.int .i64 ((ev s l).getD 0),.bool (ev s l).isSome]) w:=by
  unfold Instr.lookup;simp only[cj,run_underlying fF,bV,Dv au,c0,ap,uV];cases r with
  |none=>
   cases ay:ev s l with
   |none=>simp[bb]| some v=>rw[ay]at mu;simp at mu
  |some p=>
   cases ay:ev s l with
   |none=>rw[ay]at mu;simp at mu| some v=>rw[ay]at mu;simp only[k8,kk]at mu;simp[mu]
 refine vG aW aj (by rw[aH];simp) ?_ h;unfold execOp;simp only[aH,ex,oE,cj,e9,bV,c0]
def bw.Ws(aM:cU X.P X.E){t:Nat}{z:Operand}(aH:o.op=.mapUpdate t x y z)(aj:o.dst=none)(av:X.E t=some c7)(dR:c7.bL=.map k e)(ae:X.E k=some tj)(eW:tj.bL=.string)
 {v:Int} (ad:bE F x=.val (.map (some g))) (aE:bE F y=.val (.string s)) (A4:bE F z=.val (.int .i64 v)) (ay:ev s l=none)
  {Mr:List aD} (a':M.Perm (⟨g,jz l⟩::Mr)) (h:K F C I (⟨g,jz (l++[(s,v)])⟩::Mr)):bw X o F C I M K:=by
 refine⟨λa w Q ⟨β,iu⟩=>?_⟩;have aW:cH X β a w F C I (⟨g,jz l⟩::Mr):=iu.hS (.perm a' .refl);obtain⟨d,fF,fi⟩:=(aM _ _ av).fl;have aa:d=.map k e:=by rw[dR]at fi;cases d<;>simp_all[fk]
 subst aa;obtain⟨dd,sB,hH⟩:=(aM _ _ ae).fl;have ab:dd=.string:=by rw[eW]at hH;cases dd<;>simp_all[fk]
 subst ab;have au:w.heap[g]?=some (.map (oO l 0).toArray l.length):=aW.holds.m ⟨g,jz l⟩ (by simp);have ex:=dc aW.al ad;have oE:=dc aW.al aE;have O9:=dc aW.al A4;obtain⟨r,vH,mu⟩:=Kq s l 0 0;have af:r=none:=by
  rw[ay]at mu;cases r with
  |none=>rfl| some _=>simp at mu
 subst af;have ap:(Instr.checkKey false 10000 k (.string s)).run X.P w=.ok () w:=Dw (k:=.string s) sB (by simp[MapKept.IsKey]) _ 9999;have uV:(Instr.findKey k (.string s) (oO l 0)).run X.P w=.ok none w:=Dx sB vH;have e4:jz (l++[(s,v)])=.map ((oO l 0).toArray.push { key:=.string s,val:=.int .i64 v,born:=l.length }) (l.length+1):=by unfold jz;rw[ahv];simp
 have e9:(Instr.mapUpdate t (.map (some g)) (.string s) (.int .i64 v)).run X.P w=.ok () { w with heap:=w.heap.setIfInBounds g (jz (l++[(s,v)])) }:=by unfold Instr.mapUpdate;simp only[cj,run_underlying fF,bV,Dv au,ap,uV,OD _ au,e4]
 have gW:=MapKept.heap_set (o':=jz (l++[(s,v)])) au;refine C8 (by rw[aH];simp) (w':={ w with heap:=w.heap.setIfInBounds g (jz (l++[(s,v)])) }) ?_ ⟨F,C,I,_,⟨β,?_⟩,h⟩
 ·unfold execOp;simp only[aH,ex,oE,O9,cj,e9,bV,c0]
 ·rw[aj];exact aW.swap (by simp) gW.1 gW.2 ⟨rfl,rfl⟩
end
end Go.V
