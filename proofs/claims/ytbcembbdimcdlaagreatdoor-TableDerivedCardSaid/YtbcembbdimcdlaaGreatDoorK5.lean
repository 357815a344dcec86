/- Part 5 of what the proofs of this seat share: the executor, data in memory, walks.
-/
import Derived.Test.YtbcembbdimcdlaaGreatDoorK4
import Derived.Test.YtbcembbdimcdlaaGreatDoorK2
import Derived.Laws.IdiomStrings
import Derived.Test.YtbcembbdimcdlaaGreatDoorK3
import Derived.Lib.SliceRun
set_option linter.all false
set_option maxHeartbeats 8000000
set_option maxRecDepth 100000
namespace Go.V
open Go
def q0:=@List.length_range
def y0:=@List.length_singleton
def Cr:=@Nat.add_sub_cancel_left
def Cs:=@Nat.ble_eq_true_of_le
def Ct:=@BitVec.toNat_ofNat
def Lo:=@Int.tdiv_eq_ediv_of_nonneg
def Cu:=@Nat.zero_lt_one
def Cv:=@List.range_succ
def Lp:=@List.length_take_of_le
def Lq:=@List.getElem_set_self
def HM:=@Function.comp_def
def HN:=@Nat.mod_eq_of_lt
def XT:=@Nat.testBit_eq_decide_div_mod_eq
def Lr:=@Nat.min_le_right
def Ls:=@Nat.le_max_right
def XU:=@List.drop_append_of_le_length
def Lt:=@Nat.le_max_left
def P2:=@Bool.and_false
def P3:=@Nat.mul_le_mul
variable{c z et src dst e b9 c' j i:Nat}{lo:Int}{m':Nat->Nat->cr}{A:Nat->Nat->Prop}{x s:Operand}{dh aG Lu:ec}{ad:Addr}{cu L fs:List Nat}{args xs bU aQ vs:List Value}{I:aR}{M M0:List aI}{K:Value->aR->List aI->Prop}{α:Type}{os:a5}{F:Fr}{fU:Option Addr}{kb:List (Nat×List Nat)}
def gg(a b:Nat):Nat:=min (a+b) 1099511627776
def gE(m:Nat->Nat->cr):List Nat->Nat->Nat->cr
 |[],a,n=>⟨n,a,3⟩| q::L,a,n=>bif Nat.beq (m q a).aB 3 then gE m L (m q a).to (gg n (m q a).n)else⟨0,0,(m q a).aB⟩
def gL(m:Nat->Nat->cr):List Nat->Nat->cr
 |[],_=>mB| q::L,a=>bif Nat.beq (m q a).aB 2 then gL m L a else m q a
def e4(m:Nat->Nat->cr)(q:Nat)(lo hi:Int):Nat->Nat->Nat->Nat->cr
 |0,_,a,n=>bif decide (hi=-1)then l6 else⟨n,a,3⟩
 |j+1,i,a,n=>bif Nat.beq (m q a).aB 2 then(bif decide ((i:Int)<lo)then mB else⟨n,a,3⟩)else
   bif Nat.beq (m q a).aB 3 then(bif decide (hi=-1)&&decide ((m q a).to=a)then l6 else e4 m q lo hi j (i+1) (m q a).to (gg n (m q a).n))else l6
def pw(P:cQ)(d:aM)(a:Nat):Nat:=bif decide (d.hi=-1)then P.s.size+1-a else d.hi.toNat
def eC(P:cQ)(m:Nat->Nat->cr)(k a:Nat):cr:=
 let d:=(P.an k).d
 let q:=(P.an k).bm.getD 0 0
 bif decide (d.k=0)then⟨0,a,3⟩else
 bif decide (d.k=1)then(match P.s.data[a]? with
  |some b=>bif lf d b.toNat then⟨0,a+1,3⟩else mB| none=>mB)else
 bif decide (d.k=2)then(bif preB P.s d.t a then⟨0,a+d.t.size,3⟩else mB)else
 bif decide (d.k=3)then m q a else
 bif decide (d.k=4)then gE m (P.an k).bm a 0 else
 bif decide (d.k=5)then gL m (P.an k).bm a else
 bif decide (d.k=6)then e4 m q d.lo d.hi (pw P d a) 0 a 0 else
 bif decide (d.k=7)then(bif Nat.beq (m q a).aB 3 then⟨0,a,3⟩else m q a)else
 bif decide (d.k=8)then(bif Nat.beq (m q a).aB 2 then⟨0,a,3⟩else bif Nat.beq (m q a).aB 3 then mB else l6)else
 (bif Nat.beq (m q a).aB 3 then⟨gg (m q a).n 1,(m q a).to,3⟩else m q a)
section
variable{P:cQ}{m m':Nat->Nat->cr}{k a lo:Nat}
def uH(h:(P.an k).d.k=0):eC P m k a=⟨0,a,3⟩:=by simp[eC,h]
def uI(h:(P.an k).d.k=1):eC P m k a=match P.s.data[a]? with
  |some b=>bif lf (P.an k).d b.toNat then⟨0,a+1,3⟩else mB| none=>mB:=by simp[eC,h]
def uJ(h:(P.an k).d.k=2):eC P m k a=bif preB P.s (P.an k).d.t a then⟨0,a+(P.an k).d.t.size,3⟩else mB:=by simp[eC,h]
def uK(h:(P.an k).d.k=3):eC P m k a=m ((P.an k).bm.getD 0 0) a:=by simp[eC,h]
def uL(h:(P.an k).d.k=4):eC P m k a=gE m (P.an k).bm a 0:=by simp[eC,h]
def uM(h:(P.an k).d.k=5):eC P m k a=gL m (P.an k).bm a:=by simp[eC,h]
def sb(h:(P.an k).d.k=6):eC P m k a=e4 m ((P.an k).bm.getD 0 0) (P.an k).d.lo (P.an k).d.hi (pw P (P.an k).d a) 0 a 0:=by simp[eC,h]
def uN(h:(P.an k).d.k=7):eC P m k a=bif Nat.beq (m ((P.an k).bm.getD 0 0) a).aB 3 then⟨0,a,3⟩else m ((P.an k).bm.getD 0 0) a:=by simp[eC,h]
def uO(h:(P.an k).d.k=8):eC P m k a=bif Nat.beq (m ((P.an k).bm.getD 0 0) a).aB 2 then⟨0,a,3⟩else bif Nat.beq (m ((P.an k).bm.getD 0 0) a).aB 3 then mB else l6:=by simp[eC,h]
def uP(ao:(P.an k).d.k≠0)(U:(P.an k).d.k≠1)(aa:(P.an k).d.k≠2)(af:(P.an k).d.k≠3)(aP:(P.an k).d.k≠4)(bq:(P.an k).d.k≠5)(bj:(P.an k).d.k≠6)(eh:(P.an k).d.k≠7)(gF:(P.an k).d.k≠8) : eC P m k a=bif Nat.beq (m ((P.an k).bm.getD 0 0) a).aB 3 then⟨gg (m ((P.an k).bm.getD 0 0) a).n 1,(m ((P.an k).bm.getD 0 0) a).to,3⟩else m ((P.an k).bm.getD 0 0) a:=by simp[eC,ao,U,aa,af,aP,bq,bj,eh,gF]
def Cw(d:Int):d=0\/d=1\/d=2\/d=3\/d=4\/d=5\/d=6\/d=7\/d=8\/(d≠0/\d≠1/\d≠2/\d≠3/\d≠4/\d≠5/\d≠6/\d≠7/\d≠8):=by omega
def oO(lo:Nat)(m m':Nat->Nat->cr):Prop:=∀ q b,lo<=b->ef (m q b)->m' q b=m q b
def At(m:Nat->Nat->cr):Prop:=∀ q b,(m q b).aB=3->b<=(m q b).to
def oO.trans{XV:Nat->Nat->cr}(h:oO lo m m')(be:oO lo m' XV):oO lo m XV:=λq b ah ag=>by have e:=h q b ah ag;rw[be q b ah (by rw[e];exact ag),e]
def uQ{c:cr}(h:Nat.beq c.aB 3=true):ef c:=.inr (cK h)
def Cx{c:cr}(h:Nat.beq c.aB 2=true):ef c:=.inl (cK h)
def sc:¬ ef l6:=λh=>by rcases h with h | h<;>cases h
def P4(h:oO lo m m')(aA:At m):∀ (L:List Nat) (a n:Nat),lo<=a->ef (gE m L a n)->gE m' L a n=gE m L a n
 |[],a,n,_,_=>rfl
 |q::L,a,n,aE,ag=>by
  cases af:Nat.beq (m q a).aB 3 with
  |true=>have e:=h q a aE (uQ af);simp only[gE,e,af,bh]at ag |-;exact P4 h aA L _ _ (jN aE (aA q a (cK af))) ag| false=>simp only[gE,af,bf]at ag;have e:=h q a aE ag;simp only[gE,e,af,bf]
def P5(h:oO lo m m'):∀ (L:List Nat) (a:Nat),lo<=a->ef (gL m L a)->gL m' L a=gL m L a
 |[],a,_,_=>rfl
 |q::L,a,aE,ag=>by
  cases aa:Nat.beq (m q a).aB 2 with
  |true=>have e:=h q a aE (Cx aa);simp only[gL,e,aa,bh]at ag |-;exact P5 h L a aE ag| false=>simp only[gL,aa,bf]at ag;have e:=h q a aE ag;simp only[gL,e,aa,bf]
def P6(h:oO lo m m')(aA:At m){q:Nat}{l u:Int}:∀ (j i a n:Nat),lo<=a->ef (e4 m q l u j i a n)->e4 m' q l u j i a n=e4 m q l u j i a n
 |0,i,a,n,_,_=>rfl
 |j+1,i,a,n,aE,ag=>by
  cases aa:Nat.beq (m q a).aB 2 with
  |true=>have e:=h q a aE (Cx aa);simp only[e4,e,aa,bh]
  |false=>
   cases af:Nat.beq (m q a).aB 3 with
   |true=>
    have e:=h q a aE (uQ af);simp only[e4,e,aa,af,bh,bf]at ag |-;cases hu:decide (u=-1)&&decide ((m q a).to=a)with
    |true=>rfl| false=>rw[hu,bf]at ag;exact P6 h aA j _ _ _ (jN aE (aA q a (cK af))) ag
   |false=>simp only[e4,aa,af,bf]at ag;exact absurd ag sc
def HO(h:oO lo m m')(aA:At m)(aE:lo<=a)(ag:ef (eC P m k a)):eC P m' k a=eC P m k a:=by
 have one:∀ q:Nat,ef (m q a)->m' q a=m q a:=λq ay=>h q a aE ay;rcases Cw (P.an k).d.k with e | e | e | e | e | e | e | e | e | ⟨cJ,az,aF,bo,dw,gd,gM,hF,qi⟩
 ·rw[uH e,uH e]
 ·rw[uI e,uI e]
 ·rw[uJ e,uJ e]
 ·rw[uK e]at ag |-;rw[uK e];exact one _ ag
 ·rw[uL e]at ag |-;rw[uL e];exact P4 h aA _ _ _ aE ag
 ·rw[uM e]at ag |-;rw[uM e];exact P5 h _ _ aE ag
 ·rw[sb e]at ag |-;rw[sb e];exact P6 h aA _ _ _ _ aE ag
 ·rw[uN e]at ag |-;rw[uN e];generalize(P.an k).bm.getD 0 0=q at ag |-;cases af:Nat.beq (m q a).aB 3 with
  |true=>rw[one q (uQ af),af]| false=>rw[af,bf]at ag;rw[one q ag,af]
 ·rw[uO e]at ag |-;rw[uO e];generalize(P.an k).bm.getD 0 0=q at ag |-;cases aa:Nat.beq (m q a).aB 2 with
  |true=>rw[one q (Cx aa),aa]
  |false=>
   cases af:Nat.beq (m q a).aB 3 with
   |true=>rw[one q (uQ af),aa,af]| false=>rw[aa,af]at ag;exact absurd ag sc
 ·rw[uP cJ az aF bo dw gd gM hF qi]at ag |-;rw[uP cJ az aF bo dw gd gM hF qi];generalize(P.an k).bm.getD 0 0=q at ag |-;cases af:Nat.beq (m q a).aB 3 with
  |true=>rw[one q (uQ af),af]| false=>rw[af,bf]at ag;rw[one q ag,af]
end
def jJ(z a:Nat)(c:cr):Prop:=c=l6\/c=mB\/(c.aB=3/\a<=c.to/\(a<=z->c.to<=z)/\c.n<=1099511627776)
def jJ.m{a to n:Nat}(U:a<=to)(aa:a<=z->to<=z)(af:n<=1099511627776):jJ z a ⟨n,to,3⟩:=.inr (.inr ⟨rfl,U,aa,af⟩)
def jJ.ge{a:Nat}{c:cr}(h:jJ z a c)(af:c.aB=3):a<=c.to/\(a<=z->c.to<=z)/\c.n<=1099511627776:=by
 rcases h with rfl | rfl | h
 ·cases af
 ·cases af
 ·exact h.2
def jJ.aB{a:Nat}{c:cr}(h:jJ z a c):c.aB=0\/c.aB=2\/c.aB=3:=by
 rcases h with rfl | rfl | h
 ·exact .inl rfl
 ·exact .inr (.inl rfl)
 ·exact .inr (.inr h.1)
def jJ.zero{z a:Nat}{c:cr}(h:jJ z a c)(aa:¬ ef c):c=l6:=by
 rcases h with rfl | rfl | h
 ·rfl
 ·exact absurd (.inl rfl) aa
 ·exact absurd (.inr h.1) aa
def jJ.aif{a:Nat}{c:cr}(h:jJ z a c)(af:Nat.beq c.aB 3=false):(⟨0,0,c.aB⟩:cr)=c:=by
 rcases h with rfl | rfl | h
 ·rfl
 ·rfl
 ·rw[h.1]at af;cases af
def jJ.JT{a b:Nat}{c:cr}(h:jJ z b c)(iM:a<=b)(a9:a<=z->b<=z):jJ z a c:=by
 rcases h with h | h | ⟨U,aa,af,aP⟩
 ·exact .inl h
 ·exact .inr (.inl h)
 ·exact .inr (.inr ⟨U,by omega,λh=>af (a9 h),aP⟩)
def vZ(a b:Nat):gg a b<=1099511627776:=Lr _ _
section
variable{z:Nat}{m:Nat->Nat->cr}(hm:∀ q b,jJ z b (m q b))
include hm
def XW:∀ (L:List Nat) (a n:Nat),n<=1099511627776->jJ z a (gE m L a n)
 |[],a,n,aw=>.m (bY _) id aw
 |q::L,a,n,aw=>by
  cases af:Nat.beq (m q a).aB 3 with
  |true=>simp only[gE,af,bh];obtain⟨aV,a3,bW⟩:=(hm q a).ge (cK af);exact(XW L _ _ (vZ _ _)).JT aV a3
  |false=>simp only[gE,af,bf];rw[(hm q a).aif af];exact hm q a
def XX:∀ (L:List Nat) (a:Nat),jJ z a (gL m L a)
 |[],a=>.inr (.inl rfl)
 |q::L,a=>by
  cases aa:Nat.beq (m q a).aB 2 with
  |true=>simp only[gL,aa,bh];exact XX L a| false=>simp only[gL,aa,bf];exact hm q a
def XY{q:Nat}{l u:Int}:∀ (j i a n:Nat),n<=1099511627776->jJ z a (e4 m q l u j i a n)
 |0,i,a,n,aw=>by
  unfold e4;cases decide (u=-1);·exact .m (bY _) id aw
  ·exact .inl rfl
 |j+1,i,a,n,aw=>by
  cases aa:Nat.beq (m q a).aB 2 with
  |true=>
   simp only[e4,aa,bh];cases decide ((i:Int)<l);·exact .m (bY _) id aw
   ·exact .inr (.inl rfl)
  |false=>
   cases af:Nat.beq (m q a).aB 3 with
   |true=>
    simp only[e4,aa,af,bh,bf];obtain⟨aV,a3,bW⟩:=(hm q a).ge (cK af);cases decide (u=-1)&&decide ((m q a).to=a)with
    |true=>exact .inl rfl| false=>exact(XY j _ _ _ (vZ _ _)).JT aV a3
   |false=>simp only[e4,aa,af,bf];exact .inl rfl
def P7{P:cQ}(a9:P.s.size=z)(k a:Nat):jJ z a (eC P m k a):=by
 rcases Cw (P.an k).d.k with e | e | e | e | e | e | e | e | e | ⟨cJ,az,aF,bo,dw,gd,gM,hF,qi⟩
 ·rw[uH e];exact .m (bY _) id (by omega)
 ·rw[uI e];cases ah:P.s.data[a]? with
  |none=>exact .inr (.inl rfl)
  |some b=>
   have aS:a<P.s.data.size:=(lS.1 ah).1;have:P.s.data.size=P.s.size:=rfl;simp only;cases lf (P.an k).d b.toNat;·exact .inr (.inl rfl)
   ·exact .m (by omega) (by omega) (by omega)
 ·rw[uJ e];cases aD:preB P.s (P.an k).d.t a with
  |false=>exact .inr (.inl rfl)| true=>simp only[preB,cp,e5]at aD;exact .m (by omega) (by omega) (by omega)
 ·rw[uK e];exact hm _ a
 ·rw[uL e];exact XW hm _ _ _ (by omega)
 ·rw[uM e];exact XX hm _ _
 ·rw[sb e];exact XY hm _ _ _ _ (by omega)
 ·rw[uN e];cases Nat.beq (m ((P.an k).bm.getD 0 0) a).aB 3
  ·exact hm _ a
  ·exact .m (bY _) id (by omega)
 ·rw[uO e];cases Nat.beq (m ((P.an k).bm.getD 0 0) a).aB 2 with
  |true=>exact .m (bY _) id (by omega)
  |false=>
   cases Nat.beq (m ((P.an k).bm.getD 0 0) a).aB 3;·exact .inl rfl
   ·exact .inr (.inl rfl)
 ·rw[uP cJ az aF bo dw gd gM hF qi];cases af:Nat.beq (m ((P.an k).bm.getD 0 0) a).aB 3 with
  |false=>exact hm _ a| true=>obtain⟨aV,a3,bW⟩:=(hm _ a).ge (cK af);exact .m aV a3 (vZ _ _)
end
def ff(P:cQ):Nat->Nat->Nat->cr
 |0,_,_=>l6| n+1,k,a=>eC P (ff P n) k a
def Lv(P:cQ):∀ (n k a:Nat),jJ P.s.size a (ff P n k a)
 |0,_,_=>.inl rfl| n+1,k,a=>P7 (Lv P n) rfl k a
def EH(P:cQ)(n:Nat):At (ff P n):=λq b af=>((Lv P n q b).ge af).1
def P8(P:cQ):∀ n,oO 0 (ff P n) (ff P (n+1))
 |0=>λq b _ ag=>absurd ag sc
 |n+1=>λq b ah ag=>HO (P8 P n) (EH P n) ah ag
def EI(P:cQ){n:Nat}(h:n<=et):oO 0 (ff P n) (ff P et):=by
 induction h with
 |refl=>exact λ_ _ _ _=>rfl
 |step _ a7=>exact a7.trans (P8 P _)
open Classical in
noncomputable def br(P:cQ)(k a:Nat):cr:=if h:∃ n,ef (ff P n k a)then ff P h.choose k a else l6
def EJ{P:cQ}{n k a:Nat}(h:ef (ff P n k a)):br P k a=ff P n k a:=by have ab:∃ n,ef (ff P n k a):=⟨n,h⟩;unfold br;rw[dif_pos ab];have aN:=ab.choose_spec;have az:=EI P (Lt n ab.choose) k a (bw _) h;have aF:=EI P (Ls n ab.choose) k a (bw _) aN;rw[<-az,<-aF]
def px{P:cQ}{k a:Nat}(h:ef (br P k a)):∃ n,ff P n k a=br P k a:=by
 by_cases ab:∃ n,ef (ff P n k a)
 ·obtain⟨n,aw⟩:=ab;exact⟨n,(EJ aw).symm⟩
 ·unfold br at h;rw[dif_neg ab]at h;exact absurd h sc
def XZ(P:cQ)(n:Nat):oO 0 (ff P n) (br P):=λ_ _ _ ag=>EJ ag
def sd(P:cQ)(k a:Nat):jJ P.s.size a (br P k a):=by
 by_cases ag:ef (br P k a)
 ·obtain⟨n,aw⟩:=px ag;rw[<-aw];exact Lv P n k a
 ·by_cases ab:∃ n,ef (ff P n k a)
  ·obtain⟨n,aw⟩:=ab;rw[EJ aw]at ag;exact absurd aw ag
  ·unfold br;rw[dif_neg ab];exact .inl rfl
section
variable{P:cQ}
def P9{n q b:Nat}(h:n<=et)(e:ff P n q b=br P q b)(ag:ef (br P q b)):ff P et q b=br P q b:=by rw[<-e]at ag |-;exact EI P h q b (bw _) ag
def X0:∀ (L:List Nat) (a n:Nat),ef (gE (br P) L a n)->∃ N,gE (ff P N) L a n=gE (br P) L a n
 |[],a,n,_=>⟨0,rfl⟩
 |q::L,a,n,ag=>by
  cases af:Nat.beq (br P q a).aB 3 with
  |true=>obtain⟨gf,az⟩:=px (uQ af);simp only[gE,af,bh]at ag |-;obtain⟨eV,aF⟩:=X0 L _ _ ag;refine⟨max gf eV,?_⟩;simp only[P9 (Lt gf eV) az (uQ af),af,bh];rw[<-aF]at ag |-;exact P4 (EI P (Ls gf eV)) (EH P eV) _ _ _ (bw _) ag
  |false=>simp only[gE,af,bf]at ag |-;obtain⟨gf,az⟩:=px ag;exact⟨gf,by simp only[az,af,bf]⟩
def X1:∀ (L:List Nat) (a:Nat),ef (gL (br P) L a)->∃ N,gL (ff P N) L a=gL (br P) L a
 |[],a,_=>⟨0,rfl⟩
 |q::L,a,ag=>by
  cases aa:Nat.beq (br P q a).aB 2 with
  |true=>obtain⟨gf,az⟩:=px (Cx aa);simp only[gL,aa,bh]at ag |-;obtain⟨eV,aF⟩:=X1 L _ ag;refine⟨max gf eV,?_⟩;simp only[P9 (Lt gf eV) az (Cx aa),aa,bh];rw[<-aF]at ag |-;exact P5 (EI P (Ls gf eV)) _ _ (bw _) ag
  |false=>simp only[gL,aa,bf]at ag |-;obtain⟨gf,az⟩:=px ag;exact⟨gf,by simp only[az,aa,bf]⟩
def X2{q:Nat}{l u:Int}:∀ (j i a n:Nat),ef (e4 (br P) q l u j i a n)->∃ N,e4 (ff P N) q l u j i a n=e4 (br P) q l u j i a n
 |0,i,a,n,_=>⟨0,rfl⟩
 |j+1,i,a,n,ag=>by
  cases aa:Nat.beq (br P q a).aB 2 with
  |true=>obtain⟨gf,az⟩:=px (Cx aa);exact⟨gf,by simp only[e4,az,aa,bh]⟩
  |false=>
   cases af:Nat.beq (br P q a).aB 3 with
   |true=>
    obtain⟨gf,az⟩:=px (uQ af);simp only[e4,aa,af,bh,bf]at ag |-;cases hu:decide (u=-1)&&decide ((br P q a).to=a)with
    |true=>rw[hu]at ag;exact absurd ag sc| false=>rw[hu,bf]at ag;obtain⟨eV,aF⟩:=X2 j _ _ _ ag;refine⟨max gf eV,?_⟩;simp only[P9 (Lt gf eV) az (uQ af),aa,af,hu,bh,bf];rw[<-aF]at ag |-;exact P6 (EI P (Ls gf eV)) (EH P eV) _ _ _ _ (bw _) ag
   |false=>simp only[e4,aa,af,bf]at ag;exact absurd ag sc
def aih{k a:Nat}(ag:ef (eC P (br P) k a)):∃ N,eC P (ff P N) k a=eC P (br P) k a:=by
 rcases Cw (P.an k).d.k with e | e | e | e | e | e | e | e | e | ⟨cJ,az,aF,bo,dw,gd,gM,hF,qi⟩
 ·exact⟨0,by rw[uH e,uH e]⟩
 ·exact⟨0,by rw[uI e,uI e]⟩
 ·exact⟨0,by rw[uJ e,uJ e]⟩
 ·rw[uK e]at ag |-;obtain⟨n,aw⟩:=px ag;exact⟨n,by rw[uK e,aw]⟩
 ·rw[uL e]at ag |-;obtain⟨n,aw⟩:=X0 _ _ _ ag;exact⟨n,by rw[uL e,aw]⟩
 ·rw[uM e]at ag |-;obtain⟨n,aw⟩:=X1 _ _ ag;exact⟨n,by rw[uM e,aw]⟩
 ·rw[sb e]at ag |-;obtain⟨n,aw⟩:=X2 _ _ _ _ ag;exact⟨n,by rw[sb e,aw]⟩
 ·rw[uN e]at ag |-;have U:ef (br P ((P.an k).bm.getD 0 0) a):=by
   cases af:Nat.beq (br P ((P.an k).bm.getD 0 0) a).aB 3 with
   |true=>exact uQ af| false=>rwa [af,bf]at ag
  obtain⟨n,aw⟩:=px U;exact⟨n,by rw[uN e,aw]⟩
 ·rw[uO e]at ag |-;have U:ef (br P ((P.an k).bm.getD 0 0) a):=by
   cases aa:Nat.beq (br P ((P.an k).bm.getD 0 0) a).aB 2 with
   |true=>exact Cx aa
   |false=>
    cases af:Nat.beq (br P ((P.an k).bm.getD 0 0) a).aB 3 with
    |true=>exact uQ af| false=>rw[aa,af]at ag;exact absurd ag sc
  obtain⟨n,aw⟩:=px U;exact⟨n,by rw[uO e,aw]⟩
 ·rw[uP cJ az aF bo dw gd gM hF qi]at ag |-;have U:ef (br P ((P.an k).bm.getD 0 0) a):=by
   cases af:Nat.beq (br P ((P.an k).bm.getD 0 0) a).aB 3 with
   |true=>exact uQ af| false=>rwa [af,bf]at ag
  obtain⟨n,aw⟩:=px U;exact⟨n,by rw[uP cJ az aF bo dw gd gM hF qi,aw]⟩
def P'{k a:Nat}(ag:ef (eC P (br P) k a)):br P k a=eC P (br P) k a:=by
 obtain⟨N,e⟩:=aih ag;have:ef (ff P (N+1) k a):=by show ef (eC P (ff P N) k a);rw[e];exact ag
 rw[EJ this];exact e
def aii{k a:Nat}(ag:ef (br P k a)):eC P (br P) k a=br P k a:=by
 obtain⟨n,aw⟩:=px ag;cases n with
 |zero=>rw[<-aw]at ag;exact absurd ag sc| succ n=>rw[<-aw]at ag |-;exact HO (XZ P n) (EH P n) (bw _) ag
def uR{k a:Nat}:eC P (br P) k a=br P k a:=by
 by_cases ag:ef (br P k a)
 ·exact aii ag
 ·by_cases iI:ef (eC P (br P) k a)
  ·exact(P' iI).symm
  ·rw[(sd P k a).zero ag,(P7 (sd P) rfl k a).zero iI]
def aij{m:Nat->Nat->cr}{lo:Nat}(h:∀ k a,lo<=a->ef (eC P m k a)->m k a=eC P m k a):oO lo (br P) m:=by
 have step:∀ n,oO lo (ff P n) m:=λn=>by
  induction n with
  |zero=>exact λ_ _ _ ag=>absurd ag sc
  |succ n a7=>
   intro k a aE ag;have e:=HO a7 (EH P n) aE ag;have iI:ef (eC P m k a):=by rw[e];exact ag
   rw[h k a aE iI,e];rfl
 intro k a aE ag;obtain⟨n,aw⟩:=px ag;rw[<-aw]at ag |-;exact step n k a aE ag
end
structure bX where
 n:Nat
 to:Nat
 aB:Nat
 hd:Nat
def hG:bX:=⟨0,0,0,0⟩
def py(to:Nat):bX:=⟨0,to,2,0⟩
def xn:bX:=⟨0,0,1,0⟩
def bX.ce(c:bX):cr:=bif Nat.beq c.aB 2 then⟨c.n,c.to,3⟩else bif Nat.beq c.aB 1 then mB else l6
def q1(T:Nat->Nat->bX):List Nat->Nat->Nat->bX
 |[],a,n=>⟨n,a,2,0⟩| q::L,a,n=>bif Nat.beq (T q a).aB 2 then q1 T L (T q a).to (gg n (T q a).n)else⟨0,0,(T q a).aB,0⟩
def q2(T:Nat->Nat->bX):List Nat->Nat->bX
 |[],_=>xn| q::L,a=>bif Nat.beq (T q a).aB 1 then q2 T L a else T q a
def qj(T:Nat->Nat->bX)(q:Nat)(lo:Int):Nat->Nat->Nat->Nat->bX
 |0,_,a,n=>⟨n,a,2,0⟩
 |j+1,i,a,n=>bif Nat.beq (T q a).aB 0||(Nat.beq (T q a).aB 1&&decide ((i:Int)<lo))then⟨0,0,(T q a).aB,0⟩else
   bif Nat.beq (T q a).aB 1 then⟨n,a,2,0⟩else qj T q lo j (i+1) (T q a).to (gg n (T q a).n)
def oP(lo:Int)(c:bX):bX:=bif decide ((c.hd:Int)<lo)then { c with aB:=1 }else c
def y1(T:Nat->Nat->bX)(k q:Nat)(lo:Int)(a:Nat):bX:=
 bif Nat.beq (T q a).aB 0||(Nat.beq (T q a).aB 2&&Nat.beq (T q a).to a)then hG else
 bif Nat.beq (T q a).aB 2 then(bif Nat.beq (T k (T q a).to).aB 0 then hG else oP lo ⟨gg (T q a).n (T k (T q a).to).n,(T k (T q a).to).to,2,min ((T k (T q a).to).hd+1) 99⟩)else oP lo (py a)
def eu(P:cQ)(T:Nat->Nat->bX)(k a:Nat):bX:=
 let d:=(P.an k).d
 let q:=(P.an k).bm.getD 0 0
 bif decide (d.k=0)then py a else
 bif decide (d.k=1)then(match P.s.data[a]? with
  |some b=>bif lf d b.toNat then py (a+1)else xn| none=>xn)else
 bif decide (d.k=2)then(bif preB P.s d.t a then py (a+d.t.size)else xn)else
 bif decide (d.k=3)then T q a else
 bif decide (d.k=4)then q1 T (P.an k).bm a 0 else
 bif decide (d.k=5)then q2 T (P.an k).bm a else
 bif decide (d.k=6)then(bif decide (d.hi=-1)then y1 T k q d.lo a else qj T q d.lo d.hi.toNat 0 a 0)else
 bif decide (d.k=7)then(bif Nat.beq (T q a).aB 2 then py a else⟨0,0,(T q a).aB,0⟩)else
 bif decide (d.k=8)then(bif Nat.beq (T q a).aB 1 then py a else bif Nat.beq (T q a).aB 2 then xn else hG)else
 (bif Nat.beq (T q a).aB 2 then { T q a with n:=gg (T q a).n 1 }else T q a)
def ia(T:Nat->Nat->bX):Nat->Nat->cr:=λk a=>(T k a).ce
def se{c:bX}(h:c.aB<=2):(c.aB=0/\c.ce=l6)\/(c.aB=1/\c.ce=mB)\/(c.aB=2/\c.ce=⟨c.n,c.to,3⟩):=by
 have:c.aB=0\/c.aB=1\/c.aB=2:=by omega
 rcases this with e | e | e
 ·exact .inl ⟨e,by simp only[bX.ce,e];rfl⟩
 ·exact .inr (.inl ⟨e,by simp only[bX.ce,e];rfl⟩)
 ·exact .inr (.inr ⟨e,by simp only[bX.ce,e];rfl⟩)
def Cy{c:bX}(h:c.aB<=2):ef c.ce ↔ c.aB≠0:=by
 rcases se h with⟨e,bA⟩ | ⟨e,bA⟩ | ⟨e,bA⟩<;>rw[bA]<;>simp[ef,l6,mB,e]
section
variable{T:Nat->Nat->bX}(bM:∀ k a,(T k a).aB<=2)
include bM
def X3:∀ (L:List Nat) (a n:Nat),(q1 T L a n).ce=gE (ia T) L a n
 |[],a,n=>rfl
 |q::L,a,n=>by
  rcases se (bM q a)with⟨e,bA⟩ | ⟨e,bA⟩ | ⟨e,bA⟩;·simp only[q1,gE,ia,e,bA];rfl
  ·simp only[q1,gE,ia,e,bA];rfl
  ·have a7:=X3 L (T q a).to (gg n (T q a).n);simp only[q1,gE,ia,e,bA]at a7 |-;exact a7
def X4:∀ (L:List Nat) (a:Nat),(q2 T L a).ce=gL (ia T) L a
 |[],a=>rfl
 |q::L,a=>by
  rcases se (bM q a)with⟨e,bA⟩ | ⟨e,bA⟩ | ⟨e,bA⟩;·simp only[q2,gL,ia,e,bA];exact bA
  ·have a7:=X4 L a;simp only[q2,gL,ia,e,bA]at a7 |-;exact a7
  ·simp only[q2,gL,ia,e,bA];exact bA
def X5{q:Nat}{lo hi:Int}(bl:hi≠-1):∀ (j i a n:Nat),(qj T q lo j i a n).ce=e4 (ia T) q lo hi j i a n
 |0,i,a,n=>by simp only[qj,e4,c0 bl,bf];rfl
 |j+1,i,a,n=>by
  rcases se (bM q a)with⟨e,bA⟩ | ⟨e,bA⟩ | ⟨e,bA⟩;·simp only[qj,e4,ia,e,bA];rfl
  ·simp only[qj,e4,ia,e,bA];cases decide ((i:Int)<lo)<;>rfl
  ·have a7:=X5 (q:=q) (lo:=lo) bl j (i+1) (T q a).to (gg n (T q a).n);simp only[qj,e4,ia,e,bA,c0 bl]at a7 |-;exact a7
def X6{P:cQ}{k a:Nat}(h:(P.an k).d.k=6->(P.an k).d.hi≠-1):(eu P T k a).ce=eC P (ia T) k a:=by
 rcases Cw (P.an k).d.k with e | e | e | e | e | e | e | e | e | ⟨cJ,az,aF,bo,dw,gd,gM,hF,qi⟩
 ·rw[uH e];simp only[eu,e];rfl
 ·rw[uI e];simp only[eu,e];cases ah:P.s.data[a]? with
  |none=>rfl
  |some b=>
   simp only;cases lf (P.an k).d b.toNat<;>rfl
 ·rw[uJ e];simp only[eu,e];cases preB P.s (P.an k).d.t a<;>rfl
 ·rw[uK e];simp[eu,e,ia]
 ·rw[uL e,<-X3 bM];simp[eu,e]
 ·rw[uM e,<-X4 bM];simp[eu,e]
 ·have bl:=h e;rw[sb e,<-X5 bM bl];simp[eu,e,bl,pw]
 ·rw[uN e];generalize ay:(P.an k).bm.getD 0 0=q;rcases se (bM q a)with⟨g,dH⟩ | ⟨g,dH⟩ | ⟨g,dH⟩
  ·simp only[eu,e,ay,g,ia,dH];rfl
  ·simp only[eu,e,ay,g,ia,dH];rfl
  ·simp only[eu,e,ay,g,ia,dH];rfl
 ·rw[uO e];generalize ay:(P.an k).bm.getD 0 0=q;rcases se (bM q a)with⟨g,dH⟩ | ⟨g,dH⟩ | ⟨g,dH⟩
  ·simp only[eu,e,ay,g,ia,dH];rfl
  ·simp only[eu,e,ay,g,ia,dH];rfl
  ·simp only[eu,e,ay,g,ia,dH];rfl
 ·rw[uP cJ az aF bo dw gd gM hF qi];generalize ay:(P.an k).bm.getD 0 0=q;have au:eu P T k a=bif Nat.beq (T q a).aB 2 then { T q a with n:=gg (T q a).n 1 }else T q a:=by simp only[eu,ay,c0 cJ,c0 az,c0 aF,c0 bo,c0 dw,c0 gd,c0 gM,c0 hF,c0 qi,bf]
  rw[au];rcases se (bM q a)with⟨g,dH⟩ | ⟨g,dH⟩ | ⟨g,dH⟩;·simp only[g,ia,dH];exact dH
  ·simp only[g,ia,dH];exact dH
  ·simp only[g,ia,dH];simp[bX.ce,g]
end
inductive lG(m:Nat->Nat->cr)(q:Nat):Nat->Nat->Nat->Nat->Prop
 |stop{a}(h:(m q a).aB=2):lG m q a 0 a 0| more {a t to n} (h:(m q a).aB=3) (aw:(m q a).to≠a) (r:lG m q (m q a).to t to n):lG m q a (t+1) to (gg (m q a).n n)
def aik(a b c:Nat):gg a (gg b c)=gg (gg a b) c:=by unfold gg;omega
def lG.mono{m:Nat->Nat->cr}{q a t to n lo:Nat}(h:oO lo m m')(aA:At m)(aN:lG m q a t to n)(aE:lo<=a):lG m' q a t to n:=by
 induction aN with
 |stop U=>exact .stop (by rw[h q _ aE (.inl U)];exact U)| @more a t to n U aw r a7=>have e:=h q a aE (.inr U);have:=lG.more (m:=m') (q:=q) (a:=a) (by rw[e];exact U) (by rw[e];exact aw) (by rw[e];exact a7 (jN aE (aA q a U)));rwa [e]at this
def lG.len{m:Nat->Nat->cr}{q a t to n:Nat}(hm:∀ q b,jJ z b (m q b))(aN:lG m q a t to n):a+t<=to/\(a<=z->to<=z)/\n<=1099511627776:=by
 induction aN with
 |stop U=>exact⟨bY _,id,bw _⟩| @more a t to n U aw r a7=>obtain⟨aV,a3,bW⟩:=(hm q a).ge U;obtain⟨i1,i2,i3⟩:=a7;exact⟨by omega,λh=>i2 (a3 h),vZ _ _⟩
def ail{m:Nat->Nat->cr}{q:Nat}{a t to:Nat}(aN:lG m q a t to c):∀ (j i n:Nat),t<j->n<=1099511627776 ->
  e4 m q lo (-1) j i a n=bif decide (((i+t:Nat):Int)<lo)then mB else⟨gg n c,to,3⟩:=by
 induction aN with
 | @stop a U=>
  intro j i n aj aw;obtain⟨j,rfl⟩:∃ x,j=x+1:=⟨j-1,by omega⟩;have e:gg n 0=n:=by unfold gg;omega
  simp only[e4,U,e];rfl
 | @more a t to c U bH r a7=>intro j i n aj aw;obtain⟨j,rfl⟩:∃ x,j=x+1:=⟨j-1,by omega⟩;have aa:=a7 j (i+1) (gg n (m q a).n) (by omega) (vZ _ _);simp only[e4,U,c0 bH];rw[show Nat.beq 3 2=false from rfl,bf,show Nat.beq 3 3=true from rfl,bh,P2,bf,aa,<-aik];rw[show i+1+t=i+(t+1) by omega]
def X7{m:Nat->Nat->cr}{q:Nat}{lo:Int}:∀ (j i a n:Nat),ef (e4 m q lo (-1) j i a n)->∃ t to c,lG m q a t to c/\t<j
 |0,i,a,n,ag=>absurd ag sc
 |j+1,i,a,n,ag=>by
  cases aa:Nat.beq (m q a).aB 2 with
  |true=>exact⟨0,a,0,.stop (cK aa),by omega⟩
  |false=>
   cases af:Nat.beq (m q a).aB 3 with
   |false=>simp only[e4,aa,af,bf]at ag;exact absurd ag sc
   |true=>
    simp only[e4,aa,af,bf,bh]at ag;cases he:decide ((m q a).to=a)with
    |true=>rw[he]at ag;exact absurd ag sc| false=>rw[he]at ag;obtain⟨t,to,c,h,aS⟩:=X7 j _ _ _ ag;exact⟨t+1,to,_,.more (cK af) (cx he) h,by omega⟩
def X8{P:cQ}{k a t to:Nat}(bj:(P.an k).d.k=6)(bl:(P.an k).d.hi=-1)(aE:a<=P.s.size)(aN:lG (br P) ((P.an k).bm.getD 0 0) a t to c) :
  br P k a=bif decide ((t:Int)<(P.an k).d.lo)then mB else⟨c,to,3⟩:=by
 obtain⟨r9,nj,asy⟩:=aN.len (sd P);have a9:=nj aE;rw[<-uR,sb bj,bl,pw,bl,fr rfl,bh,ail aN _ _ _ (by omega) (by omega),dz];rw[show gg 0 c=c by unfold gg;omega]
structure iN(P:cQ)(N:Nat)(T:Nat->Nat->bX):Prop where
 aB:∀ k a,(T k a).aB<=2
 snd:∀ k a,(T k a).aB≠0->br P k a=(T k a).ce
 qz:∀ k a,k<N->a<=P.s.size->(P.an k).d.k=6->(P.an k).d.hi=-1->(T k a).aB≠0->∃ t,lG (br P) ((P.an k).bm.getD 0 0) a t (T k a).to (T k a).n/\(T k a).hd=min t 99
 rg:∀ k a,k<N->a<=P.s.size->(T k a).n<=1099511627776/\(T k a).to<=P.s.size/\(T k a).hd<=99
 out:∀ k a,¬ (k<N/\a<=P.s.size)->(T k a).ce=br P k a
def gO(T:Nat->Nat->bX)(k p:Nat)(c:bX):Nat->Nat->bX:=λed qv=>bif Nat.beq ed k&&Nat.beq qv p then c else T ed qv
def EK(T:Nat->Nat->bX)(k p:Nat)(c:bX):gO T k p c k p=c:=by simp[gO]
def y2{T:Nat->Nat->bX}{k p ed qv:Nat}{c:bX}(h:¬ (ed=k/\qv=p)):gO T k p c ed qv=T ed qv:=by
 unfold gO;have:(Nat.beq ed k&&Nat.beq qv p)=false:=by rw[yP];intro e;simp only[cp,Nat.beq_eq]at e;exact h e
 rw[this];rfl
structure td(P:cQ)(N:Nat)(k:Nat):Prop where
 j1:0<=(P.an k).d.k
 one:(P.an k).d.k=3\/6<=(P.an k).d.k->(P.an k).bm.getD 0 0<N
 bm:∀ q∈(P.an k).bm,q<N
 oG:(P.an k).d.k=6->(P.an k).d.lo<=99
section
variable{P:cQ}{N:Nat}{T:Nat->Nat->bX}
def iN.le(h:iN P N T):oO 0 (ia T) (br P):=λq b _ ag=>h.snd q b ((Cy (h.aB q b)).1 ag)
def iN.dI(h:iN P N T)(q b:Nat):jJ P.s.size b (ia T q b):=by
 by_cases e:(T q b).aB=0
 ·rcases se (h.aB q b)with⟨_,bA⟩ | ⟨aF,_⟩ | ⟨aF,_⟩
  ·exact .inl bA
  ·omega
  ·omega
 ·show jJ _ _ (T q b).ce;rw[<-h.snd q b e];exact sd P q b
def iN.ge(h:iN P N T):At (ia T):=λq b af=>((h.dI q b).ge af).1
def aim{t:Nat}(h:lo<=99):decide (((min t 99:Nat):Int)<lo)=decide ((t:Int)<lo):=by rw[pQ];simp only[e5];omega
def X9(lo:Int)(n to t:Nat):(oP lo ⟨n,to,2,t⟩).ce=bif decide ((t:Int)<lo)then mB else⟨n,to,3⟩:=by
 unfold oP;cases decide ((t:Int)<lo)<;>rfl
def X'(lo:Int)(c:bX):(oP lo c).n=c.n/\(oP lo c).to=c.to/\(oP lo c).hd=c.hd:=by
 unfold oP;cases decide ((c.hd:Int)<lo)<;>exact⟨rfl,rfl,rfl⟩
def Ya(lo:Int)(c:bX)(h:c.aB=2):(oP lo c).aB<=2:=by
 unfold oP;cases decide ((c.hd:Int)<lo)
 ·exact Nat.le_of_eq h
 ·show 1<=2;omega
def ain(h:iN P N T){k a:Nat}(ae:k<N)(aE:a<=P.s.size)(aw:td P N k)(bj:(P.an k).d.k=6)(bl:(P.an k).d.hi=-1){c:bX}(aN:y1 T k ((P.an k).bm.getD 0 0) (P.an k).d.lo a=c) :
  c.aB<=2/\c.n<=1099511627776/\c.to<=P.s.size/\c.hd<=99/\(c.aB≠0->br P k a=c.ce/\∃ t,lG (br P) ((P.an k).bm.getD 0 0) a t c.to c.n/\c.hd=min t 99):=by
 have eH:=aw.oG bj;have aio:=aw.one (.inr (by omega));generalize ay:(P.an k).bm.getD 0 0=q at aN aio |-;have HP:=fun {t to c} (h:lG (br P) q a t to c)=>X8 bj bl aE (by rw[ay];exact h);unfold y1 at aN;rcases se (h.aB q a)with⟨e,bA⟩ | ⟨e,bA⟩ | ⟨e,bA⟩
 ·simp only[e]at aN;subst aN;exact⟨bw _,bw _,bw _,bw _,λh=>absurd rfl h⟩
 ·have ap:=h.snd q a (by omega);rw[bA]at ap;have eY:lG (br P) q a 0 a 0:=.stop (by rw[ap];rfl);simp only[e]at aN;have vx:oP (P.an k).d.lo (py a)=c:=aN;obtain⟨f1,f2,f3⟩:=X' (P.an k).d.lo (py a);rw[<-vx];refine⟨Ya _ _ rfl,by rw[f1];exact bw _,by rw[f2];exact aE,by rw[f3];exact bw _,λ_=>⟨?_,0,by rw[f1,f2];exact eY,by rw[f3];rfl⟩⟩;rw[HP eY];exact(X9 _ 0 a 0).symm
 ·have ap:=h.snd q a (by omega);rw[bA]at ap;have g0:=sd P q a;rw[ap]at g0;obtain⟨aV,a3,bW⟩:=g0.ge rfl;simp only at aV a3 bW;simp only[e]at aN;cases ah:Nat.beq (T q a).to a with
  |true=>rw[ah]at aN;have vx:hG=c:=aN;subst vx;exact⟨bw _,bw _,bw _,bw _,λh=>absurd rfl h⟩
  |false=>
   have bH:(T q a).to≠a:=λe=>by rw[e]at ah;simp at ah
   rw[ah]at aN;have vx:(bif Nat.beq (T k (T q a).to).aB 0 then hG else oP (P.an k).d.lo ⟨gg (T q a).n (T k (T q a).to).n,(T k (T q a).to).to,2,min ((T k (T q a).to).hd+1) 99⟩)=c:=aN;cases ao:Nat.beq (T k (T q a).to).aB 0 with
   |true=>rw[ao,bh]at vx;subst vx;exact⟨bw _,bw _,bw _,bw _,λh=>absurd rfl h⟩
   |false=>
    rw[ao,bf]at vx;have mD:=a3 aE;obtain⟨t,dS,av⟩:=h.qz k (T q a).to ae mD bj bl λe=>by rw[e]at ao;cases ao
    rw[ay]at dS;obtain⟨i',gw,im⟩:=h.rg k (T q a).to ae mD;have eY:lG (br P) q a (t+1) (T k (T q a).to).to (gg (T q a).n (T k (T q a).to).n):=by have:=lG.more (m:=br P) (q:=q) (a:=a) (by rw[ap]) (by rw[ap];exact bH) (by rw[ap];exact dS);rwa [ap]at this
    generalize ab:(⟨gg (T q a).n (T k (T q a).to).n,(T k (T q a).to).to,2,min ((T k (T q a).to).hd+1) 99⟩:bX)=x at vx;obtain⟨f1,f2,f3⟩:=X' (P.an k).d.lo x;rw[<-vx];subst ab;have hm:min ((T k (T q a).to).hd+1) 99=min (t+1) 99:=by omega
    refine⟨Ya _ _ rfl,by rw[f1];exact vZ _ _,by rw[f2];exact gw,by rw[f3];exact Lr _ _,λ_=>⟨?_,t+1,by rw[f1,f2];exact eY,by rw[f3];exact hm⟩⟩;rw[HP eY,X9,hm,aim eH]
def Yb(h:iN P N T):∀ (L:List Nat) (a n:Nat),(∀ q∈L,q<N)->a<=P.s.size->n<=1099511627776->(q1 T L a n).aB<=2/\(q1 T L a n).n<=1099511627776/\(q1 T L a n).to<=P.s.size/\(q1 T L a n).hd<=99
 |[],a,n,_,aE,aw=>⟨bY _,aw,aE,bw _⟩
 |q::L,a,n,cT,aE,aw=>by
  unfold q1;cases Nat.beq (T q a).aB 2 with
  |true=>exact Yb h L _ _ (λq ay=>cT q (.tail _ ay)) (h.rg q a (cT q (.head _)) aE).2.1 (vZ _ _)| false=>exact⟨h.aB q a,bw _,bw _,bw _⟩
def Yc(h:iN P N T):∀ (L:List Nat) (a:Nat),(∀ q∈L,q<N)->a<=P.s.size->(q2 T L a).aB<=2/\(q2 T L a).n<=1099511627776/\(q2 T L a).to<=P.s.size/\(q2 T L a).hd<=99
 |[],a,_,aE=>⟨by show 1<=2;omega,bw _,bw _,bw _⟩
 |q::L,a,cT,aE=>by
  unfold q2;cases Nat.beq (T q a).aB 1 with
  |true=>exact Yc h L _ (λq ay=>cT q (.tail _ ay)) aE| false=>exact⟨h.aB q a,h.rg q a (cT q (.head _)) aE⟩
def Yd(h:iN P N T){q:Nat}(ay:q<N){lo:Int}:∀ (j i a n:Nat),a<=P.s.size->n<=1099511627776->(qj T q lo j i a n).aB<=2/\(qj T q lo j i a n).n<=1099511627776/\(qj T q lo j i a n).to<=P.s.size/\(qj T q lo j i a n).hd<=99
 |0,i,a,n,aE,aw=>⟨bY _,aw,aE,bw _⟩
 |j+1,i,a,n,aE,aw=>by
  unfold qj;cases Nat.beq (T q a).aB 0||(Nat.beq (T q a).aB 1&&decide ((i:Int)<lo))with
  |true=>exact⟨h.aB q a,bw _,bw _,bw _⟩
  |false=>
   cases Nat.beq (T q a).aB 1 with
   |true=>exact⟨bY _,aw,aE,bw _⟩| false=>exact Yd h ay j _ _ _ (h.rg q a ay aE).2.1 (vZ _ _)
def Qa(h:iN P N T){k a:Nat}(ae:k<N)(aE:a<=P.s.size)(aw:td P N k){c:bX}(aN:eu P T k a=c) :
  c.aB<=2/\c.n<=1099511627776/\c.to<=P.s.size/\c.hd<=99/\(c.aB≠0->br P k a=c.ce/\((P.an k).d.k=6->(P.an k).d.hi=-1->∃ t,lG (br P) ((P.an k).bm.getD 0 0) a t c.to c.n/\c.hd=min t 99)):=by
 by_cases aO:(P.an k).d.k=6/\(P.an k).d.hi=-1
 ·have e:eu P T k a=y1 T k ((P.an k).bm.getD 0 0) (P.an k).d.lo a:=by simp[eu,aO.1,aO.2]
  rw[e]at aN;obtain⟨U,aa,af,aP,bq⟩:=ain h ae aE aw aO.1 aO.2 aN;exact⟨U,aa,af,aP,λao=>⟨(bq ao).1,λ_ _=>(bq ao).2⟩⟩
 have Qb:(P.an k).d.k=6->(P.an k).d.hi≠-1:=λU aa=>aO ⟨U,aa⟩;have ai:c.aB<=2/\c.n<=1099511627776/\c.to<=P.s.size/\c.hd<=99:=by
  subst aN;rcases Cw (P.an k).d.k with e | e | e | e | e | e | e | e | e | ⟨cJ,az,aF,bo,dw,gd,gM,hF,qi⟩;·simp only[eu,e];exact⟨bY _,bw _,aE,bw _⟩
  ·simp only[eu,e];cases ah:P.s.data[a]? with
   |none=>exact⟨by show 1<=2;omega,bw _,bw _,bw _⟩
   |some b=>
    have aS:a<P.s.data.size:=(lS.1 ah).1;have aF:P.s.data.size=P.s.size:=rfl;simp only;cases lf (P.an k).d b.toNat;·exact⟨by show 1<=2;omega,bw _,bw _,bw _⟩
    ·exact⟨bY _,bw _,by show a+1<=_;omega,bw _⟩
  ·simp only[eu,e];cases aD:preB P.s (P.an k).d.t a with
   |false=>exact⟨by show 1<=2;omega,bw _,bw _,bw _⟩| true=>simp only[preB,cp,e5]at aD;exact⟨bY _,bw _,aD.1,bw _⟩
  ·simp only[eu,e];exact⟨h.aB _ _,h.rg _ _ (aw.one (.inl e)) aE⟩
  ·simp only[eu,e];exact Yb h _ _ _ aw.bm aE (bw _)
  ·simp only[eu,e];exact Yc h _ _ aw.bm aE
  ·simp only[eu,e,c0 (Qb e)];exact Yd h (aw.one (.inr (by omega))) _ _ _ _ aE (bw _)
  ·simp only[eu,e];have:=h.aB ((P.an k).bm.getD 0 0) a;cases Nat.beq (T ((P.an k).bm.getD 0 0) a).aB 2
   ·exact⟨this,bw _,bw _,bw _⟩
   ·exact⟨bY _,bw _,aE,bw _⟩
  ·simp only[eu,e];cases Nat.beq (T ((P.an k).bm.getD 0 0) a).aB 1 with
   |true=>exact⟨bY _,bw _,aE,bw _⟩
   |false=>
    cases Nat.beq (T ((P.an k).bm.getD 0 0) a).aB 2;·exact⟨bw _,bw _,bw _,bw _⟩
    ·exact⟨by show 1<=2;omega,bw _,bw _,bw _⟩
  ·have au:eu P T k a=bif Nat.beq (T ((P.an k).bm.getD 0 0) a).aB 2 then { T ((P.an k).bm.getD 0 0) a with n:=gg (T ((P.an k).bm.getD 0 0) a).n 1 }else T ((P.an k).bm.getD 0 0) a:=by simp only[eu,c0 cJ,c0 az,c0 aF,c0 bo,c0 dw,c0 gd,c0 gM,c0 hF,c0 qi,bf]
   rw[au];by_cases bj:6<=(P.an k).d.k
   ·have U:=h.aB ((P.an k).bm.getD 0 0) a;obtain⟨aa,af,aP⟩:=h.rg ((P.an k).bm.getD 0 0) a (aw.one (.inr bj)) aE;cases Nat.beq (T ((P.an k).bm.getD 0 0) a).aB 2
    ·exact⟨U,aa,af,aP⟩
    ·exact⟨U,vZ _ _,af,aP⟩
   ·have:=aw.j1;omega
 refine⟨ai.1,ai.2.1,ai.2.2.1,ai.2.2.2,λao=>⟨?_,λbj bl=>absurd bl (Qb bj)⟩⟩;have ag:ef c.ce:=(Cy ai.1).2 ao;rw[<-aN,X6 h.aB Qb]at ag |-;have:=HO h.le h.ge (bw _) ag;rw[<-this]at ag |-;exact P' ag
def iN.set(h:iN P N T){k a:Nat}(ae:k<N)(aE:a<=P.s.size)(aw:td P N k){c:bX}(aN:eu P T k a=c)(ao:c.aB≠0):iN P N (gO T k a c):=by
 obtain⟨HQ,dq,Ye,Yf,HR⟩:=Qa h ae aE aw aN;obtain⟨HR,aip⟩:=HR ao;refine⟨λed a'=>?_,λed a'=>?_,λed a'=>?_,λed a'=>?_,λed a'=>?_⟩
 ·by_cases e:ed=k/\a'=a
  ·obtain⟨rfl,rfl⟩:=e;rw[EK];exact HQ
  ·rw[y2 e];exact h.aB _ _
 ·by_cases e:ed=k/\a'=a
  ·obtain⟨rfl,rfl⟩:=e;rw[EK];exact λ_=>HR
  ·rw[y2 e];exact h.snd _ _
 ·by_cases e:ed=k/\a'=a
  ·obtain⟨rfl,rfl⟩:=e;rw[EK];exact λ_ _ bj bl _=>aip bj bl
  ·rw[y2 e];exact h.qz _ _
 ·by_cases e:ed=k/\a'=a
  ·obtain⟨rfl,rfl⟩:=e;rw[EK];exact λ_ _=>⟨dq,Ye,Yf⟩
  ·rw[y2 e];exact h.rg _ _
 ·intro ab;rw[y2 λe=>ab (by rw[e.1,e.2];exact⟨ae,aE⟩)];exact h.out _ _ ab
def Yg{k a:Nat}(bj:(P.an k).d.k=6)(bl:(P.an k).d.hi=-1):eu P T k a=y1 T k ((P.an k).bm.getD 0 0) (P.an k).d.lo a:=by simp[eu,bj,bl]
def Yh(lo:Int)(c:bX)(h:c.aB=2):(oP lo c).aB≠0:=by
 unfold oP;cases decide ((c.hd:Int)<lo)
 ·rw[bf,h];omega
 ·exact λh=>by cases h
def Yi{k q a:Nat}(h:(T q a).aB=1\/((T q a).aB=2/\(T q a).to≠a/\(T k (T q a).to).aB≠0)):(y1 T k q lo a).aB≠0:=by
 unfold y1;rcases h with h | ⟨U,aa,af⟩
 ·simp only[h];exact Yh _ _ rfl
 ·have ah:Nat.beq (T q a).to a=false:=by rw[yP];exact λe=>aa (cK e)
  have B6:Nat.beq (T k (T q a).to).aB 0=false:=by rw[yP];exact λe=>af (cK e)
  simp only[U,ah,B6];exact Yh _ _ rfl
def aiq(h:iN P N T)(aw:∀ k,k<N->td P N k){a:Nat}(HS:∀ k b,a<b->(T k b).ce=br P k b)(fF:∀ k,k<N->(T k a).aB=0->(eu P T k a).aB=0)(aE:a<=P.s.size)(k:Nat):(T k a).ce=br P k a:=by
 have bn:oO a (br P) (ia T):=aij λk b ah ag=>by
  have az:eC P (br P) k b=eC P (ia T) k b:=HO h.le h.ge (bw _) ag;have ap:br P k b=eC P (ia T) k b:=by rw[<-az];exact P' (by rw[az];exact ag)
  by_cases y3:b=a
  ·subst y3;by_cases ao:(T k b).aB=0
   ·exfalso;by_cases ae:k<N
    ·have aN:=fF k ae ao;by_cases aO:(P.an k).d.k=6/\(P.an k).d.hi=-1
     ·rw[Yg aO.1 aO.2]at aN;rw[sb aO.1,aO.2]at ag;obtain⟨t,to,c,HP,-⟩:=X7 _ _ _ _ ag;generalize ay:(P.an k).bm.getD 0 0=q at HP aN;cases HP with
      |stop U=>
       refine Yi (.inl ?_) aN;rcases se (h.aB q b)with⟨e,bA⟩ | ⟨e,bA⟩ | ⟨e,bA⟩;·simp only[ia,bA,l6]at U;cases U
       ·exact e
       ·simp only[ia,bA]at U;cases U
      |more U bH r=>
       rcases se (h.aB q b)with⟨e,bA⟩ | ⟨e,bA⟩ | ⟨e,bA⟩;·simp only[ia,bA,l6]at U;cases U
       ·simp only[ia,bA,mB]at U;cases U
       ·have g0:=h.dI q b;simp only[ia,bA]at g0 bH r;obtain⟨aV,a3,bW⟩:=g0.ge rfl;simp only at aV a3;refine Yi (.inr ⟨e,bH,λcJ=>?_⟩) aN;have gw:=r.mono h.le h.ge (bw _);have aF:=X8 aO.1 aO.2 (a3 aE) (by rw[ay];exact gw);have bo:=HS k (T q b).to (by omega);have qb:ef (br P k (T q b).to):=by
         rw[aF];cases decide ((_:Int)<(P.an k).d.lo);·exact .inr rfl
         ·exact .inl rfl
        rw[<-bo]at qb;exact(Cy (h.aB _ _)).1 qb cJ
     ·rw[<-X6 h.aB λU aa=>aO ⟨U,aa⟩]at ag;obtain⟨HQ,-⟩:=Qa h ae aE (aw k ae) rfl;exact(Cy HQ).1 ag aN
    ·have:=h.out k b λe=>ae e.1;rw[ap]at this;rw[<-this]at ag;exact(Cy (h.aB _ _)).1 ag ao
   ·show(T k b).ce=_;rw[<-h.snd k b ao];exact ap
  ·show(T k b).ce=_;rw[HS k b (by omega)];exact ap
 by_cases ag:ef (br P k a)
 ·exact bn k a (bY _) ag
 ·by_cases ao:(T k a).aB=0
  ·rw[(sd P k a).zero ag];rcases se (h.aB k a)with⟨e,bA⟩ | ⟨e,bA⟩ | ⟨e,bA⟩
   ·exact bA
   ·omega
   ·omega
  ·exact(h.snd k a ao).symm
def air(h:iN P N T){k a:Nat}(ae:k<N)(aE:a<=P.s.size)(aw:td P N k)(he:(T k a).ce=br P k a)(ao:(T k a).aB=0):(eu P T k a).aB=0:=by obtain⟨HQ,dq,Ye,Yf,HR⟩:=Qa h ae aE aw rfl;refine DU λbH=>?_;have e:=(HR bH).1;rw[<-he]at e;have ag:=(Cy HQ).2 bH;rw[<-e]at ag;exact(Cy (h.aB _ _)).1 ag ao
end
def ais(x:Nat):min (gg x 1) 65537=min (1+(min x 65537+0)) 65537:=by unfold gg;omega
def ja(c:cr):cr:=⟨min c.n 65537,c.to,c.aB⟩
def fg(z:Nat)(m:Nat->Nat->cr)(k p:Nat):cr:=bif Nat.ble p z then ja (m k p)else l6
def n7{m:Nat->Nat->cr}{k p:Nat}(h:p<=z):fg z m k p=ja (m k p):=by unfold fg;rw[Cs h];rfl
def Lw{m:Nat->Nat->cr}{k p:Nat}(h:ef (fg z m k p)):p<=z/\fg z m k p=ja (m k p)/\ef (m k p):=by
 unfold fg at h |-;cases ah:Nat.ble p z with
 |false=>rw[ah]at h;exact absurd h sc| true=>rw[ah]at h;exact⟨b0 ah,rfl,h⟩
def Yj{m:Nat->Nat->cr}(h:oO 0 m m'):Ai (fg z m) (fg z m'):=λk p ag=>by obtain⟨U,aa,af⟩:=Lw ag;rw[aa,n7 U,h k p (bw _) af]
def Yk{P:cQ}{kn fe:Nat->Nat->cr}(bn:Ai kn fe){k pl:Nat}(af:(fe k (pl-P.aW)).aB=3){parts:List (Nat×Nat)}(aD:iE P kn k pl parts){n0:Nat}{dJ:List dF}(tR:hE P kn n0 parts dJ){N:Nat}(ap:mC dJ N)(eG:nX pl (fe k (pl-P.aW)).to dJ)
  (aN:(fe k (pl-P.aW)).n=min ((if(P.an k).d.k=9 then 1 else 0)+N) 65537):∃ n l,hE P fe n [(k,pl)] l/\mC l (fe k (pl-P.aW)).n/\nX pl (fe k (pl-P.aW)).to l:=by
 by_cases ao:(fe k (pl-P.aW)).n=0
 ·exact⟨1,[],.zero af ao .nil,⟨λ_=>ao.symm,λh=>by omega⟩,.nil eG.le⟩
 ·refine⟨n0+1,_,.node af ao (aD.le bn) (l:=dJ) (by rw[dX];exact tR.le bn),?_,?_⟩
  case refine_2=>
   unfold nf;cases decide ((P.an k).d.k=9)with
   |true=>exact .cap eG| false=>exact eG
  rw[aN];refine mC.cut ?_;unfold nf;by_cases fI:(P.an k).d.k=9;·rw[cG fI,fr fI,bh];exact mC.app (l:=[_]) (n:=1) ⟨λ_=>rfl,λh=>by omega⟩ ap
  ·rw[ca fI,c0 fI,bf,dz];exact ap
section
variable{z:Nat}{m:Nat->Nat->cr}(hm:∀ q b,jJ z b (m q b))
include hm
def Yl{P:cQ}(a9:P.s.size=z)(ah:P.aW=0)(k p:Nat):Ah P (P.aW+p) (fg z m k p):=by
 rw[ah,dz];by_cases aD:p<=z
 ·rw[n7 aD];rcases hm k p with e | e | ⟨U,aa,af,aP⟩
  ·rw[e];exact⟨bw _,λh=>(by cases h),λ_=>⟨rfl,rfl⟩⟩
  ·rw[e];exact⟨by show 2<=3;omega,λh=>(by cases h),λ_=>⟨rfl,rfl⟩⟩
  ·refine⟨by show(m k p).aB<=3;omega,λ_=>⟨aa,by rw[a9];exact af aD,Lr _ _⟩,λh=>absurd U h⟩
 ·have:fg z m k p=l6:=by unfold fg;rw[yP.2 λe=>aD (b0 e)];rfl
  rw[this];exact⟨bw _,λh=>(by cases h),λ_=>⟨rfl,rfl⟩⟩
def Ym:∀ (L:List Nat) (a n:Nat),(gE m L a n).aB=3->a<=z->allM (fg z m) 0 L a/\(gE m L a n).to=jr (fg z m) 0 L a/\min (gE m L a n).n 65537=min (n+nd (fg z m) 0 L a) 65537
 |[],a,n,_,_=>⟨trivial,rfl,rfl⟩
 |q::L,a,n,h,aE=>by
  cases af:Nat.beq (m q a).aB 3 with
  |false=>simp only[gE,af,bf]at h;rw[h]at af;cases af| true=>have bo:=cK af;have e:fg z m q (a-0)=ja (m q a):=n7 aE;obtain⟨aV,a3,bW⟩:=(hm q a).ge bo;simp only[gE,af,bh]at h |-;obtain⟨i1,i2,i3⟩:=Ym L _ _ h (a3 aE);simp only[allM,jr,nd,e];have q3:Nat.beq (ja (m q a)).aB 3=true:=af;rw[q3,bh,bh];refine⟨⟨bo,i1⟩,i2,?_⟩;rw[i3];show min (gg n (m q a).n+nd (fg z m) 0 L (m q a).to) 65537=min (n+(min (m q a).n 65537+nd (fg z m) 0 L (m q a).to)) 65537;unfold gg;omega
omit hm in
def Yn:∀ (L:List Nat) (a:Nat),(gL m L a).aB=3->a<=z->ta (fg z m) 0 L a/\∃ q∈L,gL m L a=m q a/\kx (fg z m) 0 L a=bif Nat.beq (ja (m q a)).n 0 then []else [(q,a)]
 |[],a,h,_=>by cases h
 |q::L,a,h,aE=>by
  have e:fg z m q (a-0)=ja (m q a):=n7 aE;cases aa:Nat.beq (m q a).aB 2 with
  |true=>have aF:=cK aa;simp only[gL,aa,bh]at h |-;obtain⟨i1,fN,i2,i3,i4⟩:=Yn L a h aE;have eX:(ja (m q a)).aB=2:=aF;simp only[ta,kx,e,eX,i4];exact⟨.inr ⟨trivial,i1⟩,fN,.tail _ i2,i3,rfl⟩
  |false=>simp only[gL,aa,bf]at h |-;have q3:(ja (m q a)).aB=3:=h;refine⟨.inl (by rw[e];exact q3),q,.head _,rfl,?_⟩;simp only[kx,e,q3];rfl
def Yo{q:Nat}{lo hi:Int}:∀ (j i a n:Nat),(e4 m q lo hi j i a n).aB=3->a<=z->i+j<=1000000->(hi=-1\/((i+j:Nat):Int)=hi)->∃ r,ky (fg z m) 0 q hi i a (ht (fg z m) 0 (List.replicate r q) a)/\allM (fg z m) 0 (List.replicate r q) a /\ (e4 m q lo hi j i a n).to=jr (fg z m) 0 (List.replicate r q) a/\min (e4 m q lo hi j i a n).n 65537=min (n+nd (fg z m) 0 (List.replicate r q) a) 65537
 |0,i,a,n,h,aE,aj,bl=>by
  simp only[e4]at h |-;cases hu:decide (hi=-1)with
  |true=>rw[hu]at h;cases h
  |false=>
   have bH:=cx hu;refine⟨0,.stop ?_,trivial,rfl,rfl⟩;rcases bl with bl | bl;·exact absurd bl bH
   ·rw[<-bl,oo]
 |j+1,i,a,n,h,aE,aj,bl=>by
  have e:fg z m q (a-0)=ja (m q a):=n7 aE;have di:(i:Int)≠hi:=by
   rcases bl with bl | bl<;>omega
  cases aa:Nat.beq (m q a).aB 2 with
  |true=>
   simp only[e4,aa,bh]at h |-;cases ap:decide ((i:Int)<lo)with
   |true=>rw[ap]at h;cases h| false=>exact⟨0,.fail di (by rw[e];exact cK aa),trivial,rfl,rfl⟩
  |false=>
   cases af:Nat.beq (m q a).aB 3 with
   |false=>simp only[e4,aa,af,bf]at h;cases h
   |true=>
    have bo:=cK af;obtain⟨aV,a3,bW⟩:=(hm q a).ge bo;simp only[e4,aa,af,bf,bh]at h |-;cases hu:decide (hi=-1)&&decide ((m q a).to=a)with
    |true=>rw[hu]at h;cases h
    |false=>
     rw[hu,bf]at h;rw[bf];obtain⟨r,i0,i1,i2,i3⟩:=Yo j (i+1) _ _ h (a3 aE) (by omega) (by rcases bl with bl | bl;exact .inl bl;exact .inr (by rw[<-bl];omega));have q3:Nat.beq (ja (m q a)).aB 3=true:=af;refine⟨r+1,?_,?_⟩
     ·have:=ky.more (kn:=fg z m) (aW:=0) (k:=q) (hi:=hi) (t:=i) (a:=a) (by omega) di (by rw[e];exact bo) (by rw[e];exact i0);rw[e]at this;simp only[vR,ht,e,q3,bh];cases HT:Nat.beq (ja (m q a)).n 0<;>rw[HT]at this<;>exact this
     ·simp only[vR,allM,jr,nd,e,q3,bh];refine⟨⟨bo,i1⟩,i2,?_⟩;rw[i3];show min (gg n (m q a).n+nd (fg z m) 0 (List.replicate r q) (m q a).to) 65537=min (n+(min (m q a).n 65537+nd (fg z m) 0 (List.replicate r q) (m q a).to)) 65537;unfold gg;omega
end
structure te(P:cQ)(k:Nat):Prop where
 j1:0<=(P.an k).d.k
 one:(P.an k).d.k=3\/6<=(P.an k).d.k->∃ q,(P.an k).bm=[q]
 lt:(P.an k).d.k<10
 oG:(P.an k).d.k=6->(P.an k).d.hi=-1\/(0<=(P.an k).d.hi/\(P.an k).d.hi<=99)
def ait{P:cQ}(ah:P.aW=0)(a9:P.s.size<=4096)(aw:∀ k,te P k){m:Nat->Nat->cr}(hm:∀ q b,jJ P.s.size b (m q b))(bn:oO 0 m λk a=>eC P m k a)(aA:Aj P (fg P.s.size m)):Aj P (fg P.s.size λk a=>eC P m k a):=by
 intro k p af;obtain⟨aD,he,ag⟩:=Lw (.inr af);rw[he]at af;have af:(eC P m k p).aB=3:=af;have g0:=P7 hm rfl k p;obtain⟨aV,a3,bW⟩:=g0.ge af;have cJ:p=p-P.aW:=by rw[ah];rfl
 have Yp:=Yj (z:=P.s.size) bn;have bb:=Yl hm rfl ah;have kz:=aw k;rw[ah,dz];have zero:(eC P m k p).n=0->∃ n l,hE P (fg P.s.size λk a=>eC P m k a) n [(k,p)] l/\mC l (fg P.s.size (λk a=>eC P m k a) k p).n/\nX p (fg P.s.size (λk a=>eC P m k a) k p).to l:=λao=>by refine⟨1,[],.zero (by rw[<-cJ,he];exact af) (by rw[<-cJ,he];show min (eC P m k p).n 65537=0;omega) .nil,?_,.nil (by rw[he];exact aV)⟩;rw[he];show mC [] (min (eC P m k p).n 65537);rw[ao];exact⟨λ_=>rfl,λh=>by omega⟩
 have many:∀ (L:List Nat),iE P (fg P.s.size m) k p (ht (fg P.s.size m) 0 L p)->allM (fg P.s.size m) 0 L p->(eC P m k p).to=jr (fg P.s.size m) 0 L p->min (eC P m k p).n 65537=min ((if(P.an k).d.k=9 then 1 else 0)+nd (fg P.s.size m) 0 L p) 65537 ->
   ∃ n l,hE P (fg P.s.size λk a=>eC P m k a) n [(k,p)] l/\mC l (fg P.s.size (λk a=>eC P m k a) k p).n/\nX p (fg P.s.size (λk a=>eC P m k a) k p).to l:=λL xo tf aiu aiv=>by
  obtain⟨n0,dJ,js,hO,jG⟩:=W1 bb aA L p (by omega) (by rw[ah];exact tf);rw[ah]at js hO jG;have:=Yk Yp (k:=k) (pl:=p) (by rw[<-cJ,he];exact af) xo js hO (by rw[<-cJ,he];show nX p (eC P m k p).to dJ;rw[aiu];exact jG) (by rw[<-cJ,he];exact aiv);rwa [<-cJ]at this
 rcases Cw (P.an k).d.k with e | e | e | e | e | e | e | e | e | ⟨j1,eJ,cU,hs,l5,Au,Lx,Ly,Lz⟩
 ·refine zero ?_;rw[uH e]
 ·refine zero ?_;rw[uI e];cases P.s.data[p]? with
  |none=>rfl| some b=>cases ah:lf (P.an k).d b.toNat<;>simp[ah,mB]
 ·refine zero ?_;rw[uJ e];cases preB P.s (P.an k).d.t p<;>rfl
 ·obtain⟨q,ay⟩:=kz.one (.inl e);have ma:eC P m k p=m q p:=by rw[uK e,ay];rfl
  have qc:fg P.s.size m q (p-0)=ja (m q p):=n7 aD;rw[ma]at af;have jq:(ja (m q p)).aB=3:=af;refine many [q] ?_ ⟨by rw[qc];exact jq,trivial⟩ ?_ ?_;·unfold iE;rw[ca (by omega),ca (by omega),ay,ah];exact⟨⟨by rw[qc];exact jq,trivial⟩,rfl⟩
  ·rw[ma];simp only[jr,qc,jq];rfl
  ·rw[ma,ca (by omega)];simp only[nd,qc,jq];show min (m q p).n 65537=min (0+(min (m q p).n 65537+0)) 65537;omega
 ·have ma:eC P m k p=gE m (P.an k).bm p 0:=uL e;rw[ma]at af;obtain⟨i1,i2,i3⟩:=Ym hm _ _ _ af aD;refine many (P.an k).bm ?_ i1 (by rw[ma];exact i2) (by rw[ma,i3,ca (by omega)]);unfold iE;rw[ca (by omega),ca (by omega),ah];exact⟨i1,rfl⟩
 ·have ma:eC P m k p=gL m (P.an k).bm p:=uM e;have aiw:=af;rw[ma]at af;obtain⟨i1,q,i2,i3,i4⟩:=Yn _ _ af aD;rw[i3]at af;have qc:fg P.s.size m q p=ja (m q p):=n7 aD;obtain⟨gf,r9,js,hO,jG⟩:=aA q p (by rw[qc];exact af);rw[ah,dz]at js jG;have tR:∃ eV nj,hE P (fg P.s.size m) eV (kx (fg P.s.size m) 0 (P.an k).bm p) nj/\mC nj (ja (m q p)).n/\nX p (m q p).to nj:=by
   rw[i4];rw[qc]at hO jG;cases HT:Nat.beq (ja (m q p)).n 0 with
   |true=>rw[bh];refine⟨0,[],.nil,?_,.nil jG.le⟩;rw[cK HT];exact⟨λ_=>rfl,λh=>by omega⟩| false=>exact⟨gf,r9,js,hO,jG⟩
  obtain⟨eV,nj,i',gw,im⟩:=tR;have aix:iE P (fg P.s.size m) k p (kx (fg P.s.size m) 0 (P.an k).bm p):=by unfold iE;rw[ca (by omega),cG e,ah];exact⟨i1,rfl⟩
  have:=Yk Yp (k:=k) (pl:=p) (by rw[<-cJ,he];exact aiw) aix i' gw (by rw[<-cJ,he];show nX p (eC P m k p).to nj;rw[ma,i3];exact im) (by rw[<-cJ,he,ca (by omega)];show min (eC P m k p).n 65537=min (0+min (m q p).n 65537) 65537;rw[ma,i3];omega);rwa [<-cJ]at this
 ·have ma:=sb (m:=m) (a:=p) e;rw[ma]at af;have q4:=kz.oG e;obtain⟨r,i0,i1,i2,i3⟩:=Yo hm _ _ _ _ af aD (by
    unfold pw;cases hu:decide ((P.an k).d.hi=-1)with
    |true=>rw[bh];omega| false=>rw[bf];have:=cx hu;omega) (by
    unfold pw;rcases q4 with U | U;·exact .inl U
    ·have:¬ (P.an k).d.hi=-1:=by omega
     rw[c0 this,bf];exact .inr (by omega))
  refine many (List.replicate r ((P.an k).bm.getD 0 0)) ?_ i1 (by rw[ma];exact i2) (by rw[ma,i3,ca (by omega)]);unfold iE;rw[cG e,ah];exact i0
 ·refine zero ?_;rw[uN e]at af |-;cases n8:Nat.beq (m ((P.an k).bm.getD 0 0) p).aB 3 with
  |true=>rfl| false=>rw[n8,bf]at af;rw[af]at n8;cases n8
 ·refine zero ?_;rw[uO e]at af |-;cases hL:Nat.beq (m ((P.an k).bm.getD 0 0) p).aB 2 with
  |true=>rfl
  |false=>
   rw[hL,bf]at af;cases n8:Nat.beq (m ((P.an k).bm.getD 0 0) p).aB 3<;>rw[n8]at af<;>cases af
 ·have B9:6<=(P.an k).d.k:=by have:=kz.j1;omega
  obtain⟨q,ay⟩:=kz.one (.inr B9);have ma:=uP (m:=m) (a:=p) j1 eJ cU hs l5 Au Lx Ly Lz;rw[ay]at ma;have qc:fg P.s.size m q (p-0)=ja (m q p):=n7 aD;have Qc:([q]:List Nat).getD 0 0=q:=rfl;rw[Qc]at ma;cases n8:Nat.beq (m q p).aB 3 with
  |false=>rw[ma,n8,bf]at af;rw[af]at n8;cases n8
  |true=>
   rw[n8,bh]at ma;have jq:(ja (m q p)).aB=3:=cK n8;refine many [q] ?_ ⟨by rw[qc];exact jq,trivial⟩ ?_ ?_;·unfold iE;rw[ca (by omega),ca (by omega),ay,ah];exact⟨⟨by rw[qc];exact jq,trivial⟩,rfl⟩
   ·rw[ma];simp only[jr,qc,jq];rfl
   ·rw[ma];have fI:(P.an k).d.k=9:=by have:=kz.lt;omega
    rw[cG fI];simp only[nd,qc,jq];exact ais (m q p).n
noncomputable def cA(P:cQ):Nat->Nat->cr:=fg P.s.size (br P)
def Yq{P:cQ}(ah:P.aW=0)(a9:P.s.size<=4096)(aw:∀ k,te P k):Aj P (cA P):=by
 have step:∀ n,Aj P (fg P.s.size (ff P n)):=λn=>by
  induction n with
  |zero=>intro k p af;obtain⟨-,-,ag⟩:=Lw (.inr af);exact absurd ag sc
  |succ n a7=>exact ait ah a9 aw (Lv P n) (P8 P n) a7
 intro k p af;obtain⟨aD,he,ag⟩:=Lw (.inr af);obtain⟨n,aw⟩:=px ag;have e:fg P.s.size (ff P n) k p=fg P.s.size (br P) k p:=by rw[n7 aD,n7 aD,aw]
 obtain⟨gf,l,js,hO,jG⟩:=step n k p (by rw[e];exact af);rw[e]at hO jG;exact⟨gf,l,js.le (Yj (XZ P n)),hO,jG⟩
def Qd{P:cQ}(ah:P.aW=0)(k p:Nat):Ah P (P.aW+p) (cA P k p):=Yl (sd P) rfl ah k p
structure aiy(P:cQ)(f g:(Nat->Nat->cr)->cr):Prop where
 l:f (br P)=g (br P)
 d:∀ n,ef (f (ff P n))->ef (g (ff P n))
def EL(P:cQ)(A:Nat->Nat->Prop)(f:(Nat->Nat->cr)->cr):Prop:=∀ n,ef (f (ff P n))->∃ k a et,et<=n/\A k a/\ef (ff P et k a)
def LA(P:cQ)(A:Nat->Nat->Prop)(k a:Nat):Prop:=∀ n,ef (ff P n k a)->∃ ed a' et,et<n/\A ed a'/\ef (ff P et ed a')
def EL.to{P:cQ}{f g:(Nat->Nat->cr)->cr}(h:EL P A g)(av:aiy P f g):EL P A f:=λn ag=>h n (av.d n ag)
def LA.le{P:cQ}{k a:Nat}(h:LA P A k a):EL P A λm=>m k a:=λn ag=>by obtain⟨ed,a',et,U,aa,af⟩:=h n ag;exact⟨ed,a',et,Nat.le_of_lt U,aa,af⟩
def LA.none{P:cQ}{k a:Nat}(h:LA P A k a)(h5:∀ x y,¬ A x y):br P k a=l6:=by refine(sd P k a).zero λag=>?_;obtain⟨n,aw⟩:=px ag;rw[<-aw]at ag;obtain⟨x,y,et,U,aa,af⟩:=h n ag;exact h5 x y aa
def EL.none{P:cQ}{k a:Nat}(h:EL P A λm=>m k a)(h5:∀ x y,¬ A x y):br P k a=l6:=by refine(sd P k a).zero λag=>?_;obtain⟨n,aw⟩:=px ag;rw[<-aw]at ag;obtain⟨x,y,et,U,aa,af⟩:=h n ag;exact h5 x y aa
section
end
section
variable{X:c7}{o:Oper}{F:Fr}{C:d'}{I:aR}{M:List aI}{K:gp}
def bs.aiz(aO:c6 X.P X.E)(au:o.op=.convert src dst x)(ag:∀ d,o.dst=some d->d<X.n)
 (av:X.E src=some dh) (cL:dh.bO=.slice e) (he:X.E e=some aG) (mw:aG.bO=.int .u8) (kO:X.E dst=some Lu) (jF:Lu.bO=.string)
 {n:Nat} {l:List UInt8} (ab:bG F x=.val (.slice (some ad) n c)) (aw:l.length=n) (bu:cq I M ad n (l.map λb=>.int .u8 b.toNat))
  (h:K (put o.dst (.val (.string ⟨l.toArray⟩)) F) C I M):bs X o F C I M K:=by
 subst aw;refine⟨λa w Q ⟨β,a4⟩=>?_⟩;obtain⟨ar,cs,T,al,ae,ak,ap⟩:=bu;have aA:=ae.heap a4.holds;obtain⟨d,fy,fz⟩:=(aO _ _ av).fp;have U:d=.slice e:=by rw[cL]at fz;cases d<;>simp_all[fo]
 subst U;obtain⟨d2,Qe,qb⟩:=(aO _ _ he).fp;have aa:d2=.int .u8:=by rw[mw]at qb;cases d2<;>simp_all[fo]
 subst aa;obtain⟨d3,Qf,K2⟩:=(aO _ _ kO).fp;have af:d3=.string:=by rw[jF]at K2;cases d3<;>simp_all[fo]
 subst af;have aN:∀ j (aj:j<l.length),w.cell? (ad.add j)=some (.int .u8 (l[j].toNat:Int)):=by
  intro j aj;rw[eo ad ar,tQ aA];have jS:(l.map λb=>Value.int .u8 b.toNat)[j]?=some (.int .u8 (l[j].toNat:Int)):=by simp[aj]
  rw[<-ak,lp,cG aj,om]at jS;simpa using jS
 have ex:=dk a4.al ab;refine wJ a4 ag (by rw[au];simp) ?_ h;unfold execOp;simp only[au,cy,dc,ex,run_convert_bytes_back w src dst e ad c l fy Qe Qf aN,cc]
end
section
variable{X:c7}{F:Fr}{C:d'}{I:aR}{M:List aI}{o:Oper}{K:gp}
def bs.aiA(aO:c6 X.P X.E)(au:o.op=.convert src dst x)(ag:∀ d,o.dst=some d->d<X.n)
 (av:X.E src=some dh) (cL:dh.bO=.slice e) (he:X.E e=some aG) (mw:aG.bO=.int .u8) (kO:X.E dst=some Lu) (jF:Lu.bO=.string)
 (ab:bG F x=.val (.slice none 0 c))
  (h:K (put o.dst (.val (.string ⟨#[]⟩)) F) C I M):bs X o F C I M K:=by
 refine⟨λa w Q ⟨β,a4⟩=>?_⟩;obtain⟨d,fy,fz⟩:=(aO _ _ av).fp;have U:d=.slice e:=by rw[cL]at fz;cases d<;>simp_all[fo]
 subst U;obtain⟨d2,Qe,qb⟩:=(aO _ _ he).fp;have aa:d2=.int .u8:=by rw[mw]at qb;cases d2<;>simp_all[fo]
 subst aa;obtain⟨d3,Qf,K2⟩:=(aO _ _ kO).fp;have af:d3=.string:=by rw[jF]at K2;cases d3<;>simp_all[fo]
 subst af;have ex:=dk a4.al ab;refine wJ a4 ag (by rw[au];simp) ?_ h;unfold execOp;have e':(convert src dst (.slice none 0 c)).run X.P w=.ok (.string ⟨#[]⟩) w:=by rw[run_convert_bytes_string w src dst e none 0 c fy Qe Qf];rfl
 simp only[au,cy,dc,ex,e',cc]
end
def a0.whole{P:Program}{f:Nat}(post:Value->aR->List aI->Prop)(ar:Spec P f args I M post)(k:∀ v I' M',(∀ b o,I b=some o->I' b=some o)->post v I' M'->K v I' M'):a0 cu P f args I M K:=
 .mk M [] post (by simp) ar λv I' M' U aa=>by rw[dX];exact k v I' M' U aa
def g7.whole{soft:Bool}{P:Program}{f:Nat}(post:Value->aR->List aI->Prop)(ar:Spec P f args I M post)(rJ:∀ v I' M',post v I' M'->∀ x∈M,x∈M')(k:∀ v I' M',(∀ b o,I b=some o->I' b=some o)->post v I' M'->K v I' M'):g7 soft cu P f args I M K:=
 .pV M [] post (by simp) ar rJ λv I' M' U aa=>by rw[dX];exact k v I' M' U aa
def g7.aiB{P:Program}{f:Nat}(post:Value->aR->List aI->Prop)(ar:Spec P f args I M post)(k:∀ v I' M',(∀ b o,I b=some o->I' b=some o)->post v I' M'->K v I' M'):g7 true cu P f args I M K:=
 .UA rfl M [] post (by simp) ar λv I' M' U aa=>by rw[dX];exact k v I' M' U aa
section
variable{X:c7}{β:Nat->Nat}{a:Act}{w:World}{F:Fr}{C:d'}{I:aR}{M:List aI}{o:Oper}{K:gp}
def jP.pz{M':List aI}(h:M=M'):jP cu I M I M':=by subst h;exact .refl
def bs.iH(h:bs X o F C I M λF C I M=>∃ I' M',jP X.cu I M I' M'/\K F C I' M'):bs X o F C I M K:=by obtain⟨h⟩:=h;refine⟨λa w Q a4=>tK ?_ (h a w Q a4)⟩;rintro a' w'⟨eD,C',I',M',⟨β,ai⟩,fE,ey,hw,ae⟩;exact⟨eD,C',fE,ey,⟨β,ai.iH hw⟩,ae⟩
def bs.uS(aO:c6 X.P X.E){t:Nat}(au:o.op=.call { callee:=.builtin .append,args:=#[s,x],argTypes:=#[t,t] })(ag:∀ d,o.dst=some d->d<X.n)
 (av:X.E t=some dh) (cL:dh.bO=.slice e) (he:X.E e=some aG)
  (os:a5) (bb:os.ok aG.size xs) (ar:bG F s=.val os.val)
 {cs:List Value} (ab:bG F x=.val (.slice (some ⟨b9,0,none⟩) 1 c')) (ap:cs.length=aG.size) (U:gU cs=true)
  (a8 post:List aI) (a2:M=⟨b9,.cells cs.toArray e (0,0)⟩::(a8++(os.aL e++post))) (b1:os.n+1<=9223372036854775807) (cb:(os.n+1)*aG.bytes<=140737488355328)
  (k:∀ bV:a5,bV.n=os.n+1->(∀ g,bV.a=some g->I g=none)->bV.ok aG.size (xs++cs)->K (put o.dst (.val bV.val) F) C I (a8++(bV.aL e++post))):bs X o F C I M K:=by
 refine .iH (.U' aO au ag av cL he os bb ar (m:=1) (bU:=cs) ab (by decide) ?_ U (Mr:=⟨b9,.cells cs.toArray e (0,0)⟩::(a8++post)) ?_ (by unfold maxLen;exact b1) cb ?_)
 ·rw[oy];refine⟨rfl,_,_,_,.inr ⟨⟨b9,.cells cs.toArray e (0,0)⟩,by rw[a2];exact .head _,rfl,rfl⟩,?_,ap⟩;simp only[sQ];exact fq (by omega)
 ·rw[a2];have aa:(⟨b9,.cells cs.toArray e (0,0)⟩::(a8++(os.aL e++post)):List aI).Perm (⟨b9,.cells cs.toArray e (0,0)⟩::(os.aL e++(a8++post))):=.cons _ (Ab _ _ _);exact aa.trans qd.symm
 ·intro g c aQ bL fa e6 hC k9;refine⟨I,a8++((⟨some g,os.n+1,c,aQ⟩:a5).aL e++post),.sub (M1:=⟨g,.cells aQ.toArray e (0,0)⟩::(a8++post)) (.cons_cons _ (.cons _ (.refl _))) (.perm ?_ .refl),k ⟨some g,os.n+1,c,aQ⟩ rfl (λdH aA=>by cases aA;exact bL) ⟨?_,(λh=>by cases h),λdH aA=>?_⟩⟩
  ·exact qd.symm
  ·rw[cP,bb.len,ap,ji,oy]
  ·cases aA;exact⟨fa,e6,hC,k9⟩
def bs.Qg(aO:c6 X.P X.E){t:Nat}(au:o.op=.call { callee:=.builtin .append,args:=#[s,x],argTypes:=#[t,t] })(ag:∀ d,o.dst=some d->d<X.n)
 (av:X.E t=some dh) (cL:dh.bO=.slice e) (he:X.E e=some aG)
  (os:a5) (bb:os.ok aG.size xs) (ar:bG F s=.val os.val)
  {sa:Option Addr} {m:Nat} (ab:bG F x=.val (.slice sa m c')) (ap:bU.length=m*aG.size) (aw:0<m->∃ ad,sa=some ad/\cq I M ad (m*aG.size) bU) (U:gU bU=true)
  (a8 post:List aI) (a2:M=a8++(os.aL e++post)) (b1:os.n+m<=9223372036854775807) (cb:(os.n+m)*aG.bytes<=140737488355328)
  (k:∀ bV:a5,bV.n=os.n+m->(0<m->∀ g,bV.a=some g->I g=none)->bV.ok aG.size (xs++bU)->K (put o.dst (.val bV.val) F) C I (a8++(bV.aL e++post))):bs X o F C I M K:=by
 by_cases ao:m=0
 ·subst ao;have nJ:bU=[]:=iT (by simpa using ap);subst nJ;refine .ON aO au ag av cL av (λk=>by rw[cL];simp) he (sa:=os.a.map λg=>⟨g,0,none⟩) (n:=os.n) (c:=os.c) ar ?_ ab (.inl ⟨_,_,rfl⟩) ?_
  ·cases aE:os.a with
   |none=>obtain⟨fa,e6⟩:=bb.nil aE;omega
   |some g=>exact(bb.cap g aE).2.1
  ·have:=k os rfl (λh=>by omega) (by rw[dX];exact bb);rw[a2];exact this
 obtain⟨ad,rfl,bu⟩:=aw (by omega);refine .iH (.U' aO au ag av cL he os bb ar (m:=m) (bU:=bU) ab (by omega) bu U (Mr:=a8++post) ?_ (by unfold maxLen;exact b1) cb ?_)
 ·rw[a2];exact(Ab _ _ _)
 ·intro g c aQ bL fa e6 hC k9;refine⟨I,a8++((⟨some g,os.n+m,c,aQ⟩:a5).aL e++post),.perm ?_ .refl,k ⟨some g,os.n+m,c,aQ⟩ rfl (λ_ dH aA=>by cases aA;exact bL) ⟨?_,(λh=>by cases h),λdH aA=>?_⟩⟩
  ·exact qd.symm
  ·rw[cP,bb.len,ap,ji]
  ·cases aA;exact⟨fa,e6,hC,k9⟩
end
def Yr(a8 mid post:List Value)(k:Nat)(vs:List Value)(h:k+vs.length<=mid.length):bK (a8++(mid++post)) (a8.length+k) vs=a8++(bK mid k vs++post):=by
 unfold bK;have U:(a8++(mid++post)).take (a8.length+k)=a8++mid.take k:=by rw[Hp,Cr,fq (by omega),DT (by omega)]
 have aa:(a8++(mid++post)).drop (a8.length+k+vs.length)=mid.drop (k+vs.length)++post:=by rw[rz,Uy,XU h]
 rw[U,aa];simp
def Qh(f:α->List Value)(size:Nat)(aC:∀ x,(f x).length=size)(l:List α)(i:Nat)(hi:i<l.length)(k:Nat)(vs:List Value)(ae:k+vs.length<=size)(lr:α)(ab:bK (f l[i]) k vs=f lr) :
  bK (l.flatMap f) (i*size+k) vs=(l.set i lr).flatMap f:=by
 have e:l=l.take i++l[i]::l.drop (i+1):=by rw[<-e8 hi,vB]
 have az:l.flatMap f=(l.take i).flatMap f++(f l[i]++(l.drop (i+1)).flatMap f):=by
  calc l.flatMap f=(l.take i++l[i]::l.drop (i+1)).flatMap f:=congrArg _ e
   _=_:=by rw[ku,nG]
 have aF:((l.take i).flatMap f).length=i*size:=by rw[fb f size aC,Lp (by omega)]
 rw[az,<-aF,Yr _ _ _ _ _ (by rw[aC];exact ae),Gr,cG hi,ku,nG,ab]
def aiC{m:Nat}(h:j+vs.length<=m)(hm:m<=aQ.length):(bK aQ j vs).take m=bK (aQ.take m) j vs:=by
 unfold bK;have U:(aQ.take m).take j=aQ.take j:=by rw[vv,pO (by omega)]
 have aa:(aQ.take m).drop (j+vs.length)=(aQ.drop (j+vs.length)).take (m-(j+vs.length)):=by rw[yv]
 have af:(aQ.take j).length=j:=by rw[gr];omega
 rw[U,aa,fA,fA,Hp,af,fq (by omega),Hp,fq (by omega:vs.length<=m-j)];congr 3;omega
def a5.put(f:α->List Value)(size:Nat)(aC:∀ x,(f x).length=size){l:List α}(h:os.ok size (l.flatMap f))(hi:i<l.length)(k:Nat)(ae:k+vs.length<=size)(U:gU vs=true)(lr:α)(ab:bK (f l[i]) k vs=f lr)(a8 post:List aI)(a2:M=a8++(os.aL e++post)){g off:Nat}(aA:os.a=some g)(aiD:off=i*size+k){K:List aI->Prop}
  (fY:∀ (bV:a5),bV.val=os.val->bV.a=os.a->bV.n=os.n->bV.ok size ((l.set i lr).flatMap f)->K (a8++(bV.aL e++post))):cz M ⟨g,off,none⟩ vs K:=by
 have DN:=h.len;rw[fb f size aC]at DN;obtain⟨a,n,c,aQ⟩:=os;have ap:l.length*size=n*size:=DN;simp only at aA;subst aA;obtain⟨fa,e6,hC,k9⟩:=h.cap g rfl;simp only at fa e6 hC k9;have ah:n*size<=c*size:=qs _ e6;have hz:i*size+size<=l.length*size:=by have:=qs size (show i+1<=l.length from hi);rwa [ji,oy]at this
 subst a2;subst aiD;refine cz.mk a8 post aQ.toArray e rfl rfl ?_ U ?_
 ·simp only[vu];omega
 ·have:=fY ⟨some g,n,c,bK aQ (i*size+k) vs⟩ rfl rfl rfl ⟨?_,(λh=>by cases h),λdH aA=>?_⟩
  ·simpa[a5.aL]using this
  ·rw[fb f size aC,uv];exact ap
  ·cases aA;refine⟨?_,e6,hC,?_⟩
   ·simp only[bK,cP,gr,sO];omega
   ·simp only;rw[aiC (by omega) (by omega),k9,Qh f size aC l i hi k vs ae lr ab]
def Ys(l:List Value)(k:Nat)(v:Value)(h:k<l.length):bK l k [v]=l.set k v:=by rw[Gr,cG h];simp[bK]
def a5.HU(f:α->List Value)(size:Nat)(aC:∀ x,(f x).length=size){l:List α}(h:os.ok size (l.flatMap f))(hi:i<l.length)(lr:α)(U:gU (f lr)=true)(a8 post:List aI)(a2:M=a8++(os.aL e++post))(bP:(os.a.map λg=>(⟨g,0,none⟩:Addr))=some ad){K:List aI->Prop}
  (fY:∀ (bV:a5),bV.val=os.val->bV.a=os.a->bV.n=os.n->bV.ok size ((l.set i lr).flatMap f)->K (a8++(bV.aL e++post))):cz M (ad.add (i*size)) (f lr) K:=by
 obtain⟨g,aA,rfl⟩:∃ g,os.a=some g/\ad=⟨g,0,none⟩:=by
  cases aE:os.a with
  |none=>rw[aE]at bP;cases bP| some g=>rw[aE]at bP;cases bP;exact⟨g,rfl,rfl⟩
 rw[eo (⟨g,0,none⟩:Addr) rfl];refine a5.put f size aC h hi 0 (vs:=f lr) (by rw[aC];omega) U lr ?_ a8 post a2 aA (by simp) fY;unfold bK;simp[aC]
def a5.Yt(f:α->List Value)(size:Nat)(aC:∀ x,(f x).length=size){l:List α}(h:os.ok size (l.flatMap f))(hi:i<l.length)(k:Nat)(ae:k+vs.length<=size)(U:gU vs=true)(lr:α)(ab:bK (f l[i]) k vs=f lr)(a8 post:List aI)(a2:M=a8++(os.aL e++post))(bP:(os.a.map λg=>(⟨g,0,none⟩:Addr))=some ad){K:List aI->Prop}
  (fY:∀ (bV:a5),bV.val=os.val->bV.a=os.a->bV.n=os.n->bV.ok size ((l.set i lr).flatMap f)->K (a8++(bV.aL e++post))):cz M ((ad.add (i*size)).add k) vs K:=by
 obtain⟨g,aA,rfl⟩:∃ g,os.a=some g/\ad=⟨g,0,none⟩:=by
  cases aE:os.a with
  |none=>rw[aE]at bP;cases bP| some g=>rw[aE]at bP;cases bP;exact⟨g,rfl,rfl⟩
 rw[eo (⟨g,0,none⟩:Addr) rfl,eo _ rfl];exact a5.put f size aC h hi k ae U lr ab a8 post a2 aA (by simp) fY
open Go Go.Proofs
def cr.cells(c:cr):List Value:=[.int .i32 c.n,.int .i16 c.to,.int .u8 c.aB]
def cr.de(c:cr):c.cells.length=3:=rfl
def s'.cells(f:s'):List Value:=[.int .i32 f.cd,.int .i32 f.pl,.int .i32 f.hd,.int .i32 f.to,.int .i32 f.n]
def s'.de(f:s'):f.cells.length=5:=rfl
structure uT where
 d:aM
 a:Option Addr
 n:Nat
 c:Nat
 bm:List Nat
def uT.cells(x:uT):List Value:=x.d.cells++[.slice x.a x.n x.c]
def uT.de(x:uT):x.cells.length=10:=rfl
structure uT.ok(I:aR)(x:uT):Prop where
 d:x.d.ok I
 bg:dA I x.a x.n x.c 1 8 (x.bm.map λ(k:Nat)=>Value.int .i64 (k:Int))
def uT.pn(x:uT):qW:=⟨x.d,x.bm⟩
structure HV where
 xs:List uT
 a:Option Addr
 n:Nat
 c:Nat
structure HV.ok(I:aR)(x:HV):Prop where
 bg:dA I x.a x.n x.c 10 0 (x.xs.flatMap uT.cells)
 xs:∀ y∈x.xs,y.ok I
def HV.ok.n{x:HV}(h:x.ok I):x.xs.length=x.n:=by have:=h.bg.len;rw[fb _ 10 uT.de]at this;omega
structure dW where
 jE:Nat
 Qi:Nat
 s:ByteArray
 aW:Nat
 eZ:Nat
 ns:HV
def dW.kA(m:dW):cQ:=⟨m.ns.xs.map uT.pn,m.s,m.aW⟩
def dW.w(m:dW):Nat:=m.s.size-m.aW+1
def wrap_i32{x:Int}(U:-2147483648<=x)(aa:x<=2147483647):IntKind.i32.wrap x=x:=by unfold IntKind.wrap;simp only[IntKind.bits,IntKind.signed];simp;omega
def a5.an{f:α->List Value}{size:Nat}(aC:∀ x,(f x).length=size)(ao:0<size){l:List α}(h:os.ok size (l.flatMap f))(a2:∀ x∈os.aL e,x∈M){g:Nat}(aA:os.a=some g)(hi:i<l.length):cq I M ⟨g,i*size,none⟩ size (f l[i]):=by obtain⟨ad,bP,bu⟩:=a5.ok.row (I:=I) (M:=M) (e:=e) aC ao h a2 hi;rw[aA]at bP;cases bP;rwa [eo _ rfl,dz]at bu
structure Yu(os:a5)(bd:List s')(f:s')(g:Nat):Prop where
 a:os.a=some g
 ok:os.ok 5 ((bd++[f]).flatMap s'.cells)
section
end
def aiE{w:Int}(hw:gY w)(k:Nat):decide (IntKind.u64.wrap ((BitVec.ofInt 64 (w.fdiv (2^k)) &&& BitVec.ofInt 64 1).toNat:Int)=1)=w.toNat.testBit k:=by
 obtain⟨n,rfl⟩:=g' hw.1;have aw:n<18446744073709551616:=by have:=hw.2;omega
 have az:((n:Int)).fdiv (2^k)=((n/2^k:Nat):Int):=by rw[GQ _ (by exact Int.le_of_lt (Int.pow_pos (by decide)))];simp
 rw[az];have aF:(BitVec.ofInt 64 ((n/2^k:Nat):Int) &&& BitVec.ofInt 64 1).toNat=n/2^k%2:=by
  have U:BitVec.ofInt 64 ((n/2^k:Nat):Int)=BitVec.ofNat 64 (n/2^k):=(show ∀ m:Nat,BitVec.ofInt 64 (m:Int)=BitVec.ofNat 64 m from λm=>by simp) _;have aa:BitVec.ofInt 64 1=BitVec.ofNat 64 1:=by decide
  rw[U,aa,GU,Ct,Ct];have af:n/2^k%2^64=n/2^k:=HN (Nat.lt_of_le_of_lt (Nat.div_le_self _ _) aw);rw[af,show 1%2^64=1 by decide,Nat.and_one_is_mod]
 rw[aF];have bo:IntKind.u64.wrap ((n/2^k%2:Nat):Int)=((n/2^k%2:Nat):Int):=by have:n/2^k%2<2:=Er _ (by decide);unfold IntKind.wrap;simp only[IntKind.bits,IntKind.signed];simp;omega
 rw[bo,kH,XT,pQ];simp only[e5];omega
def Yv{a b c d:Int}(xd:∀ x∈[a,b,c,d],gY x)(x:UInt8):Spec Tryz.prog 66 [.agg #[.int .u64 a,.int .u64 b,.int .u64 c,.int .u64 d],.int .u8 x.toNat] I M
  λv I' M'=>v=.bool (([a,b,c,d].getD (x.toNat/64) 0).toNat.testBit (x.toNat%64))/\I'=I/\M'=M:=by
 refine b4 [] aU Tryz.func66 rfl rfl rfl ?_;intro B ao;have ab:x.toNat<256:=x.toNat_lt;refine sF.mk (by decide) ?_;refine bc.mk ((x.toNat/64:Nat):Int) (by
  have:((x.toNat:Int)).tdiv 64=((x.toNat/64:Nat):Int):=by simp[Lo]
  rw[this];unfold IntKind.wrap;simp only[IntKind.bits,IntKind.signed];simp;omega) ?_
 have aj:x.toNat/64=0\/x.toNat/64=1\/x.toNat/64=2\/x.toNat/64=3:=by omega
 have yT:((x.toNat:Int)).tmod 64=((x.toNat%64:Nat):Int):=by rw[Int.tmod_eq_emod_of_nonneg (by omega)];simp
 have yA:min (x.toNat%64) 64=x.toNat%64:=by omega
 have fin:∀ w:Int,gY w->Value.bool (decide (IntKind.u64.wrap ((BitVec.ofInt 64 (w.fdiv (2^(min (x.toNat%64) 64))) &&& BitVec.ofInt 64 1).toNat:Int)=1))=.bool (w.toNat.testBit (x.toNat%64)):=λw hw=>by rw[yA,aiE hw]
 rcases aj with e | e | e | e<;>rw[e]
 ·refine ez.mk 0 rfl (by decide) ?_;refine sF.mk (by decide) ?_;refine sG.mk _ yT ?_;exact⟨_,_,.refl,fin a (xd a (by simp)),rfl,rfl⟩
 ·refine ez.mk 1 rfl (by decide) ?_;refine sF.mk (by decide) ?_;refine sG.mk _ yT ?_;exact⟨_,_,.refl,fin b (xd b (by simp)),rfl,rfl⟩
 ·refine ez.mk 2 rfl (by decide) ?_;refine sF.mk (by decide) ?_;refine sG.mk _ yT ?_;exact⟨_,_,.refl,fin c (xd c (by simp)),rfl,rfl⟩
 ·refine ez.mk 3 rfl (by decide) ?_;refine sF.mk (by decide) ?_;refine sG.mk _ yT ?_;exact⟨_,_,.refl,fin d (xd d (by simp)),rfl,rfl⟩
def EM(s t:ByteArray):Bool:=decide (t.size<=s.size)&&decide (s.extract 0 t.size=t)
def aiF(s t:ByteArray):Spec Tryz.prog 228 [.string s,.string t] I M λv I' M'=>v=.bool (EM s t)/\I'=I/\M'=M:=by
 refine b4 [] aU Tryz.func228 rfl rfl rfl ?_;intro B ao;have ag:decide ((t.size:Int)<=(s.size:Int))=decide (t.size<=s.size):=by rw[pQ];simp only[e5];omega
 refine b2.mk (λh=>?_) (λh=>?_)
 ·have be:(t.size:Int)<=(s.size:Int):=bS h;refine jO.mk 0 t.size rfl rfl (bw _) (by omega) ?_;refine⟨_,_,.refl,?_,rfl,rfl⟩;rw[EM,<-ag,show decide ((t.size:Int)<=(s.size:Int))=true from h,p4]
 ·refine⟨_,_,.refl,?_,rfl,rfl⟩;rw[EM,<-ag,show decide ((t.size:Int)<=(s.size:Int))=false from h,w8]
def aiG(s t:ByteArray):Spec Tryz.prog 202 [.string s,.string t] I M λv I' M'=>v=.bool (EM s t)/\I'=I/\M'=M:=by refine b4 [] aU Tryz.func202 rfl rfl rfl ?_;intro B ao;refine a0.whole _ (aiF s t) ?_;rintro v I' M' -⟨rfl,rfl,rfl⟩;exact⟨_,_,.refl,rfl,rfl,rfl⟩
def aiH(s t:ByteArray){a:Nat}(aE:a<=s.size):EM (s.extract a s.size) t=preB s t a:=by
 have U:(s.extract a s.size).size=s.size-a:=by simp[N2]
 unfold EM preB;rw[U];by_cases h:t.size<=s.size-a
 ·have aF:(s.extract a s.size).extract 0 t.size=s.extract a (a+t.size):=by rw[ByteArray.extract_extract];congr 1;omega
  rw[aF,fr h,fr (by omega:a+t.size<=s.size)]
 ·rw[c0 h,c0 (by omega:¬ a+t.size<=s.size)];rfl
def aM.jt(d:aM):aM:=⟨d.k,d.eO,d.s1,d.s2,d.eU,d.t,d.lo,d.hi,none,0,0,[]⟩
def aM.pn(d:aM):qW:=⟨d.jt,d.ax.map Int.toNat⟩
def bX.cells(c:bX):List Value:=[.int .i64 c.n,.int .i32 c.to,.int .u8 c.aB,.int .u8 c.hd]
def bX.val(c:bX):Value:=.agg #[.int .i64 c.n,.int .i32 c.to,.int .u8 c.aB,.int .u8 c.hd]
def bX.de(c:bX):c.cells.length=4:=rfl
structure dr where
 bt:Nat
 s:ByteArray
 nv:Value
 rv:Value
 il:List aM
 na:Option Addr
 nn:Nat
 nc:Nat
 oQ:Option Addr
 g8:Nat
 rows:List Addr
 n0:Nat
 ba:Nat
def dr.w(t:dr):Nat:=t.s.size+1
def dr.P(t:dr):cQ:=⟨t.il.map aM.pn,t.s,0⟩
def dr.cE(t:dr):List Value:=[.string t.s,t.nv,t.rv,.slice t.na t.nn t.nc,.slice t.oQ t.nn t.g8]
def lH(T:Nat->Nat->bX)(k w:Nat):List Value:=(List.range w).flatMap λa=>(T k a).cells
def dr.cs(t:dr)(T:Nat->Nat->bX):List Value:=(List.range (t.nn-t.n0)).flatMap λj=>lH T (t.n0+j) t.w
def dr.aL(t:dr)(T:Nat->Nat->bX):aI:=⟨t.ba,.cells (t.cs T).toArray 106 (0,0)⟩
structure dr.ok(I:aR)(t:dr)(T:Nat->Nat->bX):Prop where
 aB:I t.bt=some (.cells t.cE.toArray 98 (0,0))
 ns:dA I t.na t.nn t.nc 9 96 (t.il.flatMap aM.cells)
 il:∀ y∈t.il,y.ok I
 Qj:∀ y∈t.il,y.t.size<=4096
 HF:∀ y∈t.il,∀ x∈y.ax,0<=x/\x.toNat<t.nn
 rw:dA I t.oQ t.nn t.g8 1 24 (t.rows.map λa=>Value.slice (some a) t.w t.w)
 fk:∀ a∈t.rows,a.spot=none
 dg:∀ k (h:k<t.rows.length),k<t.n0->∃ cs gP al,I t.rows[k].block=some (.cells cs gP al)/\(cs.toList.drop t.rows[k].off).take (t.w*4)=lH T k t.w
 new:∀ k (h:k<t.rows.length),t.n0<=k->t.rows[k]=⟨t.ba,(k-t.n0)*(t.w*4),none⟩
 sz:t.s.size<=4096
 many:t.nn<=4096
def Cz(T:Nat->Nat->bX)(k w:Nat):(lH T k w).length=w*4:=by unfold lH;rw[fb _ 4 λa=>rfl,q0]
def Yw(T:Nat->Nat->bX)(k w:Nat){a:Nat}(aE:a<w):((lH T k w).drop (a*4)).take 4=(T k a).cells:=by unfold lH;rw[yB _ 4 (λa=>rfl) _ a (by rw[q0];exact aE),r2]
def dr.aiI(t:dr)(T:Nat->Nat->bX):(t.cs T).length=(t.nn-t.n0)*(t.w*4):=by unfold dr.cs;rw[fb _ (t.w*4) λj=>Cz T _ t.w,q0]
section
variable{I:aR}{t:dr}{T:Nat->Nat->bX}
def dr.ok.nn(h:t.ok I T):t.il.length=t.nn:=by have:=h.ns.len;rw[fb _ 9 aM.de]at this;omega
def dr.ok.LB(h:t.ok I T):t.rows.length=t.nn:=by have:=h.rw.len;rw[cD]at this;omega
def dr.ok.gm(h:t.ok I T)(aj:j<5):cq I M ((⟨t.bt,0,none⟩:Addr).add j) 1 [t.cE.getD j undef]:=by
 rw[eo _ rfl];refine⟨rfl,_,_,_,.inl h.aB,?_,rfl⟩
 match j,aj with
 |0,_=>rfl| 1,_=>rfl| 2,_=>rfl| 3,_=>rfl| 4,_=>rfl
def dr.ok.an(h:t.ok I T){k:Nat}(ae:k<t.nn):∃ y,y∈t.il/\t.P.an k=y.pn/\y.ok I/\y.t.size<=4096/\(∀ x∈y.ax,0<=x/\x.toNat<t.nn)/\∃ ad,t.na=some ad/\∀ M,cq I M (ad.add (k*9)) 9 y.cells:=by
 have jI:k<t.il.length:=by rw[h.nn];exact ae
 obtain⟨ad,U,aa⟩:=h.ns.row aM.de ae jI;have hm:=cC jI;refine⟨t.il[k],hm,?_,h.il _ hm,h.Qj _ hm,h.HF _ hm,ad,U,aa⟩;simp[cQ.an,dr.P,cS,jI]
def aiJ(h:t.ok I T){k a:Nat}(ae:k<t.nn)(ao:t.n0<=k)(aE:a<t.w):((t.cs T).drop ((k-t.n0)*(t.w*4)+a*4)).take 4=(T k a).cells:=by
 have U:((t.cs T).drop ((k-t.n0)*(t.w*4))).take (t.w*4)=lH T k t.w:=by unfold dr.cs;rw[yB _ (t.w*4) (λj=>Cz T _ t.w) _ (k-t.n0) (by rw[q0];omega),r2,Ac ao]
 rw[<-Yw T k t.w aE,<-U,yv,zJ,vv];congr 1;omega
def dr.ok.row(h:t.ok I T){k:Nat}(ae:k<t.nn):∃ ad,t.oQ=some ad/\∃ r:Addr,r.spot=none/\(∀ M,cq I M (ad.add (k*1)) 1 [.slice (some r) t.w t.w])/\(t.n0<=k->r=⟨t.ba,(k-t.n0)*(t.w*4),none⟩) /\
  ∀ M,(t.n0<t.nn->t.aL T∈M)->∀ a,a<=t.s.size->cq I M (r.add (a*4)) 4 (T k a).cells:=by
 have jI:k<t.rows.length:=by rw[h.LB];exact ae
 obtain⟨ad,U,aa⟩:=h.rw.one ae jI;have cg:=h.fk _ (cC jI);refine⟨ad,U,t.rows[k],cg,aa,h.new k jI,λM a2 a aE=>?_⟩;have sf:a<t.w:=by show a<t.s.size+1;omega
 rw[eo _ cg];by_cases ao:k<t.n0
 ·obtain⟨cs,gP,al,az,aF⟩:=h.dg k jI ao;refine⟨rfl,cs,gP,al,.inl az,?_,rfl⟩;rw[<-Yw T k t.w sf,<-aF,yv,zJ,vv];congr 1;omega
 ·rw[h.new k jI (by omega)];refine⟨rfl,(t.cs T).toArray,106,(0,0),.inr ⟨_,a2 (by omega),rfl,rfl⟩,?_,rfl⟩;exact aiJ h ae (by omega) sf
end
def aiK{x:Int}(U:0<=x)(aa:x<=255):IntKind.u8.wrap x=x:=by unfold IntKind.wrap;simp only[IntKind.bits,IntKind.signed];simp;omega
section
variable{I:aR}{M:List aI}
def Av(a:Nat)(aE:a<=100000):Spec Tryz.prog 201 [.int .i64 a] I M λv I' M'=>v=(py a).val/\I'=I/\M'=M:=by refine b4 [] aU Tryz.func201 rfl rfl rfl ?_;intro B ao;refine bc.mk (a:Int) (wrap_i32 (by omega) (by omega)) ?_;exact⟨_,_,.refl,rfl,rfl,rfl⟩
def LC(a b:Nat)(aE:a<=1099511627776)(ah:b<=1099511627776):Spec Tryz.prog 204 [.int .i64 a,.int .i64 b] I M λv I' M'=>v=.int .i64 (gg a b)/\I'=I/\M'=M:=by refine b4 [] aU Tryz.func204 rfl rfl rfl ?_;intro B ao;refine bc.mk ((a+b:Nat):Int) (fK (by simp) (by omega)) ?_;refine⟨_,_,.refl,?_,rfl,rfl⟩;show Value.int .i64 (min ((a+b:Nat):Int) 1099511627776)=_;rw[show min ((a+b:Nat):Int) 1099511627776=((gg a b:Nat):Int) by unfold gg;omega]
end
structure q5(I:aR)(t:dr)(T:Nat->Nat->bX)(M:List aI)(k a:Nat):Prop where
 ok:t.ok I T
 inv:iN t.P t.nn T
 cd:∀ k,k<t.nn->td t.P t.nn k
 na:∀ k,te t.P k
 aL:t.n0<t.nn->t.aL T∈M
 k:k<t.nn
 a:a<=t.s.size
def q5.rg{t:dr}{T:Nat->Nat->bX}{k a:Nat}(h:q5 I t T M k a){q b:Nat}(ay:q<t.nn)(ah:b<=t.s.size):(T q b).aB<=2/\(T q b).n<=1099511627776/\(T q b).to<=t.s.size/\(T q b).hd<=99:=
 ⟨h.inv.aB q b,h.inv.rg q b ay ah⟩
section
variable{I:aR}{t:dr}{T:Nat->Nat->bX}{M:List aI}{k a:Nat}
def HW(h:q5 I t T M k a){q:Nat}(ay:(t.P.an k).bm=[q]):Spec Tryz.prog 203 [ptr t.bt,.int .i64 k,.int .i64 a] I M λv I' M'=>q<t.nn/\v=(T q a).val/\I'=I/\M'=M:=by
 refine b4 [] aU Tryz.func203 rfl rfl rfl ?_;intro B ao;have au:=h.ok;obtain⟨y,aH,lI,kB,oR,fH,ad,bP,bu⟩:=au.an h.k;have fm:y.ax.map Int.toNat=[q]:=by rw[lI]at ay;exact ay
 obtain⟨x,ab⟩:∃ x,y.ax=[x]:=by
  match ae:y.ax,fm with
  |[x],_=>exact⟨x,rfl⟩
 have fT:=fH x (by rw[ab];exact .head _);have aiL:x.toNat=q:=by rw[ab]at fm;simpa using fm
 have lJ:q<t.nn:=by omega
 have cY:y.kn=1:=by have:=kB.kn;rw[ab]at this;exact this.symm
 obtain⟨eK,fG,e0⟩:=kB.bg.one (f:=λ(k:Int)=>Value.int .i64 k) (j:=0) (by omega) (by rw[ab];exact Cu);have e0:∀ M,cq I M (eK.add (0*1)) 1 [.int .i64 q]:=λM=>by
  have:=e0 M;have e:y.ax[0]'(by rw[ab];exact Cu)=(q:Int):=by simp only[ab];show x=_;omega
  rwa [e]at this
 obtain⟨dU,kC,r,ai,fj,-,kD⟩:=au.row lJ;refine c4.draw aU rfl rfl rfl ?_;refine aK.mk _ (au.gm (j:=4) (by decide)) ?_;refine aK.mk _ (au.gm (j:=3) (by decide)) ?_;refine bk.mk ad k bP rfl h.k ?_;refine aK.mk _ ((bu _).part (k:=8) (m:=1) (by decide)) ?_;refine bk.mk eK 0 fG rfl (by omega) ?_;refine aK.mk _ (e0 _) ?_;refine bk.mk dU q kC rfl lJ ?_;refine aK.mk _ (fj _) ?_;refine bk.mk r a rfl rfl (by show a<t.s.size+1;have:=h.a;omega) ?_;refine aK.mk _ (kD _ h.aL a h.a) ?_;exact⟨_,_,.refl,lJ,rfl,rfl,rfl⟩
def mG(I:aR)(M:List aI)(t:dr)(T:Nat->Nat->bX)(k a:Nat)(v:Value)(I':aR)(M':List aI):Prop:=v=(eu t.P T k a).val/\I'=I/\M'=M
def aiM{P:cQ}(h:(P.an k).d.k=0):eu P T k a=py a:=by simp[eu,h]
def aiN{P:cQ}(h:(P.an k).d.k=1):eu P T k a=match P.s.data[a]? with
  |some b=>bif lf (P.an k).d b.toNat then py (a+1)else xn| none=>xn:=by simp only[eu,h];rfl
def aiO{P:cQ}(h:(P.an k).d.k=2):eu P T k a=bif preB P.s (P.an k).d.t a then py (a+(P.an k).d.t.size)else xn:=by simp[eu,h]
def aiP{P:cQ}(h:(P.an k).d.k=3){q:Nat}(ay:(P.an k).bm=[q]):eu P T k a=T q a:=by simp[eu,h,ay]
def aiQ{P:cQ}(h:(P.an k).d.k=7){q:Nat}(ay:(P.an k).bm=[q]):eu P T k a=bif Nat.beq (T q a).aB 2 then py a else⟨0,0,(T q a).aB,0⟩:=by simp[eu,h,ay]
def aiR{P:cQ}(h:(P.an k).d.k=8){q:Nat}(ay:(P.an k).bm=[q]):eu P T k a=bif Nat.beq (T q a).aB 1 then py a else bif Nat.beq (T q a).aB 2 then xn else hG:=by simp[eu,h,ay]
def aiS{P:cQ}(h:(P.an k).d.k=9){q:Nat}(ay:(P.an k).bm=[q]):eu P T k a=bif Nat.beq (T q a).aB 2 then { T q a with n:=gg (T q a).n 1 }else T q a:=by simp[eu,h,ay]
def mH{x:Nat}{b:Bool}(h:decide ((x:Int)=(j:Int))=b):Nat.beq x j=b:=by
 cases b with
 |true=>
  have:=bS h;obtain rfl:x=j:=by omega
  exact Nat.beq_refl x
 |false=>
  have:=cx h;rw[yP];exact λe=>by have:=cK e;omega
def aiT(h:q5 I t T M k a)(ae:(t.P.an k).d.k=0):Spec Tryz.prog 151 [ptr t.bt,.int .i64 k,.int .i64 a] I M (mG I M t T k a):=by refine b4 [] aU Tryz.func151 rfl rfl rfl ?_;intro B ao;have aE:=h.a;have ar:=h.ok.sz;refine a0.whole _ (Av a (by omega)) ?_;rintro v I' M' -⟨rfl,rfl,rfl⟩;exact⟨_,_,.refl,by rw[aiM ae];rfl,rfl,rfl⟩
def aiU(h:q5 I t T M k a)(ae:(t.P.an k).d.k=3):Spec Tryz.prog 154 [ptr t.bt,.int .i64 k,.int .i64 a] I M (mG I M t T k a):=by obtain⟨q,ay⟩:=(h.na k).one (.inl ae);refine b4 [] aU Tryz.func154 rfl rfl rfl ?_;intro B ao;refine a0.whole _ (HW h ay) ?_;rintro v I' M' -⟨lJ,rfl,rfl,rfl⟩;exact⟨_,_,.refl,by rw[aiP ae ay];rfl,rfl,rfl⟩
def aiV(h:q5 I t T M k a)(ae:(t.P.an k).d.k=7):Spec Tryz.prog 158 [ptr t.bt,.int .i64 k,.int .i64 a] I M (mG I M t T k a):=by
 obtain⟨q,ay⟩:=(h.na k).one (.inr (by omega));have au:=aiQ (T:=T) (a:=a) ae ay;refine b4 [] aU Tryz.func158 rfl rfl rfl ?_;intro B ao;have aE:=h.a;have ar:=h.ok.sz;refine a0.whole _ (HW h ay) ?_;rintro v I' M' -⟨lJ,rfl,rfl,rfl⟩;refine aJ.mk (λe=>?_) (λe=>?_)
 ·rw[mH (j:=2) e,bh]at au;refine a0.whole _ (Av a (by omega)) ?_;rintro v I' M' -⟨rfl,rfl,rfl⟩;exact⟨_,_,.refl,by rw[au];rfl,rfl,rfl⟩
 ·rw[mH (j:=2) e,bf]at au;exact⟨_,_,.refl,by rw[au];rfl,rfl,rfl⟩
def aiW(h:q5 I t T M k a)(ae:(t.P.an k).d.k=8):Spec Tryz.prog 159 [ptr t.bt,.int .i64 k,.int .i64 a] I M (mG I M t T k a):=by
 obtain⟨q,ay⟩:=(h.na k).one (.inr (by omega));have au:=aiR (T:=T) (a:=a) ae ay;refine b4 [] aU Tryz.func159 rfl rfl rfl ?_;intro B ao;have aE:=h.a;have ar:=h.ok.sz;refine a0.whole _ (HW h ay) ?_;rintro v I' M' -⟨lJ,rfl,rfl,rfl⟩;refine aJ.mk (λe=>?_) (λe=>?_)
 ·rw[mH (j:=1) e,bh]at au;refine a0.whole _ (Av a (by omega)) ?_;rintro v I' M' -⟨rfl,rfl,rfl⟩;exact⟨_,_,.refl,by rw[au];rfl,rfl,rfl⟩
 ·rw[mH (j:=1) e,bf]at au;refine aJ.mk (λaF=>?_) (λaF=>?_)
  ·rw[mH (j:=2) aF,bh]at au;exact⟨_,_,.refl,by rw[au];rfl,rfl,rfl⟩
  ·rw[mH (j:=2) aF,bf]at au;exact⟨_,_,.refl,by rw[au];rfl,rfl,rfl⟩
def aiX(h:q5 I t T M k a)(ae:(t.P.an k).d.k=9):Spec Tryz.prog 160 [ptr t.bt,.int .i64 k,.int .i64 a] I M (mG I M t T k a):=by
 obtain⟨q,ay⟩:=(h.na k).one (.inr (by omega));have au:=aiS (T:=T) (a:=a) ae ay;refine b4 [] aU Tryz.func160 rfl rfl rfl ?_;intro B ao;refine a0.whole _ (HW h ay) ?_;rintro v I' M' -⟨lJ,rfl,rfl,rfl⟩;have ai:=h.rg lJ h.a;refine aJ.mk (λe=>?_) (λe=>?_)
 ·rw[mH (j:=2) e,bh]at au;refine a0.whole _ (LC (T q a).n 1 ai.2.1 (by omega)) ?_;rintro v I' M' -⟨rfl,rfl,rfl⟩;exact⟨_,_,.refl,by rw[au];rfl,rfl,rfl⟩
 ·rw[mH (j:=2) e,bf]at au;exact⟨_,_,.refl,by rw[au];rfl,rfl,rfl⟩
def aiY(h:q5 I t T M k a)(ae:(t.P.an k).d.k=1):Spec Tryz.prog 152 [ptr t.bt,.int .i64 k,.int .i64 a] I M (mG I M t T k a):=by
 have au:=aiN (T:=T) (a:=a) ae;refine b4 [] aU Tryz.func152 rfl rfl rfl ?_;intro B ao;have bb:=h.ok;have aE:=h.a;have ar:=bb.sz;obtain⟨y,aH,lI,kB,oR,fH,ad,bP,bu⟩:=bb.an h.k;rw[lI]at au;have lF:t.P.s=t.s:=rfl;rw[lF]at au;have eG:∀ b,lf y.pn.d b=lf y b:=λb=>rfl;refine c4.draw aU rfl rfl rfl ?_;refine aK.mk _ (bb.gm (j:=0) (by decide)) ?_;refine b2.mk (λg=>?_) (λg=>?_)
 ·have aS:a<t.s.size:=by have:(a:Int)<(t.s.size:Int):=bS g;omega
  have az:t.s.data[a]?=some t.s[a]:=F5 aS;rw[az]at au;refine aK.mk _ (bb.gm (j:=3) (by decide)) ?_;refine bk.mk ad k bP rfl h.k ?_;refine aK.mk _ ((bu _).part (k:=1) (m:=4) (by decide)) ?_;refine aK.mk _ (bb.gm (j:=0) (by decide)) ?_;refine ye.mk a rfl aS ?_;refine a0.whole _ (Yv (a:=y.eO) (b:=y.s1) (c:=y.s2) (d:=y.eU) (λz a9=>by
   simp only[eL,OJ,or_false]at a9;rcases a9 with rfl | rfl | rfl | rfl;·exact kB.eO
   ·exact kB.s1
   ·exact kB.s2
   ·exact kB.eU) t.s[a]) ?_
  rintro v I' M' -⟨rfl,rfl,rfl⟩;refine aJ.mk (λaF=>?_) (λaF=>?_);·have bl:lf y t.s[a].toNat=true:=aF;simp only[eG,bl,bh]at au;refine bc.mk ((a+1:Nat):Int) (fK (by simp) (by omega)) ?_;refine a0.whole _ (Av (a+1) (by omega)) ?_;rintro v I' M' -⟨rfl,rfl,rfl⟩;exact⟨_,_,.refl,by rw[au];rfl,rfl,rfl⟩
  ·have bl:lf y t.s[a].toNat=false:=aF;simp only[eG,bl,bf]at au;exact⟨_,_,.refl,by rw[au];rfl,rfl,rfl⟩
 ·have cm:t.s.data.size<=a:=by have:¬ (a:Int)<(t.s.size:Int):=cx g;have aa:t.s.size=t.s.data.size:=rfl;omega
  have az:t.s.data[a]?=none:=Array.getElem?_eq_none cm;rw[az]at au;exact⟨_,_,.refl,by rw[au];rfl,rfl,rfl⟩
def aiZ(h:q5 I t T M k a)(ae:(t.P.an k).d.k=2):Spec Tryz.prog 153 [ptr t.bt,.int .i64 k,.int .i64 a] I M (mG I M t T k a):=by
 have au:=aiO (T:=T) (a:=a) ae;refine b4 [] aU Tryz.func153 rfl rfl rfl ?_;intro B ao;have bb:=h.ok;have aE:=h.a;have ar:=bb.sz;obtain⟨y,aH,lI,kB,oR,fH,ad,bP,bu⟩:=bb.an h.k;rw[lI]at au;have au:eu t.P T k a=bif preB t.s y.t a then py (a+y.t.size)else xn:=au;refine aK.mk _ (bb.gm (j:=3) (by decide)) ?_;refine bk.mk ad k bP rfl h.k ?_;refine aK.mk _ ((bu _).part (k:=5) (m:=1) (by decide)) ?_;refine aK.mk _ (bb.gm (j:=0) (by decide)) ?_;refine jO.mk a t.s.size rfl rfl aE (bY _) ?_;have cg:=aiG (I:=I) (M:=M) (t.s.extract a t.s.size) y.t;rw[aiH _ _ aE]at cg;refine a0.whole _ cg ?_;rintro v I' M' -⟨rfl,rfl,rfl⟩;refine aJ.mk (λaF=>?_) (λaF=>?_)
 ·have bl:preB t.s y.t a=true:=aF;rw[bl,bh]at au;refine bc.mk ((a+y.t.size:Nat):Int) (fK (by simp) (by omega)) ?_;refine a0.whole _ (Av (a+y.t.size) (by omega)) ?_;rintro v I' M' -⟨rfl,rfl,rfl⟩;exact⟨_,_,.refl,by rw[au];rfl,rfl,rfl⟩
 ·have bl:preB t.s y.t a=false:=aF;rw[bl,bf]at au;exact⟨_,_,.refl,by rw[au];rfl,rfl,rfl⟩
end
section
variable{I:aR}{t:dr}{T:Nat->Nat->bX}{M:List aI}{k a:Nat}
def LD{X:Prop}{b:Bool}(h:b=true)(be:b=false):X:=by rw[h]at be;cases be
def EN{x:Nat}{b:Bool}(h:(!decide ((x:Int)=(j:Int)))=b):Nat.beq x j=!b:=by
 have:decide ((x:Int)=(j:Int))=!b:=by rw[<-h,Bool.not_not]
 exact mH this
def ai0(h:q5 I t T M k a)(ae:(t.P.an k).d.k=4):Spec Tryz.prog 155 [ptr t.bt,.int .i64 k,.int .i64 a] I M (mG I M t T k a):=by
 have au:eu t.P T k a=q1 T (t.P.an k).bm a 0:=by simp[eu,ae]
 refine b4 [] aU Tryz.func155 rfl rfl rfl ?_;intro B ao;have bb:=h.ok;have aE:=h.a;have ar:=bb.sz;obtain⟨y,aH,lI,kB,oR,fH,ad,bP,bu⟩:=bb.an h.k;have fm:(t.P.an k).bm=y.ax.map Int.toNat:=by rw[lI];rfl
 rw[fm]at au;have cY:=kB.kn;have ig:=kB.bg.cap.2;refine a0.whole _ (Av a (by omega)) ?_;rintro v I' M' -⟨rfl,rfl,rfl⟩;refine aK.mk _ (bb.gm (j:=3) (by decide)) ?_;refine bk.mk ad k bP rfl h.k ?_;refine aK.mk _ ((bu _).part (k:=8) (m:=1) (by decide)) ?_;refine dG.inv (ι:=Nat×Nat×Nat) (λx=>{ bx:=[(0,.val (ptr t.bt)),(6,.ref 6 0),(7,.ref 7 0),(20,.val (.slice y.iW y.kn y.iz)),(21,.val (.int .i64 y.kn)),(22,.val (.int .i64 x.1))],cl:=[(6,[.int .i64 0,.int .i32 0,.int .u8 0,.int .u8 0]),(7,[.int .i64 x.2.2,.int .i32 x.2.1,.int .u8 2,.int .u8 0])],c2:=I',du:=M' }) (λx=>x.1<=y.kn/\x.2.1<=t.s.size/\x.2.2<=1099511627776/\eu t.P T k a=q1 T ((y.ax.map Int.toNat).drop x.1) x.2.1 x.2.2) (λx=>y.kn-x.1) ?_ ?_
 ·exact⟨(0,a,0),⟨bw _,aE,bw _,au⟩,.refl,km,.cons rfl (.cons rfl (.nil))⟩
 rintro⟨i,to,n⟩⟨hi,mD,aw,fS⟩;simp only at hi mD aw fS;refine aJ.mk (λe=>?_) (λe=>?_)
 ·have aS:i<y.kn:=by simpa using e
  have b':i<y.ax.length:=by omega
  obtain⟨eK,fG,e0⟩:=kB.bg.one (f:=λ(k:Int)=>Value.int .i64 k) aS b';have fT:=fH _ (cC b');obtain⟨q,ay⟩:∃ q:Nat,y.ax[i]=(q:Int):=⟨y.ax[i].toNat,by omega⟩;have lJ:q<t.nn:=by rw[ay]at fT;omega
  have oS:(y.ax.map Int.toNat).drop i=q::(y.ax.map Int.toNat).drop (i+1):=by rw[e8 (by rw[cD];exact b'),lA,ay];rfl
  rw[oS,q1]at fS;rw[ay]at e0;obtain⟨dU,kC,r,ai,fj,-,kD⟩:=bb.row lJ;have y4:=h.rg lJ mD;refine bk.mk eK i fG rfl aS ?_;refine aK.mk _ (e0 _) ?_;refine c4.draw aU rfl rfl rfl ?_;refine aK.mk _ (bb.gm (j:=4) (by decide)) ?_;refine bk.mk dU q kC rfl lJ ?_;refine aK.mk _ (fj _) ?_;refine bk.mk r to rfl rfl (by show to<t.s.size+1;omega) ?_;refine aK.mk _ (kD _ h.aL to mD) ?_;refine cv.mk λqk Yx Yy=>?_;refine cz.mk [] M' _ _ rfl rfl (b0 rfl) rfl ?_;have lK:∀ j,j+1<=4->cq I' (⟨qk,.cells (T q to).cells.toArray 106 (0,0)⟩::M') ((⟨qk,0,none⟩:Addr).add j) 1 (((T q to).cells.drop j).take 1):=λj aj=>ew (.head _) aj;refine aK.mk _ (lK 2 (by decide)) ?_;refine aJ.mk (λaF=>?_) (λaF=>?_);·rw[EN (j:=2) (b:=true) aF,rI,bf]at fS;refine aK.mk _ (lK 2 (by decide)) ?_;exact⟨_,_,.sub (.cons _ (.refl _)) .refl,by rw[fS];rfl,rfl,rfl⟩
  ·rw[EN (j:=2) (b:=false) aF,DX,bh]at fS;refine aK.mk _ (lK 1 (by decide)) ?_;refine aK.mk _ (lK 0 (by decide)) ?_;refine a0.whole _ (LC n (T q to).n aw y4.2.1) ?_;rintro v fE ey -⟨rfl,rfl,rfl⟩;refine bc.mk _ (cF (i:=i) (by omega)) ?_;exact⟨(i+1,(T q to).to,gg n (T q to).n),⟨⟨by simp only;omega,y4.2.2.1,vZ _ _,fS⟩,by simp only;omega⟩,.sub (.cons _ (.refl _)) .refl,km,.cons rfl (.cons rfl (.nil))⟩
 ·have cm:y.kn<=i:=by simpa using e
  have ag:(y.ax.map Int.toNat).drop i=[]:=jT (by rw[cD];omega);rw[ag,q1]at fS;exact⟨_,_,.refl,by rw[fS];rfl,rfl,rfl⟩
def ai1(h:q5 I t T M k a)(ae:(t.P.an k).d.k=5):Spec Tryz.prog 156 [ptr t.bt,.int .i64 k,.int .i64 a] I M (mG I M t T k a):=by
 have au:eu t.P T k a=q2 T (t.P.an k).bm a:=by simp[eu,ae]
 refine b4 [] aU Tryz.func156 rfl rfl rfl ?_;intro B ao;have bb:=h.ok;have aE:=h.a;have ar:=bb.sz;obtain⟨y,aH,lI,kB,oR,fH,ad,bP,bu⟩:=bb.an h.k;have fm:(t.P.an k).bm=y.ax.map Int.toNat:=by rw[lI];rfl
 rw[fm]at au;have cY:=kB.kn;have ig:=kB.bg.cap.2;refine aK.mk _ (bb.gm (j:=3) (by decide)) ?_;refine bk.mk ad k bP rfl h.k ?_;refine aK.mk _ ((bu _).part (k:=8) (m:=1) (by decide)) ?_;refine dG.inv (ι:=Nat) (λx=>{ bx:=[(0,.val (ptr t.bt)),(2,.val (.int .i64 a)),(6,.ref 6 0),(17,.val (.slice y.iW y.kn y.iz)),(18,.val (.int .i64 y.kn)),(19,.val (.int .i64 x))],cl:=[(6,[.int .i64 0,.int .i32 0,.int .u8 0,.int .u8 0])],c2:=I,du:=M }) (λx=>x<=y.kn/\eu t.P T k a=q2 T ((y.ax.map Int.toNat).drop x) a) (λx=>y.kn-x) ?_ ?_
 ·exact⟨0,⟨bw _,au⟩,.refl,km,.cons rfl (.nil)⟩
 rintro i⟨hi,fS⟩;refine aJ.mk (λe=>?_) (λe=>?_)
 ·have aS:i<y.kn:=by simpa using e
  have b':i<y.ax.length:=by omega
  obtain⟨eK,fG,e0⟩:=kB.bg.one (f:=λ(k:Int)=>Value.int .i64 k) aS b';have fT:=fH _ (cC b');obtain⟨q,ay⟩:∃ q:Nat,y.ax[i]=(q:Int):=⟨y.ax[i].toNat,by omega⟩;have lJ:q<t.nn:=by rw[ay]at fT;omega
  have oS:(y.ax.map Int.toNat).drop i=q::(y.ax.map Int.toNat).drop (i+1):=by rw[e8 (by rw[cD];exact b'),lA,ay];rfl
  rw[oS,q2]at fS;rw[ay]at e0;obtain⟨dU,kC,r,ai,fj,-,kD⟩:=bb.row lJ;refine bk.mk eK i fG rfl aS ?_;refine aK.mk _ (e0 _) ?_;refine aK.mk _ (bb.gm (j:=4) (by decide)) ?_;refine bk.mk dU q kC rfl lJ ?_;refine aK.mk _ (fj _) ?_;refine bk.mk r a rfl rfl (by show a<t.s.size+1;omega) ?_;refine aK.mk _ (kD _ h.aL a aE) ?_;refine aJ.mk (λaF=>?_) (λaF=>?_);·rw[EN (j:=1) aF,rI,bf]at fS;exact⟨_,_,.refl,by rw[fS];rfl,rfl,rfl⟩
  ·rw[EN (j:=1) aF,DX,bh]at fS;refine bc.mk _ (cF (i:=i) (by omega)) ?_;exact⟨i+1,⟨⟨by omega,fS⟩,by omega⟩,.refl,km,.cons rfl (.nil)⟩
 ·have cm:y.kn<=i:=by simpa using e
  have ag:(y.ax.map Int.toNat).drop i=[]:=jT (by rw[cD];omega);rw[ag,q2]at fS;exact⟨_,_,.refl,by rw[fS];rfl,rfl,rfl⟩
def ai2(h:q5 I t T M k a)(ae:(t.P.an k).d.k=6)(bl:(t.P.an k).d.hi=-1):Spec Tryz.prog 205 [ptr t.bt,.int .i64 k,.int .i64 a] I M (mG I M t T k a):=by
 obtain⟨q,ay⟩:=(h.na k).one (.inr (by omega));have au:eu t.P T k a=y1 T k q (t.P.an k).d.lo a:=by rw[Yg ae bl,ay];rfl
 have eH:=(h.cd k h.k).oG ae;refine b4 [] aU Tryz.func205 rfl rfl rfl ?_;intro B ao;have bb:=h.ok;have aE:=h.a;have ar:=bb.sz;obtain⟨y,aH,lI,kB,oR,fH,ad,bP,bu⟩:=bb.an h.k;have ap:(t.P.an k).d.lo=y.lo:=by rw[lI];rfl
 rw[ap]at au eH;unfold y1 at au;refine a0.whole _ (Av a (by omega)) ?_;rintro v I' M' -⟨rfl,rfl,rfl⟩;refine a0.whole _ (HW h ay) ?_;rintro v I' M' -⟨lJ,rfl,rfl,rfl⟩;have y4:=h.rg lJ aE;have HX:∀ x:Nat,x<=99->IntKind.i64.wrap (x:Int)=(x:Int):=λx ab=>fK rfl (by omega);refine b2.mk (λg=>?_) (λg=>?_)
 rotate_left
 ·rw[mH (j:=0) (b:=true) g,KZ,bh]at au;exact⟨_,_,.refl,by rw[au];rfl,rfl,rfl⟩
 rw[mH (j:=0) (b:=false) g,wO]at au;refine b2.mk (λa3=>?_) (λa3=>?_)
 ·rw[mH (j:=2) (b:=true) a3,p4]at au;refine bc.mk ((T q a).to:Int) (fK rfl (by omega)) ?_;refine aJ.mk (λbW=>?_) (λbW=>?_)
  ·have CA:Nat.beq (T q a).to a=true:=mH bW;rw[CA,bh]at au;exact⟨_,_,.refl,by rw[au];rfl,rfl,rfl⟩
  have CA:Nat.beq (T q a).to a=false:=mH bW;rw[CA,bf]at au;refine aJ.mk (λe=>?_) (λe=>?_)
  rotate_left
  ·exact LD a3 e
  obtain⟨dU,kC,r,ai,fj,-,kD⟩:=bb.row h.k;have ai3:=h.rg h.k y4.2.2.1;refine c4.draw aU rfl rfl rfl ?_;refine aK.mk _ (bb.gm (j:=4) (by decide)) ?_;refine bk.mk dU k kC rfl h.k ?_;refine aK.mk _ (fj _) ?_;refine bk.mk r (T q a).to rfl rfl (by show _<t.s.size+1;omega) ?_;refine aK.mk _ (kD _ h.aL (T q a).to y4.2.2.1) ?_;refine cv.mk λb9 hD ju=>?_;refine cz.mk [] M' _ _ rfl rfl (b0 rfl) rfl ?_;have lK:∀ j,j+1<=4->cq I' (⟨b9,.cells (T k (T q a).to).cells.toArray 106 (0,0)⟩::M') ((⟨b9,0,none⟩:Addr).add j) 1 (((T k (T q a).to).cells.drop j).take 1):=λj aj=>ew (.head _) aj;refine aK.mk _ (lK 2 (by decide)) ?_;refine aJ.mk (λaF=>?_) (λaF=>?_);·rw[mH (j:=0) aF,bh]at au;exact⟨_,_,.sub (.cons _ (.refl _)) .refl,by rw[au];rfl,rfl,rfl⟩
  rw[mH (j:=0) aF,bf]at au;refine aK.mk _ (lK 1 (by decide)) ?_;refine aK.mk _ (lK 0 (by decide)) ?_;refine a0.whole _ (LC (T q a).n (T k (T q a).to).n y4.2.1 ai3.2.1) ?_;rintro v fE ey -⟨rfl,rfl,rfl⟩;refine aK.mk _ (lK 3 (by decide)) ?_;refine bc.mk (((T k (T q a).to).hd+1:Nat):Int) (by rw[aiK (by omega) (by omega)];simp) ?_;have yA:min (((T k (T q a).to).hd+1:Nat):Int) 99=((min ((T k (T q a).to).hd+1) 99:Nat):Int):=by omega
  refine c4.draw aU rfl rfl rfl ?_;refine bc.mk ((min ((T k (T q a).to).hd+1) 99:Nat):Int) (by show IntKind.i64.wrap (min (((T k (T q a).to).hd+1:Nat):Int) 99)=_;rw[yA];exact HX _ (Lr _ _)) ?_;refine aK.mk _ (bb.gm (j:=3) (by decide)) ?_;refine bk.mk ad k bP rfl h.k ?_;refine aK.mk _ ((bu _).part (k:=6) (m:=1) (by decide)) ?_;refine aJ.mk (λbo=>?_) (λbo=>?_);·have q3:decide (((min ((T k (T q a).to).hd+1) 99:Nat):Int)<y.lo)=true:=bo;rw[oP,q3,bh]at au;refine⟨_,_,.sub (.cons _ (.refl _)) .refl,?_,rfl,rfl⟩;rw[au];show Value.agg #[_,_,_,.int .u8 (min (((T k (T q a).to).hd+1:Nat):Int) 99)]=_;rw[yA];rfl
  ·have q3:decide (((min ((T k (T q a).to).hd+1) 99:Nat):Int)<y.lo)=false:=bo;rw[oP,q3,bf]at au;refine⟨_,_,.sub (.cons _ (.refl _)) .refl,?_,rfl,rfl⟩;rw[au];show Value.agg #[_,_,_,.int .u8 (min (((T k (T q a).to).hd+1:Nat):Int) 99)]=_;rw[yA];rfl
 ·rw[mH (j:=2) (b:=false) a3,w8,bf,bf]at au;refine aJ.mk (λe=>?_) (λe=>?_)
  ·exact LD e a3
  refine c4.draw aU rfl rfl rfl ?_;refine bc.mk (0:Int) (show IntKind.i64.wrap 0=0 by decide) ?_;refine aK.mk _ (bb.gm (j:=3) (by decide)) ?_;refine bk.mk ad k bP rfl h.k ?_;refine aK.mk _ ((bu _).part (k:=6) (m:=1) (by decide)) ?_;refine aJ.mk (λbo=>?_) (λbo=>?_);·have q3:decide ((((py a).hd:Nat):Int)<y.lo)=true:=bo;rw[oP,q3,bh]at au;exact⟨_,_,.refl,by rw[au];rfl,rfl,rfl⟩
  ·have q3:decide ((((py a).hd:Nat):Int)<y.lo)=false:=bo;rw[oP,q3,bf]at au;exact⟨_,_,.refl,by rw[au];rfl,rfl,rfl⟩
def ai4(h:q5 I t T M k a)(ae:(t.P.an k).d.k=6):Spec Tryz.prog 157 [ptr t.bt,.int .i64 k,.int .i64 a] I M (mG I M t T k a):=by
 obtain⟨q,ay⟩:=(h.na k).one (.inr (by omega));have q4:=(h.na k).oG ae;refine b4 [] aU Tryz.func157 rfl rfl rfl ?_;intro B ao;have bb:=h.ok;have aE:=h.a;have ar:=bb.sz;obtain⟨y,aH,lI,kB,oR,fH,ad,bP,bu⟩:=bb.an h.k;have e1:(t.P.an k).d.hi=y.hi:=by rw[lI];rfl
 have eH:(t.P.an k).d.lo=y.lo:=by rw[lI];rfl
 rw[e1]at q4;refine aK.mk _ (bb.gm (j:=3) (by decide)) ?_;refine bk.mk ad k bP rfl h.k ?_;refine aK.mk _ (bu _) ?_;refine aJ.mk (λe=>?_) (λe=>?_)
 ·have bA:y.hi=-1:=bS e;refine a0.whole _ (ai2 h ae (e1.trans bA)) ?_;rintro v I' M' -⟨rfl,rfl,rfl⟩;exact⟨_,_,.refl,rfl,rfl,rfl⟩
 have bA:¬ y.hi=-1:=cx e;have au:eu t.P T k a=qj T q y.lo y.hi.toNat 0 a 0:=by simp[eu,ae,e1,bA,ay,eH]
 have fm:y.ax.map Int.toNat=[q]:=by rw[lI]at ay;exact ay
 obtain⟨x,ab⟩:∃ x,y.ax=[x]:=by
  match ae:y.ax,fm with
  |[x],_=>exact⟨x,rfl⟩
 have fT:=fH x (by rw[ab];exact .head _);have aiL:x.toNat=q:=by rw[ab]at fm;simpa using fm
 have lJ:q<t.nn:=by omega
 have cY:y.kn=1:=by have:=kB.kn;rw[ab]at this;exact this.symm
 obtain⟨eK,fG,e0⟩:=kB.bg.one (f:=λ(k:Int)=>Value.int .i64 k) (j:=0) (by omega) (by rw[ab];exact Cu);have e0:∀ M,cq I M (eK.add (0*1)) 1 [.int .i64 q]:=λM=>by
  have:=e0 M;have e:y.ax[0]'(by rw[ab];exact Cu)=(q:Int):=by simp only[ab];show x=_;omega
  rwa [e]at this
 obtain⟨dU,kC,r,ai,fj,-,kD⟩:=bb.row lJ;refine a0.whole _ (Av a (by omega)) ?_;rintro v I' M' -⟨rfl,rfl,rfl⟩;refine dG.inv (ι:=Nat×Nat×Nat) (λx=>{ bx:=[(0,.val (ptr t.bt)),(6,.ref 6 0),(7,.ref 7 0),(8,.ref 8 0),(9,.val (.int .i64 x.1))],cl:=[(6,[.int .i64 0,.int .i32 0,.int .u8 0,.int .u8 0]),(7,y.cells),(8,[.int .i64 x.2.2,.int .i32 x.2.1,.int .u8 2,.int .u8 0])],c2:=I',du:=M' }) (λx=>x.1<=y.hi.toNat/\x.2.1<=t.s.size/\x.2.2<=1099511627776/\eu t.P T k a=qj T q y.lo (y.hi.toNat-x.1) x.1 x.2.1 x.2.2) (λx=>y.hi.toNat-x.1) ?_ ?_
 ·exact⟨(0,a,0),⟨bw _,aE,bw _,au⟩,.refl,hS,.cons rfl (.cons rfl (.cons rfl (.nil)))⟩
 rintro⟨i,to,n⟩⟨hi,mD,aw,fS⟩;simp only at hi mD aw fS;have y4:=h.rg lJ mD;refine aJ.mk (λaF=>?_) (λaF=>?_)
 ·have aS:(i:Int)<y.hi:=bS aF;obtain⟨j,aj⟩:∃ j,y.hi.toNat-i=j+1:=⟨y.hi.toNat-i-1,by omega⟩;have jS:y.hi.toNat-(i+1)=j:=by omega
  rw[aj,qj]at fS;refine c4.draw aU rfl rfl rfl ?_;refine aK.mk _ (bb.gm (j:=4) (by decide)) ?_;refine bk.mk eK 0 fG rfl (by omega) ?_;refine aK.mk _ (e0 _) ?_;refine bk.mk dU q kC rfl lJ ?_;refine aK.mk _ (fj _) ?_;refine bk.mk r to rfl rfl (by show to<t.s.size+1;omega) ?_;refine aK.mk _ (kD _ h.aL to mD) ?_;refine cv.mk λqk Yx Yy=>?_;refine cz.mk [] M' _ _ rfl rfl (b0 rfl) rfl ?_;have lK:∀ j,j+1<=4->cq I' (⟨qk,.cells (T q to).cells.toArray 106 (0,0)⟩::M') ((⟨qk,0,none⟩:Addr).add j) 1 (((T q to).cells.drop j).take 1):=λj aj=>ew (.head _) aj;refine aK.mk _ (lK 2 (by decide)) ?_;refine b2.mk (λg=>?_) (λg=>?_)
  rotate_left
  ·rw[mH (j:=0) (b:=true) g,KZ,bh]at fS;refine aK.mk _ (lK 2 (by decide)) ?_;exact⟨_,_,.sub (.cons _ (.refl _)) .refl,by rw[fS];rfl,rfl,rfl⟩
  rw[mH (j:=0) (b:=false) g,wO]at fS;refine aK.mk _ (lK 2 (by decide)) ?_;refine b2.mk (λa3=>?_) (λa3=>?_)
  ·rw[mH (j:=1) (b:=true) a3,p4]at fS;refine aJ.mk (λbW=>?_) (λbW=>?_)
   ·have CA:decide ((i:Int)<y.lo)=true:=bW;rw[CA,bh]at fS;refine aK.mk _ (lK 2 (by decide)) ?_;exact⟨_,_,.sub (.cons _ (.refl _)) .refl,by rw[fS];rfl,rfl,rfl⟩
   have CA:decide ((i:Int)<y.lo)=false:=bW;rw[CA,bf,bh]at fS;refine aK.mk _ (lK 2 (by decide)) ?_;refine aJ.mk (λfx=>?_) (λfx=>LD a3 fx);exact⟨_,_,.sub (.cons _ (.refl _)) .refl,by rw[fS];rfl,rfl,rfl⟩
  ·rw[mH (j:=1) (b:=false) a3,w8,bf,bf]at fS;refine aK.mk _ (lK 2 (by decide)) ?_;refine aJ.mk (λfx=>LD fx a3) (λfx=>?_);refine aK.mk _ (lK 1 (by decide)) ?_;refine aK.mk _ (lK 0 (by decide)) ?_;refine a0.whole _ (LC n (T q to).n aw y4.2.1) ?_;rintro v fE ey -⟨rfl,rfl,rfl⟩;refine bc.mk _ (cF (i:=i) (by omega)) ?_;exact⟨(i+1,(T q to).to,gg n (T q to).n),⟨⟨by simp only;omega,y4.2.2.1,vZ _ _,by simp only;rw[jS];exact fS⟩,by simp only;omega⟩,.sub (.cons _ (.refl _)) .refl,hS,.cons rfl (.cons rfl (.cons rfl (.nil)))⟩
 ·have cm:¬ (i:Int)<y.hi:=cx aF;have aj:y.hi.toNat-i=0:=by omega
  rw[aj,qj]at fS;exact⟨_,_,.refl,by rw[fS];rfl,rfl,rfl⟩
end
section
variable{X:c7}{β:Nat->Nat}{F:Fr}{C:d'}{I:aR}{M:List aI}{o:Oper}{K:gp}
def Qk{P:Program}{E:Env}(aO:c6 P E){t:Nat}(av:E t=some dh)(cL:dh.bO=.slice e):P.underlying t=some (.slice e):=by
 obtain⟨hM,mv,kO⟩:=(aO _ _ av).fp;have qL:hM=.slice e:=by rw[cL]at kO;cases hM<;>simp_all[fo]
 rw[mv,qL]
def bs.slice3(aO:c6 X.P X.E){t:Nat}{lo hi mx:Operand}(au:o.op=.slice t x (some lo) (some hi) (some mx))(ag:∀ d,o.dst=some d->d<X.n)
 (av:X.E t=some dh) (cL:dh.bO=.slice e) (he:X.E e=some aG) {ad:Option Addr} {n:Nat} (l h m:Nat) {eJ cU hs:IntKind}
  (ab:bG F x=.val (.slice ad n c)) (eH:bG F lo=.val (.int eJ (l:Nat))) (e1:bG F hi=.val (.int cU (h:Nat))) (g4:bG F mx=.val (.int hs (m:Nat)))
  (U:l<=h) (aa:h<=m) (af:m<=c) (k:K (put o.dst (.val (.slice (if m=l then ad else ad.map (·.add (l*aG.size))) (h-l) (m-l))) F) C I M):bs X o F C I M K:=by
 refine⟨λa w Q ⟨β,a4⟩=>?_⟩;have hu:=Qk aO av cL;refine je (by rw[au];simp) (v:=.slice (if m=l then ad else ad.map (·.add (l*aG.size))) (h-l) (m-l)) (w':=w) ?_ ⟨_,_,_,_,⟨β,cR.put (x:=.val (.slice (if m=l then ad else ad.map (·.add (l*aG.size))) (h-l) (m-l))) a4 ag rfl⟩,k⟩;have ex:=dk a4.al ab;have az:=dk a4.al eH;have aF:=dk a4.al e1;have bo:=dk a4.al g4;simp only[execOp,au,Instr.sliceAt,Instr.slice,Instr.sliceBounds,Instr.sliceBound,ex,cy,run_underlying hu,cc,(aO _ _ he).run_sizeOf,dc,k3,vh,az,aF,bo,o3];rw[cG ⟨by omega,by omega⟩];simp only[dc,cc,kH];rw[cG ⟨by omega,by omega⟩];simp only[dc,cc,kH];rw[cG ⟨by omega,by omega⟩];simp
def bs.lL(aO:c6 X.P X.E){t:Nat}(au:o.op=.call { callee:=.builtin .append,args:=#[s,x],argTypes:=#[t,t] })(ag:∀ d,o.dst=some d->d<X.n)
 (av:X.E t=some dh) (cL:dh.bO=.slice e) (he:X.E e=some aG)
 {g n:Nat} (ar:bG F s=.val (.slice (some ⟨g,0,none⟩) n c)) (aN:aQ.length=c*aG.size)
 {m:Nat} (ab:bG F x=.val (.slice (some ad) m c')) (aw:cq I M ad (m*aG.size) bU) (U:gU bU=true) (rO:n+m<=c)
  (a8 post:List aI) (a2:M=a8++⟨g,.cells aQ.toArray e (0,0)⟩::post)
  (k:K (put o.dst (.val (.slice (some ⟨g,0,none⟩) (n+m) c)) F) C I (a8++⟨g,.cells (bK aQ (n*aG.size) bU).toArray e (0,0)⟩::post)):bs X o F C I M K:=by
 refine⟨λa w Q ⟨β,a4⟩=>?_⟩;have hu:=Qk aO av cL;obtain⟨inf,z,hi,e9,hz,iA,kj⟩:=(aO _ _ he).inf;have aA:w.heap[g]?=some (.cells aQ.toArray e (0,0)):=a4.holds.m ⟨g,.cells aQ.toArray e (0,0)⟩ (by rw[a2];simp);have ap:bU.length=m*aG.size:=by obtain⟨_,_,_,_,_,_,h⟩:=aw;exact h
 have g9:n*aG.size+bU.length<=aQ.length:=by rw[ap,aN,<-ji];exact qs _ rO
 have dT:=run_storeCells_at X.P g (n*aG.size) e bU 0 aQ.toArray w aA (by simpa using g9) (zA U);simp only[oo]at dT;have aC:(Builtin.firstCells aG.size m (.slice (some ad) m c')).run X.P w=.ok bU.toArray w:=by
  obtain⟨cg,cs,T,al,cY,ak,ap⟩:=aw;refine run_firstCells_some (P:=X.P) w aG.size m ad m c' bU ap λj v aj=>?_;rw[eo _ cg,tQ (cY.heap a4.holds)];rw[<-ak,lp]at aj;split at aj;·rw[om]at aj;simpa using aj
  ·cases aj
 have es:=dk a4.al ar;have ex:=dk a4.al ab;refine je (by rw[au];simp) (v:=.slice (some ⟨g,0,none⟩) (n+m) c) (w':=w.setRow g (bK aQ (n*aG.size) bU).toArray) ?_ ⟨_,_,_,_,⟨β,cR.put (x:=.val (.slice (some ⟨g,0,none⟩) (n+m) c)) ?_ ag rfl⟩,k⟩
 ·have e':(Builtin.append_ #[t,t] o.type #[.slice (some ⟨g,0,none⟩) n c,.slice (some ad) m c']).run X.P w=.ok (.slice (some ⟨g,0,none⟩) (n+m) c) (w.setRow g (bK aQ (n*aG.size) bU).toArray):=by rw[<-e9]at aC dT |-;simp[Builtin.append_,Builtin.lenOf,run_underlying hu,sizeOf,typeInfo,hi,rO,aC,Addr.add_lit,dT,bK]
  unfold execOp;simp only[au,resolve,invoke,builtin,cy,dc,cc,sP,dv,jh,es,ex,e']
 ·exact a4.yj a2
end
def bQ(k:Nat):Value:=.int .i64 (k:Int)
def dK(g:Nat)(aQ:List Value):aI:=⟨g,.cells aQ.toArray 3 (0,0)⟩
def HY:List Value:=[151,152,153,154,155,156,157,158,159,160].map λf=>.func (.func f) #[] #[]
def ai5:Spec Tryz.prog 103 [] I M λv I' M'=>v=.agg HY.toArray/\I'=I/\M'=M:=by refine b4 [] aU Tryz.func103 rfl rfl rfl ?_;intro B ao;exact⟨_,_,.refl,rfl,rfl,rfl⟩
def ai6{g:Nat}(a2:dK g aQ∈M){m:Nat}(ai:(aQ.drop i).take (m-i)=(L.drop i).map bQ)(hm:L.length=m)(hi:i<m):cq I M ((⟨g,0,none⟩:Addr).add (i*1)) 1 [bQ (L[i]'(by omega))]:=by
 rw[eo _ rfl];have mI:i<L.length:=by omega
 refine⟨rfl,aQ.toArray,3,(0,0),.inr ⟨_,a2,rfl,rfl⟩,?_,rfl⟩;have e:((aQ.drop i).take (m-i)).take 1=[bQ L[i]]:=by rw[ai,<-Gu,e8 mI,pU,nH];rfl
 rw[vv,pO (by omega)]at e;show(aQ.drop (0+i*1)).take 1=_;rw[dz,iU];exact e
def Ql(h:aQ.take L.length=L.map bQ)(ap:L.length<aQ.length)(k:Nat):(bK aQ (L.length*1) [bQ k]).length=aQ.length/\(bK aQ (L.length*1) [bQ k]).take (L++[k]).length=(L++[k]).map bQ /\
  ∀ i,L.length+1<=i->(bK aQ (L.length*1) [bQ k]).drop i=aQ.drop i:=by
 rw[iU,Ys _ _ _ ap];refine⟨uv,?_,λi hi=>?_⟩
 ·rw[cP,y0,ho (by rw[uv];exact ap),Lq,List.take_set_of_le (bY _),h,fi];rfl
 ·rw[List.drop_set_of_lt (by omega)]
def ai7{D:List Nat}(h:aQ.take D.length=D.map bQ)(ap:D.length+L.length<=aQ.length):(bK aQ (D.length*1) (L.map bQ)).length=aQ.length/\(bK aQ (D.length*1) (L.map bQ)).take (D++L).length=(D++L).map bQ:=by
 rw[iU];unfold bK;rw[h,<-fi];refine⟨?_,?_⟩
 ·simp only[cP,cD,sO];omega
 ·have e:(D++L).length=((D++L).map bQ).length:=by rw[cD]
  rw[e];exact yu
def ai8{t:dr}{T:Nat->Nat->bX}{k a:Nat}(ae:k<t.nn)(ao:t.n0<=k)(aE:a<t.w)(c:bX):bK (t.cs T) ((k-t.n0)*(t.w*4)+a*4) c.cells=t.cs (gO T k a c):=by
 unfold dr.cs;have uz:∀ j,bK (lH T (t.n0+j) t.w) (a*4+0) c.cells=(((List.range t.w).map λb=>(T (t.n0+j) b)).set a c).flatMap bX.cells:=λj=>by
  have:=Qh bX.cells 4 bX.de ((List.range t.w).map λb=>(T (t.n0+j) b)) a (by simpa using aE) 0 c.cells (by rw[bX.de];omega) c (by
   unfold bK;rw[nH,kN,jT (by rw[bX.de,bX.de];omega),dX])
  rw[Eo]at this;exact this
 have az:((List.range (t.nn-t.n0)).flatMap λj=>lH T (t.n0+j) t.w)=(((List.range (t.nn-t.n0)).map λj=>(⟨lH T (t.n0+j) t.w,Cz T _ t.w⟩:{l:List Value // l.length=t.w*4})).flatMap λr=>r.1):=by rw[Eo]
 have b3:(bK (lH T k t.w) (a*4) c.cells).length=t.w*4:=by unfold bK;simp only[cP,gr,sO,Cz,bX.de];omega
 rw[az];have ai9:=Qh (λr:{l:List Value // l.length=t.w*4}=>r.1) (t.w*4) (λr=>r.2) ((List.range (t.nn-t.n0)).map λj=>⟨lH T (t.n0+j) t.w,Cz T _ t.w⟩) (k-t.n0) (by simp;omega) (a*4) c.cells (by rw[bX.de];omega) ⟨bK (lH T k t.w) (a*4) c.cells,b3⟩ (by
  simp only[lA,r2];rw[Ac ao])
 rw[ai9];rw[show((List.range (t.nn-t.n0)).flatMap λj=>lH (gO T k a c) (t.n0+j) t.w)=(((List.range (t.nn-t.n0)).map λj=>(⟨lH (gO T k a c) (t.n0+j) t.w,Cz _ _ t.w⟩:{l:List Value // l.length=t.w*4})).flatMap λr=>r.1) by rw[Eo]];congr 1;refine ys (by simp) λj U aa=>?_;simp only[cD,q0]at aa;rw[lA,r2];by_cases e:k-t.n0=j
 ·subst e;rw[Lq];refine Subtype.ext ?_;simp only;rw[Ac ao];have af:=uz (k-t.n0);rw[Ac ao,oo]at af;rw[af];have aP:lH (gO T k a c) k t.w=((List.range t.w).map λb=>gO T k a c k b).flatMap bX.cells:=by rw[Eo];rfl
  rw[aP];congr 1;refine ys (by simp) λb aV a3=>?_;simp only[cD,q0]at a3;rw[lA,r2];by_cases Ao:a=b;·subst Ao;rw[Lq,EK]
  ·rw[List.getElem_set_ne Ao,lA,r2,y2 λx=>Ao x.2.symm]
 ·rw[List.getElem_set_ne e,lA,r2];refine Subtype.ext ?_;simp only;unfold lH;congr 1;funext b;rw[y2 λx=>e (by omega)]
def dr.ok.tg{t:dr}{T jf:Nat->Nat->bX}(h:t.ok I T)(he:∀ k,k<t.n0->∀ a,jf k a=T k a):t.ok I jf:=by refine { h with dg:=λk ae ao=>?_ };obtain⟨cs,gP,al,U,aa⟩:=h.dg k ae ao;refine⟨cs,gP,al,U,aa.trans ?_⟩;unfold lH;congr 1;funext a;rw[he k ao a]
def nk(g c:Nat){n m:Nat}(h:n=m):tV (.val (.slice (some ⟨g,0,none⟩) n c)) (.val (.slice (some ⟨g,0,none⟩) m c)):=by rw[h];exact .refl
structure LF(I:aR)(t:dr)(gP:Nat->Nat->bX)(fs:List Nat)(a:Nat):Prop where
 ok:t.ok I gP
 inv:iN t.P t.nn gP
 cd:∀ k,k<t.nn->td t.P t.nn k
 na:∀ k,te t.P k
 n0:t.n0<t.nn
 lo:∀ k∈fs,t.n0<=k/\k<t.nn
 a:a<=t.s.size
structure LG where
 T:Nat->Nat->bX
 L:List Nat
 D:List Nat
 cX:List Value
 c3:List Value
structure aja(t:dr)(gP:Nat->Nat->bX)(fs D0:List Nat)(a nA nD:Nat)(x:LG):Prop where
 inv:iN t.P t.nn x.T
 tg:∀ k b,¬ (k∈fs/\b=a)->x.T k b=gP k b
 perm:(x.D++x.L).Perm (D0++fs)
 kn:∀ k∈fs,k∈x.L\/(x.T k a).aB≠0
 sub:∀ k∈x.L,k∈fs
 EO:x.cX.length=nA
 v0:x.cX.take x.L.length=x.L.map bQ
 HZ:x.c3.length=nD
 Aw:x.c3.take x.D.length=x.D.map bQ
structure Qm(t:dr)(gP:Nat->Nat->bX)(fs D0:List Nat)(a nA nD:Nat)(jK:List Nat)(d1 i:Nat)(x:LG):Prop where
 ii:i<=jK.length
 ajb:x.L.length<=i
 inv:iN t.P t.nn x.T
 tg:∀ k b,¬ (k∈fs/\b=a)->x.T k b=gP k b
 perm:(x.D++(x.L++jK.drop i)).Perm (D0++fs)
 kn:∀ k∈fs,k∈x.L\/k∈jK.drop i\/(x.T k a).aB≠0
 sub:∀ k∈x.L,k∈fs
 un:x.D.length=d1->∀ k∈x.L,(eu t.P x.T k a).aB=0
 Yz:x.D.length+x.L.length=d1+i
 ge:d1<=x.D.length
 EO:x.cX.length=nA
 v0:x.cX.take x.L.length=x.L.map bQ
 YA:(x.cX.drop i).take (jK.length-i)=(jK.drop i).map bQ
 HZ:x.c3.length=nD
 Aw:x.c3.take x.D.length=x.D.map bQ
def LF.a8{t:dr}{gP:Nat->Nat->bX}{a:Nat}(h:LF I t gP fs a){T:Nat->Nat->bX}(hi:iN t.P t.nn T)(aN:∀ k b,¬ (k∈fs/\b=a)->T k b=gP k b)(a2:t.aL T∈M){k:Nat}(ae:k∈fs):q5 I t T M k a:=
 ⟨h.ok.tg λq ay b=>aN q b λe=>by have:=(h.lo q e.1).1;omega,hi,h.cd,h.na,λ_=>a2,(h.lo k ae).2,h.a⟩
def ajc(A B C:List α)(k:α):(A++(B++k::C)).Perm (A++[k]++(B++C)):=by rw[fA];exact List.Perm.append_left _ qd
def ajd{t:dr}{gP:Nat->Nat->bX}{D0:List Nat}{a:Nat}(h:LF I t gP fs a){gA gD nA nD:Nat}{cA0 cD0:List Value}(h5:cA0.length=nA)(dE:cD0.length=nD)(v0:cA0.take fs.length=fs.map bQ)(Aw:cD0.take D0.length=D0.map bQ)(asz:fs.length<=nA)(asA:D0.length+fs.length<=nD)(asB:nA<=1048576)(asC:nD<=1048576) :
  Spec Tryz.prog 104 [ptr t.bt,.agg HY.toArray,.slice (some ⟨gA,0,none⟩) fs.length nA,.slice (some ⟨gD,0,none⟩) D0.length nD,.int .i64 a] I [t.aL gP,dK gA cA0,dK gD cD0] λv I' M'=>I'=I /\
   ∃ (T:Nat->Nat->bX) (iZ:List Nat) (cX c3:List Value),iN t.P t.nn T/\(∀ k b,¬ (k∈fs/\b=a)->T k b=gP k b)/\(∀ k∈fs,(T k a).aB=0->(eu t.P T k a).aB=0)/\iZ.Perm (D0++fs)/\cX.length=nA/\c3.length=nD/\c3.take iZ.length=iZ.map bQ /\
    v=.slice (some ⟨gD,0,none⟩) iZ.length nD/\M'=[t.aL T,dK gA cX,dK gD c3]:=by
 refine b4 [] aU Tryz.func104 rfl rfl rfl ?_;intro B ao;refine dG.inv (ι:=LG) (λx=>{ bx:=[(0,.val (ptr t.bt)),(2,.val (.slice (some ⟨gA,0,none⟩) x.L.length nA)),(3,.val (.slice (some ⟨gD,0,none⟩) x.D.length nD)),(4,.val (.int .i64 a)),(6,.ref 6 0)],cl:=[(6,HY)],c2:=I,du:=[t.aL x.T,dK gA x.cX,dK gD x.c3] }) (λx=>aja t gP fs D0 a nA nD x) (λx=>x.L.length) ?_ ?_
 ·exact⟨⟨gP,fs,D0,cA0,cD0⟩,⟨h.inv,λ_ _ _=>rfl,.refl _,λk ae=>.inl ae,λk ae=>ae,h5,v0,dE,Aw⟩,.refl,hS,.cons rfl (.nil)⟩
 rintro⟨O3,jK,uU,aje,ajf⟩dd;have ajg:=dd.perm.length_eq;simp only[cP]at ajg;have asD:jK.length<=nA:=by have U:=congrArg List.length dd.v0;have aa:=dd.EO;simp only[gr,cD]at U aa;omega
 refine jO.mk 0 0 rfl rfl (bY _) (bw _) ?_;refine dG.inv (ι:=Nat×LG) (λx=>{ bx:=[(0,.val (ptr t.bt)),(3,.val (.slice (some ⟨gD,0,none⟩) x.2.D.length nD)),(4,.val (.int .i64 a)),(6,.ref 6 0),(11,.val (.int .i64 uU.length)),(12,.val (.slice (some ⟨gA,0,none⟩) x.2.L.length nA)),(20,.val (.slice (some ⟨gA,0,none⟩) jK.length nA)),(21,.val (.int .i64 jK.length)),(22,.val (.int .i64 x.1))],cl:=[(6,HY)],c2:=I,du:=[t.aL x.2.T,dK gA x.2.cX,dK gD x.2.c3] }) (λx=>Qm t gP fs D0 a nA nD jK uU.length x.1 x.2) (λx=>jK.length-x.1) ?_ ?_
 ·refine⟨(0,⟨O3,[],uU,aje,ajf⟩),⟨bw _,bY _,dd.inv,dd.tg,dd.perm,λk ae=>.inr (dd.kn k ae),λk ae=>(by cases ae),λ_ k ae=>(by cases ae),by simp,bY _,dd.EO,by simp,by simpa using dd.v0,dd.HZ,dd.Aw⟩,.refl,lV,.cons rfl (.nil)⟩
 rintro⟨i,⟨T,L,D,cX,c3⟩⟩bZ;have ajh:=bZ.ii;have aji:=bZ.ajb;have ajj:=bZ.Yz;have YB:=bZ.ge;simp only at ajh aji ajj YB;have H0:cX.length=nA:=bZ.EO;have th:c3.length=nD:=bZ.HZ;refine aJ.mk (λe=>?_) (λe=>?_)
 ·have aS:i<jK.length:=by simpa using e
  obtain⟨k,ae⟩:∃ k,jK[i]=k:=⟨_,rfl⟩;have oS:jK.drop i=k::jK.drop (i+1):=by rw[e8 aS,ae]
  have Eh:k∈fs:=dd.sub k (by rw[<-ae];exact cC aS);have YC:=fun {M:List aI} (a2:dK gA cX∈M)=>ai6 (I:=I) a2 bZ.YA rfl aS;rw[ae]at YC;have q6:=fun {M:List aI} (a2:t.aL T∈M)=>h.a8 bZ.inv bZ.tg a2 Eh;obtain⟨cZ,cY⟩:=h.lo k Eh;have q7:t.ok I T:=(q6 (M:=[t.aL T]) (.head _)).ok;obtain⟨y,aH,lI,kB,oR,fH,ad,bP,bu⟩:=q7.an cY;obtain⟨dU,kC,r,ai,fj,jV,kD⟩:=q7.row cY;have rT:=jV cZ;subst rT;have sf:a<t.w:=by have:=h.a;show a<t.s.size+1;omega
  have Qn:∀ aQ:List Value,aQ.drop (i+1)=cX.drop (i+1)->(aQ.drop (i+1)).take (jK.length-(i+1))=(jK.drop (i+1)).map bQ:=λaQ aN=>by have U:=congrArg (List.drop 1) bZ.YA;rw[<-J5,zJ,yv,zJ]at U;rw[aN,show jK.length-(i+1)=jK.length-i-1 by omega];exact U
  have stay:(eu t.P T k a).aB=0->Qm t gP fs D0 a nA nD jK uU.length (i+1) ⟨T,L++[k],D,bK cX (L.length*1) [bQ k],c3⟩:=λa9=>by
   obtain⟨bC,p6,h'⟩:=Ql (L:=L) (aQ:=cX) bZ.v0 (by show L.length<cX.length;omega) k;have aD:=bZ.perm;simp only[oS]at aD;refine⟨by omega,by simp only[cP,y0];omega,bZ.inv,bZ.tg,?_,λq ay=>?_,λq ay=>?_,λag q ay=>?_,by simp only[cP,y0];omega,YB,bC.trans H0,p6,Qn _ (h' _ (by omega)),th,bZ.Aw⟩;·simp only;rw[fA L [k]];exact aD
   ·rcases bZ.kn q ay with U | U | U
    ·exact .inl (ox _ U)
    ·simp only at U;rw[oS]at U;rcases eL.1 U with rfl | U
     ·exact .inl (tW _ (.head _))
     ·exact .inr (.inl U)
    ·exact .inr (.inr U)
   ·rcases dV.1 ay with U | U
    ·exact bZ.sub q U
    ·rw[gI.1 U];exact Eh
   ·rcases dV.1 ay with U | U
    ·exact bZ.un ag q U
    ·rw[gI.1 U];exact a9
  have done:(eu t.P T k a).aB≠0->Qm t gP fs D0 a nA nD jK uU.length (i+1) ⟨gO T k a (eu t.P T k a),L,D++[k],cX,bK c3 (D.length*1) [bQ k]⟩:=λa9=>by
   obtain⟨bC,p6,h'⟩:=Ql (L:=D) (aQ:=c3) bZ.Aw (by show D.length<c3.length;omega) k;have aD:=bZ.perm;simp only[oS]at aD;refine⟨by omega,by simp only;omega,bZ.inv.set cY h.a (h.cd k cY) rfl a9,λq b ay=>?_,?_,λq ay=>?_,bZ.sub,λag q ay=>?_,by simp only[cP,y0];omega,by simp only[cP,y0];omega,H0,bZ.v0,Qn _ rfl,bC.trans th,p6⟩;·simp only;rw[y2 λx=>ay ⟨by rw[x.1];exact Eh,x.2⟩];exact bZ.tg q b ay
   ·simp only;exact(ajc D L (jK.drop (i+1)) k).symm.trans aD
   ·simp only;by_cases eq:q=k
    ·subst eq;rw[EK];exact .inr (.inr a9)
    ·rw[y2 λx=>eq x.1];rcases bZ.kn q ay with U | U | U
     ·exact .inl U
     ·simp only at U;rw[oS]at U;rcases eL.1 U with U | U
      ·exact absurd U eq
      ·exact .inr (.inl U)
     ·exact .inr (.inr U)
   ·simp only[cP,y0]at ag;omega
  have v3:=ai8 (t:=t) (T:=T) cY cZ sf (eu t.P T k a);have YD:=t.aiI T;have g9:(k-t.n0)*(t.w*4)+a*4+4<=(t.cs T).length:=by rw[YD];have U:(k-t.n0+1)*(t.w*4)<=(t.nn-t.n0)*(t.w*4):=qs _ (by omega);rw[ji,oy]at U;omega
  obtain⟨c,aN⟩:∃ c,eu t.P T k a=c:=⟨_,rfl⟩;rw[aN]at stay done v3;refine bk.mk ⟨gA,0,none⟩ i rfl rfl aS ?_;refine aK.mk _ (YC (.tail _ (.head _))) ?_;refine aK.mk _ (q7.gm (j:=3) (by decide)) ?_;refine bk.mk ad k bP rfl cY ?_;refine aK.mk _ ((bu _).part (k:=0) (m:=1) (by decide)) ?_;have PF:=(h.na k).lt;have YE:=(h.na k).j1;have uV:(t.P.an k).d.k=y.k:=by rw[lI];rfl
  rw[uV]at PF YE;clear lI oS YD Qn bZ dd kB oR fH aH;obtain⟨la,eO,s1,s2,eU,hM,asE,asF,uA,uB,uC,uD⟩:=y;simp only at uV PF YE;have EA:la=0\/la=1\/la=2\/la=3\/la=4\/la=5\/la=6\/la=7\/la=8\/la=9:=by omega
  rcases EA with rfl | rfl | rfl | rfl | rfl | rfl | rfl | rfl | rfl | rfl
  ·refine ez.mk 0 rfl (by decide) ?_;have cg:=aiT (q6 (M:=[t.aL T,dK gA cX,dK gD c3]) (.head _)) uV;unfold mG at cg;rw[aN]at cg;refine a0.whole _ cg ?_;rintro v I' M' -⟨rfl,rfl,rfl⟩;refine aJ.mk (λaF=>?_) (λaF=>?_)
   ·have eX:c.aB=0:=by have:=bS aF;omega
    refine cv.mk λb9 hD ju=>?_;refine bs.lL aU rfl (by simp) (e:=3) rfl rfl rfl (g:=gA) (n:=L.length) (c:=nA) (aQ:=cX) rfl (show cX.length=nA*1 by omega) (ad:=⟨b9,0,none⟩) (m:=1) (c':=1) rfl (bU:=[bQ k]) ⟨rfl,_,_,_,.inr ⟨_,.head _,rfl,rfl⟩,rfl,rfl⟩ rfl (by omega) [_,t.aL T] [dK gD c3] rfl ?_;refine bc.mk _ (cF (i:=i) (by omega)) ?_;have b3:L.length+1=(L++[k]).length:=by simp
    exact⟨(i+1,⟨T,L++[k],D,bK cX (L.length*1) [bQ k],c3⟩),⟨stay eX,by simp only;omega⟩,.sub (.cons _ (.refl _)) .refl,.cons .refl (.cons .refl (.cons .refl (.cons .refl (.cons .refl (.cons (nk gA nA b3) (f')))))),.cons rfl (.nil)⟩
   ·have eX:c.aB≠0:=by have:=cx aF;omega
    refine c4.draw aU rfl rfl rfl ?_;refine aK.mk _ (q7.gm (j:=4) (by decide)) ?_;refine bk.mk dU k kC rfl cY ?_;refine aK.mk _ (fj _) ?_;refine bk.mk ⟨t.ba,(k-t.n0)*(t.w*4),none⟩ a rfl rfl sf ?_;refine cz.jl [] [dK gA cX,dK gD c3] (t.cs T) _ rfl (by rw[nW];exact g9) rfl (t.cs (gO T k a c)) v3 ?_;refine cv.mk λb9 hD ju=>?_;refine bs.lL aU rfl (by simp) (e:=3) rfl rfl rfl (g:=gD) (n:=D.length) (c:=nD) (aQ:=c3) rfl (show c3.length=nD*1 by omega) (ad:=⟨b9,0,none⟩) (m:=1) (c':=1) rfl (bU:=[bQ k]) ⟨rfl,_,_,_,.inr ⟨_,.head _,rfl,rfl⟩,rfl,rfl⟩ rfl (by omega) [_,t.aL (gO T k a c),dK gA cX] [] rfl ?_;refine bc.mk _ (cF (i:=i) (by omega)) ?_;have b3:D.length+1=(D++[k]).length:=by simp
    exact⟨(i+1,⟨gO T k a c,L,D++[k],cX,bK c3 (D.length*1) [bQ k]⟩),⟨done eX,by simp only;omega⟩,.sub (.cons _ (.refl _)) .refl,.cons .refl (.cons (nk gD nD b3) (ko)),.cons rfl (.nil)⟩
  ·refine ez.mk 1 rfl (by decide) ?_;have cg:=aiY (q6 (M:=[t.aL T,dK gA cX,dK gD c3]) (.head _)) uV;unfold mG at cg;rw[aN]at cg;refine a0.whole _ cg ?_;rintro v I' M' -⟨rfl,rfl,rfl⟩;refine aJ.mk (λaF=>?_) (λaF=>?_)
   ·have eX:c.aB=0:=by have:=bS aF;omega
    refine cv.mk λb9 hD ju=>?_;refine bs.lL aU rfl (by simp) (e:=3) rfl rfl rfl (g:=gA) (n:=L.length) (c:=nA) (aQ:=cX) rfl (show cX.length=nA*1 by omega) (ad:=⟨b9,0,none⟩) (m:=1) (c':=1) rfl (bU:=[bQ k]) ⟨rfl,_,_,_,.inr ⟨_,.head _,rfl,rfl⟩,rfl,rfl⟩ rfl (by omega) [_,t.aL T] [dK gD c3] rfl ?_;refine bc.mk _ (cF (i:=i) (by omega)) ?_;have b3:L.length+1=(L++[k]).length:=by simp
    exact⟨(i+1,⟨T,L++[k],D,bK cX (L.length*1) [bQ k],c3⟩),⟨stay eX,by simp only;omega⟩,.sub (.cons _ (.refl _)) .refl,.cons .refl (.cons .refl (.cons .refl (.cons .refl (.cons .refl (.cons (nk gA nA b3) (f')))))),.cons rfl (.nil)⟩
   ·have eX:c.aB≠0:=by have:=cx aF;omega
    refine c4.draw aU rfl rfl rfl ?_;refine aK.mk _ (q7.gm (j:=4) (by decide)) ?_;refine bk.mk dU k kC rfl cY ?_;refine aK.mk _ (fj _) ?_;refine bk.mk ⟨t.ba,(k-t.n0)*(t.w*4),none⟩ a rfl rfl sf ?_;refine cz.jl [] [dK gA cX,dK gD c3] (t.cs T) _ rfl (by rw[nW];exact g9) rfl (t.cs (gO T k a c)) v3 ?_;refine cv.mk λb9 hD ju=>?_;refine bs.lL aU rfl (by simp) (e:=3) rfl rfl rfl (g:=gD) (n:=D.length) (c:=nD) (aQ:=c3) rfl (show c3.length=nD*1 by omega) (ad:=⟨b9,0,none⟩) (m:=1) (c':=1) rfl (bU:=[bQ k]) ⟨rfl,_,_,_,.inr ⟨_,.head _,rfl,rfl⟩,rfl,rfl⟩ rfl (by omega) [_,t.aL (gO T k a c),dK gA cX] [] rfl ?_;refine bc.mk _ (cF (i:=i) (by omega)) ?_;have b3:D.length+1=(D++[k]).length:=by simp
    exact⟨(i+1,⟨gO T k a c,L,D++[k],cX,bK c3 (D.length*1) [bQ k]⟩),⟨done eX,by simp only;omega⟩,.sub (.cons _ (.refl _)) .refl,.cons .refl (.cons (nk gD nD b3) (ko)),.cons rfl (.nil)⟩
  ·refine ez.mk 2 rfl (by decide) ?_;have cg:=aiZ (q6 (M:=[t.aL T,dK gA cX,dK gD c3]) (.head _)) uV;unfold mG at cg;rw[aN]at cg;refine a0.whole _ cg ?_;rintro v I' M' -⟨rfl,rfl,rfl⟩;refine aJ.mk (λaF=>?_) (λaF=>?_)
   ·have eX:c.aB=0:=by have:=bS aF;omega
    refine cv.mk λb9 hD ju=>?_;refine bs.lL aU rfl (by simp) (e:=3) rfl rfl rfl (g:=gA) (n:=L.length) (c:=nA) (aQ:=cX) rfl (show cX.length=nA*1 by omega) (ad:=⟨b9,0,none⟩) (m:=1) (c':=1) rfl (bU:=[bQ k]) ⟨rfl,_,_,_,.inr ⟨_,.head _,rfl,rfl⟩,rfl,rfl⟩ rfl (by omega) [_,t.aL T] [dK gD c3] rfl ?_;refine bc.mk _ (cF (i:=i) (by omega)) ?_;have b3:L.length+1=(L++[k]).length:=by simp
    exact⟨(i+1,⟨T,L++[k],D,bK cX (L.length*1) [bQ k],c3⟩),⟨stay eX,by simp only;omega⟩,.sub (.cons _ (.refl _)) .refl,.cons .refl (.cons .refl (.cons .refl (.cons .refl (.cons .refl (.cons (nk gA nA b3) (f')))))),.cons rfl (.nil)⟩
   ·have eX:c.aB≠0:=by have:=cx aF;omega
    refine c4.draw aU rfl rfl rfl ?_;refine aK.mk _ (q7.gm (j:=4) (by decide)) ?_;refine bk.mk dU k kC rfl cY ?_;refine aK.mk _ (fj _) ?_;refine bk.mk ⟨t.ba,(k-t.n0)*(t.w*4),none⟩ a rfl rfl sf ?_;refine cz.jl [] [dK gA cX,dK gD c3] (t.cs T) _ rfl (by rw[nW];exact g9) rfl (t.cs (gO T k a c)) v3 ?_;refine cv.mk λb9 hD ju=>?_;refine bs.lL aU rfl (by simp) (e:=3) rfl rfl rfl (g:=gD) (n:=D.length) (c:=nD) (aQ:=c3) rfl (show c3.length=nD*1 by omega) (ad:=⟨b9,0,none⟩) (m:=1) (c':=1) rfl (bU:=[bQ k]) ⟨rfl,_,_,_,.inr ⟨_,.head _,rfl,rfl⟩,rfl,rfl⟩ rfl (by omega) [_,t.aL (gO T k a c),dK gA cX] [] rfl ?_;refine bc.mk _ (cF (i:=i) (by omega)) ?_;have b3:D.length+1=(D++[k]).length:=by simp
    exact⟨(i+1,⟨gO T k a c,L,D++[k],cX,bK c3 (D.length*1) [bQ k]⟩),⟨done eX,by simp only;omega⟩,.sub (.cons _ (.refl _)) .refl,.cons .refl (.cons (nk gD nD b3) (ko)),.cons rfl (.nil)⟩
  ·refine ez.mk 3 rfl (by decide) ?_;have cg:=aiU (q6 (M:=[t.aL T,dK gA cX,dK gD c3]) (.head _)) uV;unfold mG at cg;rw[aN]at cg;refine a0.whole _ cg ?_;rintro v I' M' -⟨rfl,rfl,rfl⟩;refine aJ.mk (λaF=>?_) (λaF=>?_)
   ·have eX:c.aB=0:=by have:=bS aF;omega
    refine cv.mk λb9 hD ju=>?_;refine bs.lL aU rfl (by simp) (e:=3) rfl rfl rfl (g:=gA) (n:=L.length) (c:=nA) (aQ:=cX) rfl (show cX.length=nA*1 by omega) (ad:=⟨b9,0,none⟩) (m:=1) (c':=1) rfl (bU:=[bQ k]) ⟨rfl,_,_,_,.inr ⟨_,.head _,rfl,rfl⟩,rfl,rfl⟩ rfl (by omega) [_,t.aL T] [dK gD c3] rfl ?_;refine bc.mk _ (cF (i:=i) (by omega)) ?_;have b3:L.length+1=(L++[k]).length:=by simp
    exact⟨(i+1,⟨T,L++[k],D,bK cX (L.length*1) [bQ k],c3⟩),⟨stay eX,by simp only;omega⟩,.sub (.cons _ (.refl _)) .refl,.cons .refl (.cons .refl (.cons .refl (.cons .refl (.cons .refl (.cons (nk gA nA b3) (f')))))),.cons rfl (.nil)⟩
   ·have eX:c.aB≠0:=by have:=cx aF;omega
    refine c4.draw aU rfl rfl rfl ?_;refine aK.mk _ (q7.gm (j:=4) (by decide)) ?_;refine bk.mk dU k kC rfl cY ?_;refine aK.mk _ (fj _) ?_;refine bk.mk ⟨t.ba,(k-t.n0)*(t.w*4),none⟩ a rfl rfl sf ?_;refine cz.jl [] [dK gA cX,dK gD c3] (t.cs T) _ rfl (by rw[nW];exact g9) rfl (t.cs (gO T k a c)) v3 ?_;refine cv.mk λb9 hD ju=>?_;refine bs.lL aU rfl (by simp) (e:=3) rfl rfl rfl (g:=gD) (n:=D.length) (c:=nD) (aQ:=c3) rfl (show c3.length=nD*1 by omega) (ad:=⟨b9,0,none⟩) (m:=1) (c':=1) rfl (bU:=[bQ k]) ⟨rfl,_,_,_,.inr ⟨_,.head _,rfl,rfl⟩,rfl,rfl⟩ rfl (by omega) [_,t.aL (gO T k a c),dK gA cX] [] rfl ?_;refine bc.mk _ (cF (i:=i) (by omega)) ?_;have b3:D.length+1=(D++[k]).length:=by simp
    exact⟨(i+1,⟨gO T k a c,L,D++[k],cX,bK c3 (D.length*1) [bQ k]⟩),⟨done eX,by simp only;omega⟩,.sub (.cons _ (.refl _)) .refl,.cons .refl (.cons (nk gD nD b3) (ko)),.cons rfl (.nil)⟩
  ·refine ez.mk 4 rfl (by decide) ?_;have cg:=ai0 (q6 (M:=[t.aL T,dK gA cX,dK gD c3]) (.head _)) uV;unfold mG at cg;rw[aN]at cg;refine a0.whole _ cg ?_;rintro v I' M' -⟨rfl,rfl,rfl⟩;refine aJ.mk (λaF=>?_) (λaF=>?_)
   ·have eX:c.aB=0:=by have:=bS aF;omega
    refine cv.mk λb9 hD ju=>?_;refine bs.lL aU rfl (by simp) (e:=3) rfl rfl rfl (g:=gA) (n:=L.length) (c:=nA) (aQ:=cX) rfl (show cX.length=nA*1 by omega) (ad:=⟨b9,0,none⟩) (m:=1) (c':=1) rfl (bU:=[bQ k]) ⟨rfl,_,_,_,.inr ⟨_,.head _,rfl,rfl⟩,rfl,rfl⟩ rfl (by omega) [_,t.aL T] [dK gD c3] rfl ?_;refine bc.mk _ (cF (i:=i) (by omega)) ?_;have b3:L.length+1=(L++[k]).length:=by simp
    exact⟨(i+1,⟨T,L++[k],D,bK cX (L.length*1) [bQ k],c3⟩),⟨stay eX,by simp only;omega⟩,.sub (.cons _ (.refl _)) .refl,.cons .refl (.cons .refl (.cons .refl (.cons .refl (.cons .refl (.cons (nk gA nA b3) (f')))))),.cons rfl (.nil)⟩
   ·have eX:c.aB≠0:=by have:=cx aF;omega
    refine c4.draw aU rfl rfl rfl ?_;refine aK.mk _ (q7.gm (j:=4) (by decide)) ?_;refine bk.mk dU k kC rfl cY ?_;refine aK.mk _ (fj _) ?_;refine bk.mk ⟨t.ba,(k-t.n0)*(t.w*4),none⟩ a rfl rfl sf ?_;refine cz.jl [] [dK gA cX,dK gD c3] (t.cs T) _ rfl (by rw[nW];exact g9) rfl (t.cs (gO T k a c)) v3 ?_;refine cv.mk λb9 hD ju=>?_;refine bs.lL aU rfl (by simp) (e:=3) rfl rfl rfl (g:=gD) (n:=D.length) (c:=nD) (aQ:=c3) rfl (show c3.length=nD*1 by omega) (ad:=⟨b9,0,none⟩) (m:=1) (c':=1) rfl (bU:=[bQ k]) ⟨rfl,_,_,_,.inr ⟨_,.head _,rfl,rfl⟩,rfl,rfl⟩ rfl (by omega) [_,t.aL (gO T k a c),dK gA cX] [] rfl ?_;refine bc.mk _ (cF (i:=i) (by omega)) ?_;have b3:D.length+1=(D++[k]).length:=by simp
    exact⟨(i+1,⟨gO T k a c,L,D++[k],cX,bK c3 (D.length*1) [bQ k]⟩),⟨done eX,by simp only;omega⟩,.sub (.cons _ (.refl _)) .refl,.cons .refl (.cons (nk gD nD b3) (ko)),.cons rfl (.nil)⟩
  ·refine ez.mk 5 rfl (by decide) ?_;have cg:=ai1 (q6 (M:=[t.aL T,dK gA cX,dK gD c3]) (.head _)) uV;unfold mG at cg;rw[aN]at cg;refine a0.whole _ cg ?_;rintro v I' M' -⟨rfl,rfl,rfl⟩;refine aJ.mk (λaF=>?_) (λaF=>?_)
   ·have eX:c.aB=0:=by have:=bS aF;omega
    refine cv.mk λb9 hD ju=>?_;refine bs.lL aU rfl (by simp) (e:=3) rfl rfl rfl (g:=gA) (n:=L.length) (c:=nA) (aQ:=cX) rfl (show cX.length=nA*1 by omega) (ad:=⟨b9,0,none⟩) (m:=1) (c':=1) rfl (bU:=[bQ k]) ⟨rfl,_,_,_,.inr ⟨_,.head _,rfl,rfl⟩,rfl,rfl⟩ rfl (by omega) [_,t.aL T] [dK gD c3] rfl ?_;refine bc.mk _ (cF (i:=i) (by omega)) ?_;have b3:L.length+1=(L++[k]).length:=by simp
    exact⟨(i+1,⟨T,L++[k],D,bK cX (L.length*1) [bQ k],c3⟩),⟨stay eX,by simp only;omega⟩,.sub (.cons _ (.refl _)) .refl,.cons .refl (.cons .refl (.cons .refl (.cons .refl (.cons .refl (.cons (nk gA nA b3) (f')))))),.cons rfl (.nil)⟩
   ·have eX:c.aB≠0:=by have:=cx aF;omega
    refine c4.draw aU rfl rfl rfl ?_;refine aK.mk _ (q7.gm (j:=4) (by decide)) ?_;refine bk.mk dU k kC rfl cY ?_;refine aK.mk _ (fj _) ?_;refine bk.mk ⟨t.ba,(k-t.n0)*(t.w*4),none⟩ a rfl rfl sf ?_;refine cz.jl [] [dK gA cX,dK gD c3] (t.cs T) _ rfl (by rw[nW];exact g9) rfl (t.cs (gO T k a c)) v3 ?_;refine cv.mk λb9 hD ju=>?_;refine bs.lL aU rfl (by simp) (e:=3) rfl rfl rfl (g:=gD) (n:=D.length) (c:=nD) (aQ:=c3) rfl (show c3.length=nD*1 by omega) (ad:=⟨b9,0,none⟩) (m:=1) (c':=1) rfl (bU:=[bQ k]) ⟨rfl,_,_,_,.inr ⟨_,.head _,rfl,rfl⟩,rfl,rfl⟩ rfl (by omega) [_,t.aL (gO T k a c),dK gA cX] [] rfl ?_;refine bc.mk _ (cF (i:=i) (by omega)) ?_;have b3:D.length+1=(D++[k]).length:=by simp
    exact⟨(i+1,⟨gO T k a c,L,D++[k],cX,bK c3 (D.length*1) [bQ k]⟩),⟨done eX,by simp only;omega⟩,.sub (.cons _ (.refl _)) .refl,.cons .refl (.cons (nk gD nD b3) (ko)),.cons rfl (.nil)⟩
  ·refine ez.mk 6 rfl (by decide) ?_;have cg:=ai4 (q6 (M:=[t.aL T,dK gA cX,dK gD c3]) (.head _)) uV;unfold mG at cg;rw[aN]at cg;refine a0.whole _ cg ?_;rintro v I' M' -⟨rfl,rfl,rfl⟩;refine aJ.mk (λaF=>?_) (λaF=>?_)
   ·have eX:c.aB=0:=by have:=bS aF;omega
    refine cv.mk λb9 hD ju=>?_;refine bs.lL aU rfl (by simp) (e:=3) rfl rfl rfl (g:=gA) (n:=L.length) (c:=nA) (aQ:=cX) rfl (show cX.length=nA*1 by omega) (ad:=⟨b9,0,none⟩) (m:=1) (c':=1) rfl (bU:=[bQ k]) ⟨rfl,_,_,_,.inr ⟨_,.head _,rfl,rfl⟩,rfl,rfl⟩ rfl (by omega) [_,t.aL T] [dK gD c3] rfl ?_;refine bc.mk _ (cF (i:=i) (by omega)) ?_;have b3:L.length+1=(L++[k]).length:=by simp
    exact⟨(i+1,⟨T,L++[k],D,bK cX (L.length*1) [bQ k],c3⟩),⟨stay eX,by simp only;omega⟩,.sub (.cons _ (.refl _)) .refl,.cons .refl (.cons .refl (.cons .refl (.cons .refl (.cons .refl (.cons (nk gA nA b3) (f')))))),.cons rfl (.nil)⟩
   ·have eX:c.aB≠0:=by have:=cx aF;omega
    refine c4.draw aU rfl rfl rfl ?_;refine aK.mk _ (q7.gm (j:=4) (by decide)) ?_;refine bk.mk dU k kC rfl cY ?_;refine aK.mk _ (fj _) ?_;refine bk.mk ⟨t.ba,(k-t.n0)*(t.w*4),none⟩ a rfl rfl sf ?_;refine cz.jl [] [dK gA cX,dK gD c3] (t.cs T) _ rfl (by rw[nW];exact g9) rfl (t.cs (gO T k a c)) v3 ?_;refine cv.mk λb9 hD ju=>?_;refine bs.lL aU rfl (by simp) (e:=3) rfl rfl rfl (g:=gD) (n:=D.length) (c:=nD) (aQ:=c3) rfl (show c3.length=nD*1 by omega) (ad:=⟨b9,0,none⟩) (m:=1) (c':=1) rfl (bU:=[bQ k]) ⟨rfl,_,_,_,.inr ⟨_,.head _,rfl,rfl⟩,rfl,rfl⟩ rfl (by omega) [_,t.aL (gO T k a c),dK gA cX] [] rfl ?_;refine bc.mk _ (cF (i:=i) (by omega)) ?_;have b3:D.length+1=(D++[k]).length:=by simp
    exact⟨(i+1,⟨gO T k a c,L,D++[k],cX,bK c3 (D.length*1) [bQ k]⟩),⟨done eX,by simp only;omega⟩,.sub (.cons _ (.refl _)) .refl,.cons .refl (.cons (nk gD nD b3) (ko)),.cons rfl (.nil)⟩
  ·refine ez.mk 7 rfl (by decide) ?_;have cg:=aiV (q6 (M:=[t.aL T,dK gA cX,dK gD c3]) (.head _)) uV;unfold mG at cg;rw[aN]at cg;refine a0.whole _ cg ?_;rintro v I' M' -⟨rfl,rfl,rfl⟩;refine aJ.mk (λaF=>?_) (λaF=>?_)
   ·have eX:c.aB=0:=by have:=bS aF;omega
    refine cv.mk λb9 hD ju=>?_;refine bs.lL aU rfl (by simp) (e:=3) rfl rfl rfl (g:=gA) (n:=L.length) (c:=nA) (aQ:=cX) rfl (show cX.length=nA*1 by omega) (ad:=⟨b9,0,none⟩) (m:=1) (c':=1) rfl (bU:=[bQ k]) ⟨rfl,_,_,_,.inr ⟨_,.head _,rfl,rfl⟩,rfl,rfl⟩ rfl (by omega) [_,t.aL T] [dK gD c3] rfl ?_;refine bc.mk _ (cF (i:=i) (by omega)) ?_;have b3:L.length+1=(L++[k]).length:=by simp
    exact⟨(i+1,⟨T,L++[k],D,bK cX (L.length*1) [bQ k],c3⟩),⟨stay eX,by simp only;omega⟩,.sub (.cons _ (.refl _)) .refl,.cons .refl (.cons .refl (.cons .refl (.cons .refl (.cons .refl (.cons (nk gA nA b3) (f')))))),.cons rfl (.nil)⟩
   ·have eX:c.aB≠0:=by have:=cx aF;omega
    refine c4.draw aU rfl rfl rfl ?_;refine aK.mk _ (q7.gm (j:=4) (by decide)) ?_;refine bk.mk dU k kC rfl cY ?_;refine aK.mk _ (fj _) ?_;refine bk.mk ⟨t.ba,(k-t.n0)*(t.w*4),none⟩ a rfl rfl sf ?_;refine cz.jl [] [dK gA cX,dK gD c3] (t.cs T) _ rfl (by rw[nW];exact g9) rfl (t.cs (gO T k a c)) v3 ?_;refine cv.mk λb9 hD ju=>?_;refine bs.lL aU rfl (by simp) (e:=3) rfl rfl rfl (g:=gD) (n:=D.length) (c:=nD) (aQ:=c3) rfl (show c3.length=nD*1 by omega) (ad:=⟨b9,0,none⟩) (m:=1) (c':=1) rfl (bU:=[bQ k]) ⟨rfl,_,_,_,.inr ⟨_,.head _,rfl,rfl⟩,rfl,rfl⟩ rfl (by omega) [_,t.aL (gO T k a c),dK gA cX] [] rfl ?_;refine bc.mk _ (cF (i:=i) (by omega)) ?_;have b3:D.length+1=(D++[k]).length:=by simp
    exact⟨(i+1,⟨gO T k a c,L,D++[k],cX,bK c3 (D.length*1) [bQ k]⟩),⟨done eX,by simp only;omega⟩,.sub (.cons _ (.refl _)) .refl,.cons .refl (.cons (nk gD nD b3) (ko)),.cons rfl (.nil)⟩
  ·refine ez.mk 8 rfl (by decide) ?_;have cg:=aiW (q6 (M:=[t.aL T,dK gA cX,dK gD c3]) (.head _)) uV;unfold mG at cg;rw[aN]at cg;refine a0.whole _ cg ?_;rintro v I' M' -⟨rfl,rfl,rfl⟩;refine aJ.mk (λaF=>?_) (λaF=>?_)
   ·have eX:c.aB=0:=by have:=bS aF;omega
    refine cv.mk λb9 hD ju=>?_;refine bs.lL aU rfl (by simp) (e:=3) rfl rfl rfl (g:=gA) (n:=L.length) (c:=nA) (aQ:=cX) rfl (show cX.length=nA*1 by omega) (ad:=⟨b9,0,none⟩) (m:=1) (c':=1) rfl (bU:=[bQ k]) ⟨rfl,_,_,_,.inr ⟨_,.head _,rfl,rfl⟩,rfl,rfl⟩ rfl (by omega) [_,t.aL T] [dK gD c3] rfl ?_;refine bc.mk _ (cF (i:=i) (by omega)) ?_;have b3:L.length+1=(L++[k]).length:=by simp
    exact⟨(i+1,⟨T,L++[k],D,bK cX (L.length*1) [bQ k],c3⟩),⟨stay eX,by simp only;omega⟩,.sub (.cons _ (.refl _)) .refl,.cons .refl (.cons .refl (.cons .refl (.cons .refl (.cons .refl (.cons (nk gA nA b3) (f')))))),.cons rfl (.nil)⟩
   ·have eX:c.aB≠0:=by have:=cx aF;omega
    refine c4.draw aU rfl rfl rfl ?_;refine aK.mk _ (q7.gm (j:=4) (by decide)) ?_;refine bk.mk dU k kC rfl cY ?_;refine aK.mk _ (fj _) ?_;refine bk.mk ⟨t.ba,(k-t.n0)*(t.w*4),none⟩ a rfl rfl sf ?_;refine cz.jl [] [dK gA cX,dK gD c3] (t.cs T) _ rfl (by rw[nW];exact g9) rfl (t.cs (gO T k a c)) v3 ?_;refine cv.mk λb9 hD ju=>?_;refine bs.lL aU rfl (by simp) (e:=3) rfl rfl rfl (g:=gD) (n:=D.length) (c:=nD) (aQ:=c3) rfl (show c3.length=nD*1 by omega) (ad:=⟨b9,0,none⟩) (m:=1) (c':=1) rfl (bU:=[bQ k]) ⟨rfl,_,_,_,.inr ⟨_,.head _,rfl,rfl⟩,rfl,rfl⟩ rfl (by omega) [_,t.aL (gO T k a c),dK gA cX] [] rfl ?_;refine bc.mk _ (cF (i:=i) (by omega)) ?_;have b3:D.length+1=(D++[k]).length:=by simp
    exact⟨(i+1,⟨gO T k a c,L,D++[k],cX,bK c3 (D.length*1) [bQ k]⟩),⟨done eX,by simp only;omega⟩,.sub (.cons _ (.refl _)) .refl,.cons .refl (.cons (nk gD nD b3) (ko)),.cons rfl (.nil)⟩
  ·refine ez.mk 9 rfl (by decide) ?_;have cg:=aiX (q6 (M:=[t.aL T,dK gA cX,dK gD c3]) (.head _)) uV;unfold mG at cg;rw[aN]at cg;refine a0.whole _ cg ?_;rintro v I' M' -⟨rfl,rfl,rfl⟩;refine aJ.mk (λaF=>?_) (λaF=>?_)
   ·have eX:c.aB=0:=by have:=bS aF;omega
    refine cv.mk λb9 hD ju=>?_;refine bs.lL aU rfl (by simp) (e:=3) rfl rfl rfl (g:=gA) (n:=L.length) (c:=nA) (aQ:=cX) rfl (show cX.length=nA*1 by omega) (ad:=⟨b9,0,none⟩) (m:=1) (c':=1) rfl (bU:=[bQ k]) ⟨rfl,_,_,_,.inr ⟨_,.head _,rfl,rfl⟩,rfl,rfl⟩ rfl (by omega) [_,t.aL T] [dK gD c3] rfl ?_;refine bc.mk _ (cF (i:=i) (by omega)) ?_;have b3:L.length+1=(L++[k]).length:=by simp
    exact⟨(i+1,⟨T,L++[k],D,bK cX (L.length*1) [bQ k],c3⟩),⟨stay eX,by simp only;omega⟩,.sub (.cons _ (.refl _)) .refl,.cons .refl (.cons .refl (.cons .refl (.cons .refl (.cons .refl (.cons (nk gA nA b3) (f')))))),.cons rfl (.nil)⟩
   ·have eX:c.aB≠0:=by have:=cx aF;omega
    refine c4.draw aU rfl rfl rfl ?_;refine aK.mk _ (q7.gm (j:=4) (by decide)) ?_;refine bk.mk dU k kC rfl cY ?_;refine aK.mk _ (fj _) ?_;refine bk.mk ⟨t.ba,(k-t.n0)*(t.w*4),none⟩ a rfl rfl sf ?_;refine cz.jl [] [dK gA cX,dK gD c3] (t.cs T) _ rfl (by rw[nW];exact g9) rfl (t.cs (gO T k a c)) v3 ?_;refine cv.mk λb9 hD ju=>?_;refine bs.lL aU rfl (by simp) (e:=3) rfl rfl rfl (g:=gD) (n:=D.length) (c:=nD) (aQ:=c3) rfl (show c3.length=nD*1 by omega) (ad:=⟨b9,0,none⟩) (m:=1) (c':=1) rfl (bU:=[bQ k]) ⟨rfl,_,_,_,.inr ⟨_,.head _,rfl,rfl⟩,rfl,rfl⟩ rfl (by omega) [_,t.aL (gO T k a c),dK gA cX] [] rfl ?_;refine bc.mk _ (cF (i:=i) (by omega)) ?_;have b3:D.length+1=(D++[k]).length:=by simp
    exact⟨(i+1,⟨gO T k a c,L,D++[k],cX,bK c3 (D.length*1) [bQ k]⟩),⟨done eX,by simp only;omega⟩,.sub (.cons _ (.refl _)) .refl,.cons .refl (.cons (nk gD nD b3) (ko)),.cons rfl (.nil)⟩
 ·have cm:¬ (i:Int)<(jK.length:Int):=cx e;obtain rfl:i=jK.length:=by omega
  have kT:(D++(L++jK.drop jK.length)).Perm (D0++fs):=bZ.perm;have cY:∀ k∈fs,k∈L\/k∈jK.drop jK.length\/(T k a).aB≠0:=bZ.kn;simp only[List.drop_length,dX]at kT cY;have Qo:=kT.length_eq;simp only[cP]at Qo;have kh:gU (L.map bQ)=true:=by unfold gU;rw[gh];intro x ab;obtain⟨z,_,rfl⟩:=dC.1 ab;rfl
  have sg:cq I [t.aL T,dK gA cX,dK gD c3] ⟨gA,0,none⟩ (L.length*1) (L.map bQ):=by refine⟨rfl,cX.toArray,3,(0,0),.inr ⟨_,.tail _ (.head _),rfl,rfl⟩,?_,by rw[cD,iU]⟩;rw[iU];exact bZ.v0
  obtain⟨fa,e6⟩:=ai7 (D:=D) (aQ:=c3) bZ.Aw (L:=L) (by show D.length+L.length<=c3.length;omega);have fin:((L.length:Nat)=0\/D.length=uU.length)->(∀ k∈fs,(T k a).aB=0->(eu t.P T k a).aB=0):=λbl k ae ao=>by
   rcases cY k ae with U | U | U
   ·rcases bl with bl | bl
    ·rw[iT bl]at U;cases U
    ·exact bZ.un bl k U
   ·cases U
   ·exact absurd ao U
  refine b2.mk (λg=>?_) (λg=>?_)
  ·refine aJ.mk (λa3=>?_) (λa3=>?_)
   ·have YF:D.length=uU.length:=by have bW:(D.length:Int)=(uU.length:Int):=bS a3;omega
    refine bs.lL aU rfl (by simp) (e:=3) rfl rfl rfl (g:=gD) (n:=D.length) (c:=nD) (aQ:=c3) rfl (show c3.length=nD*1 by omega) (ad:=⟨gA,0,none⟩) (m:=L.length) (c':=nA) rfl (bU:=L.map bQ) sg kh (by omega) [t.aL T,dK gA cX] [] rfl ?_;exact⟨_,_,.refl,rfl,T,D++L,cX,_,bZ.inv,bZ.tg,fin (.inr YF),kT,H0,fa.trans th,e6,by rw[cP],rfl⟩
   ·have YF:D.length≠uU.length:=by have bW:¬ (D.length:Int)=(uU.length:Int):=cx a3;omega
    exact⟨⟨T,L,D,cX,c3⟩,⟨⟨bZ.inv,bZ.tg,kT,λk ae=>(cY k ae).imp id λx=>x.elim (λy=>(by cases y)) id,bZ.sub,H0,bZ.v0,th,bZ.Aw⟩,by simp only;omega⟩,.refl,hS,.cons rfl (.nil)⟩
  ·have dH:L.length=0:=by have:decide ((L.length:Int)=0)=true:=g;have:=bS this;omega
   refine bs.lL aU rfl (by simp) (e:=3) rfl rfl rfl (g:=gD) (n:=D.length) (c:=nD) (aQ:=c3) rfl (show c3.length=nD*1 by omega) (ad:=⟨gA,0,none⟩) (m:=L.length) (c':=nA) rfl (bU:=L.map bQ) sg kh (by omega) [t.aL T,dK gA cX] [] rfl ?_;exact⟨_,_,.refl,rfl,T,D++L,cX,_,bZ.inv,bZ.tg,fin (.inl dH),kT,H0,fa.trans th,e6,by rw[cP],rfl⟩
structure Qp(I:aR)(t:dr)(gP:Nat->Nat->bX)(fs:List Nat):Prop where
 ok:t.ok I gP
 inv:iN t.P t.nn gP
 cd:∀ k,k<t.nn->td t.P t.nn k
 na:∀ k,te t.P k
 n0:t.n0<t.nn
 lo:∀ k∈fs,t.n0<=k/\k<t.nn
 all:∀ k,t.n0<=k->k<t.nn->k∈fs
 dg:∀ k,k<t.n0->∀ b,(gP k b).ce=br t.P k b
structure YG where
 p:Nat
 v:Int
 T:Nat->Nat->bX
 L:List Nat
 gA:Nat
 nA:Nat
 cX:List Value
 gD:Nat
 nD:Nat
 d:Nat
 c3:List Value
structure ajk(t:dr)(gP:Nat->Nat->bX)(fs:List Nat)(low:Nat)(x:YG):Prop where
 v:x.v=(x.p:Int)-1
 p:x.p<=t.s.size+1
 ajl:low<=x.p
 inv:iN t.P t.nn x.T
 up:∀ k b,x.p<=b->(x.T k b).ce=br t.P k b
 dg:∀ k,k<t.n0->∀ b,x.T k b=gP k b
 perm:x.L.Perm fs
 EO:x.cX.length=x.nA
 v0:x.cX.take x.L.length=x.L.map bQ
 HZ:x.c3.length=x.nD
 h5:fs.length<=x.nA
 dE:fs.length<=x.nD
 ajm:x.nA<=1048576
 ajn:x.nD<=1048576
def YH{t:dr}{gP:Nat->Nat->bX}(h:Qp I t gP fs){gN nN:Nat}{cN:List Value}(eG:cN.length=nN)(ajo:cN.take fs.length=fs.map bQ)(cT:fs.length<=nN)(Qq:nN<=1048576){low:Nat}(asG:low<=t.s.size) :
  Spec Tryz.prog 55 [ptr t.bt,.slice (some ⟨gN,0,none⟩) fs.length nN,.int .i64 low] I [t.aL gP,dK gN cN] λv I' M'=>I'=I /\
   ∃ (T:Nat->Nat->bX),iN t.P t.nn T/\(∀ k b,low<=b->(T k b).ce=br t.P k b)/\(∀ k,k<t.n0->∀ b,T k b=gP k b)/\M'=[t.aL T]:=by
 refine b4 [] aU Tryz.func55 rfl rfl rfl ?_;intro B ao;have c8:=h.ok.sz;refine a0.whole _ ai5 ?_;rintro v I' M' -⟨rfl,rfl,rfl⟩;refine nE.mk 0 fs.length rfl rfl (bw _) (by show 8*fs.length<=_;omega) (by omega) ?_;refine cv.mk λajp asH asI=>?_;refine aK.mk _ (h.ok.gm (j:=0) (by decide)) ?_;refine dG.inv (ι:=YG) (λx=>{ bx:=[(0,.val (ptr t.bt)),(1,.val (.slice (some ⟨x.gA,0,none⟩) x.L.length x.nA)),(2,.val (.int .i64 low)),(6,.ref 6 0),(7,.val (.slice (some ⟨x.gD,0,none⟩) x.d x.nD)),(8,.val (.int .i64 x.v))],cl:=[(6,HY)],c2:=I',du:=[t.aL x.T,dK x.gA x.cX,dK x.gD x.c3] }) (λx=>ajk t gP fs low x) (λx=>x.p) ?_ ?_
 ·refine⟨⟨t.s.size+1,t.s.size,gP,fs,gN,nN,cN,ajp,fs.length,0,rowOf [bQ 0] (fs.length*1)⟩,⟨by simp only;omega,bY _,by simp only;omega,h.inv,λk b ah=>h.inv.out k b λe=>by have aa:b<=t.s.size:=e.2;simp only at ah;omega,λ_ _ _=>rfl,.refl _,eG,ajo,by simp[rowOf],cT,bY _,Qq,by simp only;omega⟩,.perm ?_ .refl,km,.cons rfl (.nil)⟩;exact(List.Perm.swap _ _ _).trans (.cons _ (.swap _ _ _))
 rintro⟨p,v,T,L,gA,nA,cX,gD,nD,d,c3⟩bL;have ak:=bL.v;have aD:=bL.p;have ajq:=bL.ajl;have Qr:=bL.ajm;have Qs:=bL.ajn;have YI:=bL.h5;have YJ:=bL.dE;have Qo:=bL.perm.length_eq;simp only at ak aD ajq Qr Qs YI YJ Qo;refine aJ.mk (λe=>?_) (λe=>?_)
 ·have cm:(low:Int)<=v:=bS e;obtain⟨a,rfl⟩:∃ a,p=a+1:=⟨p-1,by omega⟩;obtain rfl:v=(a:Int):=by omega
  have YK:LF I' t T L a:=⟨h.ok.tg λk ae b=>bL.dg k ae b,bL.inv,h.cd,h.na,h.n0,λk ae=>h.lo k (bL.perm.mem_iff.1 ae),by omega⟩;have cg:=ajd (D0:=[]) YK (gA:=gA) (gD:=gD) (nA:=nA) (nD:=nD) (cA0:=cX) (cD0:=c3) bL.EO bL.HZ bL.v0 (by simp) (by omega) (by simp;omega) Qr Qs;refine c4.draw aU rfl rfl rfl ?_;refine jO.mk 0 0 rfl rfl (bY _) (bw _) ?_;refine g7.aiB _ cg ?_;rintro v fE ey -⟨rfl,jf,iZ,ajr,ajs,s1,s2,eU,CB,EP,ajt,aju,rfl,rfl⟩;rw[kN]at CB;have YL:=CB.length_eq;have hold:∀ k,k<t.n0->∀ b,jf k b=gP k b:=λk ae b=>by rw[s2 k b λx=>by have:=(YK.lo k x.1).1;omega];exact bL.dg k ae b
  have HS:∀ k b,a<b->(jf k b).ce=br t.P k b:=λk b ah=>by rw[s2 k b λx=>by omega];exact bL.up k b ah
  have ej:∀ k,(jf k a).ce=br t.P k a:=aiq s1 h.cd HS (λk ae a9=>by
   by_cases cZ:k<t.n0;·refine air s1 ae (by show a<=t.s.size;omega) (h.cd k ae) ?_ a9;rw[hold k cZ a];exact h.dg k cZ a
   ·exact eU k (bL.perm.mem_iff.2 (h.all k (by omega) ae)) a9) (by show a<=t.s.size;omega)
  refine bc.mk ((a:Int)-1) (fK rfl (by omega)) ?_;refine⟨⟨a,(a:Int)-1,jf,iZ,gD,nD,ajs,gA,nA,L.length,ajr⟩,⟨⟨rfl,by simp only;omega,by simp only;omega,s1,λk b ah=>?_,hold,CB.trans bL.perm,ajt,aju,EP,YJ,YI,Qs,Qr⟩,by simp only;omega⟩,.perm (.cons _ (.swap _ _ _)) .refl,km,.cons rfl (.nil)⟩;by_cases e:b=a;·rw[e];exact ej k
  ·exact HS k b (by simp only at ah;omega)
 ·have aS:¬ (low:Int)<=v:=cx e;refine⟨_,_,.sub (M1:=[t.aL T]) (.cons_cons _ (.cons _ (.cons _ .slnil))) .refl,rfl,T,bL.inv,λk b ah=>bL.up k b (by simp only;omega),bL.dg,rfl⟩
def Yu.n{bd:List s'}{f:s'}{g:Nat}(h:Yu os bd f g):os.n=bd.length+1:=by have:=h.ok.len;rw[fb _ 5 s'.de]at this;simp at this;omega
def bs.YM{X:c7}{C:d'}{o:Oper}{K:gp}(aO:c6 X.P X.E){t:Nat}(au:o.op=.call { callee:=.builtin .append,args:=#[s,x],argTypes:=#[t,t] })(ag:∀ d,o.dst=some d->d<X.n)
 (av:X.E t=some dh) (cL:dh.bO=.slice e) (he:X.E e=some aG)
  (os:a5) (bb:os.ok aG.size xs) (ar:bG F s=.val os.val)
 {cs:List Value} (ab:bG F x=.val (.slice (some ⟨b9,0,none⟩) 1 c')) (ap:cs.length=aG.size) (U:gU cs=true)
  (a8:List aI) (a2:M=⟨b9,.cells cs.toArray e (0,0)⟩::(a8++os.aL e)) (b1:os.n+1<=9223372036854775807) (cb:(os.n+1)*aG.bytes<=140737488355328)
  (k:∀ bV:a5,bV.n=os.n+1->(∀ g,bV.a=some g->I g=none)->bV.ok aG.size (xs++cs)->K (put o.dst (.val bV.val) F) C I (a8++bV.aL e)):bs X o F C I M K:=
 .uS aO au ag av cL he os bb ar ab ap U a8 [] (by rw[dX];exact a2) b1 cb λbV aa af aP=>by rw[dX];exact k bV aa af aP
section
variable{X:c7}{F:Fr}{C:d'}{I:aR}{M:List aI}{o:Oper}
def qD.ajv{K:dQ->aR->List aI->Prop}(aO:c6 X.P X.E){t:Nat}(au:o.op=.call { callee:=.builtin .append,args:=#[s,x],argTypes:=#[t,t] })
 (av:X.E t=some dh) (cL:dh.bO=.slice e) (he:X.E e=some aG)
  (os:a5) (bb:os.ok aG.size xs) (ar:bG F s=.val os.val)
 {m:Nat} (ab:bG F x=.val (.slice (some ad) m c')) (hm:0<m) (aw:cq I M ad (m*aG.size) bU) (U:gU bU=true)
  {Mr:List aI} (a2:M.Perm (os.aL e++Mr)) (b1:os.n+m<=maxLen) (cb:(os.n+m)*aG.bytes<=140737488355328)
  (M':a5->List aI) (CC:∀ bV:a5,(bV.aL e++Mr).Perm (M' bV))
  (k:∀ bV:a5,bV.n=os.n+m->(∀ g,bV.a=some g->I g=none)->bV.ok aG.size (xs++bU)->K (.val bV.val) I (M' bV)):qD X o F C I M K:=by
 refine⟨fun β a w Q lY=>?_⟩;have uW:bU.length=m*aG.size:=by obtain⟨_,_,_,_,_,_,h⟩:=aw;exact h
 have gb:∀ w,eI I M w->(Builtin.firstCells aG.size m (.slice (some ad) m c')).run X.P w=.ok bU.toArray w:=λw hw=>by
  obtain⟨cg,cs,T,al,cY,ak,ap⟩:=aw;refine run_firstCells_some (P:=X.P) w aG.size m ad m c' bU ap λj v aj=>?_;rw[eo _ cg,tQ (cY.heap hw)];rw[<-ak,lp]at aj;split at aj;·rw[om]at aj;simpa using aj
  ·cases aj
 have a4:cR X β a w F C I (os.aL e++Mr):=lY.iH (.perm a2 .refl);obtain⟨inf,z,hi,e9,hz,iA,kj⟩:=(aO _ _ he).inf;obtain⟨hM,mv,kO⟩:=(aO _ _ av).fp;have qL:hM=.slice e:=by rw[cL]at kO;cases hM<;>simp_all[fo]
 subst qL;have qK:z.cells.size=inf.size:=by rw[e9,<-(aO _ _ he).len,<-kj];simp
 have LH:=bb;rw[<-e9]at bb uW gb;obtain⟨g,c,aQ,w',e',aV,a3,bW,fx,p2⟩:=U9 (P:=X.P) (w:=w) t t o.type e inf z mv mv (λk bA=>by cases bA) hi iA qK bb (λg aA=>a4.holds.m ⟨g,.cells os.aQ.toArray e (0,0)⟩ (by simp[a5.aL,aA])) (x:=.slice (some ad) m c') hm uW (zA U) (λ_=>rfl) (λw' vz=>gb w' (lY.holds.heap vz)) b1 (by rw[hz];exact cb);rw[e9]at aV fx uW;have BR:I g=none:=by
  rcases p2 with⟨aA,_⟩ | ⟨rfl,_⟩;·exact a4.holds.d ⟨g,.cells os.aQ.toArray e (0,0)⟩ (by simp[a5.aL,aA])
  ·cases bL:I w.heap.size with
   |none=>rfl| some nL=>have:=a4.holds.i _ _ bL;simp at this
 have es:=dk a4.al ar;have ex:=dk a4.al ab;have Qt:(⟨some g,os.n+m,c,aQ⟩:a5).ok aG.size (xs++bU):=by
  refine⟨?_,(λh=>by cases h),λdH aA=>?_⟩;·rw[cP,LH.len,uW,ji]
  ·cases aA;exact⟨aV,a3,bW,fx⟩
 refine je (by rw[au];simp) (v:=.slice (some ⟨g,0,none⟩) (os.n+m) c) (w':=w') ?_ ⟨_,.val (.slice (some ⟨g,0,none⟩) (os.n+m) c),I,M' ⟨some g,os.n+m,c,aQ⟩,rfl,rfl,?_,k ⟨some g,os.n+m,c,aQ⟩ rfl (λdH aA=>by cases aA;exact BR) Qt,rfl⟩
 ·unfold execOp;simp only[au,resolve,invoke,builtin,cy,dc,cc,sP,dv,jh,es,ex,e']
 ·refine cR.iH ?_ (.perm (CC _) .refl);rcases p2 with⟨aA,rfl⟩ | ⟨rfl,rfl⟩
  ·have ah:os.aL e=[⟨g,.cells os.aQ.toArray e (0,0)⟩]:=by simp[a5.aL,aA]
   rw[ah]at a4;exact a4.yj (a8:=[]) (post:=Mr) rfl
  ·have aa:cR X β a w.drew F C I (os.aL e++Mr):=a4.world rfl;have af:=aa.oq (.cells aQ.toArray e (0,0));refine af.iH (.sub ?_ .refl);exact List.Sublist.cons_cons _ (mW _ _)
def qD.uS{K:dQ->aR->List aI->Prop}(aO:c6 X.P X.E){t:Nat}(au:o.op=.call { callee:=.builtin .append,args:=#[s,x],argTypes:=#[t,t] })
 (av:X.E t=some dh) (cL:dh.bO=.slice e) (he:X.E e=some aG)
  (os:a5) (bb:os.ok aG.size xs) (ar:bG F s=.val os.val)
 {cs:List Value} (ab:bG F x=.val (.slice (some ⟨b9,0,none⟩) 1 c')) (ap:cs.length=aG.size) (U:gU cs=true)
  (a8 post:List aI) (a2:M=⟨b9,.cells cs.toArray e (0,0)⟩::(a8++(os.aL e++post))) (b1:os.n+1<=9223372036854775807) (cb:(os.n+1)*aG.bytes<=140737488355328)
  (k:∀ bV:a5,bV.n=os.n+1->(∀ g,bV.a=some g->I g=none)->bV.ok aG.size (xs++cs)->K (.val bV.val) I (⟨b9,.cells cs.toArray e (0,0)⟩::(a8++(bV.aL e++post)))):qD X o F C I M K:=by
 have aD:∀ bV:a5,(bV.aL e++(⟨b9,.cells cs.toArray e (0,0)⟩::(a8++post)):List aI).Perm (⟨b9,.cells cs.toArray e (0,0)⟩::(a8++(bV.aL e++post))):=λbV=>
  qd.trans (.cons _ (Ab _ _ _))
 refine .ajv aO au av cL he os bb ar (m:=1) (bU:=cs) ab (by decide) ?_ U (Mr:=⟨b9,.cells cs.toArray e (0,0)⟩::(a8++post)) ?_ (by unfold maxLen;exact b1) cb _ aD k
 ·rw[oy];refine⟨rfl,_,_,_,.inr ⟨⟨b9,.cells cs.toArray e (0,0)⟩,by rw[a2];exact .head _,rfl,rfl⟩,?_,ap⟩;simp only[sQ];exact fq (by omega)
 ·rw[a2];exact(aD os).symm
end
def LI{ds:List bI}(hi:i<ds.length):a6 (ds.take (i+1))=a6 (ds.take i)+ds[i].t.ns.length:=by unfold a6;rw[ho hi,fi,Kt];simp
def Qu(ds:List bI)(i:Nat):a6 (ds.take i)<=a6 ds:=by
 conv=>rhs;rw[<-vB i ds]
 unfold a6;rw[fi,Kt];omega
def Qv:∀ (b:Nat) (ds:List bI) (i:Nat) (hi:i<ds.length) (di:i<(gl b ds).length),(gl b ds)[i]=b+a6 (ds.take i)+ds[i].t.bF.toNat
 |b,d::ds,0,_,_=>by simp[gl,a6]
 |b,d::ds,i+1,hi,di=>by have:=Qv (b+d.t.ns.length) ds i (by simpa using hi) (by simpa[gl]using di);simp only[gl,J1,this,pU];simp[a6];omega
def ajw(m:Nat):rowOf hG.cells (m*4)=(List.replicate m hG).flatMap bX.cells:=by
 induction m with
 |zero=>rfl
 |succ w a7=>
  have e:(w+1)*4=w*4+4:=by omega
  have aF:rowOf hG.cells ((w+1)*4)=rowOf hG.cells (w*4)++hG.cells:=by
   unfold rowOf;rw[e,List.range_add,fi];congr 1;apply ys (by rfl);intro i U aa;simp only[lA,r2];have af:i<4:=by simpa using U
   have aP:(w*4+i)%hG.cells.length=i:=by show(w*4+i)%4=i;omega
   rw[aP]
   match i,af with
   |0,_=>rfl| 1,_=>rfl| 2,_=>rfl| 3,_=>rfl
  rw[aF,a7,List.replicate_succ'];simp
def Qw(w:Nat):∀ n,((List.range n).flatMap λ_=>(List.range w).flatMap λ_=>hG.cells)=(List.replicate (n*w) hG).flatMap bX.cells
 |0=>by rw[BI];rfl
 |n+1=>by
  have U:((List.range w).flatMap λ_=>hG.cells)=(List.replicate w hG).flatMap bX.cells:=by
   have e:(List.range w).map (λ_=>hG)=List.replicate w hG:=by rw[List.map_const',q0]
   rw[<-e,Eo]
  rw[Cv,ku,Qw w n,nG,List.flatMap_nil,dX,U,<-ku,List.replicate_append_replicate,ji,oy]
def EQ(ba w i:Nat):Value:=.slice (some ⟨ba,i*(w*4),none⟩) w w
def uX(ba w n:Nat):List Value:=(List.range n).map (EQ ba w)
def YN(n w:Nat)(aw:n<=4096)(hw:w<=8192)(U:1<=w):Spec Tryz.prog 54 [.int .i64 n,.int .i64 w] I M0 λv I' M'=>I'=I/\∃ iO ba,v=.slice (some ⟨iO,0,none⟩) n n /\
  M'=⟨iO,.cells (uX ba w n).toArray 104 (0,0)⟩::⟨ba,.cells ((List.replicate (n*w) hG).flatMap bX.cells).toArray 106 (0,0)⟩::M0:=by
 refine b4 [] aU Tryz.func54 rfl rfl rfl ?_;intro B ao;have bn:∀ i,i<=n->i*w<=33554432:=λi hi=>by have:=P3 (jN hi aw) hw;omega
 have asJ:=bn n (bY _);refine bc.mk ((n*w:Nat):Int) (fK (by simp) (by omega)) ?_;refine nE.mk (n*w) (n*w) rfl rfl (bY _) (by show 16*(n*w)<=_;omega) (by omega) ?_;refine cv.mk λba CD asK=>?_;refine nE.mk n n rfl rfl (bY _) (by show 24*n<=_;omega) (by omega) ?_;refine cv.mk λiO YO asL=>?_;refine dG.inv (ι:=Nat) (λi=>{ bx:=[(1,.val (.int .i64 w)),(5,.val (.slice (some ⟨ba,0,none⟩) (n*w) (n*w))),(6,.val (.slice (some ⟨iO,0,none⟩) n n)),(15,.val (.int .i64 n)),(16,.val (.int .i64 i))],cl:=[],c2:=I,du:=⟨iO,.cells ((List.range i).map (EQ ba w)++List.replicate (n-i) (Value.slice none 0 0)).toArray 104 (0,0)⟩::⟨ba,.cells ((List.replicate (n*w) hG).flatMap bX.cells).toArray 106 (0,0)⟩::M0 }) (λi=>i<=n) (λi=>n-i) ?_ ?_
 ·refine⟨0,bw _,.pz ?_,hS,.nil⟩;have az:rowOf [Value.slice none 0 0] (n*1)=List.replicate n (Value.slice none 0 0):=by rw[BU,iU]
  have aF:=ajw (n*w);show(⟨iO,.cells (rowOf [Value.slice none 0 0] (n*1)).toArray 104 (0,0)⟩:aI)::⟨ba,.cells (rowOf hG.cells (n*w*4)).toArray 106 (0,0)⟩::M0=_;rw[az,aF];rfl
 intro i hi;refine aJ.mk (λe=>?_) (λe=>?_)
 ·have aS:i<n:=by simpa using e
  have e9:=bn i hi;have hz:=bn (i+1) (by omega);have Qx:(i+1)*w=i*w+w:=by rw[ji,oy]
  have ajx:(i+1)*w<=n*w:=qs _ aS;refine bc.mk ((i*w:Nat):Int) (fK (by simp) (by omega)) ?_;refine bc.mk _ (cF (i:=i) (by omega)) ?_;refine bc.mk (((i+1)*w:Nat):Int) (fK (by simp) (by omega)) ?_;refine bc.mk _ (cF (i:=i) (by omega)) ?_;refine bc.mk (((i+1)*w:Nat):Int) (fK (by simp) (by omega)) ?_;refine bs.slice3 aU rfl (by simp) (e:=106) rfl rfl rfl (i*w) ((i+1)*w) ((i+1)*w) (ad:=some ⟨ba,0,none⟩) (n:=n*w) (c:=n*w) rfl rfl rfl rfl (by omega) (bY _) ajx ?_;refine bk.mk ⟨iO,0,none⟩ i rfl rfl aS ?_;refine cz.jl [] _ ((List.range i).map (EQ ba w)++List.replicate (n-i) (Value.slice none 0 0)) _ rfl ?_ rfl ((List.range (i+1)).map (EQ ba w)++List.replicate (n-(i+1)) (Value.slice none 0 0)) ?_ ?_;·rw[nW,cP,cD,q0,zU];show 0+i*1+1<=_;omega
  ·have q4:List.replicate (n-i) (Value.slice none 0 0)=.slice none 0 0::List.replicate (n-(i+1)) (Value.slice none 0 0):=by rw[show n-i=(n-(i+1))+1 from by omega,vR]
   have ak:(Value.slice (if(i+1)*w=i*w then some ⟨ba,0,none⟩else(some (⟨ba,0,none⟩:Addr)).map (·.add (i*w*4))) ((i+1)*w-i*w) ((i+1)*w-i*w))=EQ ba w i:=by rw[ca (by omega),Qx,Cr];unfold EQ;rw[k3,eo _ rfl,dz,Nat.mul_assoc]
   rw[q4,Cv,fi,fA];refine(KU (k:=0+i*1) (by rw[cD,q0];omega)).trans ?_;rw[ak];rfl
  refine bc.mk _ (cF (i:=i) (by omega)) ?_;exact⟨i+1,⟨by omega,by omega⟩,.refl,hS,.nil⟩
 ·have cm:n<=i:=by simpa using e
  obtain rfl:i=n:=by omega
  refine⟨_,_,.refl,rfl,iO,ba,rfl,?_⟩;rw[lE,Pb,dX];rfl
def xp{G:Fr}{y:Operand}{r:dQ}(h:dD G y=dD F y)(be:bG F y=r):bG G y=r:=by simp only[bG,dR,h];exact be
def YP{d:aM}{n:Int}(h:fits d n=true)(ao:0<=d.k):d.t.size<=255:=by
 unfold fits at h;have z:(⟨#[]⟩:ByteArray).size=0:=rfl;cases U:decide (10<=d.k)with
 |true=>rw[U]at h;cases h
 |false=>
  rw[U,bf]at h;cases aa:decide (n<uf d.k.toNat)||(decide (0<=p3 d.k.toNat)&&decide (p3 d.k.toNat<n))with
  |true=>rw[aa]at h;cases h
  |false=>
   rw[aa,bf]at h;cases af:decide (d.k=1)with
   |true=>rw[af,bh]at h;simp only[cp,e5]at h;rw[h.1,z];omega
   |false=>
    rw[af,bf]at h;cases aP:decide (d.k=2)with
    |true=>rw[aP,bh]at h;simp only[cp,o7,o6,ow]at h;omega
    |false=>
     rw[aP,bf]at h;cases bq:decide (d.k=3)||decide (d.k=9)with
     |true=>rw[bq,bh]at h;simp only[m3,cp,e5]at h;omega
     |false=>
      rw[bq,bf]at h;cases bj:decide (d.k=6)with
      |true=>rw[bj,bh]at h;simp only[cp,e5]at h;rw[h.2.2,z];omega| false=>rw[bj,bf]at h;simp only[cp,e5]at h;rw[h.2.1,z];omega
def ajy{b T:Nat}{l:List Nat}(h:I b=some (.cells (l.map λ(k:Nat)=>Value.int .i64 (k:Int)).toArray T (0,0)))(ap:l.length<=1048576){n:Nat}(aw:l.length=n):dA I (some ⟨b,0,none⟩) n n 1 8 (l.map λ(k:Nat)=>Value.int .i64 (k:Int)):=by subst aw;refine⟨by simp,⟨bY _,by omega⟩,.inr ⟨_,rfl,rfl,_,T,(0,0),h,?_⟩⟩;simp only[sQ];exact fq (by simp)
def y5(d:bI):Value:=.string d.name
def ajz{g:dn}(aA:g.ok I)(aw:g.n<=4096):Spec Tryz.prog 52 [g.val] I M0 λv I' M'=>I'=I/\∃ os:a5,v=os.val/\os.n=g.n/\os.ok 1 (g.ds.map y5)/\M'=os.aL 9++M0:=by
 refine b4 [] aU Tryz.func52 rfl rfl rfl ?_;intro B ao;have gB:=aA.n;refine dG.inv (ι:=Nat×a5) (λx=>{ bx:=[(3,.val x.2.val),(7,.val (.slice g.a g.n g.c)),(8,.val (.int .i64 g.n)),(9,.val (.int .i64 x.1))],c2:=I,du:=x.2.aL 9++M0 }) (λx=>x.1<=g.n/\x.2.n=x.1/\x.2.ok 1 ((g.ds.take x.1).map y5)) (λx=>g.n-x.1) ?_ ?_
 ·exact⟨(0,qV),⟨bw _,rfl,ur 1⟩,.refl,fO,.nil⟩
 rintro⟨i,os⟩⟨hi,oT,dp⟩;simp only at hi oT dp;refine aJ.mk (λh=>?_) (λh=>?_)
 ·have aS:i<g.n:=by simpa using h
  have b':i<g.ds.length:=by omega
  obtain⟨ad,bP,bu⟩:=aA.bg.row bI.de aS b';refine bk.mk ad i bP rfl aS ?_;refine aK.mk _ (bu _) ?_;refine cv.mk λb9 hD Ce=>?_;refine bs.uS aU rfl (by simp) (e:=9) rfl rfl rfl os dp rfl (cs:=[.string (g.ds[i]).name]) rfl rfl rfl [] M0 rfl (by omega) (by show(os.n+1)*16<=_;omega) ?_;intro hg jL iL gy;refine bc.mk _ (cF (i:=i) (by omega)) ?_;refine⟨(i+1,hg),⟨⟨aS,by simp only;omega,?_⟩,by simp only;omega⟩,.refl,fO,.nil⟩;simp only;rw[ho b',fi];exact gy
 ·have cm:g.n<=i:=by simpa using h
  obtain rfl:i=g.n:=by omega
  rw[fq (by omega)]at dp;exact⟨_,_,.refl,rfl,os,rfl,oT,dp,rfl⟩
def YQ{ds:List bI}{n:Nat}(ai:dA I fU n c 1 16 (ds.map y5))(nm:ByteArray):Spec Tryz.prog 102 [.slice fU n c,.string nm] I M0 λv I' M'=>v=.int .i64 (df nm ds 0)/\I'=I/\M'=M0:=by
 refine b4 [] aU Tryz.func102 rfl rfl rfl ?_;intro B ao;have aw:ds.length=n:=by have:=ai.len;rw[cD]at this;omega
 have ig:=ai.cap.2;refine dG.inv (ι:=Nat) (λi=>{ bx:=[(0,.val (.slice fU n c)),(1,.val (.string nm)),(7,.val (.int .i64 n)),(8,.val (.int .i64 i))],c2:=I,du:=M0 }) (λi=>i<=n/\df nm ds 0=df nm (ds.drop i) i) (λi=>n-i) ?_ ?_
 ·exact⟨0,⟨bw _,rfl⟩,.refl,fO,.nil⟩
 rintro i⟨hi,aC⟩;refine aJ.mk (λh=>?_) (λh=>?_)
 ·have aS:i<n:=by simpa using h
  have b':i<ds.length:=by omega
  obtain⟨ad,bP,bu⟩:=ai.one (f:=y5) aS b';have k8:ds.drop i=ds[i]::ds.drop (i+1):=e8 b';rw[k8,df]at aC;refine bk.mk ad i bP rfl aS ?_;refine aK.mk _ (bu _) ?_;refine aJ.mk (λaa=>?_) (λaa=>?_);·have e:(ds[i]).name=nm:=(bS aa).symm;rw[fr e,bh]at aC;exact⟨_,_,.refl,by rw[aC],rfl,rfl⟩
  ·have e:¬ (ds[i]).name=nm:=λe=>cx aa e.symm;rw[c0 e,bf]at aC;refine bc.mk _ (cF (i:=i) (by omega)) ?_;exact⟨i+1,⟨⟨aS,aC⟩,by omega⟩,.refl,fO,.nil⟩
 ·have cm:n<=i:=by simpa using h
  refine⟨_,_,.refl,?_,rfl,rfl⟩;rw[aC,jT (by omega)];rfl
def jM(bt:Nat)(s:ByteArray)(nv rv CE rwv:Value):aI:=⟨bt,.cells [.string s,nv,rv,CE,rwv].toArray 98 (0,0)⟩
def uY{bt:Nat}{s:ByteArray}{nv rv CE rwv:Value}(a2:jM bt s nv rv CE rwv∈M)(aj:j<5):cq I M ((⟨bt,0,none⟩:Addr).add j) 1 [([.string s,nv,rv,CE,rwv]:List Value).getD j undef]:=by
 have h:=ew (I:=I) (cs:=[.string s,nv,rv,CE,rwv]) (k:=j) (n:=1) a2 (by show j+1<=5;omega);have:(([.string s,nv,rv,CE,rwv]:List Value).drop j).take 1=[([.string s,nv,rv,CE,rwv]:List Value).getD j undef]:=by
  match j,aj with
  |0,_=>rfl| 1,_=>rfl| 2,_=>rfl| 3,_=>rfl| 4,_=>rfl
 rwa [this]at h
def q8(b:Nat)(L:List Nat)(n:aM):aM:={ n with iW:=some ⟨b,0,none⟩,kn:=L.length,iz:=L.length,ax:=L.map λ(k:Nat)=>(k:Int) }
def ajA(b:Nat)(L:List Nat)(n:aM):(q8 b L n).pn=⟨n.jt,L⟩:=by unfold aM.pn q8;congr 1;rw[h7];exact List.map_id'' (λx=>by simp) L
def ajB{b T:Nat}{n:aM}(h:n.ok I)(bL:I b=some (.cells (L.map bQ).toArray T (0,0)))(ap:L.length<=1048576)(cT:∀ x∈L,x<=1048576):(q8 b L n).ok I:=by
 refine { h with bg:=?_,ax:=λx ab=>?_ }
 ·show dA I (some ⟨b,0,none⟩) L.length L.length 1 8 ((L.map λ(k:Nat)=>(k:Int)).map (.int .i64 ·));rw[h7];exact ajy (T:=T) bL ap rfl
 ·obtain⟨y,aH,rfl⟩:=dC.1 ab;have:=cT y aH;unfold my;omega
structure LJ(I:aR)(ds:List bI)(fU dU:Option Addr)(hY ft:Nat)(aW:Nat)(t:bN):Prop where
 nm:dA I fU ds.length hY 1 16 (ds.map y5)
 rt:dA I dU ds.length ft 1 8 ((gl 0 ds).map bQ)
 ns:∀ n∈t.ns,(∀ k∈n.ax,0<=k/\k.toNat<=4096)/\n.ax.length<=4096/\n.t.size<=4096
 ajC:∀ x∈gl 0 ds,x<=4096
 len:ds.length<=4096
 many:aW+t.n<=4096
def xq(ds:List bI)(aW:Nat)(n:aM):qW:=⟨n.jt,eN ds aW n⟩
def fB(p:Nat×List Nat):aI:=⟨p.1,.cells (p.2.map bQ).toArray 3 (0,0)⟩
def kU(kb:List (Nat×List Nat))(ns:List aM):List aM:=List.zipWith (λp n=>q8 p.1 p.2 n) kb ns
structure H2(ds:List bI)(xs:List aM)(t:bN)(i:Nat)(os:a5)(kb:List (Nat×List Nat)):Prop where
 ii:i<=t.n
 n:os.n=xs.length+i
 ok:os.ok 9 ((xs++kU kb (t.ns.take i)).flatMap aM.cells)
 kb:kb.map (·.2)=(t.ns.take i).map (eN ds xs.length)
 find:∀ n∈t.ns.take i,n.k=3->0<=df n.t ds 0
def YR{ns:List aM}(h:kb.length=ns.length)(p:Nat×List Nat)(n:aM):kU (kb++[p]) (ns++[n])=kU kb ns++[q8 p.1 p.2 n]:=by unfold kU;rw[List.zipWith_append h];rfl
def H2.len{ds:List bI}{xs:List aM}{t:bN}(h:H2 ds xs t i os kb)(aw:t.ns.length=t.n):kb.length=(t.ns.take i).length:=by have:=congrArg List.length h.kb;simpa using this
def LK(x y:aI)(A:List aI)(kb:List (Nat×List Nat)){p:Nat×List Nat}(ab:x=fB p:=by rfl):(x::y::(A++kb.map fB)).Perm (y::(A++(kb++[p]).map fB)):=by subst ab;rw[fi,<-fA];exact(List.Perm.swap _ _ _).trans (.cons _ (iK (l₁:=[fB p]) (l₂:=A++kb.map fB)))
def ajD{t:bN}(av:t.ok I){ds:List bI}{dU:Option Addr}{hY ft:Nat}{xs:List aM}(h:LJ I ds fU dU hY ft xs.length t){os0:a5}(uZ:os0.ok 9 (xs.flatMap aM.cells))(bt:Nat)(s:ByteArray)(rwv:Value) :
  Spec Tryz.prog 53 [ptr bt,t.val] I (jM bt s (.slice fU ds.length hY) (.slice dU ds.length ft) os0.val rwv::(os0.aL 59++[])) λv I' M'=>I'=I/\∃ (i:Nat) (os:a5) (kb:List (Nat×List Nat)),H2 ds xs t i os kb /\
   M'=jM bt s (.slice fU ds.length hY) (.slice dU ds.length ft) os.val rwv::(os.aL 59++kb.map fB)/\((v=.bool true/\i=t.n)\/(v=.bool false/\∃ n∈t.ns,n.k=3/\df n.t ds 0<0)):=by
 refine b4 [] aU Tryz.func53 rfl rfl rfl ?_;intro B ao;have k':=av.n;have ajE:=h.many;have Qy:os0.n=xs.length:=by have:=uZ.len;rw[fb _ 9 aM.de]at this;omega
 refine aK.mk _ (uY (j:=3) (.head _) (by decide)) ?_;refine dG.inv (ι:=Nat×a5×List (Nat×List Nat)) (λx=>{ bx:=[(0,.val (ptr bt)),(4,.lit false),(5,.val (.int .i64 os0.n)),(18,.val (.slice t.a t.n t.c)),(19,.val (.int .i64 t.n)),(20,.val (.int .i64 x.1))],cl:=[],c2:=I,du:=jM bt s (.slice fU ds.length hY) (.slice dU ds.length ft) x.2.1.val rwv::(x.2.1.aL 59++x.2.2.map fB) }) (λx=>H2 ds xs t x.1 x.2.1 x.2.2) (λx=>t.n-x.1) ?_ ?_
 ·exact⟨(0,os0,[]),⟨bw _,Qy,by simpa[kU]using uZ,rfl,λn aw=>(by cases aw)⟩,.refl,km,.nil⟩
 rintro⟨i,os,kb⟩ga;have hi:=ga.ii;have oT:=ga.n;have CF:=ga.ok;have CG:=ga.len k';simp only at hi oT CF CG;refine aJ.mk (λe=>?_) (λe=>?_)
 rotate_left
 ·have cm:t.n<=i:=by simpa using e
  obtain rfl:i=t.n:=by omega
  exact⟨_,_,.refl,rfl,t.n,os,kb,ga,rfl,.inl ⟨rfl,rfl⟩⟩
 have aS:i<t.n:=by simpa using e
 have b':i<t.ns.length:=by omega
 obtain⟨ad,bP,bu⟩:=av.bg.row aM.de aS b';obtain⟨d,ag⟩:∃ d,t.ns[i]=d:=⟨_,rfl⟩;have eE:d∈t.ns:=by rw[<-ag];exact cC b'
 have pb:=av.ns d eE;have cY:=pb.kn;obtain⟨cZ,ep,oR⟩:=h.ns d eE;rw[ag]at bu;have nK:t.ns.take (i+1)=t.ns.take i++[d]:=by rw[ho b',ag]
 have yS:∀ (b:Nat) (L:List Nat),((xs++kU kb (t.ns.take i)).flatMap aM.cells)++(q8 b L d).cells=(xs++kU (kb++[(b,L)]) (t.ns.take (i+1))).flatMap aM.cells:=λb L=>by rw[nK,YR CG,<-fA,ku];simp
 have next:∀ (b:Nat) (L:List Nat) (bV:a5),L=eN ds xs.length d->(d.k=3->0<=df d.t ds 0)->bV.n=os.n+1->bV.ok 9 ((xs++kU kb (t.ns.take i)).flatMap aM.cells++(q8 b L d).cells)->H2 ds xs t (i+1) bV (kb++[(b,L)]):=λb L bV cT aC aw bb=>by
  refine⟨aS,by omega,by rw[<-yS];exact bb,?_,λn aw=>?_⟩;·rw[fi,ga.kb,nK,fi,cT];rfl
  ·rw[nK]at aw;rcases dV.1 aw with aw | aw
   ·exact ga.find n aw
   ·rw[gI.1 aw];exact aC
 refine bk.mk ad i bP rfl aS ?_;refine aK.mk _ (bu _) ?_;refine nE.mk d.kn d.kn rfl rfl (bY _) (by show 8*d.kn<=_;omega) (by omega) ?_;refine cv.mk λdm Lf YS=>?_;refine dG.inv (ι:=Nat) (λj=>{ bx:=[(0,.val (ptr bt)),(4,.lit false),(5,.val (.int .i64 os0.n)),(7,.ref 7 0),(8,.val (.slice (some ⟨dm,0,none⟩) d.kn d.kn)),(18,.val (.slice t.a t.n t.c)),(19,.val (.int .i64 t.n)),(20,.val (.int .i64 i)),(29,.val (.slice d.iW d.kn d.iz)),(30,.val (.int .i64 d.kn)),(31,.val (.int .i64 j))],cl:=[(7,d.cells)],c2:=I,du:=⟨dm,.cells ((d.ax.take j).map (λk=>bQ (xs.length+k.toNat))++List.replicate (d.kn-j) (bQ 0)).toArray 3 (0,0)⟩::jM bt s (.slice fU ds.length hY) (.slice dU ds.length ft) os.val rwv::(os.aL 59++kb.map fB) }) (λj=>j<=d.kn) (λj=>d.kn-j) ?_ ?_
 ·refine⟨0,bw _,.pz ?_,DS,.cons rfl (.nil)⟩;have e:rowOf [bQ 0] (d.kn*1)=List.replicate d.kn (bQ 0):=by rw[BU,iU]
  show(⟨dm,.cells (rowOf [bQ 0] (d.kn*1)).toArray 3 (0,0)⟩:aI)::_=_;rw[e];rfl
 intro j aj;refine aJ.mk (λaF=>?_) (λaF=>?_)
 ·have y6:j<d.kn:=by simpa using aF
  have CH:j<d.ax.length:=by omega
  obtain⟨eK,fG,e0⟩:=pb.bg.one (f:=λ(k:Int)=>Value.int .i64 k) y6 CH;have CI:=cZ _ (cC CH);refine bk.mk eK j fG rfl y6 ?_;refine aK.mk _ (e0 _) ?_;refine bc.mk ((xs.length+d.ax[j].toNat:Nat):Int) (fK (by omega) (by omega)) ?_;refine bk.mk ⟨dm,0,none⟩ j rfl rfl y6 ?_;refine cz.jl [] _ ((d.ax.take j).map (λk=>bQ (xs.length+k.toNat))++List.replicate (d.kn-j) (bQ 0)) _ rfl ?_ rfl ((d.ax.take (j+1)).map (λk=>bQ (xs.length+k.toNat))++List.replicate (d.kn-(j+1)) (bQ 0)) ?_ ?_;·rw[nW,cP,cD,gr,zU];show 0+j*1+1<=_;omega
  ·have q4:List.replicate (d.kn-j) (bQ 0)=bQ 0::List.replicate (d.kn-(j+1)) (bQ 0):=by rw[show d.kn-j=(d.kn-(j+1))+1 from by omega,vR]
   rw[q4,ho CH,fi,fA];exact KU (k:=0+j*1) (by rw[cD,gr];omega)
  refine bc.mk _ (cF (i:=j) (by omega)) ?_;exact⟨j+1,⟨by omega,by omega⟩,.refl,DS,.cons rfl (.nil)⟩
 have cm:d.kn<=j:=by simpa using aF
 obtain rfl:j=d.kn:=by omega
 have uz:(d.ax.take d.kn).map (λk=>bQ (xs.length+k.toNat))++List.replicate (d.kn-d.kn) (bQ 0)=(d.ax.map λk=>xs.length+k.toNat).map bQ:=by rw[fq (by omega),lE];simp[HM]
 rw[uz];refine aJ.mk (λaf=>?_) (λaf=>?_)
 ·have ql:d.k=3:=bS af;refine c4.draw aU rfl rfl rfl ?_;refine aK.mk _ (uY (j:=1) (.tail _ (.head _)) (by decide)) ?_;refine a0.whole _ (YQ h.nm d.t) ?_;rintro v I' M' -⟨rfl,rfl,rfl⟩;refine aJ.mk (λdw=>?_) (λdw=>?_)
  ·have H3:df d.t ds 0<0:=bS dw;exact⟨_,_,.sub (.cons _ (.refl _)) .refl,rfl,i,os,kb,ga,rfl,.inr ⟨rfl,d,eE,ql,H3⟩⟩
  have H3:¬ df d.t ds 0<0:=cx dw;have ld:=Ar ds 0 (by omega:0<=df d.t ds 0);obtain⟨q,ay⟩:∃ q:Nat,df d.t ds 0=(q:Int):=⟨(df d.t ds 0).toNat,by omega⟩;have eS:q<ds.length:=by omega
  have CJ:q<(gl 0 ds).length:=by rw[vX];exact eS
  obtain⟨ac,Ax,kD⟩:=h.rt.one (f:=bQ) eS CJ;have sh:[(gl 0 ds)[q]]=eN ds xs.length d:=by rw[eN,fr ql,bh,ay];simp[cS,CJ]
  refine aK.mk _ (uY (j:=2) (.tail _ (.head _)) (by decide)) ?_;refine bk.mk ac q Ax ay eS ?_;refine aK.mk _ (kD _) ?_;refine cv.mk λn9 Qz QA=>?_;refine c4.draw aU rfl rfl rfl ?_;refine aK.mk _ (uY (j:=3) (.tail _ (.tail _ (.head _))) (by decide)) ?_;refine cv.mk λb9 hD ju=>?_;intro G kp;refine qD.uS aU rfl (e:=59) rfl rfl rfl os CF (xp (kp _ (by simp[Op.operands,Call.operands])) rfl) (xp (kp _ (by simp[Op.operands,Call.operands])) rfl) (cs:=(q8 n9 [(gl 0 ds)[q]] d).cells) rfl rfl ([fB (n9,[(gl 0 ds)[q]]),⟨dm,.cells ((d.ax.map λk=>xs.length+k.toNat).map bQ).toArray 3 (0,0)⟩,jM bt s (.slice fU ds.length hY) (.slice dU ds.length ft) os.val rwv]) (kb.map fB) rfl (by omega) (by show(os.n+1)*96<=_;omega) ?_;intro bV U aa aP;refine cz.mk (⟨b9,_⟩::[fB (n9,[(gl 0 ds)[q]]),⟨dm,.cells ((d.ax.map λk=>xs.length+k.toNat).map bQ).toArray 3 (0,0)⟩]) (bV.aL 59++kb.map fB) _ _ rfl rfl (b0 rfl) rfl ?_;refine bc.mk _ (cF (i:=i) (by omega)) ?_;refine⟨(i+1,bV,kb++[(n9,[(gl 0 ds)[q]])]),⟨next _ _ _ sh (λ_=>by omega) U aP,by simp only;omega⟩,.sub (M1:=fB (n9,[(gl 0 ds)[q]])::jM bt s (.slice fU ds.length hY) (.slice dU ds.length ft) bV.val rwv::(bV.aL 59++kb.map fB)) (.cons _ (.cons_cons _ (.cons _ (.refl _)))) (.perm (LK _ _ _ _) .refl),km,.nil⟩
 ·have ql:¬ d.k=3:=cx af;have sh:(d.ax.map λk=>xs.length+k.toNat)=eN ds xs.length d:=by rw[eN,c0 ql,bf]
  have QB:(d.ax.map λk=>xs.length+k.toNat).length=d.kn:=by rw[cD,cY]
  rw[<-QB];refine c4.draw aU rfl rfl rfl ?_;refine aK.mk _ (uY (j:=3) (.tail _ (.head _)) (by decide)) ?_;refine cv.mk λb9 hD ju=>?_;intro G kp;refine qD.uS aU rfl (e:=59) rfl rfl rfl os CF (xp (kp _ (by simp[Op.operands,Call.operands])) rfl) (xp (kp _ (by simp[Op.operands,Call.operands])) rfl) (cs:=(q8 dm (d.ax.map λk=>xs.length+k.toNat) d).cells) rfl rfl ([fB (dm,d.ax.map λk=>xs.length+k.toNat),jM bt s (.slice fU ds.length hY) (.slice dU ds.length ft) os.val rwv]) (kb.map fB) rfl (by omega) (by show(os.n+1)*96<=_;omega) ?_;intro bV U aa aP;refine cz.mk (⟨b9,_⟩::[fB (dm,d.ax.map λk=>xs.length+k.toNat)]) (bV.aL 59++kb.map fB) _ _ rfl rfl (b0 rfl) rfl ?_;refine bc.mk _ (cF (i:=i) (by omega)) ?_;refine⟨(i+1,bV,kb++[(dm,d.ax.map λk=>xs.length+k.toNat)]),⟨next _ _ _ sh (λh=>absurd h ql) U aP,by simp only;omega⟩,.sub (M1:=fB (dm,d.ax.map λk=>xs.length+k.toNat)::jM bt s (.slice fU ds.length hY) (.slice dU ds.length ft) bV.val rwv::(bV.aL 59++kb.map fB)) (.cons _ (.refl _)) (.perm (LK _ _ _ _) .refl),km,.nil⟩
end Go.V
