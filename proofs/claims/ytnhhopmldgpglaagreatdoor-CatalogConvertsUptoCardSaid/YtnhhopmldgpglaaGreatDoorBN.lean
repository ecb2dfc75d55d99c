/- The operations of a region may be carried out in any order that their edges allow. No condition. -/
import Derived.Test.YtnhhopmldgpglaaGreatDoorBM
set_option linter.unusedVariables false
namespace Go.Bi
set_option linter.unusedSectionVars false
variable [J9]
section
variable {P:Program}{os:List AO}{ρ:C5}
theorem B1U{op:IK}(hw:op.wr=false)(K:AV->List AO->Prop):A8 P ρ os K op=A8 P ρ os (λr _=>K r os) op:=by
 cases op<;>first|rfl|cases hw
theorem C10{op:IK}(hr:op.rd=false)(os2:List AO)(K:AV->List AO->Prop):A8 P ρ os K op=A8 P ρ os2 (λr _=>K r os) op:=by
 cases op<;>first|rfl|cases hr
theorem A6f{ρ ρ':C5}:∀(ps:List (Nat×Nat×B6))(cs:List AV)(K:List AV->Prop),(∀x∈ps.map (·.2.2),B8 ρ x=B8 ρ' x)->O9 ρ ps cs K=O9 ρ' ps cs K
 |[],cs,K,h=>rfl
 |(off,n,x)::ps,cs,K,h=>by
  have hx:=h x (by simp)
  simp only[O9,hx]
  split
  ·rw[A6f ps _ K (λy hy=>h y (by simp at hy ⊢;exact .inr hy))]
  ·rfl
theorem A4s{ρ ρ':C5}{x:Option B6}{d:Nat}{K:Int->Prop}(h:∀y∈x.toList,B8 ρ y=B8 ρ' y):S2 ρ x d K=S2 ρ' x d K:=by
 cases x with
 |none=>rfl
 |some y=>simp only[S2,h y (by simp)]
theorem C0w{α β:Type}{f g:α->Option β}:∀(l:List α),(∀x∈l,f x=g x)->l.mapM f=l.mapM g
 |[],_=>rfl
 |x::l,h=>by
  simp only[A0r,h x (by simp),C0w l (λy hy=>h y (by simp[hy]))]
theorem D6q{ρ ρ':C5}(op:IK)(K:AV->List AO->Prop)(h:∀x∈op.opds,B8 ρ x=B8 ρ' x):A8 P ρ os K op=A8 P ρ' os K op:=by
 have mp:∀xs:List B6,(∀x∈xs,B8 ρ x=B8 ρ' x)->xs.map (B8 ρ)=xs.map (B8 ρ'):=λxs hx=>T9 hx
 cases op with
 |build zs ps=>simp only[A8,A6f ps _ _ h]
 |bsl n sz zs ps=>simp only[A8,A6f ps _ _ h]
 |bsld n sz zs ps=>simp only[A8,A6f ps _ _ h]
 |slstr x lo hi=>
  have h1:=h x (by simp[IK.opds])
  have h2:∀y∈hi.toList,B8 ρ y=B8 ρ' y:=λy hy=>h y (by simp[IK.opds];exact .inr (.inr (by simpa using hy)))
  have h3:∀y∈lo.toList,B8 ρ y=B8 ρ' y:=λy hy=>h y (by simp[IK.opds];exact .inr (.inl (by simpa using hy)))
  simp only[A8,h1,A4s h2,A4s h3]
 |slsl sz x lo hi=>
  have h1:=h x (by simp[IK.opds])
  have h2:∀y∈hi.toList,B8 ρ y=B8 ρ' y:=λy hy=>h y (by simp[IK.opds];exact .inr (.inr (by simpa using hy)))
  have h3:∀y∈lo.toList,B8 ρ y=B8 ρ' y:=λy hy=>h y (by simp[IK.opds];exact .inr (.inl (by simpa using hy)))
  simp only[A8,slI,h1,A4s h2,A4s h3]
 |slsld sz x lo hi=>
  have h1:=h x (by simp[IK.opds])
  have h2:∀y∈hi.toList,B8 ρ y=B8 ρ' y:=λy hy=>h y (by simp[IK.opds];exact .inr (.inr (by simpa using hy)))
  have h3:∀y∈lo.toList,B8 ρ y=B8 ρ' y:=λy hy=>h y (by simp[IK.opds];exact .inr (.inl (by simpa using hy)))
  simp only[A8,A2w,h1,A4s h2,A4s h3]
 |clo f caps=>
  have:∀c∈caps,A4w (B8 ρ c)=A4w (B8 ρ' c):=λc hc=>by rw[h c hc]
  simp only[A8]
  split
  ·rfl
  ·rw[C0w caps this]
 |minmax mx x xs=>
  have h1:=h x (by simp[IK.opds])
  have h2:=mp xs (λy hy=>h y (by simp[IK.opds,hy]))
  simp only[A8,h1,h2]
 |call f args=>
  have h1:=h f (by simp[IK.opds])
  have h2:=mp args (λy hy=>h y (by simp[IK.opds,hy]))
  simp only[A8,h1,h2]
 |calld f args=>
  have h1:=h f (by simp[IK.opds])
  have h2:=mp args (λy hy=>h y (by simp[IK.opds,hy]))
  simp only[A8,h1,h2]
 |pick a b c=>
  have h1:=h a (by simp[IK.opds])
  have h2:=h b (by simp[IK.opds])
  have h3:=h c (by simp[IK.opds])
  simp only[A8,h1,h2,h3]
 |lenk n=>rfl
 |alloc zs=>rfl
 |mv x=>simp only[A8,h x (by simp[IK.opds])]
 |un _ x=>simp only[A8,h x (by simp[IK.opds])]
 |eqnil _ x=>simp only[A8,h x (by simp[IK.opds])]
 |conv _ x=>simp only[A8,h x (by simp[IK.opds])]
 |cvs x=>simp only[A8,h x (by simp[IK.opds])]
 |faddr _ x=>simp only[A8,h x (by simp[IK.opds])]
 |field _ _ _ x=>simp only[A8,h x (by simp[IK.opds])]
 |ext _ x=>simp only[A8,h x (by simp[IK.opds])]
 |len x=>simp only[A8,h x (by simp[IK.opds])]
 |lens x=>simp only[A8,h x (by simp[IK.opds])]
 |load _ _ x=>simp only[A8,h x (by simp[IK.opds])]
 |box _ x=>simp only[A8,h x (by simp[IK.opds])]
 |rstr x=>simp only[A8,h x (by simp[IK.opds])]
 |nstr x=>simp only[A8,h x (by simp[IK.opds])]
 |nilck x=>simp only[A8,h x (by simp[IK.opds])]
 |bin _ x y=>simp only[A8,h x (by simp[IK.opds]),h y (by simp[IK.opds])]
 |eqb _ x y=>simp only[A8,h x (by simp[IK.opds]),h y (by simp[IK.opds])]
 |eqs _ _ x y=>simp only[A8,h x (by simp[IK.opds]),h y (by simp[IK.opds])]
 |ixarr _ _ x y=>simp only[A8,h x (by simp[IK.opds]),h y (by simp[IK.opds])]
 |ixsl _ x y=>simp only[A8,h x (by simp[IK.opds]),h y (by simp[IK.opds])]
 |ixstr x y=>simp only[A8,h x (by simp[IK.opds]),h y (by simp[IK.opds])]
 |ixval _ _ _ x y=>simp only[A8,h x (by simp[IK.opds]),h y (by simp[IK.opds])]
 |store _ x y=>simp only[A8,h x (by simp[IK.opds]),h y (by simp[IK.opds])]
 |mksl _ _ _ x y=>simp only[A8,h x (by simp[IK.opds]),h y (by simp[IK.opds])]
 |app _ _ x y=>simp only[A8,h x (by simp[IK.opds]),h y (by simp[IK.opds])]
 |callp f args=>
  have h1:=h f (by simp[IK.opds])
  have h2:=mp args (λy hy=>h y (by simp[IK.opds,hy]))
  simp only[A8,h1,h2]
 |calln id f args=>
  have h1:=h f (by simp[IK.opds])
  have h2:=mp args (λy hy=>h y (by simp[IK.opds,hy]))
  simp only[A8,h1,h2]
 |bslr id n sz zs ps=>simp only[A8,A6f ps _ _ h]
 |alloca id zs=>rfl
 |boxa id n x=>simp only[A8,h x (by simp[IK.opds])]
 |mkmap=>rfl
 |lkup sk ok g zs m k=>simp only[A8,h m (by simp[IK.opds]),h k (by simp[IK.opds])]
 |mupd sk m k v=>simp only[A8,h m (by simp[IK.opds]),h k (by simp[IK.opds]),h v (by simp[IK.opds])]
 |rmap x=>simp only[A8,h x (by simp[IK.opds])]
 |nmap x=>simp only[A8,h x (by simp[IK.opds])]
 |entry x=>simp only[A8,h x (by simp[IK.opds])]
 |stop=>rfl
 |mkb f x=>simp only[A8,h x (by simp[IK.opds])]
def M4(P:Program)(o:D0)(ρ:C5)(os:List AO)(r:AV)(os':List AO):Prop:=
 gI ρ o.guard (∀K:AV->List AO->Prop,K r os'->A8 P ρ os K o.op) (r=.tup []/\os'=os)
theorem M4.step{o:D0}{r:AV}{os':List AO}(h:M4 P o ρ os r os'){K:C5->List AO->Prop}(hk:K (updo o.dst r ρ) os'):n9 P o ρ os K:=by
 unfold n9
 refine B9V (λh1=>h1 _ hk) (λh2=>?_) h
 obtain⟨rfl,rfl⟩:=h2
 exact hk
theorem A51{o:D0}(hd:o.op.det=true){K:C5->List AO->Prop}(h:n9 P o ρ os K):∃r os',M4 P o ρ os r os'/\K (updo o.dst r ρ) os'/\(o.op.wr=false->os'=os):=by
 unfold n9 gI at h
 have main:∀h1:A8 P ρ os (λr os'=>K (updo o.dst r ρ) os') o.op,∃r os',(∀K:AV->List AO->Prop,K r os'->A8 P ρ os K o.op)/\K (updo o.dst r ρ) os'/\(o.op.wr=false->os'=os):=by
  intro h1
  by_cases hw:o.op.wr=false
  ·rw[B1U hw] at h1
   have h3:A8 P ρ os (λr os'=>os'=os/\K (updo o.dst r ρ) os) o.op:=by
    rw[B1U hw]
    simpa using h1
   obtain⟨r,os',⟨rfl,hk⟩,ha⟩:=A6K hd h3
   exact⟨r,_,ha,hk,λ_=>rfl⟩
  ·obtain⟨r,os',hk,ha⟩:=A6K hd h1
   exact⟨r,os',ha,hk,λh=>absurd h hw⟩
 unfold M4 gI
 split at h
 ·rename_i hg
  obtain⟨r,os',h1,h2,h3⟩:=main h
  exact⟨r,os',h1,h2,h3⟩
 ·rename_i t want hg
  split at h
  ·rename_i b hb
   by_cases hbw:b=want
   ·obtain⟨r,os',h1,h2,h3⟩:=main (h.1 hbw)
    exact⟨r,os',⟨λ_=>h1,λe=>by subst hbw;cases b<;>cases e⟩,h2,h3⟩
   ·have hbn:b=!want:=by cases b<;>cases want<;>simp_all
    exact⟨.tup [],os,⟨λe=>absurd e hbw,λ_=>⟨rfl,rfl⟩⟩,h.2 hbn,λ_=>rfl⟩
  ·rename_i hb
   exact⟨.tup [],os,⟨rfl,rfl⟩,h,λ_=>rfl⟩
  ·exact h.elim
theorem B9k{ρ:C5}{d:Option Nat}{r:AV}{x:B6}(h:∀t,d=some t->t∉ x.tmps):B8 (updo d r ρ) x=B8 ρ x:=by
 cases d with
 |none=>rfl
 |some t=>
  cases x with
  |t n=>
   have:n≠t:=λe=>h t rfl (by simp[B6.tmps,e])
   simp[B8,updo,upd,this]
  |_=>rfl
theorem M4.upd{o:D0}{d:Option Nat}{r s:AV}{os':List AO}(hl:∀t,d=some t->t∉ o.looks):M4 P o (updo d r ρ) os s os'=M4 P o ρ os s os':=by
 have h1:∀K:AV->List AO->Prop,A8 P (updo d r ρ) os K o.op=A8 P ρ os K o.op:=λK=>D6q o.op K λx hx=>B9k λt ht hm=>hl t ht (by
  unfold D0.looks
  exact List.mem_append_right _ (A4g.2 ⟨x,hx,hm⟩))
 unfold M4
 simp only[h1]
 unfold gI
 cases hg:o.guard with
 |none=>rfl
 |some tw=>
  obtain⟨t,want⟩:=tw
  have:Bi.updo d r ρ t=ρ t:=by
   cases d with
   |none=>rfl
   |some s=>
    have:t≠s:=λe=>hl s rfl (by unfold D0.looks;rw[hg];simp[e])
    simp[Bi.updo,Bi.upd,this]
  simp only[this]
theorem M4.nord{o:D0}{r:AV}(hr:o.op.rd=false)(h:M4 P o ρ os r os)(os2:List AO):M4 P o ρ os2 r os2:=by
 unfold M4 at *
 refine B9V (λh1 K hk=>?_) (λh2=>⟨h2.1,rfl⟩) h
 rw[C10 hr os]
 exact h1 (λr _=>K r os2) hk
theorem C2a{ρ:C5}{d e:Option Nat}{r s:AV}(h:∀t,d=some t->e≠some t):updo d r (updo e s ρ)=updo e s (updo d r ρ):=by
 cases d with
 |none=>rfl
 |some t=>
  cases e with
  |none=>rfl
  |some u=>
   have:t≠u:=λe=>h t rfl (by rw[e])
   funext x
   simp only[updo,upd]
   by_cases h1:x=t
   ·subst h1;simp[this]
   ·by_cases h2:x=u
    ·subst h2;simp[h1]
    ·simp[h1,h2]
theorem B0K{x y:D0}(h:x.apart y=true):x.op.det=true/\y.op.det=true/\(∀t,x.dst=some t->t∉ y.looks)/\(∀t,x.dst=some t->y.dst≠some t)/\(∀t,y.dst=some t->t∉ x.looks)/\
  (x.op.wr=true->y.op.rd=false)/\(y.op.wr=true->x.op.rd=false):=by
 unfold D0.apart at h
 simp only[L6,Bool.not_eq_true',Bool.and_eq_false_iff] at h
 obtain⟨⟨⟨⟨⟨h1,h2⟩,h3⟩,h4⟩,h5⟩,h6⟩:=h
 refine⟨h1,h2,λt ht=>?_,λt ht=>?_,λt ht=>?_,λhw=>?_,λhw=>?_⟩
 ·rw[ht] at h3;simp at h3;exact h3.1
 ·rw[ht] at h3;simp at h3;exact h3.2
 ·rw[ht] at h4;simpa using h4
 ·rcases h5 with h|h
  ·rw[hw] at h;cases h
  ·exact h
 ·rcases h6 with h|h
  ·exact h
  ·rw[hw] at h;cases h
theorem C2k(op:IK)(h:op.wr=true):op.rd=true:=by cases op<;>first|rfl|cases h
theorem swap{x y:D0}(ha:x.apart y=true){K:C5->List AO->Prop}(h:n9 P x ρ os λρ' os'=>n9 P y ρ' os' K):n9 P y ρ os λρ' os'=>n9 P x ρ' os' K:=by
 obtain⟨d1,d2,h1,h2,h3,h4,h5⟩:=B0K ha
 obtain⟨r,os1,g1,hA,w1⟩:=A51 d1 h
 obtain⟨s,os2,g2,hB,w2⟩:=A51 d2 hA
 rw[M4.upd h1] at g2
 have hcomm:updo y.dst s (updo x.dst r ρ)=updo x.dst r (updo y.dst s ρ):=(C2a h2).symm
 rw[hcomm] at hB
 by_cases hw1:x.op.wr=true
 ·have hr:=h4 hw1
  have hw2:y.op.wr=false:=by
   cases hq:y.op.wr with
   |false=>rfl
   |true=>rw[C2k _ hq] at hr;cases hr
  have:=w2 hw2
  subst this
  refine(g2.nord hr os).step ?_
  refine M4.step (r:=r) ?_ hB
  rw[M4.upd h3]
  exact g1
 ·have hw1:x.op.wr=false:=by simpa using hw1
  have:=w1 hw1
  subst this
  refine g2.step ?_
  by_cases hw2:y.op.wr=true
  ·have hr:=h5 hw2
   refine M4.step (r:=r) ?_ hB
   rw[M4.upd h3]
   exact g1.nord hr os2
  ·have hw2:y.op.wr=false:=by simpa using hw2
   have:=w2 hw2
   subst this
   refine M4.step (r:=r) ?_ hB
   rw[M4.upd h3]
   exact g1
theorem A9b{o:D0}(hd:o.op.det=true){K K':C5->List AO->Prop}(hk:∀ρ os,K ρ os->K' ρ os)(h:n9 P o ρ os K):n9 P o ρ os K':=by
 obtain⟨r,os',g,h,_⟩:=A51 hd h
 exact g.step (hk _ _ h)
theorem C12(is:List D0){i:Nat}{o:D0}(hi:is[i]?=some o)(K:C5->List AO->Prop):∀(l l':List Nat)(ρ:C5)(os:List AO),(∀j∈l,∃x,is[j]?=some x/\x.apart o=true)->
  Z8 P is (l++i::l') ρ os K->Z8 P is (i::(l++l')) ρ os K
 |[],l',ρ,os,ha,h=>h
 |j::l,l',ρ,os,ha,h=>by
  obtain⟨x,hx,hap⟩:=ha j (by simp)
  have ih:=λρ os=>C12 is hi K l l' ρ os (λj hj=>ha j (by simp[hj]))
  simp only[A3n,Z8,hx,hi] at h ih ⊢
  exact swap hap (A9b (B0K hap).1 (λρ os hh=>ih ρ os hh) h)
theorem B8i(E7:List Nat)(j:Nat):∀(es:List Edge)(s:Nat),(es.foldl (λs e=>if Region.binds .any e then s|||2 ^ e.on|||E7.getD e.on 0 else s) s).testBit j=true->
  s.testBit j=true\/∃e∈es,Region.binds .any e=true/\(e.on=j\/(E7.getD e.on 0).testBit j=true)
 |[],s,h=>.inl h
 |e::es,s,h=>by
  simp only[A2J] at h
  rcases B8i E7 j es _ h with h1|⟨e',he',hb,h2⟩
  ·split at h1
   ·rename_i hb
    rw[Nat.testBit_or,Nat.testBit_or] at h1
    simp only[A3i] at h1
    rcases h1 with (h1|h1)|h1
    ·exact .inl h1
    ·rw[Nat.testBit_two_pow] at h1
     exact .inr ⟨e,by simp,hb,.inl (by simpa using h1)⟩
    ·exact .inr ⟨e,by simp,hb,.inr h1⟩
   ·exact .inl h1
  ·exact .inr ⟨e',by simp[he'],hb,h2⟩
theorem B0J:∀(l:List Oper)(E7:List Nat),(∀i,i<E7.length->(X1 E7 l).getD i 0=E7.getD i 0)/\(X1 E7 l).length=E7.length+l.length/\
  ∀i j,E7.length<=i->((X1 E7 l).getD i 0).testBit j=true->∃o,l[i-E7.length]?=some o/\∃e∈o.after.toList,Region.binds .any e=true/\(e.on=j\/(e.on<i/\((X1 E7 l).getD e.on 0).testBit j=true))
 |[],E7=>⟨λ_ _=>rfl,rfl,λi j hi h=>by
   have:(X1 E7 []).getD i 0=0:=by simp[X1,E8,A0p hi]
   rw[this] at h
   simp at h⟩
 |o::l,E7=>by
  obtain⟨i1,i2,i3⟩:=B0J l (E7++[A5Q E7 o.after.toList])
  have hlen:(E7++[A5Q E7 o.after.toList]).length=E7.length+1:=by simp
  simp only[X1]
  refine⟨λi hi=>?_,by rw[i2,hlen];simp;omega,λi j hi h=>?_⟩
  ·rw[i1 i (by omega),E8,K4 hi,E8]
  ·rcases Nat.lt_or_ge E7.length i with hlt|hge
   ·obtain⟨o',ho',rest⟩:=i3 i j (by omega) h
    refine⟨o',?_,rest⟩
    rw[hlen] at ho'
    rw[show i-E7.length=(i-(E7.length+1))+1 by omega]
    simpa using ho'
   ·have hie:i=E7.length:=by omega
    subst hie
    rw[i1 _ (by omega)] at h
    have:(E7++[A5Q E7 o.after.toList]).getD E7.length 0=A5Q E7 o.after.toList:=by simp[E8]
    rw[this] at h
    rcases B8i E7 j _ 0 h with h1|⟨e,he,hb,h2⟩
    ·simp at h1
    ·refine⟨o,by simp,e,he,hb,h2.imp id λh3=>?_⟩
     have hlt:e.on<E7.length:=by
      rcases Nat.lt_or_ge e.on E7.length with h|h
      ·exact h
      ·have:E7.getD e.on 0=0:=by simp[E8,A0p h]
       rw[this] at h3
       simp at h3
     refine⟨hlt,?_⟩
     rw[i1 _ (by omega),E8,K4 hlt,<- E8]
     exact h3
def left(n:Nat)(listed:Array Bool):List Nat:=(List.range n).filter λi=>!listed.getD i true
theorem A1S{n:Nat}{listed:Array Bool}{i:Nat}:i∈left n listed↔i<n/\listed.getD i true=false:=by simp[left]
theorem A4N(n:Nat)(listed:Array Bool)(i:Nat)(hi:i∈left n listed)(hs:listed.size=n) :
  ∃l l',left n listed=l++i::l'/\left n (listed.setIfInBounds i true)=l++l'/\∀j∈l,j<i/\j∈left n listed:=by
 obtain⟨hin,hun⟩:=A1S.1 hi
 have hsplit:List.range n=List.range i++i::List.range' (i+1) (n-(i+1)):=by
  rw[A7K,A7K]
  have h1:List.range' 0 n=List.range' 0 i++List.range' i (n-i):=by
   have:=List.range'_append_1 (s:=0) (m:=i) (n:=n-i)
   rw[v7] at this
   rw[this]
   congr 1
   omega
  rw[h1]
  congr 1
  rw[show n-i=(n-(i+1))+1 by omega,List.range'_succ]
 have hne:∀j,j≠i->(listed.setIfInBounds i true).getD j true=listed.getD j true:=λj hj=>by
  simp[A0T (o5 hj)]
 have hself:(listed.setIfInBounds i true).getD i true=true:=by simp[hs,hin]
 refine⟨(List.range i).filter (λj=>!listed.getD j true),(List.range' (i+1) (n-(i+1))).filter (λj=>!listed.getD j true),?_,?_,λj hj=>?_⟩
 ·unfold left
  rw[hsplit,A3p,List.filter_cons,if_pos (by simp[hun])]
 ·unfold left
  rw[hsplit,A3p,List.filter_cons,if_neg (by simp[hself])]
  congr 1
  ·refine List.filter_congr λj hj=>?_
   rw[hne j (by have:=A1u.1 hj;omega)]
  ·refine List.filter_congr λj hj=>?_
   rw[hne j (by have:=(List.mem_range'_1.1 hj).1;omega)]
 ·obtain⟨h1,h2⟩:=v6.1 hj
  have hlt:=A1u.1 h1
  exact⟨hlt,A1S.2 ⟨by omega,by simpa using h2⟩⟩
theorem D6S{ops:Array Oper}{is:List D0}(hl:is.length=ops.size)(hd:A8i ops.toList is=true)(K:C5->List AO->Prop) :
  ∀(fuel t:Nat) (listed:Array Bool) (ρ:C5) (os:List AO),listed.size=ops.size->(left ops.size listed).length<=fuel->
   (∀i,i<ops.size->listed.getD i true=true->∀j,((X1 [] ops.toList).getD i 0).testBit j=true->listed.getD j true=true)->
   Z8 P is (left ops.size listed) ρ os K->Z8 P is (Region.linearise.go .any ops fuel t listed []) ρ os K:=by
 unfold A8i at hd
 simp only[L6,O3,A1u] at hd
 obtain⟨⟨hd3,hd1⟩,hd2⟩:=hd
 have hback:∀i o e,ops[i]?=some o->e∈o.after.toList->Region.binds .any e=true->e.on<i:=by
  intro i o e ho he hb
  have hi:=(u4.1 ho).1
  have:=hd1 i (by simpa using hi)
  rw[show ops.toList[i]?=some o by simpa using ho] at this
  simp only[O3,A3i,Bool.not_eq_true',decide_eq_true_eq] at this
  rcases this e he with h|h
  ·exact h
  ·rw[hb] at h;cases h
 have hanc:∀i j,((X1 [] ops.toList).getD i 0).testBit j=true->∃o,ops[i]?=some o/\∃e∈o.after.toList,Region.binds .any e=true/\(e.on=j\/(e.on<i/\((X1 [] ops.toList).getD e.on 0).testBit j=true)):=by
  intro i j h
  obtain⟨o,ho,rest⟩:=(B0J (ops.toList) []).2.2 i j (R1 _) h
  exact⟨o,by simpa using ho,rest⟩
 intro fuel
 induction fuel with
 |zero=>
  intro t listed ρ os hs hf hc h
  have:left ops.size listed=[]:=List.eq_nil_of_length_eq_zero (by omega)
  rw[this] at h
  simpa[Region.linearise.go] using h
 |succ fuel ih=>
  intro t listed ρ os hs hf hc h
  simp only[Region.linearise.go]
  change Z8 P is (match (Region.ready .any ops listed)[t % (Region.ready .any ops listed).length]? with
   |some i=>Region.linearise.go .any ops fuel (t / (Region.ready .any ops listed).length) (listed.setIfInBounds i true) [i]
   |none=>[].reverse) ρ os K
  cases hi:(Region.ready .any ops listed)[t % (Region.ready .any ops listed).length]? with
  |none=>
   have hnil:Region.ready .any ops listed=[]:=by
    cases hr:Region.ready .any ops listed with
    |nil=>rfl
    |cons x xs=>
     rw[hr] at hi
     have hlt:t % (x::xs).length<(x::xs).length:=Nat.mod_lt _ (by simp)
     rw[C3 hlt] at hi
     cases hi
   have hleft:left ops.size listed=[]:=by
    cases hq:left ops.size listed with
    |nil=>rfl
    |cons x xs=>
     exfalso
     -- the least place that is left is ready
     have hx:x∈left ops.size listed:=by rw[hq];simp
     obtain⟨l,l',e1,_,e3⟩:=A4N ops.size listed x hx hs
     have hl0:l=[]:=by
      rw[hq] at e1
      cases l with
      |nil=>rfl
      |cons y ys=>
       have:=(e3 y (by simp)).1
       injection e1 with e4 _
       omega
     obtain⟨hx1,hx2⟩:=A1S.1 hx
     have:x∈Region.ready .any ops listed:=by
      unfold Region.ready
      rw[v6]
      refine⟨A1u.2 hx1,?_⟩
      simp only[hx2,Bool.not_false,Y9]
      rw[J4 hx1]
      simp only[A10,l9,A9t]
      intro e he
      by_cases hb:Region.binds .any e=true
      ·have hlt:=hback x _ e (J4 hx1) (by simpa using he) hb
       have hnl:listed.getD e.on true=true:=by
        by_cases hq2:listed.getD e.on true=true
        ·exact hq2
        ·have hm:e.on∈left ops.size listed:=A1S.2 ⟨by omega,by simpa using hq2⟩
         rw[e1,hl0] at hm
         simp only[A1v] at hm
         -- everything left is at least x
         exfalso
         have hsorted:∀y∈left ops.size listed,x<=y:=by
          intro y hy
          obtain⟨l2,l2',f1,_,f3⟩:=A4N ops.size listed y hy hs
          rw[hq] at f1
          cases l2 with
          |nil=>injection f1 with f4 _;omega
          |cons z zs=>
           injection f1 with f4 _
           have:=(f3 z (by simp)).1
           omega
         have:=hsorted e.on (by rw[e1,hl0];exact hm)
         omega
       have hlt2:e.on<listed.size:=by omega
       simp[hb]
       simpa[hlt2] using hnl
      ·simp[hb]
     rw[hnil] at this
     cases this
   rw[hleft] at h
   simpa using h
  |some i=>
   have hready:=B9 hi
   dsimp only
   rw[linearise_go_acc,List.reverse_singleton,List.singleton_append]
   unfold Region.ready at hready
   rw[v6] at hready
   obtain⟨hr1,hr2⟩:=hready
   have hil:=A1u.1 hr1
   rw[L6,J4 hil] at hr2
   obtain⟨hr2,hr3⟩:=hr2
   have hun:listed.getD i true=false:=by simpa using hr2
   have hafter:∀e∈(ops[i]).after.toList,Region.binds .any e=true->listed.getD e.on true=true:=by
    intro e he hb
    simp only[A10,l9,A9t] at hr3
    have:=hr3 e (by simpa using he)
    simp only[hb,Bool.not_true,Bool.false_or] at this
    have hlt:=hback i _ e (J4 hil) he hb
    have hlt2:e.on<listed.size:=by omega
    simpa[hlt2] using this
   have hmem:i∈left ops.size listed:=A1S.2 ⟨hil,hun⟩
   obtain⟨l,l',e1,e2,e3⟩:=A4N ops.size listed i hmem hs
   have hio:is[i]?=some (is[i]'(by omega)):=C3 (by omega)
   rw[e1] at h
   have hanci:∀j,((X1 [] ops.toList).getD i 0).testBit j=true->listed.getD j true=true:=by
    intro j hj
    obtain⟨o,ho,e,he,hb,hcase⟩:=hanc i j hj
    rw[J4 hil] at ho
    cases ho
    have hle:=hafter e he hb
    rcases hcase with rfl|⟨hlt,hb2⟩
    ·exact hle
    ·exact hc e.on (by omega) hle j hb2
   have h:=C12 is hio K l l' ρ os (λj hj=>by
    obtain⟨hji,hjl⟩:=e3 j hj
    obtain⟨hj1,hj2⟩:=A1S.1 hjl
    refine⟨is[j]'(by omega),C3 (by omega),?_⟩
    have:=hd2 i (by omega) j hji
    simp only[A3i] at this
    rcases this with h1|h1
    ·have:=hanci j h1
     rw[hj2] at this
     cases this
    ·simpa[E8,C3 (show i<is.length by omega),C3 (show j<is.length by omega)] using h1) h
   simp only[Z8,hio] at h ⊢
   have hdet:(is[i]'(by omega)).op.det=true:=hd3 _ (A2a _)
   refine A9b hdet (λρ' os' hh=>?_) h
   refine ih _ (listed.setIfInBounds i true) ρ' os' (by simpa using hs) ?_ (λk hk hkl j hj=>?_) (by rw[e2];exact hh)
   ·rw[e2]
    rw[e1] at hf
    simp at hf ⊢
    omega
   ·by_cases hki:k=i
    ·subst hki
     have:=hanci j hj
     by_cases hji:j=k
     ·subst hji
      simp[show j<listed.size by omega]
     ·rw[show(listed.setIfInBounds k true).getD j true=listed.getD j true by simp[A0T (o5 hji)]]
      exact this
    ·rw[show(listed.setIfInBounds i true).getD k true=listed.getD k true by simp[A0T (o5 hki)]] at hkl
     have:=hc k hk hkl j hj
     by_cases hji:j=i
     ·subst hji
      simp[show j<listed.size by omega]
     ·rw[show(listed.setIfInBounds i true).getD j true=listed.getD j true by simp[A0T (o5 hji)]]
      exact this
end
end Go.Bi
