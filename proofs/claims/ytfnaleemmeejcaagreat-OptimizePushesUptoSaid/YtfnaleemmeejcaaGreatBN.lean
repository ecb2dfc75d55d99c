/- The operations of a region may be carried out in any order that their edges allow. No condition. -/
import Derived.Test.YtfnaleemmeejcaaGreatBM
set_option linter.unusedVariables false
namespace Go.Bi
set_option linter.unusedSectionVars false
variable [N0]
section
variable {P:Program}{os:List AO}{ρ:D5}
theorem B2D{op:IK}(hw:op.wr=false)(K:AV->List AO->Prop):A7 P ρ os K op=A7 P ρ os (λr _=>K r os) op:=by
 cases op<;>first|rfl|cases hw
theorem C2V{op:IK}(hr:op.rd=false)(os2:List AO)(K:AV->List AO->Prop):A7 P ρ os K op=A7 P ρ os2 (λr _=>K r os) op:=by
 cases op<;>first|rfl|cases hr
theorem A6O{ρ ρ':D5}:∀(ps:List (Nat×Nat×C1))(cs:List AV)(K:List AV->Prop),(∀x∈ps.map (·.2.2),C0 ρ x=C0 ρ' x)->Q5 ρ ps cs K=Q5 ρ' ps cs K
 |[],cs,K,h=>rfl
 |(off,n,x)::ps,cs,K,h=>by
  have hx:=h x (by simp)
  simp only[Q5,hx]
  split
  ·rw[A6O ps _ K (λy hy=>h y (by simp at hy ⊢;exact .inr hy))]
  ·rfl
theorem A52{ρ ρ':D5}{x:Option C1}{d:Nat}{K:Int->Prop}(h:∀y∈x.toList,C0 ρ y=C0 ρ' y):V1 ρ x d K=V1 ρ' x d K:=by
 cases x with
 |none=>rfl
 |some y=>simp only[V1,h y (by simp)]
theorem C2v{α β:Type}{f g:α->Option β}:∀(l:List α),(∀x∈l,f x=g x)->l.mapM f=l.mapM g
 |[],_=>rfl
 |x::l,h=>by
  simp only[A0L,h x (by simp),C2v l (λy hy=>h y (by simp[hy]))]
theorem C2U{ρ ρ':D5}(op:IK)(K:AV->List AO->Prop)(h:∀x∈op.opds,C0 ρ x=C0 ρ' x):A7 P ρ os K op=A7 P ρ' os K op:=by
 have mp:∀xs:List C1,(∀x∈xs,C0 ρ x=C0 ρ' x)->xs.map (C0 ρ)=xs.map (C0 ρ'):=λxs hx=>P5 hx
 cases op with
 |build zs ps=>simp only[A7,A6O ps _ _ h]
 |bsl n sz zs ps=>simp only[A7,A6O ps _ _ h]
 |bsld n sz zs ps=>simp only[A7,A6O ps _ _ h]
 |slstr x lo hi=>
  have h1:=h x (by simp[IK.opds])
  have h2:∀y∈hi.toList,C0 ρ y=C0 ρ' y:=λy hy=>h y (by simp[IK.opds];exact .inr (.inr (by simpa using hy)))
  have h3:∀y∈lo.toList,C0 ρ y=C0 ρ' y:=λy hy=>h y (by simp[IK.opds];exact .inr (.inl (by simpa using hy)))
  simp only[A7,h1,A52 h2,A52 h3]
 |slsl sz x lo hi=>
  have h1:=h x (by simp[IK.opds])
  have h2:∀y∈hi.toList,C0 ρ y=C0 ρ' y:=λy hy=>h y (by simp[IK.opds];exact .inr (.inr (by simpa using hy)))
  have h3:∀y∈lo.toList,C0 ρ y=C0 ρ' y:=λy hy=>h y (by simp[IK.opds];exact .inr (.inl (by simpa using hy)))
  simp only[A7,slI,h1,A52 h2,A52 h3]
 |slsld sz x lo hi=>
  have h1:=h x (by simp[IK.opds])
  have h2:∀y∈hi.toList,C0 ρ y=C0 ρ' y:=λy hy=>h y (by simp[IK.opds];exact .inr (.inr (by simpa using hy)))
  have h3:∀y∈lo.toList,C0 ρ y=C0 ρ' y:=λy hy=>h y (by simp[IK.opds];exact .inr (.inl (by simpa using hy)))
  simp only[A7,A2Z,h1,A52 h2,A52 h3]
 |clo f caps=>
  have:∀c∈caps,A54 (C0 ρ c)=A54 (C0 ρ' c):=λc hc=>by rw[h c hc]
  simp only[A7]
  split
  ·rfl
  ·rw[C2v caps this]
 |minmax mx x xs=>
  have h1:=h x (by simp[IK.opds])
  have h2:=mp xs (λy hy=>h y (by simp[IK.opds,hy]))
  simp only[A7,h1,h2]
 |call f args=>
  have h1:=h f (by simp[IK.opds])
  have h2:=mp args (λy hy=>h y (by simp[IK.opds,hy]))
  simp only[A7,h1,h2]
 |calld f args=>
  have h1:=h f (by simp[IK.opds])
  have h2:=mp args (λy hy=>h y (by simp[IK.opds,hy]))
  simp only[A7,h1,h2]
 |pick a b c=>
  have h1:=h a (by simp[IK.opds])
  have h2:=h b (by simp[IK.opds])
  have h3:=h c (by simp[IK.opds])
  simp only[A7,h1,h2,h3]
 |lenk n=>rfl
 |alloc zs=>rfl
 |mv x=>simp only[A7,h x (by simp[IK.opds])]
 |un _ x=>simp only[A7,h x (by simp[IK.opds])]
 |eqnil _ x=>simp only[A7,h x (by simp[IK.opds])]
 |conv _ x=>simp only[A7,h x (by simp[IK.opds])]
 |cvs x=>simp only[A7,h x (by simp[IK.opds])]
 |faddr _ x=>simp only[A7,h x (by simp[IK.opds])]
 |field _ _ _ x=>simp only[A7,h x (by simp[IK.opds])]
 |ext _ x=>simp only[A7,h x (by simp[IK.opds])]
 |len x=>simp only[A7,h x (by simp[IK.opds])]
 |lens x=>simp only[A7,h x (by simp[IK.opds])]
 |load _ _ x=>simp only[A7,h x (by simp[IK.opds])]
 |box _ x=>simp only[A7,h x (by simp[IK.opds])]
 |rstr x=>simp only[A7,h x (by simp[IK.opds])]
 |nstr x=>simp only[A7,h x (by simp[IK.opds])]
 |nilck x=>simp only[A7,h x (by simp[IK.opds])]
 |bin _ x y=>simp only[A7,h x (by simp[IK.opds]),h y (by simp[IK.opds])]
 |eqb _ x y=>simp only[A7,h x (by simp[IK.opds]),h y (by simp[IK.opds])]
 |eqs _ _ x y=>simp only[A7,h x (by simp[IK.opds]),h y (by simp[IK.opds])]
 |ixarr _ _ x y=>simp only[A7,h x (by simp[IK.opds]),h y (by simp[IK.opds])]
 |ixsl _ x y=>simp only[A7,h x (by simp[IK.opds]),h y (by simp[IK.opds])]
 |ixstr x y=>simp only[A7,h x (by simp[IK.opds]),h y (by simp[IK.opds])]
 |ixval _ _ _ x y=>simp only[A7,h x (by simp[IK.opds]),h y (by simp[IK.opds])]
 |store _ x y=>simp only[A7,h x (by simp[IK.opds]),h y (by simp[IK.opds])]
 |mksl _ _ _ x y=>simp only[A7,h x (by simp[IK.opds]),h y (by simp[IK.opds])]
 |app _ _ x y=>simp only[A7,h x (by simp[IK.opds]),h y (by simp[IK.opds])]
 |callp f args=>
  have h1:=h f (by simp[IK.opds])
  have h2:=mp args (λy hy=>h y (by simp[IK.opds,hy]))
  simp only[A7,h1,h2]
 |callo f args=>
  have h1:=h f (by simp[IK.opds])
  have h2:=mp args (λy hy=>h y (by simp[IK.opds,hy]))
  simp only[A7,h1,h2]
 |calln id f args=>
  have h1:=h f (by simp[IK.opds])
  have h2:=mp args (λy hy=>h y (by simp[IK.opds,hy]))
  simp only[A7,h1,h2]
 |bslr id n sz zs ps=>simp only[A7,A6O ps _ _ h]
 |alloca id zs=>rfl
 |boxa id n x=>simp only[A7,h x (by simp[IK.opds])]
 |mkmap=>rfl
 |lkup sk ok g zs m k=>simp only[A7,h m (by simp[IK.opds]),h k (by simp[IK.opds])]
 |mupd sk m k v=>simp only[A7,h m (by simp[IK.opds]),h k (by simp[IK.opds]),h v (by simp[IK.opds])]
 |rmap x=>simp only[A7,h x (by simp[IK.opds])]
 |nmap x=>simp only[A7,h x (by simp[IK.opds])]
 |entry x=>simp only[A7,h x (by simp[IK.opds])]
 |stop=>rfl
 |mkb f x=>simp only[A7,h x (by simp[IK.opds])]
theorem B9.mono{P:Program}{f:FuncId}{args:List AV}{bs:List AO}{Q Q':AV->List AO->Prop}(h:B9 P f args bs Q)(hq:∀r os,Q r os->Q' r os):B9 P f args bs Q':=
 ⟨h.1,λM G w vs he hl hv=>(h.2 M G w vs he hl hv).mono λe w' ⟨v,he,M',G',r,os',h1,h2,h3,h4⟩=>⟨v,he,M',G',r,os',h1,h2,h3,hq r os' h4⟩⟩
theorem B2C{P:Program}{ρ:D5}{os:List AO}{K K':AV->List AO->Prop}{op:IK}(hk:∀r os,K r os->K' r os)(h:A7 P ρ os K op):A7 P ρ os K' op:=by
 by_cases hd:op.det=true
 ·obtain⟨r,os',h1,h2⟩:=A7c hd h
  exact h2 K' (hk _ _ h1)
 ·cases op with
  |call f args=>
   simp only[A7] at h ⊢
   rcases h with h|h
   ·refine .inl ?_
    split at h
    ·rename_i as os1 e
     split at h
     ·rename_i g e2
      split at h
      ·rename_i e3
       rw[if_pos e3]
       exact B9.mono h hk
      ·rename_i e3
       rw[if_neg e3]
       exact B9.mono h λr os'=>hk _ _
     ·rename_i g caps e2
      exact B9.mono h hk
     ·rename_i g id e2
      exact B9.mono h hk
     ·rename_i v e2
      split at h
      ·rename_i g ds e3
       exact⟨h.1,B9.mono h.2 λr os'=>hk _ _⟩
      ·exact h.elim
     ·exact h.elim
    ·exact h.elim
   ·refine .inr ?_
    split at h
    ·exact⟨h.1,B9.mono h.2 hk⟩
    ·exact h.elim
  |nmap x=>
   simp only[A7] at h ⊢
   split at h
   ·split at h
    ·split at h
     ·exact⟨h.1,λi p hi hp=>hk _ _ (h.2.1 i p hi hp),λhn=>hk _ _ (h.2.2 hn)⟩
     ·exact h.elim
    ·exact h.elim
   ·exact h.elim
  |_=>exact absurd rfl hd
theorem C3V{o:D0}{K K':D5->List AO->Prop}(hk:∀r os',K (updo o.dst r ρ) os'->K' (updo o.dst r ρ) os')(h:S5 P o ρ os K):S5 P o ρ os K':=by
 unfold S5 at h ⊢
 exact A97 (λh1=>B2C (λr os'=>hk _ _) h1) (λh2=>hk _ _ h2) h
theorem C3U{o:D0}{K K':D5->List AO->Prop}(hk:∀ρ os,K ρ os->K' ρ os)(h:S5 P o ρ os K):S5 P o ρ os K':=by
 unfold S5 at h ⊢
 exact A97 (λh1=>B2C (λr os'=>hk _ _) h1) (λh2=>hk _ _ h2) h
def O1(P:Program)(o:D0)(ρ:D5)(os:List AO)(r:AV)(os':List AO):Prop:=
 gI ρ o.guard (∀K:AV->List AO->Prop,K r os'->A7 P ρ os K o.op) (r=.tup []/\os'=os)
theorem O1.step{o:D0}{r:AV}{os':List AO}(h:O1 P o ρ os r os'){K:D5->List AO->Prop}(hk:K (updo o.dst r ρ) os'):S5 P o ρ os K:=by
 unfold S5
 refine A97 (λh1=>h1 _ hk) (λh2=>?_) h
 obtain⟨rfl,rfl⟩:=h2
 exact hk
theorem A5I{o:D0}(hd:o.op.det=true){K:D5->List AO->Prop}(h:S5 P o ρ os K):∃r os',O1 P o ρ os r os'/\K (updo o.dst r ρ) os'/\(o.op.wr=false->os'=os):=by
 unfold S5 gI at h
 have main:∀h1:A7 P ρ os (λr os'=>K (updo o.dst r ρ) os') o.op,∃r os',(∀K:AV->List AO->Prop,K r os'->A7 P ρ os K o.op)/\K (updo o.dst r ρ) os'/\(o.op.wr=false->os'=os):=by
  intro h1
  by_cases hw:o.op.wr=false
  ·rw[B2D hw] at h1
   have h3:A7 P ρ os (λr os'=>os'=os/\K (updo o.dst r ρ) os) o.op:=by
    rw[B2D hw]
    simpa using h1
   obtain⟨r,os',⟨rfl,hk⟩,ha⟩:=A7c hd h3
   exact⟨r,_,ha,hk,λ_=>rfl⟩
  ·obtain⟨r,os',hk,ha⟩:=A7c hd h1
   exact⟨r,os',ha,hk,λh=>absurd h hw⟩
 unfold O1 gI
 split at h
 ·rename_i hg
  obtain⟨r,os',h1,h2,h3⟩:=main h
  exact⟨r,os',h1,h2,h3⟩
 ·rename_i t want hg
  split at h
  ·rename_i b hb
   by_cases hbw:b=want
   ·obtain⟨r,os',h1,h2,h3⟩:=main (h.1 hbw)
    exact⟨r,os',⟨λ_=>h1,λe=>by subst hbw;cases b<;>cases e⟩,h2,h3⟩
   ·have hbn:b=!want:=by cases b<;>cases want<;>simp_all
    exact⟨.tup [],os,⟨λe=>absurd e hbw,λ_=>⟨rfl,rfl⟩⟩,h.2 hbn,λ_=>rfl⟩
  ·rename_i hb
   exact⟨.tup [],os,⟨rfl,rfl⟩,h,λ_=>rfl⟩
  ·exact h.elim
theorem A6M{ρ:D5}{d:Option Nat}{r:AV}{x:C1}(h:∀t,d=some t->t∉ x.tmps):C0 (updo d r ρ) x=C0 ρ x:=by
 cases d with
 |none=>rfl
 |some t=>
  cases x with
  |t n=>
   have:n≠t:=λe=>h t rfl (by simp[C1.tmps,e])
   simp[C0,updo,upd,this]
  |_=>rfl
theorem O1.upd{o:D0}{d:Option Nat}{r s:AV}{os':List AO}(hl:∀t,d=some t->t∉ o.looks):O1 P o (updo d r ρ) os s os'=O1 P o ρ os s os':=by
 have h1:∀K:AV->List AO->Prop,A7 P (updo d r ρ) os K o.op=A7 P ρ os K o.op:=λK=>C2U o.op K λx hx=>A6M λt ht hm=>hl t ht (by
  unfold D0.looks
  exact A8a _ (A03.2 ⟨x,hx,hm⟩))
 unfold O1
 simp only[h1]
 unfold gI
 cases hg:o.guard with
 |none=>rfl
 |some tw=>
  obtain⟨t,want⟩:=tw
  have:Bi.updo d r ρ t=ρ t:=by
   cases d with
   |none=>rfl
   |some s=>
    have:t≠s:=λe=>hl s rfl (by unfold D0.looks;rw[hg];simp[e])
    simp[Bi.updo,Bi.upd,this]
  simp only[this]
theorem O1.nord{o:D0}{r:AV}(hr:o.op.rd=false)(h:O1 P o ρ os r os)(os2:List AO):O1 P o ρ os2 r os2:=by
 unfold O1 at *
 refine A97 (λh1 K hk=>?_) (λh2=>⟨h2.1,rfl⟩) h
 rw[C2V hr os]
 exact h1 (λr _=>K r os2) hk
theorem B3j{ρ:D5}{d e:Option Nat}{r s:AV}(h:∀t,d=some t->e≠some t):updo d r (updo e s ρ)=updo e s (updo d r ρ):=by
 cases d with
 |none=>rfl
 |some t=>
  cases e with
  |none=>rfl
  |some u=>
   have:t≠u:=λe=>h t rfl (by rw[e])
   funext x
   simp only[updo,upd]
   by_cases h1:x=t
   ·subst h1;simp[this]
   ·by_cases h2:x=u
    ·subst h2;simp[h1]
    ·simp[h1,h2]
theorem C09{x y:D0}(h:x.apart y=true):x.op.det=true/\y.op.det=true/\(∀t,x.dst=some t->t∉ y.looks)/\(∀t,x.dst=some t->y.dst≠some t)/\(∀t,y.dst=some t->t∉ x.looks)/\
  (x.op.wr=true->y.op.rd=false)/\(y.op.wr=true->x.op.rd=false):=by
 unfold D0.apart at h
 simp only[K7,Bool.not_eq_true',Bool.and_eq_false_iff] at h
 obtain⟨⟨⟨⟨⟨h1,h2⟩,h3⟩,h4⟩,h5⟩,h6⟩:=h
 refine⟨h1,h2,λt ht=>?_,λt ht=>?_,λt ht=>?_,λhw=>?_,λhw=>?_⟩
 ·rw[ht] at h3;simp at h3;exact h3.1
 ·rw[ht] at h3;simp at h3;exact h3.2
 ·rw[ht] at h4;simpa using h4
 ·rcases h5 with h|h
  ·rw[hw] at h;cases h
  ·exact h
 ·rcases h6 with h|h
  ·exact h
  ·rw[hw] at h;cases h
theorem C4l(op:IK)(h:op.wr=true):op.rd=true:=by cases op<;>first|rfl|cases h
theorem swap{x y:D0}(ha:x.apart y=true){K:D5->List AO->Prop}(h:S5 P x ρ os λρ' os'=>S5 P y ρ' os' K):S5 P y ρ os λρ' os'=>S5 P x ρ' os' K:=by
 obtain⟨d1,d2,h1,h2,h3,h4,h5⟩:=C09 ha
 obtain⟨r,os1,g1,hA,w1⟩:=A5I d1 h
 obtain⟨s,os2,g2,hB,w2⟩:=A5I d2 hA
 rw[O1.upd h1] at g2
 have hcomm:updo y.dst s (updo x.dst r ρ)=updo x.dst r (updo y.dst s ρ):=(B3j h2).symm
 rw[hcomm] at hB
 by_cases hw1:x.op.wr=true
 ·have hr:=h4 hw1
  have hw2:y.op.wr=false:=by
   cases hq:y.op.wr with
   |false=>rfl
   |true=>rw[C4l _ hq] at hr;cases hr
  have:=w2 hw2
  subst this
  refine(g2.nord hr os).step ?_
  refine O1.step (r:=r) ?_ hB
  rw[O1.upd h3]
  exact g1
 ·have hw1:x.op.wr=false:=by simpa using hw1
  have:=w1 hw1
  subst this
  refine g2.step ?_
  by_cases hw2:y.op.wr=true
  ·have hr:=h5 hw2
   refine O1.step (r:=r) ?_ hB
   rw[O1.upd h3]
   exact g1.nord hr os2
  ·have hw2:y.op.wr=false:=by simpa using hw2
   have:=w2 hw2
   subst this
   refine O1.step (r:=r) ?_ hB
   rw[O1.upd h3]
   exact g1
theorem C3T{o:D0}(hd:o.op.det=true){K K':D5->List AO->Prop}(hk:∀ρ os,K ρ os->K' ρ os)(h:S5 P o ρ os K):S5 P o ρ os K':=by
 obtain⟨r,os',g,h,_⟩:=A5I hd h
 exact g.step (hk _ _ h)
theorem C29{o:D0}(h:o.isMv=true):∃x,o=⟨o.dst,none,.mv x⟩:=by
 obtain⟨d,g,op⟩:=o
 unfold D0.isMv at h
 rw[K7] at h
 cases g with
 |some _=>simp at h
 |none=>
  cases op with
  |mv x=>exact⟨x,rfl⟩
  |_=>simp at h
theorem A9O{d:Option Nat}{x:C1}{K:D5->List AO->Prop}:S5 P ⟨d,none,.mv x⟩ ρ os K=K (updo d (C0 ρ x) ρ) os:=rfl
theorem D4y{x y:D0}(h:x.apartM y=true):(x.isMv=true\/y.isMv=true)/\(∀t,x.dst=some t->t∉ y.looks)/\(∀t,x.dst=some t->y.dst≠some t)/\(∀t,y.dst=some t->t∉ x.looks):=by
 unfold D0.apartM at h
 simp only[K7,A2u] at h
 obtain⟨⟨h1,h3⟩,h4⟩:=h
 refine⟨h1,λt ht=>?_,λt ht=>?_,λt ht=>?_⟩
 ·rw[ht] at h3;simp at h3;exact h3.1
 ·rw[ht] at h3;simp at h3;exact h3.2
 ·rw[ht] at h4;simpa using h4
theorem C3W{o:D0}{d:Option Nat}{v:AV}{K:D5->List AO->Prop}(hl:∀t,d=some t->t∉ o.looks)(hd:∀t,d=some t->o.dst≠some t):S5 P o (updo d v ρ) os K=S5 P o ρ os λρ' os'=>K (updo d v ρ') os':=by
 have hc:∀r,updo o.dst r (updo d v ρ)=updo d v (updo o.dst r ρ):=λr=>(B3j hd).symm
 unfold S5
 simp only[hc]
 have h1:∀K:AV->List AO->Prop,A7 P (updo d v ρ) os K o.op=A7 P ρ os K o.op:=λK=>C2U o.op K λx hx=>A6M λt ht hm=>hl t ht (by
  unfold D0.looks
  exact A8a _ (A03.2 ⟨x,hx,hm⟩))
 rw[h1]
 unfold gI
 cases hg:o.guard with
 |none=>rfl
 |some tw=>
  obtain⟨t,want⟩:=tw
  have:Bi.updo d v ρ t=ρ t:=by
   cases d with
   |none=>rfl
   |some s=>
    have:t≠s:=λe=>hl s rfl (by unfold D0.looks;rw[hg];simp[e])
    simp[Bi.updo,Bi.upd,this]
  simp only[this]
theorem D9D{x y:D0}(ha:x.apartM y=true){K:D5->List AO->Prop}(h:S5 P x ρ os λρ' os'=>S5 P y ρ' os' K):S5 P y ρ os λρ' os'=>S5 P x ρ' os' K:=by
 obtain⟨hm,h1,h2,h3⟩:=D4y ha
 rcases hm with hm|hm
 ·obtain⟨z,e⟩:=C29 hm
  have hz:∀t,y.dst=some t->t∉ z.tmps:=λt ht hm=>h3 t ht (by rw[e];simp[D0.looks,IK.opds,hm])
  rw[e,A9O,C3W h1 h2] at h
  refine C3V (λr os' hk=>?_) h
  rw[e,A9O,A6M hz]
  exact hk
 ·obtain⟨z,e⟩:=C29 hm
  have hz:∀t,x.dst=some t->t∉ z.tmps:=λt ht hm=>h1 t ht (by rw[e];simp[D0.looks,IK.opds,hm])
  rw[e,A9O]
  rw[C3W h3 (λt ht e2=>h2 t e2 ht)]
  refine C3V (λr os' hk=>?_) h
  rw[e,A9O,A6M hz] at hk
  exact hk
theorem C2W(is:List D0){i:Nat}{o:D0}(hi:is[i]?=some o)(K:D5->List AO->Prop):∀(l l':List Nat)(ρ:D5)(os:List AO),(∀j∈l,∃x,is[j]?=some x/\(x.apart o=true\/x.apartM o=true))->
  j5 P is (l++i::l') ρ os K->j5 P is (i::(l++l')) ρ os K
 |[],l',ρ,os,ha,h=>h
 |j::l,l',ρ,os,ha,h=>by
  obtain⟨x,hx,hap⟩:=ha j (by simp)
  have ih:=λρ os=>C2W is hi K l l' ρ os (λj hj=>ha j (by simp[hj]))
  simp only[A4K,j5,hx,hi] at h ih ⊢
  have h:=C3U (λρ os hh=>ih ρ os hh) h
  rcases hap with hap|hap
  ·exact swap hap h
  ·exact D9D hap h
theorem C05(J2:List Nat)(j:Nat):∀(es:List Edge)(s:Nat),(es.foldl (λs e=>if Region.binds .any e then s|||2 ^ e.on|||J2.getD e.on 0 else s) s).testBit j=true->
  s.testBit j=true\/∃e∈es,Region.binds .any e=true/\(e.on=j\/(J2.getD e.on 0).testBit j=true)
 |[],s,h=>.inl h
 |e::es,s,h=>by
  simp only[s6] at h
  rcases C05 J2 j es _ h with h1|⟨e',he',hb,h2⟩
  ·split at h1
   ·rename_i hb
    rw[Nat.testBit_or,Nat.testBit_or] at h1
    simp only[A2u] at h1
    rcases h1 with (h1|h1)|h1
    ·exact .inl h1
    ·rw[Nat.testBit_two_pow] at h1
     exact .inr ⟨e,by simp,hb,.inl (by simpa using h1)⟩
    ·exact .inr ⟨e,by simp,hb,.inr h1⟩
   ·exact .inl h1
  ·exact .inr ⟨e',by simp[he'],hb,h2⟩
theorem B1t:∀(l:List Oper)(J2:List Nat),(∀i,i<J2.length->(W6 J2 l).getD i 0=J2.getD i 0)/\(W6 J2 l).length=J2.length+l.length/\
  ∀i j,J2.length<=i->((W6 J2 l).getD i 0).testBit j=true->∃o,l[i-J2.length]?=some o/\∃e∈o.after.toList,Region.binds .any e=true/\(e.on=j\/(e.on<i/\((W6 J2 l).getD e.on 0).testBit j=true))
 |[],J2=>⟨λ_ _=>rfl,rfl,λi j hi h=>by
   have:(W6 J2 []).getD i 0=0:=by simp[W6,I4,A1m hi]
   rw[this] at h
   simp at h⟩
 |o::l,J2=>by
  obtain⟨i1,i2,i3⟩:=B1t l (J2++[A6j J2 o.after.toList])
  have hlen:(J2++[A6j J2 o.after.toList]).length=J2.length+1:=by simp
  simp only[W6]
  refine⟨λi hi=>?_,by rw[i2,hlen];simp;omega,λi j hi h=>?_⟩
  ·rw[i1 i (by omega),I4,P8 hi,I4]
  ·rcases Nat.lt_or_ge J2.length i with hlt|hge
   ·obtain⟨o',ho',rest⟩:=i3 i j (by omega) h
    refine⟨o',?_,rest⟩
    rw[hlen] at ho'
    rw[show i-J2.length=(i-(J2.length+1))+1 by omega]
    simpa using ho'
   ·have hie:i=J2.length:=by omega
    subst hie
    rw[i1 _ (by omega)] at h
    have:(J2++[A6j J2 o.after.toList]).getD J2.length 0=A6j J2 o.after.toList:=by simp[I4]
    rw[this] at h
    rcases C05 J2 j _ 0 h with h1|⟨e,he,hb,h2⟩
    ·simp at h1
    ·refine⟨o,by simp,e,he,hb,h2.imp id λh3=>?_⟩
     have hlt:e.on<J2.length:=by
      rcases Nat.lt_or_ge e.on J2.length with h|h
      ·exact h
      ·have:J2.getD e.on 0=0:=by simp[I4,A1m h]
       rw[this] at h3
       simp at h3
     refine⟨hlt,?_⟩
     rw[i1 _ (by omega),I4,P8 hlt,<- I4]
     exact h3
def left(n:Nat)(listed:Array Bool):List Nat:=(List.range n).filter λi=>!listed.getD i true
theorem A2d{n:Nat}{listed:Array Bool}{i:Nat}:i∈left n listed↔i<n/\listed.getD i true=false:=by simp[left]
theorem A5t(n:Nat)(listed:Array Bool)(i:Nat)(hi:i∈left n listed)(hs:listed.size=n) :
  ∃l l',left n listed=l++i::l'/\left n (listed.setIfInBounds i true)=l++l'/\∀j∈l,j<i/\j∈left n listed:=by
 obtain⟨hin,hun⟩:=A2d.1 hi
 have hsplit:List.range n=List.range i++i::List.range' (i+1) (n-(i+1)):=by
  rw[A8c,A8c]
  have h1:List.range' 0 n=List.range' 0 i++List.range' i (n-i):=by
   have:=List.range'_append_1 (s:=0) (m:=i) (n:=n-i)
   rw[A0Q] at this
   rw[this]
   congr 1
   omega
  rw[h1]
  congr 1
  rw[show n-i=(n-(i+1))+1 by omega,List.range'_succ]
 have hne:∀j,j≠i->(listed.setIfInBounds i true).getD j true=listed.getD j true:=λj hj=>by
  simp[A1V (Ne.symm hj)]
 have hself:(listed.setIfInBounds i true).getD i true=true:=by simp[hs,hin]
 refine⟨(List.range i).filter (λj=>!listed.getD j true),(List.range' (i+1) (n-(i+1))).filter (λj=>!listed.getD j true),?_,?_,λj hj=>?_⟩
 ·unfold left
  rw[hsplit,v7,g9,if_pos (by simp[hun])]
 ·unfold left
  rw[hsplit,v7,g9,if_neg (by simp[hself])]
  congr 1
  ·refine List.filter_congr λj hj=>?_
   rw[hne j (by have:=A1X.1 hj;omega)]
  ·refine List.filter_congr λj hj=>?_
   rw[hne j (by have:=(List.mem_range'_1.1 hj).1;omega)]
 ·obtain⟨h1,h2⟩:=m0.1 hj
  have hlt:=A1X.1 h1
  exact⟨hlt,A2d.2 ⟨by omega,by simpa using h2⟩⟩
theorem D5G{ops:List Oper}{is:List D0}(h:A8O ops is=true):A5b ops is=true:=by
 unfold A8O at h
 unfold A5b
 simp only[K7,L7,A1X,A2u] at h ⊢
 exact⟨h.1.2,λj hj i hi=>.inl (h.2 j hj i hi)⟩
theorem D93{ops:Array Oper}{is:List D0}(hl:is.length=ops.size)(hd:A5b ops.toList is=true)(K:D5->List AO->Prop) :
  ∀(fuel t:Nat) (listed:Array Bool) (ρ:D5) (os:List AO),listed.size=ops.size->(left ops.size listed).length<=fuel->
   (∀i,i<ops.size->listed.getD i true=true->∀j,((W6 [] ops.toList).getD i 0).testBit j=true->listed.getD j true=true)->
   j5 P is (left ops.size listed) ρ os K->j5 P is (Region.linearise.go .any ops fuel t listed []) ρ os K:=by
 unfold A5b at hd
 simp only[K7,L7,A1X] at hd
 obtain⟨hd1,hd2⟩:=hd
 have hback:∀i o e,ops[i]?=some o->e∈o.after.toList->Region.binds .any e=true->e.on<i:=by
  intro i o e ho he hb
  have hi:=(A01.1 ho).1
  have:=hd1 i (by simpa using hi)
  rw[show ops.toList[i]?=some o by simpa using ho] at this
  simp only[L7,A2u,Bool.not_eq_true',decide_eq_true_eq] at this
  rcases this e he with h|h
  ·exact h
  ·rw[hb] at h;cases h
 have hanc:∀i j,((W6 [] ops.toList).getD i 0).testBit j=true->∃o,ops[i]?=some o/\∃e∈o.after.toList,Region.binds .any e=true/\(e.on=j\/(e.on<i/\((W6 [] ops.toList).getD e.on 0).testBit j=true)):=by
  intro i j h
  obtain⟨o,ho,rest⟩:=(B1t (ops.toList) []).2.2 i j (N1 _) h
  exact⟨o,by simpa using ho,rest⟩
 intro fuel
 induction fuel with
 |zero=>
  intro t listed ρ os hs hf hc h
  have:left ops.size listed=[]:=List.eq_nil_of_length_eq_zero (by omega)
  rw[this] at h
  simpa[Region.linearise.go] using h
 |succ fuel ih=>
  intro t listed ρ os hs hf hc h
  simp only[Region.linearise.go]
  change j5 P is (match (Region.ready .any ops listed)[t % (Region.ready .any ops listed).length]? with
   |some i=>Region.linearise.go .any ops fuel (t / (Region.ready .any ops listed).length) (listed.setIfInBounds i true) [i]
   |none=>[].reverse) ρ os K
  cases hi:(Region.ready .any ops listed)[t % (Region.ready .any ops listed).length]? with
  |none=>
   have hnil:Region.ready .any ops listed=[]:=by
    cases hr:Region.ready .any ops listed with
    |nil=>rfl
    |cons x xs=>
     rw[hr] at hi
     have hlt:t % (x::xs).length<(x::xs).length:=Nat.mod_lt _ (by simp)
     rw[F4 hlt] at hi
     cases hi
   have hleft:left ops.size listed=[]:=by
    cases hq:left ops.size listed with
    |nil=>rfl
    |cons x xs=>
     exfalso
     -- the least place that is left is ready
     have hx:x∈left ops.size listed:=by rw[hq];simp
     obtain⟨l,l',e1,_,e3⟩:=A5t ops.size listed x hx hs
     have hl0:l=[]:=by
      rw[hq] at e1
      cases l with
      |nil=>rfl
      |cons y ys=>
       have:=(e3 y (by simp)).1
       injection e1 with e4 _
       omega
     obtain⟨hx1,hx2⟩:=A2d.1 hx
     have:x∈Region.ready .any ops listed:=by
      unfold Region.ready
      rw[m0]
      refine⟨A1X.2 hx1,?_⟩
      simp only[hx2,Bool.not_false,Q4]
      rw[O0 hx1]
      simp only[A0R,A04,B0a]
      intro e he
      by_cases hb:Region.binds .any e=true
      ·have hlt:=hback x _ e (O0 hx1) (by simpa using he) hb
       have hnl:listed.getD e.on true=true:=by
        by_cases hq2:listed.getD e.on true=true
        ·exact hq2
        ·have hm:e.on∈left ops.size listed:=A2d.2 ⟨by omega,by simpa using hq2⟩
         rw[e1,hl0] at hm
         simp only[A0M] at hm
         -- everything left is at least x
         exfalso
         have hsorted:∀y∈left ops.size listed,x<=y:=by
          intro y hy
          obtain⟨l2,l2',f1,_,f3⟩:=A5t ops.size listed y hy hs
          rw[hq] at f1
          cases l2 with
          |nil=>injection f1 with f4 _;omega
          |cons z zs=>
           injection f1 with f4 _
           have:=(f3 z (by simp)).1
           omega
         have:=hsorted e.on (by rw[e1,hl0];exact hm)
         omega
       have hlt2:e.on<listed.size:=by omega
       simp[hb]
       simpa[hlt2] using hnl
      ·simp[hb]
     rw[hnil] at this
     cases this
   rw[hleft] at h
   simpa using h
  |some i=>
   have hready:=C3 hi
   dsimp only
   rw[linearise_go_acc,List.reverse_singleton,List.singleton_append]
   unfold Region.ready at hready
   rw[m0] at hready
   obtain⟨hr1,hr2⟩:=hready
   have hil:=A1X.1 hr1
   rw[K7,O0 hil] at hr2
   obtain⟨hr2,hr3⟩:=hr2
   have hun:listed.getD i true=false:=by simpa using hr2
   have hafter:∀e∈(ops[i]).after.toList,Region.binds .any e=true->listed.getD e.on true=true:=by
    intro e he hb
    simp only[A0R,A04,B0a] at hr3
    have:=hr3 e (by simpa using he)
    simp only[hb,Bool.not_true,Bool.false_or] at this
    have hlt:=hback i _ e (O0 hil) he hb
    have hlt2:e.on<listed.size:=by omega
    simpa[hlt2] using this
   have hmem:i∈left ops.size listed:=A2d.2 ⟨hil,hun⟩
   obtain⟨l,l',e1,e2,e3⟩:=A5t ops.size listed i hmem hs
   have hio:is[i]?=some (is[i]'(by omega)):=F4 (by omega)
   rw[e1] at h
   have hanci:∀j,((W6 [] ops.toList).getD i 0).testBit j=true->listed.getD j true=true:=by
    intro j hj
    obtain⟨o,ho,e,he,hb,hcase⟩:=hanc i j hj
    rw[O0 hil] at ho
    cases ho
    have hle:=hafter e he hb
    rcases hcase with rfl|⟨hlt,hb2⟩
    ·exact hle
    ·exact hc e.on (by omega) hle j hb2
   have h:=C2W is hio K l l' ρ os (λj hj=>by
    obtain⟨hji,hjl⟩:=e3 j hj
    obtain⟨hj1,hj2⟩:=A2d.1 hjl
    refine⟨is[j]'(by omega),F4 (by omega),?_⟩
    have:=hd2 i (by omega) j hji
    simp only[A2u] at this
    rcases this with (h1|h1)|h1
    ·have:=hanci j h1
     rw[hj2] at this
     cases this
    ·left
     simpa[I4,F4 (show i<is.length by omega),F4 (show j<is.length by omega)] using h1
    ·right
     simpa[I4,F4 (show i<is.length by omega),F4 (show j<is.length by omega)] using h1) h
   simp only[j5,hio] at h ⊢
   refine C3U (λρ' os' hh=>?_) h
   refine ih _ (listed.setIfInBounds i true) ρ' os' (by simpa using hs) ?_ (λk hk hkl j hj=>?_) (by rw[e2];exact hh)
   ·rw[e2]
    rw[e1] at hf
    simp at hf ⊢
    omega
   ·by_cases hki:k=i
    ·subst hki
     have:=hanci j hj
     by_cases hji:j=k
     ·subst hji
      simp[show j<listed.size by omega]
     ·rw[show(listed.setIfInBounds k true).getD j true=listed.getD j true by simp[A1V (Ne.symm hji)]]
      exact this
    ·rw[show(listed.setIfInBounds i true).getD k true=listed.getD k true by simp[A1V (Ne.symm hki)]] at hkl
     have:=hc k hk hkl j hj
     by_cases hji:j=i
     ·subst hji
      simp[show j<listed.size by omega]
     ·rw[show(listed.setIfInBounds i true).getD j true=listed.getD j true by simp[A1V (Ne.symm hji)]]
      exact this
end
end Go.Bi
