/- The operations of a region may be carried out in any order that their edges allow. No condition. -/
import Derived.Test.YtfnaleemmeejcaaGreatBM
set_option linter.unusedVariables false
namespace Go.Bi
set_option linter.unusedSectionVars false
variable [M6]
section
variable {P:Program}{os:List AO}{ρ:D7}
theorem B33{op:IK}(hw:op.wr=false)(K:AV->List AO->Prop):A7 P ρ os K op=A7 P ρ os (λr _=>K r os) op:=by
 cases op<;>first|rfl|cases hw
theorem C4c{op:IK}(hr:op.rd=false)(os2:List AO)(K:AV->List AO->Prop):A7 P ρ os K op=A7 P ρ os2 (λr _=>K r os) op:=by
 cases op<;>first|rfl|cases hr
theorem A79{ρ ρ':D7}:∀(ps:List (Nat×Nat×C2))(cs:List AV)(K:List AV->Prop),(∀x∈ps.map (·.2.2),C1 ρ x=C1 ρ' x)->Q8 ρ ps cs K=Q8 ρ' ps cs K
 |[],cs,K,h=>rfl
 |(off,n,x)::ps,cs,K,h=>by
  have hx:=h x (by simp)
  simp only[Q8,hx]
  split
  ·rw[A79 ps _ K (λy hy=>h y (by simp at hy ⊢;exact .inr hy))]
  ·rfl
theorem A5k{ρ ρ':D7}{x:Option C2}{d:Nat}{K:Int->Prop}(h:∀y∈x.toList,C1 ρ y=C1 ρ' y):W4 ρ x d K=W4 ρ' x d K:=by
 cases x with
 |none=>rfl
 |some y=>simp only[W4,h y (by simp)]
theorem C3O{α β:Type}{f g:α->Option β}:∀(l:List α),(∀x∈l,f x=g x)->l.mapM f=l.mapM g
 |[],_=>rfl
 |x::l,h=>by
  simp only[A12,h x (by simp),C3O l (λy hy=>h y (by simp[hy]))]
theorem C4b{ρ ρ':D7}(op:IK)(K:AV->List AO->Prop)(h:∀x∈op.opds,C1 ρ x=C1 ρ' x):A7 P ρ os K op=A7 P ρ' os K op:=by
 have mp:∀xs:List C2,(∀x∈xs,C1 ρ x=C1 ρ' x)->xs.map (C1 ρ)=xs.map (C1 ρ'):=λxs hx=>P3 hx
 cases op with
 |build zs ps=>simp only[A7,A79 ps _ _ h]
 |bsl n sz zs ps=>simp only[A7,A79 ps _ _ h]
 |bsld n sz zs ps=>simp only[A7,A79 ps _ _ h]
 |slstr x lo hi=>
  have h1:=h x (by simp[IK.opds])
  have h2:∀y∈hi.toList,C1 ρ y=C1 ρ' y:=λy hy=>h y (by simp[IK.opds];exact .inr (.inr (by simpa using hy)))
  have h3:∀y∈lo.toList,C1 ρ y=C1 ρ' y:=λy hy=>h y (by simp[IK.opds];exact .inr (.inl (by simpa using hy)))
  simp only[A7,h1,A5k h2,A5k h3]
 |slsl sz x lo hi=>
  have h1:=h x (by simp[IK.opds])
  have h2:∀y∈hi.toList,C1 ρ y=C1 ρ' y:=λy hy=>h y (by simp[IK.opds];exact .inr (.inr (by simpa using hy)))
  have h3:∀y∈lo.toList,C1 ρ y=C1 ρ' y:=λy hy=>h y (by simp[IK.opds];exact .inr (.inl (by simpa using hy)))
  simp only[A7,slI,h1,A5k h2,A5k h3]
 |slsld sz x lo hi=>
  have h1:=h x (by simp[IK.opds])
  have h2:∀y∈hi.toList,C1 ρ y=C1 ρ' y:=λy hy=>h y (by simp[IK.opds];exact .inr (.inr (by simpa using hy)))
  have h3:∀y∈lo.toList,C1 ρ y=C1 ρ' y:=λy hy=>h y (by simp[IK.opds];exact .inr (.inl (by simpa using hy)))
  simp only[A7,A3n,h1,A5k h2,A5k h3]
 |clo f caps=>
  have:∀c∈caps,A5m (C1 ρ c)=A5m (C1 ρ' c):=λc hc=>by rw[h c hc]
  simp only[A7]
  split
  ·rfl
  ·rw[C3O caps this]
 |minmax mx x xs=>
  have h1:=h x (by simp[IK.opds])
  have h2:=mp xs (λy hy=>h y (by simp[IK.opds,hy]))
  simp only[A7,h1,h2]
 |call f args=>
  have h1:=h f (by simp[IK.opds])
  have h2:=mp args (λy hy=>h y (by simp[IK.opds,hy]))
  simp only[A7,h1,h2]
 |calld f args=>
  have h1:=h f (by simp[IK.opds])
  have h2:=mp args (λy hy=>h y (by simp[IK.opds,hy]))
  simp only[A7,h1,h2]
 |pick a b c=>
  have h1:=h a (by simp[IK.opds])
  have h2:=h b (by simp[IK.opds])
  have h3:=h c (by simp[IK.opds])
  simp only[A7,h1,h2,h3]
 |lenk n=>rfl
 |alloc zs=>rfl
 |mv x=>simp only[A7,h x (by simp[IK.opds])]
 |un _ x=>simp only[A7,h x (by simp[IK.opds])]
 |eqnil _ x=>simp only[A7,h x (by simp[IK.opds])]
 |conv _ x=>simp only[A7,h x (by simp[IK.opds])]
 |cvs x=>simp only[A7,h x (by simp[IK.opds])]
 |faddr _ x=>simp only[A7,h x (by simp[IK.opds])]
 |field _ _ _ x=>simp only[A7,h x (by simp[IK.opds])]
 |ext _ x=>simp only[A7,h x (by simp[IK.opds])]
 |len x=>simp only[A7,h x (by simp[IK.opds])]
 |lens x=>simp only[A7,h x (by simp[IK.opds])]
 |load _ _ x=>simp only[A7,h x (by simp[IK.opds])]
 |box _ x=>simp only[A7,h x (by simp[IK.opds])]
 |rstr x=>simp only[A7,h x (by simp[IK.opds])]
 |nstr x=>simp only[A7,h x (by simp[IK.opds])]
 |nilck x=>simp only[A7,h x (by simp[IK.opds])]
 |bin _ x y=>simp only[A7,h x (by simp[IK.opds]),h y (by simp[IK.opds])]
 |eqb _ x y=>simp only[A7,h x (by simp[IK.opds]),h y (by simp[IK.opds])]
 |eqs _ _ x y=>simp only[A7,h x (by simp[IK.opds]),h y (by simp[IK.opds])]
 |ixarr _ _ x y=>simp only[A7,h x (by simp[IK.opds]),h y (by simp[IK.opds])]
 |ixsl _ x y=>simp only[A7,h x (by simp[IK.opds]),h y (by simp[IK.opds])]
 |ixstr x y=>simp only[A7,h x (by simp[IK.opds]),h y (by simp[IK.opds])]
 |ixval _ _ _ x y=>simp only[A7,h x (by simp[IK.opds]),h y (by simp[IK.opds])]
 |store _ x y=>simp only[A7,h x (by simp[IK.opds]),h y (by simp[IK.opds])]
 |mksl _ _ _ x y=>simp only[A7,h x (by simp[IK.opds]),h y (by simp[IK.opds])]
 |app _ _ x y=>simp only[A7,h x (by simp[IK.opds]),h y (by simp[IK.opds])]
 |callp f args=>
  have h1:=h f (by simp[IK.opds])
  have h2:=mp args (λy hy=>h y (by simp[IK.opds,hy]))
  simp only[A7,h1,h2]
 |callo f args=>
  have h1:=h f (by simp[IK.opds])
  have h2:=mp args (λy hy=>h y (by simp[IK.opds,hy]))
  simp only[A7,h1,h2]
 |calln id f args=>
  have h1:=h f (by simp[IK.opds])
  have h2:=mp args (λy hy=>h y (by simp[IK.opds,hy]))
  simp only[A7,h1,h2]
 |bslr id n sz zs ps=>simp only[A7,A79 ps _ _ h]
 |alloca id zs=>rfl
 |boxa id n x=>simp only[A7,h x (by simp[IK.opds])]
 |mkmap=>rfl
 |lkup sk ok g zs m k=>simp only[A7,h m (by simp[IK.opds]),h k (by simp[IK.opds])]
 |mupd sk m k v=>simp only[A7,h m (by simp[IK.opds]),h k (by simp[IK.opds]),h v (by simp[IK.opds])]
 |rmap x=>simp only[A7,h x (by simp[IK.opds])]
 |nmap x=>simp only[A7,h x (by simp[IK.opds])]
 |entry x=>simp only[A7,h x (by simp[IK.opds])]
 |stop=>rfl
 |mkb f x=>simp only[A7,h x (by simp[IK.opds])]
theorem C0.mono{P:Program}{f:FuncId}{args:List AV}{bs:List AO}{Q Q':AV->List AO->Prop}(h:C0 P f args bs Q)(hq:∀r os,Q r os->Q' r os):C0 P f args bs Q':=
 ⟨h.1,λM G w vs he hl hv=>(h.2 M G w vs he hl hv).mono λe w' ⟨v,he,M',G',r,os',h1,h2,h3,h4⟩=>⟨v,he,M',G',r,os',h1,h2,h3,hq r os' h4⟩⟩
theorem B32{P:Program}{ρ:D7}{os:List AO}{K K':AV->List AO->Prop}{op:IK}(hk:∀r os,K r os->K' r os)(h:A7 P ρ os K op):A7 P ρ os K' op:=by
 by_cases hd:op.det=true
 ·obtain⟨r,os',h1,h2⟩:=A7x hd h
  exact h2 K' (hk _ _ h1)
 ·cases op with
  |call f args=>
   simp only[A7] at h ⊢
   rcases h with h|h
   ·refine .inl ?_
    split at h
    ·rename_i as os1 e
     split at h
     ·rename_i g e2
      split at h
      ·rename_i e3
       rw[if_pos e3]
       exact C0.mono h hk
      ·rename_i e3
       rw[if_neg e3]
       exact C0.mono h λr os'=>hk _ _
     ·rename_i g caps e2
      exact C0.mono h hk
     ·rename_i g id e2
      exact C0.mono h hk
     ·rename_i v e2
      split at h
      ·rename_i g ds e3
       exact⟨h.1,C0.mono h.2 λr os'=>hk _ _⟩
      ·exact h.elim
     ·exact h.elim
    ·exact h.elim
   ·refine .inr ?_
    split at h
    ·exact⟨h.1,C0.mono h.2 hk⟩
    ·exact h.elim
  |nmap x=>
   simp only[A7] at h ⊢
   split at h
   ·split at h
    ·split at h
     ·exact⟨h.1,λi p hi hp=>hk _ _ (h.2.1 i p hi hp),λhn=>hk _ _ (h.2.2 hn)⟩
     ·exact h.elim
    ·exact h.elim
   ·exact h.elim
  |_=>exact absurd rfl hd
theorem C57{o:D0}{K K':D7->List AO->Prop}(hk:∀r os',K (updo o.dst r ρ) os'->K' (updo o.dst r ρ) os')(h:S5 P o ρ os K):S5 P o ρ os K':=by
 unfold S5 at h ⊢
 exact A9x (λh1=>B32 (λr os'=>hk _ _) h1) (λh2=>hk _ _ h2) h
theorem C56{o:D0}{K K':D7->List AO->Prop}(hk:∀ρ os,K ρ os->K' ρ os)(h:S5 P o ρ os K):S5 P o ρ os K':=by
 unfold S5 at h ⊢
 exact A9x (λh1=>B32 (λr os'=>hk _ _) h1) (λh2=>hk _ _ h2) h
def N3(P:Program)(o:D0)(ρ:D7)(os:List AO)(r:AV)(os':List AO):Prop:=
 gI ρ o.guard (∀K:AV->List AO->Prop,K r os'->A7 P ρ os K o.op) (r=.tup []/\os'=os)
theorem N3.step{o:D0}{r:AV}{os':List AO}(h:N3 P o ρ os r os'){K:D7->List AO->Prop}(hk:K (updo o.dst r ρ) os'):S5 P o ρ os K:=by
 unfold S5
 refine A9x (λh1=>h1 _ hk) (λh2=>?_) h
 obtain⟨rfl,rfl⟩:=h2
 exact hk
theorem A5Y{o:D0}(hd:o.op.det=true){K:D7->List AO->Prop}(h:S5 P o ρ os K):∃r os',N3 P o ρ os r os'/\K (updo o.dst r ρ) os'/\(o.op.wr=false->os'=os):=by
 unfold S5 gI at h
 have main:∀h1:A7 P ρ os (λr os'=>K (updo o.dst r ρ) os') o.op,∃r os',(∀K:AV->List AO->Prop,K r os'->A7 P ρ os K o.op)/\K (updo o.dst r ρ) os'/\(o.op.wr=false->os'=os):=by
  intro h1
  by_cases hw:o.op.wr=false
  ·rw[B33 hw] at h1
   have h3:A7 P ρ os (λr os'=>os'=os/\K (updo o.dst r ρ) os) o.op:=by
    rw[B33 hw]
    simpa using h1
   obtain⟨r,os',⟨rfl,hk⟩,ha⟩:=A7x hd h3
   exact⟨r,_,ha,hk,λ_=>rfl⟩
  ·obtain⟨r,os',hk,ha⟩:=A7x hd h1
   exact⟨r,os',ha,hk,λh=>absurd h hw⟩
 unfold N3 gI
 split at h
 ·rename_i hg
  obtain⟨r,os',h1,h2,h3⟩:=main h
  exact⟨r,os',h1,h2,h3⟩
 ·rename_i t want hg
  split at h
  ·rename_i b hb
   by_cases hbw:b=want
   ·obtain⟨r,os',h1,h2,h3⟩:=main (h.1 hbw)
    exact⟨r,os',⟨λ_=>h1,λe=>by subst hbw;cases b<;>cases e⟩,h2,h3⟩
   ·have hbn:b=!want:=by cases b<;>cases want<;>simp_all
    exact⟨.tup [],os,⟨λe=>absurd e hbw,λ_=>⟨rfl,rfl⟩⟩,h.2 hbn,λ_=>rfl⟩
  ·rename_i hb
   exact⟨.tup [],os,⟨rfl,rfl⟩,h,λ_=>rfl⟩
  ·exact h.elim
theorem A76{ρ:D7}{d:Option Nat}{r:AV}{x:C2}(h:∀t,d=some t->t∉ x.tmps):C1 (updo d r ρ) x=C1 ρ x:=by
 cases d with
 |none=>rfl
 |some t=>
  cases x with
  |t n=>
   have:n≠t:=λe=>h t rfl (by simp[C2.tmps,e])
   simp[C1,updo,upd,this]
  |_=>rfl
theorem N3.upd{o:D0}{d:Option Nat}{r s:AV}{os':List AO}(hl:∀t,d=some t->t∉ o.looks):N3 P o (updo d r ρ) os s os'=N3 P o ρ os s os':=by
 have h1:∀K:AV->List AO->Prop,A7 P (updo d r ρ) os K o.op=A7 P ρ os K o.op:=λK=>C4b o.op K λx hx=>A76 λt ht hm=>hl t ht (by
  unfold D0.looks
  exact A8x _ (A0I.2 ⟨x,hx,hm⟩))
 unfold N3
 simp only[h1]
 unfold gI
 cases hg:o.guard with
 |none=>rfl
 |some tw=>
  obtain⟨t,want⟩:=tw
  have:Bi.updo d r ρ t=ρ t:=by
   cases d with
   |none=>rfl
   |some s=>
    have:t≠s:=λe=>hl s rfl (by unfold D0.looks;rw[hg];simp[e])
    simp[Bi.updo,Bi.upd,this]
  simp only[this]
theorem N3.nord{o:D0}{r:AV}(hr:o.op.rd=false)(h:N3 P o ρ os r os)(os2:List AO):N3 P o ρ os2 r os2:=by
 unfold N3 at *
 refine A9x (λh1 K hk=>?_) (λh2=>⟨h2.1,rfl⟩) h
 rw[C4c hr os]
 exact h1 (λr _=>K r os2) hk
theorem B3K{ρ:D7}{d e:Option Nat}{r s:AV}(h:∀t,d=some t->e≠some t):updo d r (updo e s ρ)=updo e s (updo d r ρ):=by
 cases d with
 |none=>rfl
 |some t=>
  cases e with
  |none=>rfl
  |some u=>
   have:t≠u:=λe=>h t rfl (by rw[e])
   funext x
   simp only[updo,upd]
   by_cases h1:x=t
   ·subst h1;simp[this]
   ·by_cases h2:x=u
    ·subst h2;simp[h1]
    ·simp[h1,h2]
theorem C1l{x y:D0}(h:x.apart y=true):x.op.det=true/\y.op.det=true/\(∀t,x.dst=some t->t∉ y.looks)/\(∀t,x.dst=some t->y.dst≠some t)/\(∀t,y.dst=some t->t∉ x.looks)/\
  (x.op.wr=true->y.op.rd=false)/\(y.op.wr=true->x.op.rd=false):=by
 unfold D0.apart at h
 simp only[J9,Bool.not_eq_true',Bool.and_eq_false_iff] at h
 obtain⟨⟨⟨⟨⟨h1,h2⟩,h3⟩,h4⟩,h5⟩,h6⟩:=h
 refine⟨h1,h2,λt ht=>?_,λt ht=>?_,λt ht=>?_,λhw=>?_,λhw=>?_⟩
 ·rw[ht] at h3;simp at h3;exact h3.1
 ·rw[ht] at h3;simp at h3;exact h3.2
 ·rw[ht] at h4;simpa using h4
 ·rcases h5 with h|h
  ·rw[hw] at h;cases h
  ·exact h
 ·rcases h6 with h|h
  ·exact h
  ·rw[hw] at h;cases h
theorem C5B(op:IK)(h:op.wr=true):op.rd=true:=by cases op<;>first|rfl|cases h
theorem swap{x y:D0}(ha:x.apart y=true){K:D7->List AO->Prop}(h:S5 P x ρ os λρ' os'=>S5 P y ρ' os' K):S5 P y ρ os λρ' os'=>S5 P x ρ' os' K:=by
 obtain⟨d1,d2,h1,h2,h3,h4,h5⟩:=C1l ha
 obtain⟨r,os1,g1,hA,w1⟩:=A5Y d1 h
 obtain⟨s,os2,g2,hB,w2⟩:=A5Y d2 hA
 rw[N3.upd h1] at g2
 have hcomm:updo y.dst s (updo x.dst r ρ)=updo x.dst r (updo y.dst s ρ):=(B3K h2).symm
 rw[hcomm] at hB
 by_cases hw1:x.op.wr=true
 ·have hr:=h4 hw1
  have hw2:y.op.wr=false:=by
   cases hq:y.op.wr with
   |false=>rfl
   |true=>rw[C5B _ hq] at hr;cases hr
  have:=w2 hw2
  subst this
  refine(g2.nord hr os).step ?_
  refine N3.step (r:=r) ?_ hB
  rw[N3.upd h3]
  exact g1
 ·have hw1:x.op.wr=false:=by simpa using hw1
  have:=w1 hw1
  subst this
  refine g2.step ?_
  by_cases hw2:y.op.wr=true
  ·have hr:=h5 hw2
   refine N3.step (r:=r) ?_ hB
   rw[N3.upd h3]
   exact g1.nord hr os2
  ·have hw2:y.op.wr=false:=by simpa using hw2
   have:=w2 hw2
   subst this
   refine N3.step (r:=r) ?_ hB
   rw[N3.upd h3]
   exact g1
theorem C55{o:D0}(hd:o.op.det=true){K K':D7->List AO->Prop}(hk:∀ρ os,K ρ os->K' ρ os)(h:S5 P o ρ os K):S5 P o ρ os K':=by
 obtain⟨r,os',g,h,_⟩:=A5Y hd h
 exact g.step (hk _ _ h)
theorem C3s{o:D0}(h:o.isMv=true):∃x,o=⟨o.dst,none,.mv x⟩:=by
 obtain⟨d,g,op⟩:=o
 unfold D0.isMv at h
 rw[J9] at h
 cases g with
 |some _=>simp at h
 |none=>
  cases op with
  |mv x=>exact⟨x,rfl⟩
  |_=>simp at h
theorem B0f{d:Option Nat}{x:C2}{K:D7->List AO->Prop}:S5 P ⟨d,none,.mv x⟩ ρ os K=K (updo d (C1 ρ x) ρ) os:=rfl
theorem D73{x y:D0}(h:x.apartM y=true):(x.isMv=true\/y.isMv=true)/\(∀t,x.dst=some t->t∉ y.looks)/\(∀t,x.dst=some t->y.dst≠some t)/\(∀t,y.dst=some t->t∉ x.looks):=by
 unfold D0.apartM at h
 simp only[J9,A2R] at h
 obtain⟨⟨h1,h3⟩,h4⟩:=h
 refine⟨h1,λt ht=>?_,λt ht=>?_,λt ht=>?_⟩
 ·rw[ht] at h3;simp at h3;exact h3.1
 ·rw[ht] at h3;simp at h3;exact h3.2
 ·rw[ht] at h4;simpa using h4
theorem C58{o:D0}{d:Option Nat}{v:AV}{K:D7->List AO->Prop}(hl:∀t,d=some t->t∉ o.looks)(hd:∀t,d=some t->o.dst≠some t):S5 P o (updo d v ρ) os K=S5 P o ρ os λρ' os'=>K (updo d v ρ') os':=by
 have hc:∀r,updo o.dst r (updo d v ρ)=updo d v (updo o.dst r ρ):=λr=>(B3K hd).symm
 unfold S5
 simp only[hc]
 have h1:∀K:AV->List AO->Prop,A7 P (updo d v ρ) os K o.op=A7 P ρ os K o.op:=λK=>C4b o.op K λx hx=>A76 λt ht hm=>hl t ht (by
  unfold D0.looks
  exact A8x _ (A0I.2 ⟨x,hx,hm⟩))
 rw[h1]
 unfold gI
 cases hg:o.guard with
 |none=>rfl
 |some tw=>
  obtain⟨t,want⟩:=tw
  have:Bi.updo d v ρ t=ρ t:=by
   cases d with
   |none=>rfl
   |some s=>
    have:t≠s:=λe=>hl s rfl (by unfold D0.looks;rw[hg];simp[e])
    simp[Bi.updo,Bi.upd,this]
  simp only[this]
theorem E26{x y:D0}(ha:x.apartM y=true){K:D7->List AO->Prop}(h:S5 P x ρ os λρ' os'=>S5 P y ρ' os' K):S5 P y ρ os λρ' os'=>S5 P x ρ' os' K:=by
 obtain⟨hm,h1,h2,h3⟩:=D73 ha
 rcases hm with hm|hm
 ·obtain⟨z,e⟩:=C3s hm
  have hz:∀t,y.dst=some t->t∉ z.tmps:=λt ht hm=>h3 t ht (by rw[e];simp[D0.looks,IK.opds,hm])
  rw[e,B0f,C58 h1 h2] at h
  refine C57 (λr os' hk=>?_) h
  rw[e,B0f,A76 hz]
  exact hk
 ·obtain⟨z,e⟩:=C3s hm
  have hz:∀t,x.dst=some t->t∉ z.tmps:=λt ht hm=>h1 t ht (by rw[e];simp[D0.looks,IK.opds,hm])
  rw[e,B0f]
  rw[C58 h3 (λt ht e2=>h2 t e2 ht)]
  refine C57 (λr os' hk=>?_) h
  rw[e,B0f,A76 hz] at hk
  exact hk
theorem C4d(is:List D0){i:Nat}{o:D0}(hi:is[i]?=some o)(K:D7->List AO->Prop):∀(l l':List Nat)(ρ:D7)(os:List AO),(∀j∈l,∃x,is[j]?=some x/\(x.apart o=true\/x.apartM o=true))->
  n6 P is (l++i::l') ρ os K->n6 P is (i::(l++l')) ρ os K
 |[],l',ρ,os,ha,h=>h
 |j::l,l',ρ,os,ha,h=>by
  obtain⟨x,hx,hap⟩:=ha j (by simp)
  have ih:=λρ os=>C4d is hi K l l' ρ os (λj hj=>ha j (by simp[hj]))
  simp only[A4r,n6,hx,hi] at h ih ⊢
  have h:=C56 (λρ os hh=>ih ρ os hh) h
  rcases hap with hap|hap
  ·exact swap hap h
  ·exact E26 hap h
theorem C1h(I9:List Nat)(j:Nat):∀(es:List Edge)(s:Nat),(es.foldl (λs e=>if Region.binds .any e then s|||2 ^ e.on|||I9.getD e.on 0 else s) s).testBit j=true->
  s.testBit j=true\/∃e∈es,Region.binds .any e=true/\(e.on=j\/(I9.getD e.on 0).testBit j=true)
 |[],s,h=>.inl h
 |e::es,s,h=>by
  simp only[A11] at h
  rcases C1h I9 j es _ h with h1|⟨e',he',hb,h2⟩
  ·split at h1
   ·rename_i hb
    rw[Nat.testBit_or,Nat.testBit_or] at h1
    simp only[A2R] at h1
    rcases h1 with (h1|h1)|h1
    ·exact .inl h1
    ·rw[Nat.testBit_two_pow] at h1
     exact .inr ⟨e,by simp,hb,.inl (by simpa using h1)⟩
    ·exact .inr ⟨e,by simp,hb,.inr h1⟩
   ·exact .inl h1
  ·exact .inr ⟨e',by simp[he'],hb,h2⟩
theorem B1Y:∀(l:List Oper)(I9:List Nat),(∀i,i<I9.length->(X3 I9 l).getD i 0=I9.getD i 0)/\(X3 I9 l).length=I9.length+l.length/\
  ∀i j,I9.length<=i->((X3 I9 l).getD i 0).testBit j=true->∃o,l[i-I9.length]?=some o/\∃e∈o.after.toList,Region.binds .any e=true/\(e.on=j\/(e.on<i/\((X3 I9 l).getD e.on 0).testBit j=true))
 |[],I9=>⟨λ_ _=>rfl,rfl,λi j hi h=>by
   have:(X3 I9 []).getD i 0=0:=by simp[X3,H6,A1C hi]
   rw[this] at h
   simp at h⟩
 |o::l,I9=>by
  obtain⟨i1,i2,i3⟩:=B1Y l (I9++[A6A I9 o.after.toList])
  have hlen:(I9++[A6A I9 o.after.toList]).length=I9.length+1:=by simp
  simp only[X3]
  refine⟨λi hi=>?_,by rw[i2,hlen];simp;omega,λi j hi h=>?_⟩
  ·rw[i1 i (by omega),H6,P8 hi,H6]
  ·rcases Nat.lt_or_ge I9.length i with hlt|hge
   ·obtain⟨o',ho',rest⟩:=i3 i j (by omega) h
    refine⟨o',?_,rest⟩
    rw[hlen] at ho'
    rw[show i-I9.length=(i-(I9.length+1))+1 by omega]
    simpa using ho'
   ·have hie:i=I9.length:=by omega
    subst hie
    rw[i1 _ (by omega)] at h
    have:(I9++[A6A I9 o.after.toList]).getD I9.length 0=A6A I9 o.after.toList:=by simp[H6]
    rw[this] at h
    rcases C1h I9 j _ 0 h with h1|⟨e,he,hb,h2⟩
    ·simp at h1
    ·refine⟨o,by simp,e,he,hb,h2.imp id λh3=>?_⟩
     have hlt:e.on<I9.length:=by
      rcases Nat.lt_or_ge e.on I9.length with h|h
      ·exact h
      ·have:I9.getD e.on 0=0:=by simp[H6,A1C h]
       rw[this] at h3
       simp at h3
     refine⟨hlt,?_⟩
     rw[i1 _ (by omega),H6,P8 hlt,<- H6]
     exact h3
def left(n:Nat)(listed:Array Bool):List Nat:=(List.range n).filter λi=>!listed.getD i true
theorem A2z{n:Nat}{listed:Array Bool}{i:Nat}:i∈left n listed↔i<n/\listed.getD i true=false:=by simp[left]
theorem A5K(n:Nat)(listed:Array Bool)(i:Nat)(hi:i∈left n listed)(hs:listed.size=n) :
  ∃l l',left n listed=l++i::l'/\left n (listed.setIfInBounds i true)=l++l'/\∀j∈l,j<i/\j∈left n listed:=by
 obtain⟨hin,hun⟩:=A2z.1 hi
 have hsplit:List.range n=List.range i++i::List.range' (i+1) (n-(i+1)):=by
  rw[A8z,A8z]
  have h1:List.range' 0 n=List.range' 0 i++List.range' i (n-i):=by
   have:=List.range'_append_1 (s:=0) (m:=i) (n:=n-i)
   rw[A17] at this
   rw[this]
   congr 1
   omega
  rw[h1]
  congr 1
  rw[show n-i=(n-(i+1))+1 by omega,List.range'_succ]
 have hne:∀j,j≠i->(listed.setIfInBounds i true).getD j true=listed.getD j true:=λj hj=>by
  simp[A2e (Ne.symm hj)]
 have hself:(listed.setIfInBounds i true).getD i true=true:=by simp[hs,hin]
 refine⟨(List.range i).filter (λj=>!listed.getD j true),(List.range' (i+1) (n-(i+1))).filter (λj=>!listed.getD j true),?_,?_,λj hj=>?_⟩
 ·unfold left
  rw[hsplit,A0E,j9,if_pos (by simp[hun])]
 ·unfold left
  rw[hsplit,A0E,j9,if_neg (by simp[hself])]
  congr 1
  ·refine List.filter_congr λj hj=>?_
   rw[hne j (by have:=A2g.1 hj;omega)]
  ·refine List.filter_congr λj hj=>?_
   rw[hne j (by have:=(List.mem_range'_1.1 hj).1;omega)]
 ·obtain⟨h1,h2⟩:=A06.1 hj
  have hlt:=A2g.1 h1
  exact⟨hlt,A2z.2 ⟨by omega,by simpa using h2⟩⟩
theorem D8b{ops:List Oper}{is:List D0}(h:A9d ops is=true):A5t ops is=true:=by
 unfold A9d at h
 unfold A5t
 simp only[J9,K8,A2g,A2R] at h ⊢
 exact⟨h.1.2,λj hj i hi=>.inl (h.2 j hj i hi)⟩
theorem E1w{ops:Array Oper}{is:List D0}(hl:is.length=ops.size)(hd:A5t ops.toList is=true)(K:D7->List AO->Prop) :
  ∀(fuel t:Nat) (listed:Array Bool) (ρ:D7) (os:List AO),listed.size=ops.size->(left ops.size listed).length<=fuel->
   (∀i,i<ops.size->listed.getD i true=true->∀j,((X3 [] ops.toList).getD i 0).testBit j=true->listed.getD j true=true)->
   n6 P is (left ops.size listed) ρ os K->n6 P is (Region.linearise.go .any ops fuel t listed []) ρ os K:=by
 unfold A5t at hd
 simp only[J9,K8,A2g] at hd
 obtain⟨hd1,hd2⟩:=hd
 have hback:∀i o e,ops[i]?=some o->e∈o.after.toList->Region.binds .any e=true->e.on<i:=by
  intro i o e ho he hb
  have hi:=(A0g.1 ho).1
  have:=hd1 i (by simpa using hi)
  rw[show ops.toList[i]?=some o by simpa using ho] at this
  simp only[K8,A2R,Bool.not_eq_true',decide_eq_true_eq] at this
  rcases this e he with h|h
  ·exact h
  ·rw[hb] at h;cases h
 have hanc:∀i j,((X3 [] ops.toList).getD i 0).testBit j=true->∃o,ops[i]?=some o/\∃e∈o.after.toList,Region.binds .any e=true/\(e.on=j\/(e.on<i/\((X3 [] ops.toList).getD e.on 0).testBit j=true)):=by
  intro i j h
  obtain⟨o,ho,rest⟩:=(B1Y (ops.toList) []).2.2 i j (K1 _) h
  exact⟨o,by simpa using ho,rest⟩
 intro fuel
 induction fuel with
 |zero=>
  intro t listed ρ os hs hf hc h
  have:left ops.size listed=[]:=List.eq_nil_of_length_eq_zero (by omega)
  rw[this] at h
  simpa[Region.linearise.go] using h
 |succ fuel ih=>
  intro t listed ρ os hs hf hc h
  simp only[Region.linearise.go]
  change n6 P is (match (Region.ready .any ops listed)[t % (Region.ready .any ops listed).length]? with
   |some i=>Region.linearise.go .any ops fuel (t / (Region.ready .any ops listed).length) (listed.setIfInBounds i true) [i]
   |none=>[].reverse) ρ os K
  cases hi:(Region.ready .any ops listed)[t % (Region.ready .any ops listed).length]? with
  |none=>
   have hnil:Region.ready .any ops listed=[]:=by
    cases hr:Region.ready .any ops listed with
    |nil=>rfl
    |cons x xs=>
     rw[hr] at hi
     have hlt:t % (x::xs).length<(x::xs).length:=Nat.mod_lt _ (by simp)
     rw[F1 hlt] at hi
     cases hi
   have hleft:left ops.size listed=[]:=by
    cases hq:left ops.size listed with
    |nil=>rfl
    |cons x xs=>
     exfalso
     -- the least place that is left is ready
     have hx:x∈left ops.size listed:=by rw[hq];simp
     obtain⟨l,l',e1,_,e3⟩:=A5K ops.size listed x hx hs
     have hl0:l=[]:=by
      rw[hq] at e1
      cases l with
      |nil=>rfl
      |cons y ys=>
       have:=(e3 y (by simp)).1
       injection e1 with e4 _
       omega
     obtain⟨hx1,hx2⟩:=A2z.1 hx
     have:x∈Region.ready .any ops listed:=by
      unfold Region.ready
      rw[A06]
      refine⟨A2g.2 hx1,?_⟩
      simp only[hx2,Bool.not_false,R2]
      rw[N2 hx1]
      simp only[A18,A0k,B0y]
      intro e he
      by_cases hb:Region.binds .any e=true
      ·have hlt:=hback x _ e (N2 hx1) (by simpa using he) hb
       have hnl:listed.getD e.on true=true:=by
        by_cases hq2:listed.getD e.on true=true
        ·exact hq2
        ·have hm:e.on∈left ops.size listed:=A2z.2 ⟨by omega,by simpa using hq2⟩
         rw[e1,hl0] at hm
         simp only[A0J] at hm
         -- everything left is at least x
         exfalso
         have hsorted:∀y∈left ops.size listed,x<=y:=by
          intro y hy
          obtain⟨l2,l2',f1,_,f3⟩:=A5K ops.size listed y hy hs
          rw[hq] at f1
          cases l2 with
          |nil=>injection f1 with f4 _;omega
          |cons z zs=>
           injection f1 with f4 _
           have:=(f3 z (by simp)).1
           omega
         have:=hsorted e.on (by rw[e1,hl0];exact hm)
         omega
       have hlt2:e.on<listed.size:=by omega
       simp[hb]
       simpa[hlt2] using hnl
      ·simp[hb]
     rw[hnil] at this
     cases this
   rw[hleft] at h
   simpa using h
  |some i=>
   have hready:=C3 hi
   dsimp only
   rw[linearise_go_acc,List.reverse_singleton,List.singleton_append]
   unfold Region.ready at hready
   rw[A06] at hready
   obtain⟨hr1,hr2⟩:=hready
   have hil:=A2g.1 hr1
   rw[J9,N2 hil] at hr2
   obtain⟨hr2,hr3⟩:=hr2
   have hun:listed.getD i true=false:=by simpa using hr2
   have hafter:∀e∈(ops[i]).after.toList,Region.binds .any e=true->listed.getD e.on true=true:=by
    intro e he hb
    simp only[A18,A0k,B0y] at hr3
    have:=hr3 e (by simpa using he)
    simp only[hb,Bool.not_true,Bool.false_or] at this
    have hlt:=hback i _ e (N2 hil) he hb
    have hlt2:e.on<listed.size:=by omega
    simpa[hlt2] using this
   have hmem:i∈left ops.size listed:=A2z.2 ⟨hil,hun⟩
   obtain⟨l,l',e1,e2,e3⟩:=A5K ops.size listed i hmem hs
   have hio:is[i]?=some (is[i]'(by omega)):=F1 (by omega)
   rw[e1] at h
   have hanci:∀j,((X3 [] ops.toList).getD i 0).testBit j=true->listed.getD j true=true:=by
    intro j hj
    obtain⟨o,ho,e,he,hb,hcase⟩:=hanc i j hj
    rw[N2 hil] at ho
    cases ho
    have hle:=hafter e he hb
    rcases hcase with rfl|⟨hlt,hb2⟩
    ·exact hle
    ·exact hc e.on (by omega) hle j hb2
   have h:=C4d is hio K l l' ρ os (λj hj=>by
    obtain⟨hji,hjl⟩:=e3 j hj
    obtain⟨hj1,hj2⟩:=A2z.1 hjl
    refine⟨is[j]'(by omega),F1 (by omega),?_⟩
    have:=hd2 i (by omega) j hji
    simp only[A2R] at this
    rcases this with (h1|h1)|h1
    ·have:=hanci j h1
     rw[hj2] at this
     cases this
    ·left
     simpa[H6,F1 (show i<is.length by omega),F1 (show j<is.length by omega)] using h1
    ·right
     simpa[H6,F1 (show i<is.length by omega),F1 (show j<is.length by omega)] using h1) h
   simp only[n6,hio] at h ⊢
   refine C56 (λρ' os' hh=>?_) h
   refine ih _ (listed.setIfInBounds i true) ρ' os' (by simpa using hs) ?_ (λk hk hkl j hj=>?_) (by rw[e2];exact hh)
   ·rw[e2]
    rw[e1] at hf
    simp at hf ⊢
    omega
   ·by_cases hki:k=i
    ·subst hki
     have:=hanci j hj
     by_cases hji:j=k
     ·subst hji
      simp[show j<listed.size by omega]
     ·rw[show(listed.setIfInBounds k true).getD j true=listed.getD j true by simp[A2e (Ne.symm hji)]]
      exact this
    ·rw[show(listed.setIfInBounds i true).getD k true=listed.getD k true by simp[A2e (Ne.symm hki)]] at hkl
     have:=hc k hk hkl j hj
     by_cases hji:j=i
     ·subst hji
      simp[show j<listed.size by omega]
     ·rw[show(listed.setIfInBounds i true).getD j true=listed.getD j true by simp[A2e (Ne.symm hji)]]
      exact this
end
end Go.Bi
