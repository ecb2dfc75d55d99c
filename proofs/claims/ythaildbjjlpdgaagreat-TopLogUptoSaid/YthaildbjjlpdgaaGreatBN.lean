/- The operations of a region may be carried out in any order that their edges allow. No condition. -/
import Derived.Test.YthaildbjjlpdgaaGreatBM
set_option linter.unusedVariables false
namespace Go.Bi
set_option linter.unusedSectionVars false
variable [Globs]
section
variable {P:Program}{os:List AO}{ρ:Rho}
theorem exI_nowr{e:XO}(hw:e.wr=false)(vs:List AV)(K:AV->List AO->Prop):exI os K e vs=exI os (λr _=>K r os) e vs:=by
 cases e<;>first|(cases hw;done)|(unfold exI;split<;>first|rfl|(rename_i q;cases q;done)|(rename_i q _;cases q;done))
theorem exI_nord{e:XO}(hr:e.rd=false)(vs:List AV)(os2:List AO)(K:AV->List AO->Prop):exI os K e vs=exI os2 (λr _=>K r os) e vs:=by
 cases e<;>first|(cases hr;done)|(unfold exI;split<;>first|rfl|(rename_i q;cases q;done)|(rename_i q _;cases q;done))
theorem opI_nowr{op:IK}(hw:op.wr=false)(K:AV->List AO->Prop):opI P ρ os K op=opI P ρ os (λr _=>K r os) op:=by
 cases op with
 |ex e xs=>exact exI_nowr hw _ _
 |_=>first|rfl|cases hw
theorem opI_nord{op:IK}(hr:op.rd=false)(os2:List AO)(K:AV->List AO->Prop):opI P ρ os K op=opI P ρ os2 (λr _=>K r os) op:=by
 cases op with
 |ex e xs=>exact exI_nord hr _ _ _
 |_=>first|rfl|cases hr
theorem fillA_congr{ρ ρ':Rho}:∀(ps:List (Nat×Nat×Opd)) (cs:List AV) (K:List AV->Prop),(∀x∈ps.map (·.2.2),evO ρ x=evO ρ' x)->fillA ρ ps cs K=fillA ρ' ps cs K
 |[],cs,K,h=>rfl
 |(off,n,x)::ps,cs,K,h=>by
  have hx:=h x (by simp)
  simp only[fillA,hx]
  split
  ·rw[fillA_congr ps _ K (λy hy=>h y (by simp at hy ⊢;exact .inr hy))]
  ·rfl
theorem bndI_congr{ρ ρ':Rho}{x:Option Opd}{d:Nat}{K:Int->Prop}(h:∀y∈x.toList,evO ρ y=evO ρ' y):bndI ρ x d K=bndI ρ' x d K:=by
 cases x with
 |none=>rfl
 |some y=>simp only[bndI,h y (by simp)]
theorem mapM_congr'{α β:Type}{f g:α->Option β}:∀(l:List α),(∀x∈l,f x=g x)->l.mapM f=l.mapM g
 |[],_=>rfl
 |x::l,h=>by
  simp only[List.mapM_cons,h x (by simp),mapM_congr' l (λy hy=>h y (by simp[hy]))]
theorem opI_congr{ρ ρ':Rho}(op:IK)(K:AV->List AO->Prop)(h:∀x∈op.opds,evO ρ x=evO ρ' x):opI P ρ os K op=opI P ρ' os K op:=by
 have mp:∀xs:List Opd,(∀x∈xs,evO ρ x=evO ρ' x)->xs.map (evO ρ)=xs.map (evO ρ'):=λxs hx=>List.map_congr_left hx
 cases op with
 |build zs ps=>simp only[opI,fillA_congr ps _ _ h]
 |bsl n sz zs ps=>simp only[opI,fillA_congr ps _ _ h]
 |bsld n sz zs ps=>simp only[opI,fillA_congr ps _ _ h]
 |slstr x lo hi=>
  have h1:=h x (by simp[IK.opds])
  have h2:∀y∈hi.toList,evO ρ y=evO ρ' y:=λy hy=>h y (by simp[IK.opds];exact .inr (.inr (by simpa using hy)))
  have h3:∀y∈lo.toList,evO ρ y=evO ρ' y:=λy hy=>h y (by simp[IK.opds];exact .inr (.inl (by simpa using hy)))
  simp only[opI,h1,bndI_congr h2,bndI_congr h3]
 |slsl sz x lo hi=>
  have h1:=h x (by simp[IK.opds])
  have h2:∀y∈hi.toList,evO ρ y=evO ρ' y:=λy hy=>h y (by simp[IK.opds];exact .inr (.inr (by simpa using hy)))
  have h3:∀y∈lo.toList,evO ρ y=evO ρ' y:=λy hy=>h y (by simp[IK.opds];exact .inr (.inl (by simpa using hy)))
  simp only[opI,slI,h1,bndI_congr h2,bndI_congr h3]
 |slsld sz x lo hi=>
  have h1:=h x (by simp[IK.opds])
  have h2:∀y∈hi.toList,evO ρ y=evO ρ' y:=λy hy=>h y (by simp[IK.opds];exact .inr (.inr (by simpa using hy)))
  have h3:∀y∈lo.toList,evO ρ y=evO ρ' y:=λy hy=>h y (by simp[IK.opds];exact .inr (.inl (by simpa using hy)))
  simp only[opI,slDI,h1,bndI_congr h2,bndI_congr h3]
 |clo f caps=>
  have:∀c∈caps,capId (evO ρ c)=capId (evO ρ' c):=λc hc=>by rw[h c hc]
  simp only[opI]
  split
  ·rfl
  ·rw[mapM_congr' caps this]
 |minmax mx x xs=>
  have h1:=h x (by simp[IK.opds])
  have h2:=mp xs (λy hy=>h y (by simp[IK.opds,hy]))
  simp only[opI,h1,h2]
 |call f args=>
  have h1:=h f (by simp[IK.opds])
  have h2:=mp args (λy hy=>h y (by simp[IK.opds,hy]))
  simp only[opI,h1,h2]
 |calld f args=>
  have h1:=h f (by simp[IK.opds])
  have h2:=mp args (λy hy=>h y (by simp[IK.opds,hy]))
  simp only[opI,h1,h2]
 |pick a b c=>
  have h1:=h a (by simp[IK.opds])
  have h2:=h b (by simp[IK.opds])
  have h3:=h c (by simp[IK.opds])
  simp only[opI,h1,h2,h3]
 |lenk n=>rfl
 |alloc zs=>rfl
 |mv x=>simp only[opI,h x (by simp[IK.opds])]
 |un _ x=>simp only[opI,h x (by simp[IK.opds])]
 |eqnil _ x=>simp only[opI,h x (by simp[IK.opds])]
 |conv _ x=>simp only[opI,h x (by simp[IK.opds])]
 |cvs x=>simp only[opI,h x (by simp[IK.opds])]
 |faddr _ x=>simp only[opI,h x (by simp[IK.opds])]
 |field _ _ _ x=>simp only[opI,h x (by simp[IK.opds])]
 |ext _ x=>simp only[opI,h x (by simp[IK.opds])]
 |len x=>simp only[opI,h x (by simp[IK.opds])]
 |lens x=>simp only[opI,h x (by simp[IK.opds])]
 |load _ _ x=>simp only[opI,h x (by simp[IK.opds])]
 |box _ x=>simp only[opI,h x (by simp[IK.opds])]
 |rstr x=>simp only[opI,h x (by simp[IK.opds])]
 |nstr x=>simp only[opI,h x (by simp[IK.opds])]
 |nilck x=>simp only[opI,h x (by simp[IK.opds])]
 |bin _ x y=>simp only[opI,h x (by simp[IK.opds]),h y (by simp[IK.opds])]
 |eqb _ x y=>simp only[opI,h x (by simp[IK.opds]),h y (by simp[IK.opds])]
 |eqs _ _ x y=>simp only[opI,h x (by simp[IK.opds]),h y (by simp[IK.opds])]
 |ixarr _ _ x y=>simp only[opI,h x (by simp[IK.opds]),h y (by simp[IK.opds])]
 |ixsl _ x y=>simp only[opI,h x (by simp[IK.opds]),h y (by simp[IK.opds])]
 |ixstr x y=>simp only[opI,h x (by simp[IK.opds]),h y (by simp[IK.opds])]
 |ixval _ _ _ x y=>simp only[opI,h x (by simp[IK.opds]),h y (by simp[IK.opds])]
 |store _ x y=>simp only[opI,h x (by simp[IK.opds]),h y (by simp[IK.opds])]
 |mksl _ _ _ x y=>simp only[opI,h x (by simp[IK.opds]),h y (by simp[IK.opds])]
 |app _ _ x y=>simp only[opI,h x (by simp[IK.opds]),h y (by simp[IK.opds])]
 |appn _ _ _ x y=>simp only[opI,h x (by simp[IK.opds]),h y (by simp[IK.opds])]
 |callp f args=>
  have h1:=h f (by simp[IK.opds])
  have h2:=mp args (λy hy=>h y (by simp[IK.opds,hy]))
  simp only[opI,h1,h2]
 |callo f args=>
  have h1:=h f (by simp[IK.opds])
  have h2:=mp args (λy hy=>h y (by simp[IK.opds,hy]))
  simp only[opI,h1,h2]
 |calln id f args=>
  have h1:=h f (by simp[IK.opds])
  have h2:=mp args (λy hy=>h y (by simp[IK.opds,hy]))
  simp only[opI,h1,h2]
 |bslr id n sz zs ps=>simp only[opI,fillA_congr ps _ _ h]
 |alloca id zs=>rfl
 |boxa id n x=>simp only[opI,h x (by simp[IK.opds])]
 |mkmap=>rfl
 |lkup sk ok g zs m k=>simp only[opI,h m (by simp[IK.opds]),h k (by simp[IK.opds])]
 |mupd sk m k v=>simp only[opI,h m (by simp[IK.opds]),h k (by simp[IK.opds]),h v (by simp[IK.opds])]
 |rmap x=>rfl
 |nmap x=>rfl
 |entry x=>rfl
 |ex e xs=>simp only[opI,mp xs h]
 |stop=>rfl
 |mkb f x=>simp only[opI,h x (by simp[IK.opds])]
theorem CallSpec.mono{P:Program}{f:FuncId}{args:List AV}{bs:List AO}{Q Q':AV->List AO->Prop}(h:CallSpec P f args bs Q)(hq:∀r os,Q r os->Q' r os):CallSpec P f args bs Q':=
 ⟨h.1,λM G w vs he hl hv=>(h.2 M G w vs he hl hv).mono λe w' ⟨v,he,M',G',r,os',h1,h2,h3,h4⟩=>⟨v,he,M',G',r,os',h1,h2,h3,hq r os' h4⟩⟩
theorem opI_mono{P:Program}{ρ:Rho}{os:List AO}{K K':AV->List AO->Prop}{op:IK}(hk:∀r os,K r os->K' r os)(h:opI P ρ os K op):opI P ρ os K' op:=by
 by_cases hd:op.det=true
 ·obtain⟨r,os',h1,h2⟩:=opI_iff hd h
  exact h2 K' (hk _ _ h1)
 ·cases op with
  |call f args=>
   simp only[opI] at h ⊢
   rcases h with h|h
   ·refine .inl ?_
    split at h
    ·rename_i as os1 e
     split at h
     ·rename_i g e2
      split at h
      ·rename_i e3
       rw[if_pos e3]
       exact CallSpec.mono h hk
      ·rename_i e3
       rw[if_neg e3]
       exact CallSpec.mono h λr os'=>hk _ _
     ·rename_i g caps e2
      exact CallSpec.mono h hk
     ·rename_i g id e2
      exact CallSpec.mono h hk
     ·rename_i v e2
      split at h
      ·rename_i g ds e3
       exact⟨h.1,CallSpec.mono h.2 λr os'=>hk _ _⟩
      ·exact h.elim
     ·exact h.elim
    ·exact h.elim
   ·refine .inr ?_
    split at h
    ·exact⟨h.1,CallSpec.mono h.2 hk⟩
    ·exact h.elim
  |nmap x=>exact h.elim
  |_=>exact absurd rfl hd
theorem stepI_monoA'{o:IOp}{K K':Rho->List AO->Prop}(hk:∀r os',K (updo o.dst r ρ) os'->K' (updo o.dst r ρ) os')(h:stepI P o ρ os K):stepI P o ρ os K':=by
 unfold stepI at h ⊢
 exact gI_mono (λh1=>opI_mono (λr os'=>hk _ _) h1) (λh2=>hk _ _ h2) h
theorem stepI_monoA{o:IOp}{K K':Rho->List AO->Prop}(hk:∀ρ os,K ρ os->K' ρ os)(h:stepI P o ρ os K):stepI P o ρ os K':=by
 unfold stepI at h ⊢
 exact gI_mono (λh1=>opI_mono (λr os'=>hk _ _) h1) (λh2=>hk _ _ h2) h
def Gives(P:Program)(o:IOp)(ρ:Rho)(os:List AO)(r:AV)(os':List AO):Prop:=
 gI ρ o.guard (∀K:AV->List AO->Prop,K r os'->opI P ρ os K o.op) (r=.tup []/\os'=os)
theorem Gives.step{o:IOp}{r:AV}{os':List AO}(h:Gives P o ρ os r os'){K:Rho->List AO->Prop}(hk:K (updo o.dst r ρ) os'):stepI P o ρ os K:=by
 unfold stepI
 refine gI_mono (λh1=>h1 _ hk) (λh2=>?_) h
 obtain⟨rfl,rfl⟩:=h2
 exact hk
theorem stepI_gives{o:IOp}(hd:o.op.det=true){K:Rho->List AO->Prop}(h:stepI P o ρ os K):∃r os',Gives P o ρ os r os'/\K (updo o.dst r ρ) os'/\(o.op.wr=false->os'=os):=by
 unfold stepI gI at h
 have main:∀h1:opI P ρ os (λr os'=>K (updo o.dst r ρ) os') o.op,∃r os',(∀K:AV->List AO->Prop,K r os'->opI P ρ os K o.op)/\K (updo o.dst r ρ) os'/\(o.op.wr=false->os'=os):=by
  intro h1
  by_cases hw:o.op.wr=false
  ·rw[opI_nowr hw] at h1
   have h3:opI P ρ os (λr os'=>os'=os/\K (updo o.dst r ρ) os) o.op:=by
    rw[opI_nowr hw]
    simpa using h1
   obtain⟨r,os',⟨rfl,hk⟩,ha⟩:=opI_iff hd h3
   exact⟨r,_,ha,hk,λ_=>rfl⟩
  ·obtain⟨r,os',hk,ha⟩:=opI_iff hd h1
   exact⟨r,os',ha,hk,λh=>absurd h hw⟩
 unfold Gives gI
 split at h
 ·rename_i hg
  obtain⟨r,os',h1,h2,h3⟩:=main h
  exact⟨r,os',h1,h2,h3⟩
 ·rename_i t want hg
  split at h
  ·rename_i b hb
   by_cases hbw:b=want
   ·obtain⟨r,os',h1,h2,h3⟩:=main (h.1 hbw)
    exact⟨r,os',⟨λ_=>h1,λe=>by subst hbw;cases b<;>cases e⟩,h2,h3⟩
   ·have hbn:b=!want:=by cases b<;>cases want<;>simp_all
    exact⟨.tup [],os,⟨λe=>absurd e hbw,λ_=>⟨rfl,rfl⟩⟩,h.2 hbn,λ_=>rfl⟩
  ·rename_i hb
   exact⟨.tup [],os,⟨rfl,rfl⟩,h,λ_=>rfl⟩
  ·exact h.elim
theorem evO_upd{ρ:Rho}{d:Option Nat}{r:AV}{x:Opd}(h:∀t,d=some t->t∉ x.tmps):evO (updo d r ρ) x=evO ρ x:=by
 cases d with
 |none=>rfl
 |some t=>
  cases x with
  |t n=>
   have:n≠t:=λe=>h t rfl (by simp[Opd.tmps,e])
   simp[evO,updo,upd,this]
  |_=>rfl
theorem Gives.upd{o:IOp}{d:Option Nat}{r s:AV}{os':List AO}(hl:∀t,d=some t->t∉ o.looks):Gives P o (updo d r ρ) os s os'=Gives P o ρ os s os':=by
 have h1:∀K:AV->List AO->Prop,opI P (updo d r ρ) os K o.op=opI P ρ os K o.op:=λK=>opI_congr o.op K λx hx=>evO_upd λt ht hm=>hl t ht (by
  unfold IOp.looks
  exact List.mem_append_right _ (List.mem_flatMap.2 ⟨x,hx,hm⟩))
 unfold Gives
 simp only[h1]
 unfold gI
 cases hg:o.guard with
 |none=>rfl
 |some tw=>
  obtain⟨t,want⟩:=tw
  have:Bi.updo d r ρ t=ρ t:=by
   cases d with
   |none=>rfl
   |some s=>
    have:t≠s:=λe=>hl s rfl (by unfold IOp.looks;rw[hg];simp[e])
    simp[Bi.updo,Bi.upd,this]
  simp only[this]
theorem Gives.nord{o:IOp}{r:AV}(hr:o.op.rd=false)(h:Gives P o ρ os r os)(os2:List AO):Gives P o ρ os2 r os2:=by
 unfold Gives at *
 refine gI_mono (λh1 K hk=>?_) (λh2=>⟨h2.1,rfl⟩) h
 rw[opI_nord hr os]
 exact h1 (λr _=>K r os2) hk
theorem updo_comm{ρ:Rho}{d e:Option Nat}{r s:AV}(h:∀t,d=some t->e≠some t):updo d r (updo e s ρ)=updo e s (updo d r ρ):=by
 cases d with
 |none=>rfl
 |some t=>
  cases e with
  |none=>rfl
  |some u=>
   have:t≠u:=λe=>h t rfl (by rw[e])
   funext x
   simp only[updo,upd]
   by_cases h1:x=t
   ·subst h1;simp[this]
   ·by_cases h2:x=u
    ·subst h2;simp[h1]
    ·simp[h1,h2]
theorem apart_spec{x y:IOp}(h:x.apart y=true):x.op.det=true/\y.op.det=true/\(∀t,x.dst=some t->t∉ y.looks)/\(∀t,x.dst=some t->y.dst≠some t)/\(∀t,y.dst=some t->t∉ x.looks)/\
  (x.op.wr=true->y.op.rd=false)/\(y.op.wr=true->x.op.rd=false):=by
 unfold IOp.apart at h
 simp only[Bool.and_eq_true,Bool.not_eq_true',Bool.and_eq_false_iff] at h
 obtain⟨⟨⟨⟨⟨h1,h2⟩,h3⟩,h4⟩,h5⟩,h6⟩:=h
 refine⟨h1,h2,λt ht=>?_,λt ht=>?_,λt ht=>?_,λhw=>?_,λhw=>?_⟩
 ·rw[ht] at h3;simp at h3;exact h3.1
 ·rw[ht] at h3;simp at h3;exact h3.2
 ·rw[ht] at h4;simpa using h4
 ·rcases h5 with h|h
  ·rw[hw] at h;cases h
  ·exact h
 ·rcases h6 with h|h
  ·exact h
  ·rw[hw] at h;cases h
theorem XO.wr_rd(e:XO)(h:e.wr=true):e.rd=true:=by cases e<;>first|rfl|cases h
theorem wr_rd(op:IK)(h:op.wr=true):op.rd=true:=by
 cases op with
 |ex e xs=>exact XO.wr_rd e h
 |_=>first|rfl|cases h
theorem swap{x y:IOp}(ha:x.apart y=true){K:Rho->List AO->Prop}(h:stepI P x ρ os λρ' os'=>stepI P y ρ' os' K):stepI P y ρ os λρ' os'=>stepI P x ρ' os' K:=by
 obtain⟨d1,d2,h1,h2,h3,h4,h5⟩:=apart_spec ha
 obtain⟨r,os1,g1,hA,w1⟩:=stepI_gives d1 h
 obtain⟨s,os2,g2,hB,w2⟩:=stepI_gives d2 hA
 rw[Gives.upd h1] at g2
 have hcomm:updo y.dst s (updo x.dst r ρ)=updo x.dst r (updo y.dst s ρ):=(updo_comm h2).symm
 rw[hcomm] at hB
 by_cases hw1:x.op.wr=true
 ·have hr:=h4 hw1
  have hw2:y.op.wr=false:=by
   cases hq:y.op.wr with
   |false=>rfl
   |true=>rw[wr_rd _ hq] at hr;cases hr
  have:=w2 hw2
  subst this
  refine(g2.nord hr os).step ?_
  refine Gives.step (r:=r) ?_ hB
  rw[Gives.upd h3]
  exact g1
 ·have hw1:x.op.wr=false:=by simpa using hw1
  have:=w1 hw1
  subst this
  refine g2.step ?_
  by_cases hw2:y.op.wr=true
  ·have hr:=h5 hw2
   refine Gives.step (r:=r) ?_ hB
   rw[Gives.upd h3]
   exact g1.nord hr os2
  ·have hw2:y.op.wr=false:=by simpa using hw2
   have:=w2 hw2
   subst this
   refine Gives.step (r:=r) ?_ hB
   rw[Gives.upd h3]
   exact g1
theorem stepI_mono{o:IOp}(hd:o.op.det=true){K K':Rho->List AO->Prop}(hk:∀ρ os,K ρ os->K' ρ os)(h:stepI P o ρ os K):stepI P o ρ os K':=by
 obtain⟨r,os',g,h,_⟩:=stepI_gives hd h
 exact g.step (hk _ _ h)
theorem isMv_spec{o:IOp}(h:o.isMv=true):∃x,o=⟨o.dst,none,.mv x⟩:=by
 obtain⟨d,g,op⟩:=o
 unfold IOp.isMv at h
 rw[Bool.and_eq_true] at h
 cases g with
 |some _=>simp at h
 |none=>
  cases op with
  |mv x=>exact⟨x,rfl⟩
  |_=>simp at h
theorem stepI_mv{d:Option Nat}{x:Opd}{K:Rho->List AO->Prop}:stepI P ⟨d,none,.mv x⟩ ρ os K=K (updo d (evO ρ x) ρ) os:=rfl
theorem apartM_spec{x y:IOp}(h:x.apartM y=true):(x.isMv=true\/y.isMv=true)/\(∀t,x.dst=some t->t∉ y.looks)/\(∀t,x.dst=some t->y.dst≠some t)/\(∀t,y.dst=some t->t∉ x.looks):=by
 unfold IOp.apartM at h
 simp only[Bool.and_eq_true,Bool.or_eq_true] at h
 obtain⟨⟨h1,h3⟩,h4⟩:=h
 refine⟨h1,λt ht=>?_,λt ht=>?_,λt ht=>?_⟩
 ·rw[ht] at h3;simp at h3;exact h3.1
 ·rw[ht] at h3;simp at h3;exact h3.2
 ·rw[ht] at h4;simpa using h4
theorem stepI_upd{o:IOp}{d:Option Nat}{v:AV}{K:Rho->List AO->Prop}(hl:∀t,d=some t->t∉ o.looks)(hd:∀t,d=some t->o.dst≠some t):stepI P o (updo d v ρ) os K=stepI P o ρ os λρ' os'=>K (updo d v ρ') os':=by
 have hc:∀r,updo o.dst r (updo d v ρ)=updo d v (updo o.dst r ρ):=λr=>(updo_comm hd).symm
 unfold stepI
 simp only[hc]
 have h1:∀K:AV->List AO->Prop,opI P (updo d v ρ) os K o.op=opI P ρ os K o.op:=λK=>opI_congr o.op K λx hx=>evO_upd λt ht hm=>hl t ht (by
  unfold IOp.looks
  exact List.mem_append_right _ (List.mem_flatMap.2 ⟨x,hx,hm⟩))
 rw[h1]
 unfold gI
 cases hg:o.guard with
 |none=>rfl
 |some tw=>
  obtain⟨t,want⟩:=tw
  have:Bi.updo d v ρ t=ρ t:=by
   cases d with
   |none=>rfl
   |some s=>
    have:t≠s:=λe=>hl s rfl (by unfold IOp.looks;rw[hg];simp[e])
    simp[Bi.updo,Bi.upd,this]
  simp only[this]
theorem swapM{x y:IOp}(ha:x.apartM y=true){K:Rho->List AO->Prop}(h:stepI P x ρ os λρ' os'=>stepI P y ρ' os' K):stepI P y ρ os λρ' os'=>stepI P x ρ' os' K:=by
 obtain⟨hm,h1,h2,h3⟩:=apartM_spec ha
 rcases hm with hm|hm
 ·obtain⟨z,e⟩:=isMv_spec hm
  have hz:∀t,y.dst=some t->t∉ z.tmps:=λt ht hm=>h3 t ht (by rw[e];simp[IOp.looks,IK.opds,hm])
  rw[e,stepI_mv,stepI_upd h1 h2] at h
  refine stepI_monoA' (λr os' hk=>?_) h
  rw[e,stepI_mv,evO_upd hz]
  exact hk
 ·obtain⟨z,e⟩:=isMv_spec hm
  have hz:∀t,x.dst=some t->t∉ z.tmps:=λt ht hm=>h1 t ht (by rw[e];simp[IOp.looks,IK.opds,hm])
  rw[e,stepI_mv]
  rw[stepI_upd h3 (λt ht e2=>h2 t e2 ht)]
  refine stepI_monoA' (λr os' hk=>?_) h
  rw[e,stepI_mv,evO_upd hz] at hk
  exact hk
theorem opsIx_first(is:List IOp){i:Nat}{o:IOp}(hi:is[i]?=some o)(K:Rho->List AO->Prop):∀(l l':List Nat) (ρ:Rho) (os:List AO),(∀j∈l,∃x,is[j]?=some x/\(x.apart o=true\/x.apartM o=true))->
  opsIx P is (l++i::l') ρ os K->opsIx P is (i::(l++l')) ρ os K
 |[],l',ρ,os,ha,h=>h
 |j::l,l',ρ,os,ha,h=>by
  obtain⟨x,hx,hap⟩:=ha j (by simp)
  have ih:=λρ os=>opsIx_first is hi K l l' ρ os (λj hj=>ha j (by simp[hj]))
  simp only[List.cons_append,opsIx,hx,hi] at h ih ⊢
  have h:=stepI_monoA (λρ os hh=>ih ρ os hh) h
  rcases hap with hap|hap
  ·exact swap hap h
  ·exact swapM hap h
theorem ancRow_bit(acc:List Nat)(j:Nat):∀(es:List Edge) (s:Nat),(es.foldl (λs e=>if Region.binds .any e then s|||2 ^ e.on|||acc.getD e.on 0 else s) s).testBit j=true->
  s.testBit j=true\/∃e∈es,Region.binds .any e=true/\(e.on=j\/(acc.getD e.on 0).testBit j=true)
 |[],s,h=>.inl h
 |e::es,s,h=>by
  simp only[List.foldl_cons] at h
  rcases ancRow_bit acc j es _ h with h1|⟨e',he',hb,h2⟩
  ·split at h1
   ·rename_i hb
    rw[Nat.testBit_or,Nat.testBit_or] at h1
    simp only[Bool.or_eq_true] at h1
    rcases h1 with (h1|h1)|h1
    ·exact .inl h1
    ·rw[Nat.testBit_two_pow] at h1
     exact .inr ⟨e,by simp,hb,.inl (by simpa using h1)⟩
    ·exact .inr ⟨e,by simp,hb,.inr h1⟩
   ·exact .inl h1
  ·exact .inr ⟨e',by simp[he'],hb,h2⟩
theorem anc_get:∀(l:List Oper) (acc:List Nat),(∀i,i<acc.length->(anc acc l).getD i 0=acc.getD i 0)/\(anc acc l).length=acc.length+l.length/\
  ∀i j,acc.length<=i->((anc acc l).getD i 0).testBit j=true->∃o,l[i-acc.length]?=some o/\∃e∈o.after.toList,Region.binds .any e=true/\(e.on=j\/(e.on<i/\((anc acc l).getD e.on 0).testBit j=true))
 |[],acc=>⟨λ_ _=>rfl,rfl,λi j hi h=>by
   have:(anc acc []).getD i 0=0:=by simp[anc,List.getD_eq_getElem?_getD,List.getElem?_eq_none hi]
   rw[this] at h
   simp at h⟩
 |o::l,acc=>by
  obtain⟨i1,i2,i3⟩:=anc_get l (acc++[ancRow acc o.after.toList])
  have hlen:(acc++[ancRow acc o.after.toList]).length=acc.length+1:=by simp
  simp only[anc]
  refine⟨λi hi=>?_,by rw[i2,hlen];simp;omega,λi j hi h=>?_⟩
  ·rw[i1 i (by omega),List.getD_eq_getElem?_getD,List.getElem?_append_left hi,List.getD_eq_getElem?_getD]
  ·rcases Nat.lt_or_ge acc.length i with hlt|hge
   ·obtain⟨o',ho',rest⟩:=i3 i j (by omega) h
    refine⟨o',?_,rest⟩
    rw[hlen] at ho'
    rw[show i-acc.length=(i-(acc.length+1))+1 by omega]
    simpa using ho'
   ·have hie:i=acc.length:=by omega
    subst hie
    rw[i1 _ (by omega)] at h
    have:(acc++[ancRow acc o.after.toList]).getD acc.length 0=ancRow acc o.after.toList:=by simp[List.getD_eq_getElem?_getD]
    rw[this] at h
    rcases ancRow_bit acc j _ 0 h with h1|⟨e,he,hb,h2⟩
    ·simp at h1
    ·refine⟨o,by simp,e,he,hb,h2.imp id λh3=>?_⟩
     have hlt:e.on<acc.length:=by
      rcases Nat.lt_or_ge e.on acc.length with h|h
      ·exact h
      ·have:acc.getD e.on 0=0:=by simp[List.getD_eq_getElem?_getD,List.getElem?_eq_none h]
       rw[this] at h3
       simp at h3
     refine⟨hlt,?_⟩
     rw[i1 _ (by omega),List.getD_eq_getElem?_getD,List.getElem?_append_left hlt,<- List.getD_eq_getElem?_getD]
     exact h3
def left(n:Nat)(listed:Array Bool):List Nat:=(List.range n).filter λi=>!listed.getD i true
theorem mem_left{n:Nat}{listed:Array Bool}{i:Nat}:i∈left n listed↔i<n/\listed.getD i true=false:=by simp[left]
theorem left_set(n:Nat)(listed:Array Bool)(i:Nat)(hi:i∈left n listed)(hs:listed.size=n) :
  ∃l l',left n listed=l++i::l'/\left n (listed.setIfInBounds i true)=l++l'/\∀j∈l,j<i/\j∈left n listed:=by
 obtain⟨hin,hun⟩:=mem_left.1 hi
 have hsplit:List.range n=List.range i++i::List.range' (i+1) (n-(i+1)):=by
  rw[List.range_eq_range',List.range_eq_range']
  have h1:List.range' 0 n=List.range' 0 i++List.range' i (n-i):=by
   have:=List.range'_append_1 (s:=0) (m:=i) (n:=n-i)
   rw[Nat.zero_add] at this
   rw[this]
   congr 1
   omega
  rw[h1]
  congr 1
  rw[show n-i=(n-(i+1))+1 by omega,List.range'_succ]
 have hne:∀j,j≠i->(listed.setIfInBounds i true).getD j true=listed.getD j true:=λj hj=>by
  simp[Array.getElem?_setIfInBounds_ne (Ne.symm hj)]
 have hself:(listed.setIfInBounds i true).getD i true=true:=by simp[hs,hin]
 refine⟨(List.range i).filter (λj=>!listed.getD j true),(List.range' (i+1) (n-(i+1))).filter (λj=>!listed.getD j true),?_,?_,λj hj=>?_⟩
 ·unfold left
  rw[hsplit,List.filter_append,List.filter_cons,if_pos (by simp[hun])]
 ·unfold left
  rw[hsplit,List.filter_append,List.filter_cons,if_neg (by simp[hself])]
  congr 1
  ·refine List.filter_congr λj hj=>?_
   rw[hne j (by have:=List.mem_range.1 hj;omega)]
  ·refine List.filter_congr λj hj=>?_
   rw[hne j (by have:=(List.mem_range'_1.1 hj).1;omega)]
 ·obtain⟨h1,h2⟩:=List.mem_filter.1 hj
  have hlt:=List.mem_range.1 h1
  exact⟨hlt,mem_left.2 ⟨by omega,by simpa using h2⟩⟩
theorem drawOK_S{ops:List Oper}{is:List IOp}(h:drawOK ops is=true):drawOKS ops is=true:=by
 unfold drawOK at h
 unfold drawOKS
 simp only[Bool.and_eq_true,List.all_eq_true,List.mem_range,Bool.or_eq_true] at h ⊢
 exact⟨h.1.2,λj hj i hi=>.inl (h.2 j hj i hi)⟩
theorem reorder{ops:Array Oper}{is:List IOp}(hl:is.length=ops.size)(hd:drawOKS ops.toList is=true)(K:Rho->List AO->Prop) :
  ∀(fuel t:Nat) (listed:Array Bool) (ρ:Rho) (os:List AO),listed.size=ops.size->(left ops.size listed).length<=fuel->
   (∀i,i<ops.size->listed.getD i true=true->∀j,((anc [] ops.toList).getD i 0).testBit j=true->listed.getD j true=true)->
   opsIx P is (left ops.size listed) ρ os K->opsIx P is (Region.linearise.go .any ops fuel t listed []) ρ os K:=by
 unfold drawOKS at hd
 simp only[Bool.and_eq_true,List.all_eq_true,List.mem_range] at hd
 obtain⟨hd1,hd2⟩:=hd
 have hback:∀i o e,ops[i]?=some o->e∈o.after.toList->Region.binds .any e=true->e.on<i:=by
  intro i o e ho he hb
  have hi:=(Array.getElem?_eq_some_iff.1 ho).1
  have:=hd1 i (by simpa using hi)
  rw[show ops.toList[i]?=some o by simpa using ho] at this
  simp only[List.all_eq_true,Bool.or_eq_true,Bool.not_eq_true',decide_eq_true_eq] at this
  rcases this e he with h|h
  ·exact h
  ·rw[hb] at h;cases h
 have hanc:∀i j,((anc [] ops.toList).getD i 0).testBit j=true->∃o,ops[i]?=some o/\∃e∈o.after.toList,Region.binds .any e=true/\(e.on=j\/(e.on<i/\((anc [] ops.toList).getD e.on 0).testBit j=true)):=by
  intro i j h
  obtain⟨o,ho,rest⟩:=(anc_get (ops.toList) []).2.2 i j (Nat.zero_le _) h
  exact⟨o,by simpa using ho,rest⟩
 intro fuel
 induction fuel with
 |zero=>
  intro t listed ρ os hs hf hc h
  have:left ops.size listed=[]:=List.eq_nil_of_length_eq_zero (by omega)
  rw[this] at h
  simpa[Region.linearise.go] using h
 |succ fuel ih=>
  intro t listed ρ os hs hf hc h
  simp only[Region.linearise.go]
  change opsIx P is (match (Region.ready .any ops listed)[t % (Region.ready .any ops listed).length]? with
   |some i=>Region.linearise.go .any ops fuel (t / (Region.ready .any ops listed).length) (listed.setIfInBounds i true) [i]
   |none=>[].reverse) ρ os K
  cases hi:(Region.ready .any ops listed)[t % (Region.ready .any ops listed).length]? with
  |none=>
   have hnil:Region.ready .any ops listed=[]:=by
    cases hr:Region.ready .any ops listed with
    |nil=>rfl
    |cons x xs=>
     rw[hr] at hi
     have hlt:t % (x::xs).length<(x::xs).length:=Nat.mod_lt _ (by simp)
     rw[List.getElem?_eq_getElem hlt] at hi
     cases hi
   have hleft:left ops.size listed=[]:=by
    cases hq:left ops.size listed with
    |nil=>rfl
    |cons x xs=>
     exfalso
     -- the least place that is left is ready
     have hx:x∈left ops.size listed:=by rw[hq];simp
     obtain⟨l,l',e1,_,e3⟩:=left_set ops.size listed x hx hs
     have hl0:l=[]:=by
      rw[hq] at e1
      cases l with
      |nil=>rfl
      |cons y ys=>
       have:=(e3 y (by simp)).1
       injection e1 with e4 _
       omega
     obtain⟨hx1,hx2⟩:=mem_left.1 hx
     have:x∈Region.ready .any ops listed:=by
      unfold Region.ready
      rw[List.mem_filter]
      refine⟨List.mem_range.2 hx1,?_⟩
      simp only[hx2,Bool.not_false,Bool.true_and]
      rw[Array.getElem?_eq_getElem hx1]
      simp only[Option.map_some,Option.getD_some,Array.all_eq_true_iff_forall_mem]
      intro e he
      by_cases hb:Region.binds .any e=true
      ·have hlt:=hback x _ e (Array.getElem?_eq_getElem hx1) (by simpa using he) hb
       have hnl:listed.getD e.on true=true:=by
        by_cases hq2:listed.getD e.on true=true
        ·exact hq2
        ·have hm:e.on∈left ops.size listed:=mem_left.2 ⟨by omega,by simpa using hq2⟩
         rw[e1,hl0] at hm
         simp only[List.nil_append] at hm
         -- everything left is at least x
         exfalso
         have hsorted:∀y∈left ops.size listed,x<=y:=by
          intro y hy
          obtain⟨l2,l2',f1,_,f3⟩:=left_set ops.size listed y hy hs
          rw[hq] at f1
          cases l2 with
          |nil=>injection f1 with f4 _;omega
          |cons z zs=>
           injection f1 with f4 _
           have:=(f3 z (by simp)).1
           omega
         have:=hsorted e.on (by rw[e1,hl0];exact hm)
         omega
       have hlt2:e.on<listed.size:=by omega
       simp[hb]
       simpa[hlt2] using hnl
      ·simp[hb]
     rw[hnil] at this
     cases this
   rw[hleft] at h
   simpa using h
  |some i=>
   have hready:=List.mem_of_getElem? hi
   dsimp only
   rw[linearise_go_acc,List.reverse_singleton,List.singleton_append]
   unfold Region.ready at hready
   rw[List.mem_filter] at hready
   obtain⟨hr1,hr2⟩:=hready
   have hil:=List.mem_range.1 hr1
   rw[Bool.and_eq_true,Array.getElem?_eq_getElem hil] at hr2
   obtain⟨hr2,hr3⟩:=hr2
   have hun:listed.getD i true=false:=by simpa using hr2
   have hafter:∀e∈(ops[i]).after.toList,Region.binds .any e=true->listed.getD e.on true=true:=by
    intro e he hb
    simp only[Option.map_some,Option.getD_some,Array.all_eq_true_iff_forall_mem] at hr3
    have:=hr3 e (by simpa using he)
    simp only[hb,Bool.not_true,Bool.false_or] at this
    have hlt:=hback i _ e (Array.getElem?_eq_getElem hil) he hb
    have hlt2:e.on<listed.size:=by omega
    simpa[hlt2] using this
   have hmem:i∈left ops.size listed:=mem_left.2 ⟨hil,hun⟩
   obtain⟨l,l',e1,e2,e3⟩:=left_set ops.size listed i hmem hs
   have hio:is[i]?=some (is[i]'(by omega)):=List.getElem?_eq_getElem (by omega)
   rw[e1] at h
   have hanci:∀j,((anc [] ops.toList).getD i 0).testBit j=true->listed.getD j true=true:=by
    intro j hj
    obtain⟨o,ho,e,he,hb,hcase⟩:=hanc i j hj
    rw[Array.getElem?_eq_getElem hil] at ho
    cases ho
    have hle:=hafter e he hb
    rcases hcase with rfl|⟨hlt,hb2⟩
    ·exact hle
    ·exact hc e.on (by omega) hle j hb2
   have h:=opsIx_first is hio K l l' ρ os (λj hj=>by
    obtain⟨hji,hjl⟩:=e3 j hj
    obtain⟨hj1,hj2⟩:=mem_left.1 hjl
    refine⟨is[j]'(by omega),List.getElem?_eq_getElem (by omega),?_⟩
    have:=hd2 i (by omega) j hji
    simp only[Bool.or_eq_true] at this
    rcases this with (h1|h1)|h1
    ·have:=hanci j h1
     rw[hj2] at this
     cases this
    ·left
     simpa[List.getD_eq_getElem?_getD,List.getElem?_eq_getElem (show i<is.length by omega),List.getElem?_eq_getElem (show j<is.length by omega)] using h1
    ·right
     simpa[List.getD_eq_getElem?_getD,List.getElem?_eq_getElem (show i<is.length by omega),List.getElem?_eq_getElem (show j<is.length by omega)] using h1) h
   simp only[opsIx,hio] at h ⊢
   refine stepI_monoA (λρ' os' hh=>?_) h
   refine ih _ (listed.setIfInBounds i true) ρ' os' (by simpa using hs) ?_ (λk hk hkl j hj=>?_) (by rw[e2];exact hh)
   ·rw[e2]
    rw[e1] at hf
    simp at hf ⊢
    omega
   ·by_cases hki:k=i
    ·subst hki
     have:=hanci j hj
     by_cases hji:j=k
     ·subst hji
      simp[show j<listed.size by omega]
     ·rw[show(listed.setIfInBounds k true).getD j true=listed.getD j true by simp[Array.getElem?_setIfInBounds_ne (Ne.symm hji)]]
      exact this
    ·rw[show(listed.setIfInBounds i true).getD k true=listed.getD k true by simp[Array.getElem?_setIfInBounds_ne (Ne.symm hki)]] at hkl
     have:=hc k hk hkl j hj
     by_cases hji:j=i
     ·subst hji
      simp[show j<listed.size by omega]
     ·rw[show(listed.setIfInBounds i true).getD j true=listed.getD j true by simp[Array.getElem?_setIfInBounds_ne (Ne.symm hji)]]
      exact this
end
end Go.Bi
