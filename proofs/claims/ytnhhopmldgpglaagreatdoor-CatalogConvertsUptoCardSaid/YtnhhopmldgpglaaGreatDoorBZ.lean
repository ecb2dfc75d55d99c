/- The evaluator of code: sound; loops; the words of the walk. No condition. -/
import Derived.Test.YtnhhopmldgpglaaGreatDoorBY
set_option linter.unusedVariables false
namespace Go.Bi
set_option linter.unusedSectionVars false
variable [J9]
def CnK:Bool->(Sl->List AO->Prop)->(Sl->List AO->Prop)->Sl->List AO->Prop
 |true,X,_=>X
 |false,_,Y=>Y
structure KX where
 norm:Sl->List AO->Prop
 exit:Nat->Sl->List AO->Prop
 ret:Sl->List AO->Prop
def toK(K:KX):Kt:={norm:=λρ os=>∃L,ρ=D1 L/\K.norm L os,exit:=λi ρ os=>∃L,ρ=D1 L/\K.exit i L os,ret:=λρ os=>∃L,ρ=D1 L/\K.ret L os}
def A7a(d:Option Nat)(v:AV)(L:Sl):Sl:=match d with
 |some t=>(t,v)::L
 |none=>L
theorem A9h{d:Option Nat}{v:AV}{L:Sl}:D1 (A7a d v L)=updo d v (D1 L):=by
 cases d with
 |none=>rfl
 |some t=>exact(B1R t v L).symm
theorem A1T{t:Nat}{v:AV}{L:Sl}(h:D1 L t=v):D1 ((t,v)::L)=D1 L:=by
 funext s
 simp only[D1]
 cases hb:Nat.beq s t with
 |true=>rw[R0 hb];exact h.symm
 |false=>rfl
def gX(L:Sl)(g:Option (Nat×Bool))(yes no:Sl->Prop):Prop:=
 match g with
 |none=>yes L
 |some (t,w)=>match D1 L t with
  |.d (.bool b)=>Cn w (Cn b (yes ((t,.d (.bool true))::L)) (no ((t,.d (.bool false))::L))) (Cn b (no ((t,.d (.bool true))::L)) (yes ((t,.d (.bool false))::L)))
  |.tup []=>no L
  |_=>False
theorem D4N{L:Sl}{g:Option (Nat×Bool)}{yes no:Sl->Prop}{y' n':Prop}(hy:∀L',D1 L'=D1 L->yes L'->y')(hn:∀L',D1 L'=D1 L->no L'->n')(h:gX L g yes no):gI (D1 L) g y' n':=by
 cases g with
 |none=>exact hy L rfl h
 |some p=>
  obtain⟨t,w⟩:=p
  simp only[gX] at h
  simp only[gI]
  split at h
  ·rename_i b e
   rw[e]
   cases w<;>cases b
   ·exact⟨λ_=>hy _ (A1T e) h,λe=>by cases e⟩
   ·exact⟨λe=>(by cases e),λ_=>hn _ (A1T e) h⟩
   ·exact⟨λe=>(by cases e),λ_=>hn _ (A1T e) h⟩
   ·exact⟨λ_=>hy _ (A1T e) h,λe=>(by cases e)⟩
  ·rename_i e;rw[e];exact hn L rfl h
  ·exact h.elim
theorem D6r{P:Program}{ρ:C5}{os:List AO}{K K':AV->List AO->Prop}{op:IK}(hk:∀r os,K r os->K' r os)(h:A8 P ρ os K op):A8 P ρ os K' op:=by
 by_cases hd:op.det=true
 ·obtain⟨r,os',h1,h2⟩:=A6K hd h
  exact h2 K' (hk _ _ h1)
 ·cases op with
  |call f args=>
   simp only[A8] at h ⊢
   rcases h with h|h
   ·refine .inl ?_
    split at h
    ·rename_i as os1 e
     split at h
     ·rename_i g e2
      split at h
      ·rename_i e3
       rw[if_pos e3]
       exact B0.mono h hk
      ·rename_i e3
       rw[if_neg e3]
       exact B0.mono h λr os'=>hk _ _
     ·rename_i g caps e2
      exact B0.mono h hk
     ·rename_i v e2
      split at h
      ·rename_i g ds e3
       exact⟨h.1,B0.mono h.2 λr os'=>hk _ _⟩
      ·exact h.elim
     ·exact h.elim
    ·exact h.elim
   ·refine .inr ?_
    split at h
    ·exact⟨h.1,B0.mono h.2 hk⟩
    ·exact h.elim
  |nmap x=>
   simp only[A8] at h ⊢
   split at h
   ·split at h
    ·split at h
     ·exact⟨h.1,λi p hi hp=>hk _ _ (h.2.1 i p hi hp),λhn=>hk _ _ (h.2.2 hn)⟩
     ·exact h.elim
    ·exact h.elim
   ·exact h.elim
  |_=>exact absurd rfl hd
def C2z(P:Program)(o:D0)(L:Sl)(os:List AO)(K:Sl->List AO->Prop):Prop:=
 gX L o.guard (λL=>xOp P L os (λr os'=>K (A7a o.dst r L) os') o.op) (λL=>K (A7a o.dst (.tup []) L) os)
theorem D8q{P:Program}{o:D0}{L:Sl}{os:List AO}{K:Sl->List AO->Prop}{K':C5->List AO->Prop}(hk:∀L os,K L os->K' (D1 L) os)(h:C2z P o L os K):n9 P o (D1 L) os K':=by
 refine D4N (λL' e h=>?_) (λL' e h=>?_) h
 ·rw[<- e]
  exact D6r (λr os' h=>by rw[<- A9h];exact hk _ _ h) (C2v h)
 ·rw[<- e,<- A9h];exact hk _ _ h
def C2w(P:Program)(is:List D0):Sl->List AO->(Sl->List AO->Prop)->Prop:=
 List.rec (motive:=λ_=>Sl->List AO->(Sl->List AO->Prop)->Prop) (λL os K=>K L os) (λo _ ih L os K=>C2z P o L os λL' os'=>ih L' os' K) is
theorem C2y{P:Program}:∀{is:List D0}{L:Sl}{os:List AO}{K:Sl->List AO->Prop}{K':C5->List AO->Prop},(∀L os,K L os->K' (D1 L) os)->C2w P is L os K->A2p P is (D1 L) os K'
 |[],L,os,K,K',hk,h=>hk _ _ h
 |o::rest,L,os,K,K',hk,h=>D8q (K':=λρ os=>A2p P rest ρ os K') (λL os h=>C2y hk h) h
def A8b(v:AV)(K:List Nat->Prop):Prop:=match v with
 |.aptr id _ _ _=>K [id]
 |.rp id _ _ _=>K [id]
 |_=>K []
def A40(v:AV)(K:List Nat->Prop):Prop:=match v with
 |.ptr id _=>K [id]
 |.aptr id _ _ _=>K [id]
 |.arr id _=>K [id]
 |.rs id _=>K [id]
 |.rp id _ _ _=>K [id]
 |_=>K []
theorem B0L{v:AV}{K:List Nat->Prop}(h:A8b v K):K (A4q v):=by cases v<;>exact h
theorem A4Z{v:AV}{K:List Nat->Prop}(h:A40 v K):K (k8 v):=by cases v<;>exact h
def A9n(L:Sl)(K:O2->Prop):IK->Prop
 |.faddr _ x=>xV L x λv=>A8b v λR=>K (R,none)
 |.nilck x=>xV L x λv=>A8b v λR=>K (R,none)
 |.ixarr _ _ x _=>xV L x λv=>A8b v λR=>K (R,none)
 |.eqnil _ x=>xV L x λv=>A40 v λR=>K (R,none)
 |.len x=>xV L x λv=>A40 v λR=>K (R,none)
 |.ixsl _ x _=>xV L x λv=>A40 v λR=>K (R,none)
 |.load _ _ x=>xV L x λv=>A40 v λR=>K (R,none)
 |.store _ x v=>xV L x λa=>match a with
  |.ptr id _=>K ([],some id)
  |.aptr id _ _ _=>xV L v λb=>Cn b.isDB (K ([],some id)) False
  |_=>False
 |.app _ _ s x=>xV L s λa=>match a with
  |.arr id _=>xV L x λb=>A40 b λR=>K (R,some id)
  |.rs id _=>xV L x λb=>A40 b λR=>K (R,some id)
  |_=>False
 |.alloca id _=>K ([],some id)
 |.boxa id _ _=>K ([],some id)
 |.calln id _ args=>xVs L args λvs=>Cn (vs.all AV.isDB) (K ([],some id)) False
 |.bslr id _ _ _ _=>K ([],some id)
 |.lkup _ _ _ _ m _=>xV L m λa=>match a with
  |.mp id=>K ([id,id+1],none)
  |_=>False
 |.mupd _ m _ _=>xV L m λa=>match a with
  |.mp id=>K ([],some id)
  |_=>False
 |.slsl _ x _ _=>xV L x λv=>Cn v.isDB (K ([],none)) False
 |.callp _ args=>xVs L args λvs=>Cn (vs.all AV.isDB) (K ([],none)) False
 |.bsld _ _ _ ps=>xVs L (ps.map λp=>p.2.2) λvs=>Cn (vs.all AV.isDB) (K ([],none)) False
 |op=>Cn op.rd False (K ([],none))
theorem D3f{b:Bool}{X:Prop}(h:Cn b False X):b=false/\X:=by cases b;exact⟨rfl,h⟩;exact h.elim
theorem D2h{L:Sl}{K:O2->Prop}{op:IK}(h0:A9n L K op=Cn op.rd False (K ([],none)))(h1:G9 (D1 L) op=if op.rd then none else some ([],none))(h:A9n L K op):∃t,G9 (D1 L) op=some t/\K t:=by
 rw[h0] at h
 obtain⟨h2,h3⟩:=D3f h
 exact⟨([],none),by rw[h1,h2];rfl,h3⟩
theorem D8k{L:Sl}{K:O2->Prop}{op:IK}(h:A9n L K op):∃t,G9 (D1 L) op=some t/\K t:=by
 cases op<;>first|exact D2h rfl rfl h|skip
 case faddr a x=>exact⟨_,rfl,B0L (K:=λR=>K (R,none)) (E9 h)⟩
 case nilck x=>exact⟨_,rfl,B0L (K:=λR=>K (R,none)) (E9 h)⟩
 case ixarr a b x i=>exact⟨_,rfl,B0L (K:=λR=>K (R,none)) (E9 h)⟩
 case eqnil a x=>exact⟨_,rfl,A4Z (K:=λR=>K (R,none)) (E9 h)⟩
 case len x=>exact⟨_,rfl,A4Z (K:=λR=>K (R,none)) (E9 h)⟩
 case ixsl a x i=>exact⟨_,rfl,A4Z (K:=λR=>K (R,none)) (E9 h)⟩
 case load a b x=>exact⟨_,rfl,A4Z (K:=λR=>K (R,none)) (E9 h)⟩
 case store a x v=>
  have h1:=E9 h
  simp only[G9]
  split at h1
  ·rename_i id off e;rw[e];exact⟨_,rfl,h1⟩
  ·rename_i id l i off e
   obtain⟨h2,h3⟩:=Y6.1 (E9 h1)
   rw[e];simp only[h2,if_true]
   exact⟨_,rfl,h3⟩
  ·exact h1.elim
 case app a b s x=>
  have h1:=E9 h
  simp only[G9]
  split at h1
  ·rename_i id l e;rw[e];exact⟨_,rfl,A4Z (K:=λR=>K (R,some id)) (E9 h1)⟩
  ·rename_i id l e;rw[e];exact⟨_,rfl,A4Z (K:=λR=>K (R,some id)) (E9 h1)⟩
  ·exact h1.elim
 case slsl sz x lo hi=>
  obtain⟨h2,h3⟩:=Y6.1 (E9 h)
  simp only[G9,h2,if_true]
  exact⟨_,rfl,h3⟩
 case callp f args=>
  obtain⟨h2,h3⟩:=Y6.1 (A2E h)
  simp only[G9,h2,if_true]
  exact⟨_,rfl,h3⟩
 case bsld a b c ps=>
  obtain⟨h2,h3⟩:=Y6.1 (A2E h)
  rw[l7] at h2
  simp only[G9]
  rw[if_pos (show(List.map (λp=>B8 (D1 L) p.2.2) ps).all AV.isDB=true from h2)]
  exact⟨_,rfl,h3⟩
 case lkup sk ok g zs m k=>
  have h1:=E9 h
  simp only[G9]
  split at h1
  ·rename_i id e;rw[e];exact⟨_,rfl,h1⟩
  ·exact h1.elim
 case mupd sk m k v=>
  have h1:=E9 h
  simp only[G9]
  split at h1
  ·rename_i id e;rw[e];exact⟨_,rfl,h1⟩
  ·exact h1.elim
 case alloca id zs=>exact⟨_,rfl,h⟩
 case boxa id n x=>exact⟨_,rfl,h⟩
 case calln id f args=>
  obtain⟨h2,h3⟩:=Y6.1 (A2E h)
  simp only[G9,h2,if_true]
  exact⟨_,rfl,h3⟩
 case bslr id n sz zs ps=>exact⟨_,rfl,h⟩
def C2A(P:Program)(o:D0)(L:Sl)(os:List AO)(E7:List O2)(K:Sl->List AO->List O2->Prop):Prop:=
 gX L o.guard (λL=>A9n L (λt=>xOp P L os (λr os'=>K (A7a o.dst r L) os' (t::E7)) o.op) o.op) (λL=>K (A7a o.dst (.tup []) L) os (([],none)::E7))
theorem D4M{L:Sl}{g:Option (Nat×Bool)}{yes no:Sl->Prop}(h:gX L g yes no):(∃L',D1 L'=D1 L/\yes L'/\∀A B:Prop,A->gI (D1 L) g A B)\/(∃L',D1 L'=D1 L/\no L'/\∀A B:Prop,B->gI (D1 L) g A B):=by
 cases g with
 |none=>exact .inl ⟨L,rfl,h,λA B a=>a⟩
 |some p=>
  obtain⟨t,w⟩:=p
  simp only[gX] at h
  split at h
  ·rename_i b e
   have h1:∀A B:Prop,gI (D1 L) (some (t,w)) A B=((b=w->A)/\(b=!w->B)):=λA B=>by simp only[gI,e]
   cases w<;>cases b
   ·exact .inl ⟨_,A1T e,h,λA B a=>by rw[h1];exact⟨λ_=>a,λe=>by cases e⟩⟩
   ·exact .inr ⟨_,A1T e,h,λA B a=>by rw[h1];exact⟨λe=>(by cases e),λ_=>a⟩⟩
   ·exact .inr ⟨_,A1T e,h,λA B a=>by rw[h1];exact⟨λe=>(by cases e),λ_=>a⟩⟩
   ·exact .inl ⟨_,A1T e,h,λA B a=>by rw[h1];exact⟨λ_=>a,λe=>by cases e⟩⟩
  ·rename_i e
   exact .inr ⟨L,rfl,h,λA B a=>by simp only[gI,e];exact a⟩
  ·exact h.elim
theorem D8p{P:Program}{o:D0}{L:Sl}{os:List AO}{E7:List O2}{K:Sl->List AO->List O2->Prop}(hd:o.op.det=true)(h:C2A P o L os E7 K) :
  ∃t r os' L',A0m (D1 L) o t/\M4 P o (D1 L) os r os'/\D1 L'=updo o.dst r (D1 L)/\K L' os' (t::E7):=by
 rcases D4M h with ⟨L1,e,h,hg⟩|⟨L1,e,h,hg⟩
 ·obtain⟨t,h1,h2⟩:=D8k h
  obtain⟨r,os',h3,h4⟩:=A6K hd (C2v h2)
  rw[e] at h1 h4
  exact⟨t,r,os',_,hg _ _ h1,hg _ _ h4,by rw[A9h,e],h3⟩
 ·exact⟨_,.tup [],os,_,hg _ _ trivial,hg _ _ ⟨rfl,rfl⟩,by rw[A9h,e],h⟩
def A9o(P:Program)(is:List D0):Sl->List AO->List O2->(Sl->List AO->List O2->Prop)->Prop:=
 List.rec (motive:=λ_=>Sl->List AO->List O2->(Sl->List AO->List O2->Prop)->Prop) (λL os E7 K=>K L os E7) (λo _ ih L os E7 K=>C2A P o L os E7 λL os E7=>ih L os E7 K) is
theorem C2x{P:Program}{is:List D0}{T0:List O2}:∀{l:List D0}{s:Nat}{L:Sl}{os:List AO}{E7:List O2}{K:Sl->List AO->List O2->Prop},(∀i,l[i]?=is[s+i]?)->(∀o∈l,o.op.det=true)->T0.length=s->
  A9o P l L os E7 K->∃T:List O2,T.length=l.length/\Y7 P is (T0++T) (List.range' s l.length) (D1 L) os λρ os=>∃L,ρ=D1 L/\K L os (T.reverse++E7)
 |[],s,L,os,E7,K,hl,hd,hs,h=>⟨[],rfl,L,rfl,h⟩
 |o::l,s,L,os,E7,K,hl,hd,hs,h=>by
  obtain⟨t,r,os',L',h1,h2,h3,h4⟩:=D8p (K:=λL os E7=>A9o P l L os E7 K) (hd o (by simp)) h
  obtain⟨T,h5,h6⟩:=C2x (T0:=T0++[t]) (l:=l) (s:=s+1) (λi=>by have:=hl (i+1);rw[show s+(i+1)=s+1+i by omega] at this;simpa using this) (λo ho=>hd o (by simp[ho])) (by simp[hs]) (show A9o P l L' os' (t::E7) K from h4)
  refine⟨t::T,by simp[h5],?_⟩
  have ho:is[s]?=some o:=by have:=hl 0;simpa using this.symm
  rw[H7,List.range'_succ]
  have ht:(T0++t::T)[s]?=some t:=by rw[P8 (by omega),hs,A3x];rfl
  simp only[Y7,ho,ht]
  refine⟨h1,h2.step ?_⟩
  rw[<- h3]
  simpa using h6
structure l8(P:Program)(n nb:Nat)(c:IC)(N:Sl->List AO->Prop)(E:Nat->Sl->List AO->Prop)(R:Sl->List AO->Prop)(L:Sl)(os:List AO):Prop where
 h:Tri P n nb (.loop c) (toK ⟨N,E,R⟩) (D1 L) os
def xC(c:B6)(X Y:Sl->List AO->Prop)(L:Sl)(os:List AO):Prop:=match c with
  |.t t=>match D1 L t with
   |.d (.bool b)=>Cn b (X ((t,.d (.bool true))::L) os) (Y ((t,.d (.bool false))::L) os)
   |_=>False
  |.c (.bool b)=>Cn b (X L os) (Y L os)
  |_=>False
def xI(P:Program)(n nb:Nat)(c:IC):(Sl->List AO->Prop)->(Nat->Sl->List AO->Prop)->(Sl->List AO->Prop)->Sl->List AO->Prop:=
 IC.rec (motive:=λ_=>(Sl->List AO->Prop)->(Nat->Sl->List AO->Prop)->(Sl->List AO->Prop)->Sl->List AO->Prop)
  (λN E R L os=>N L os)
  (λis N E R L os=>C2w P is L os N)
  (λh ps is N E R L os=>Cn (is.all λo=>o.op.det) (r8 os 0 λb=>j4 os (List.replicate h .hole) λos'=>A9o P (is.map (D0.at b)) L os' [] λL os E7=>F1 (A64 ps E7.reverse=true) (N L os)) False)
  (λ_ _ iha ihb N E R L os=>iha (λL os=>ihb N E R L os) E R L os)
  (λc _ _ ihx ihy N E R L os=>xC c (ihx N E R) (ihy N E R) L os)
  (λid _ iha N E R L os=>iha N (λi=>CnK (Nat.beq i id) N (E i)) R L os)
  (λc _ N E R L os=>l8 P n nb c N E R L os)
  (λid N E R L os=>E id L os)
  (λN E R L os=>R L os) c
def KX.le(K:KX)(K':Kt):Prop:=(∀L os,K.norm L os->K'.norm (D1 L) os)/\(∀i L os,K.exit i L os->K'.exit i (D1 L) os)/\∀L os,K.ret L os->K'.ret (D1 L) os
theorem A46{P:Program}{n nb:Nat}:∀{c:IC}{K:KX}{K':Kt}{L:Sl}{os:List AO},K.le K'->xI P n nb c K.norm K.exit K.ret L os->W5 P n nb c K' (D1 L) os:=by
 intro c
 induction c with
 |skip=>intro K K' L os hk h;exact hk.1 _ _ h
 |region is=>intro K K' L os hk h;exact C2y hk.1 h
 |dreg hc ps is=>
  intro K K' L os hk h
  obtain⟨h1,h2⟩:=Y6.1 h
  have h2:=v8.1 (A1R h2)
  rw[O3] at h1
  obtain⟨T,h3,h4⟩:=C2x (is:=is.map (D0.at os.length)) (T0:=[]) (s:=0) (λi=>by rw[v7]) (λo ho=>by
   obtain⟨o',ho',rfl⟩:=D9.1 ho
   rw[(A5R _ _).2.1];exact h1 o' ho') rfl h2
  rw[C6] at h3
  rw[C6] at h4
  rw[A1v,<- A7K] at h4
  -- the check holds wherever the run ends
  have hdet:∀o∈is.map (D0.at os.length),o.op.det=true:=λo ho=>by
   obtain⟨o',ho',rfl⟩:=D9.1 ho
   rw[(A5R _ _).2.1];exact h1 o' ho'
  have hchk:A64 ps T=true:=C14 hdet (λρ os ⟨L,_,hh⟩=>by simpa using hh.1) h4
  refine⟨T,h3,hchk,C17 hdet (λρ os ⟨L,e,hh⟩=>by rw[e];exact hk.1 _ _ hh.2) h4⟩
 |seq a b iha ihb=>
  intro K K' L os hk h
  exact iha (K:=⟨λL os=>xI P n nb b K.norm K.exit K.ret L os,K.exit,K.ret⟩) (K':={K' with norm:=λρ os=>W5 P n nb b K' ρ os}) ⟨λL os h=>ihb hk h,hk.2.1,hk.2.2⟩ h
 |cond c x y ihx ihy=>
  intro K K' L os hk h
  have h:xC c (xI P n nb x K.norm K.exit K.ret) (xI P n nb y K.norm K.exit K.ret) L os:=h
  unfold xC at h
  simp only[W5]
  split at h
  ·rename_i t
   split at h
   ·rename_i b e
    simp only[B8]
    rw[e]
    obtain⟨h1,h2⟩:=A0z.1 h
    refine⟨λhb=>?_,λhb=>?_⟩
    ·subst hb
     have:=ihx hk (h1 rfl)
     rwa [A1T e] at this
    ·subst hb
     have:=ihy hk (h2 rfl)
     rwa [A1T e] at this
   ·exact h.elim
  ·rename_i b
   obtain⟨h1,h2⟩:=A0z.1 h
   exact⟨λhb=>ihx hk (h1 hb),λhb=>ihy hk (h2 hb)⟩
  ·exact h.elim
 |block id a ih=>
  intro K K' L os hk h
  refine ih (K:=⟨K.norm,λi=>CnK (Nat.beq i id) K.norm (K.exit i),K.ret⟩) (K':={K' with exit:=λi=>if i=id then K'.norm else K'.exit i}) ⟨hk.1,λi L os h=>?_,hk.2.2⟩ h
  dsimp only at h ⊢
  cases hb:Nat.beq i id with
  |true=>rw[hb] at h;rw[if_pos (R0 hb)];exact hk.1 _ _ h
  |false=>rw[hb] at h;rw[if_neg (Nat.ne_of_beq_eq_false hb)];exact hk.2.1 _ _ _ h
 |loop c ih=>
  intro K K' L os hk h
  refine Tri.mono h.h (λρ os h=>?_) (λi ρ os h=>?_) (λρ os h=>?_)
  ·obtain⟨L,rfl,h⟩:=h;exact hk.1 _ _ h
  ·obtain⟨L,rfl,h⟩:=h;exact hk.2.1 _ _ _ h
  ·obtain⟨L,rfl,h⟩:=h;exact hk.2.2 _ _ h
 |exit id=>intro K K' L os hk h;exact hk.2.1 _ _ _ h
 |ret=>intro K K' L os hk h;exact hk.2.2 _ _ h
def A47(L:Sl)(os:List AO):List RV->(List AV->Prop)->Prop
 |[],K=>K []
 |.t s::rs,K=>frc (D1 L s) λv=>A47 L os rs λl=>K (v::l)
 |.cell s m g::rs,K=>frc (D1 L s) λa=>B2x os g m a λv=>A47 L os rs λl=>K (v::l)
theorem A8Z{ρ:C5}{os:List AO}:∀{rs:List RV}{K K':List AV->Prop},(∀l,K l->K' l)->k7 ρ os rs K->k7 ρ os rs K'
 |[],K,K',hk,h=>hk _ h
 |.t s::rs,K,K',hk,h=>A8Z (rs:=rs) (λl=>hk _) h
 |.cell s m g::rs,K,K',hk,h=>by
  simp only[k7] at h ⊢
  obtain⟨r,h1,h2⟩:=A8I h
  exact h2 _ (A8Z (rs:=rs) (λl=>hk _) h1)
theorem A57{L:Sl}{os:List AO}:∀{rs:List RV}{K:List AV->Prop},A47 L os rs K->k7 (D1 L) os rs K
 |[],K,h=>h
 |.t s::rs,K,h=>A57 (rs:=rs) (A1P.1 h)
 |.cell s m g::rs,K,h=>by
  have:=C2t (A1P.1 h)
  simp only[k7]
  obtain⟨r,h1,h2⟩:=A8I this
  exact h2 _ (A57 (rs:=rs) h1)
def A6W(rs:List RV)(r:AV)(L:Sl)(os:List AO):Prop:=A47 L os rs λl=>A3Q os l λl' _=>match l' with
 |[v]=>v=r
 |l=>.tup l=r
theorem C1x{rs:List RV}{r:AV}{L:Sl}{os:List AO}(h:A6W rs r L os):y9 0 (λr' os=>r'=r/\os=[]) rs (D1 L) os:=by
 refine A8Z (λl h=>?_) (A57 h)
 obtain⟨xs,os',h1,h2⟩:=A4J h
 simp only[h1]
 refine⟨by simp,?_,by simp⟩
 split at h2
 ·exact h2
 ·rename_i hn
  unfold A91
  split
  ·rename_i v;exact absurd rfl (hn v)
  ·exact h2
def A6X(nb:Nat)(Q:AV->List AO->Prop)(rs:List RV)(L:Sl)(os:List AO):Prop:=A47 L os rs λl=>A3Q os l λl' os'=>z6 os' nb λos2=>F1 (os2.all (λo=>o.bndB nb)=true) (match l' with
 |[v]=>Q v os2
 |l=>Q (.tup l) os2)
theorem C1y{nb:Nat}{Q:AV->List AO->Prop}{rs:List RV}{L:Sl}{os:List AO}(h:A6X nb Q rs L os):y9 nb Q rs (D1 L) os:=by
 refine A8Z (λl h=>?_) (A57 h)
 obtain⟨xs,os',h1,h2⟩:=A4J h
 simp only[h1]
 obtain⟨h3,h4⟩:=A2A.1 h2
 refine⟨λo ho=>M6 (O3.1 h3 o ho),?_⟩
 unfold A91
 split at h4
 ·exact h4
 ·rename_i hn
  split
  ·rename_i v;exact absurd rfl (hn v)
  ·exact h4
theorem C4{X:Prop}(h:X):Go X:=h
theorem B2.go{P:Program}(hm:P.follows .mixedOrders=true){f n:Nat}{ic:IC}{rs:List RV}(h:B2 P f n ic rs){args:List AV}(hargs:Nat.ble args.length n=true){r:AV}
  (hw:Go (xI P n 0 ic (A6W rs r) (λ_ _ _=>False) (A6W rs r) (A15 0 args) [])):Pure P f args r:=
 h.walkP hm (P5 hargs) (A46 (K:=⟨A6W rs r,λ_ _ _=>False,A6W rs r⟩) ⟨λL os h=>C1x h,λ_ _ _ h=>h,λL os h=>C1x h⟩ hw)
theorem B2.goX{P:Program}(hm:P.follows .mixedOrders=true){f n:Nat}{ic:IC}{rs:List RV}(h:B2 P f n ic rs){args:List AV}{bs:List AO}(hargs:Nat.ble args.length n=true){Q:AV->List AO->Prop}
  (hw:Go (xI P n bs.length ic (A6X bs.length Q rs) (λ_ _ _=>False) (A6X bs.length Q rs) (A15 0 args) bs)):B0 P f args bs Q:=
 h.walk hm (P5 hargs) (A46 (K:=⟨A6X bs.length Q rs,λ_ _ _=>False,A6X bs.length Q rs⟩) ⟨λL os h=>C1y h,λ_ _ _ h=>h,λL os h=>C1y h⟩ hw)
section
variable {X Y:Prop}{p:Prop}
theorem D58{dp:Decidable p}(h:p)(k:Go X):Cn (decide p) X Y:=by rw[decide_eq_true h];exact k
theorem D57{dp:Decidable p}(h:¬p)(k:Go Y):Cn (decide p) X Y:=by rw[decide_eq_false h];exact k
theorem k_d{dp:Decidable p}(h:p->Go X)(k:¬p->Go Y):Cn (decide p) X Y:=A0z.2 ⟨λe=>h (of_decide_eq_true e),λe=>k (of_decide_eq_false e)⟩
theorem k_n{b:Bool}(h:Cn b Y X):Cn (!b) X Y:=by cases b<;>exact h
theorem k_a{a b:Bool}(h:Cn a (Cn b X Y) Y):Cn (a&&b) X Y:=by cases a<;>exact h
theorem k_o{a b:Bool}(h:Cn a X (Cn b X Y)):Cn (a||b) X Y:=by cases a<;>exact h
theorem D53{b:Bool}(h:b=true)(k:Go X):Cn b X Y:=by rw[h];exact k
theorem D52{b:Bool}(h:b=false)(k:Go Y):Cn b X Y:=by rw[h];exact k
theorem k_b{b:Bool}(h:b=true->Go X)(k:b=false->Go Y):Cn b X Y:=A0z.2 ⟨h,k⟩
theorem D55(h:p)(k:Go X):F1 p X:=⟨h,k⟩
theorem D5l{v:Int}{K:D->Prop}(h1:-9223372036854775808<=v)(h2:v<=9223372036854775807)(k:Go (K (.int .i64 v))):WrK .i64 v K:=by
 exact⟨by rw[C2l h1 h2];exact k⟩
theorem D5m{t:IntKind}{v:Int}{K:D->Prop}(k:Go (K (.int t (t.wrap v)))):WrK t v K:=⟨k⟩
theorem D5j{d:D}{es:List (List D)}{K:List (List D)->Prop}(h:B3 d es)(k:Go (K es)):A7F d K:=⟨⟨es,h,k⟩⟩
theorem D5d{sk:SK}{ok g:Bool}{zs:List D}{key:D}{kvs:List (D×AV)}{K:AV->Prop}{r:AV}(h0:n5 sk key kvs)(h:lkR ok (zv g zs) (J6 sk key kvs)=r)(k:Go (K r)):A9T sk ok g zs key kvs K:=⟨⟨h0,r,h,k⟩⟩
theorem D5f{sk:SK}{key:D}{v:AV}{kvs l:List (D×AV)}{K:List (D×AV)->Prop}(h0:n5 sk key kvs)(h:K9 sk key v kvs=l)(k:Go (K l)):B6y sk key v kvs K:=⟨⟨h0,by rw[h];exact k⟩⟩
theorem x8{P:Program}{g:FuncId}{as:List AV}{r:AV}{K:AV->Prop}(h:Pure P g as r)(k:Go (K r)):B0C P g as K:=⟨⟨r,h,k⟩⟩
theorem x9{P:Program}{g:FuncId}{as:List AV}{r:AV}{os:List AO}{K:AV->List AO->Prop}(h:Pure P g as r)(k:Go (K r os)):A2M P g as os K:=⟨D6J h k⟩
theorem I5{P:Program}{g:FuncId}{as:List AV}{os:List AO}{Q K:AV->List AO->Prop}(h:B0 P g as [] Q)(k:∀r os2,Q r os2->Go (K (shA os.length r) (os++os2.map (U3 os.length)))):A2M P g as os K:=⟨h.mono k⟩
theorem D5i{P:Program}{g:FuncId}{as:List AV}{es:List (List D)}{sz:Nat}{nl:Bool}{K:List (List D)->Nat->Bool->Prop}(h:B0 P g as [] (λr os2=>r=.arr 0 es.length/\os2=[.arr es sz 0 nl]))(k:Go (K es sz nl)):B7Y P g as K:=⟨⟨es,sz,nl,h,k⟩⟩
theorem I9{P:Program}{g:FuncId}{as:List AV}{os:List AO}{r:AV}{K:AV->Prop}(h:B0 P g as os (λr' os2=>r'=r/\os2=os))(k:Go (K r)):B7Z P g as os K:=⟨⟨r,h,k⟩⟩
theorem D5c{X Y:Prop}(k:Go X):LkA X Y:=⟨.inl k⟩
theorem D54{X Y:Prop}(k:Go X):A9H X Y:=⟨.inl k⟩
theorem A35{X Y:Prop}(k:Go Y):A9H X Y:=⟨.inr k⟩
theorem I8{P:Program}{g:FuncId}{as:List AV}{os:List AO}{Q K:AV->List AO->Prop}(h:B0 P g as os Q)(k:∀r os',Q r os'->Go (K r os')):A2H P g as os K:=⟨h.mono k⟩
theorem D5a{α:Type}{cs:List α}{off:Nat}{c:α}{K:α->Prop}(h:cs[off]?=some c)(k:Go (K c)):Gn (Nat.blt off cs.length) (A4U cs off K):=by
 have:Nat.blt off cs.length=true:=Nat.ble_eq_true_of_le (A7.1 h).1
 rw[this];exact C0S h k
theorem D5b{α:Type}{cs l:List α}{off n:Nat}{K:List α->Prop}(h:(cs.drop off).take n=l)(h2:off+n<=cs.length)(k:Go (K l)):Gn (Nat.ble (off+n) cs.length) (A1c cs off λr=>z6 r n K):=by
 rw[Nat.ble_eq_true_of_le h2];subst h;exact A3I.2 (A2A.2 k)
theorem C0e{α:Type}{cs vc:List α}{off n:Nat}{K:List α->Prop}(h2:off+n<=cs.length)(k:Go (K (K6 cs off vc))):Gn (Nat.ble (off+n) cs.length) (A2t cs off vc K):=by
 rw[Nat.ble_eq_true_of_le h2];exact A98.2 k
theorem D5k{α:Type}{cs vc l:List α}{off n:Nat}{K:List α->Prop}(h:K6 cs off vc=l)(h2:off+n<=cs.length)(k:Go (K l)):Gn (Nat.ble (off+n) cs.length) (A2t cs off vc K):=by
 subst h;exact C0e h2 k
theorem D59{os:List AO}{cs:List AV}{xs:List D}{K:List D->List AO->Prop}(h:cs=xs.map .d)(k:Go (K xs os)):A3P os cs K:=by
 subst h
 induction xs generalizing K with
 |nil=>exact k
 |cons x xs ih=>exact ih (K:=λl os=>K (x::l) os) k
theorem D5e{α β:Type}{f:α->β}{l:List α}{K:List β->Prop}(k:Go (K (l.map f))):y0 f l K:=A0d.2 k
theorem D7k{nl:Bool}{es:List (List D)}(h:nl=true->es=[]):B3 (CnD nl .nil (.sl es)) es:=by
 cases nl with
 |true=>exact .inl ⟨rfl,h rfl⟩
 |false=>exact .inr rfl
end
def R3(L:Sl):List Nat->List AV
 |[]=>[]
 |t::ts=>D1 L t::R3 L ts
def O8:List Nat->List AV->Sl
 |t::ts,v::vs=>(t,v)::O8 ts vs
 |_,_=>[]
def A9r:List Nat->List AV->Sl->(Sl->Prop)->Prop
 |t::ts,v::vs,l,K=>A9r ts vs l λr=>K ((t,v)::r)
 |_,_,l,K=>K l
theorem B2B:∀{ts:List Nat}{vs:List AV}{l:Sl}{K:Sl->Prop},A9r ts vs l K↔K (O8 ts vs++l)
 |[],_,l,K=>Iff.rfl
 |_::_,[],l,K=>Iff.rfl
 |t::ts,v::vs,l,K=>B2B (ts:=ts) (vs:=vs) (K:=λr=>K ((t,v)::r))
def A0f(L:Sl):List Nat->(List AV->Prop)->Prop
 |[],K=>K []
 |t::ts,K=>frc (D1 L t) λv=>A0f L ts λr=>K (v::r)
theorem A3Y{L:Sl}:∀{ts:List Nat}{K:List AV->Prop},A0f L ts K↔K (R3 L ts)
 |[],K=>Iff.rfl
 |t::ts,K=>by
  simp only[A0f,A1P]
  exact A3Y (ts:=ts) (K:=λr=>K (D1 L t::r))
theorem C0T{L:Sl}:∀{ts:List Nat}{vs:List AV}(s:Nat),vs=R3 L ts->D1 (O8 ts vs) s=.junk\/(s∈ts/\D1 (O8 ts vs) s=D1 L s)
 |[],vs,s,h=>.inl rfl
 |t::ts,[],s,h=>by cases h
 |t::ts,v::vs,s,h=>by
  injection h with h1 h2
  simp only[O8,D1]
  cases hb:Nat.beq s t with
  |true=>
   have:=R0 hb
   subst this
   exact .inr ⟨by simp,h1⟩
  |false=>
   rcases C0T (vs:=vs) s h2 with h|⟨h3,h4⟩
   ·exact .inl h
   ·exact .inr ⟨by simp[h3],h4⟩
theorem B2C:∀{ts:List Nat}{vs:List AV}{ks:List Nat}{ws:List AV},vs.length=ts.length->O8 (ts++ks) (vs++ws)=O8 ts vs++O8 ks ws
 |[],[],_,_,_=>rfl
 |t::ts,v::vs,ks,ws,h=>by
  simp only[A3n,O8]
  rw[B2C (by simpa using h)]
 |[],_::_,_,_,h=>by simp at h
 |_::_,[],_,_,h=>by simp at h
theorem C2f{L:Sl}:∀{ts:List Nat},(R3 L ts).length=ts.length
 |[]=>rfl
 |t::ts=>by simp[R3,C2f (ts:=ts)]
theorem B2t{L:Sl}:∀{ts ks:List Nat},R3 L (ts++ks)=R3 L ts++R3 L ks
 |[],ks=>rfl
 |t::ts,ks=>by simp[R3,B2t (ts:=ts)]
theorem C2g{L:Sl}:∀{ts:List Nat}{s:Nat},s∈ts->D1 L s∈R3 L ts
 |t::ts,s,h=>by
  rcases I6.1 h with rfl|h
  ·simp[R3]
  ·simp[R3,C2g h]
theorem A9m{n nb:Nat}{L:Sl}{os:List AO}{ts ks:List Nat}{vs ws:List AV}{os2:List AO}(h1:vs=R3 L ts)(h2:ws=R3 L ks)(m:Nat)(hm:nb<=m)(ho:os.take m=os2)
  (hb:vs.all (λv=>v.bndB m)=true) (hb2:ws.all (λv=>v.bndB m)=true) (hb3:os2.all (λo=>o.bndB m)=true):m4 n nb (D1 L) os (D1 (O8 ts vs++O8 ks ws)) os2:=by
 subst ho
 have e:O8 ts vs++O8 ks ws=O8 (ts++ks) (vs++ws):=(B2C (by rw[h1,C2f])).symm
 rw[e]
 have hv:vs++ws=R3 L (ts++ks):=by rw[B2t,h1,h2]
 refine D87 m hm (λt=>?_) (λo ho=>M6 (O3.1 hb3 o ho))
 rcases C0T (L:=L) t hv with h|⟨h3,h4⟩
 ·exact .inl h
 ·refine .inr ⟨h4,B8x ?_⟩
  have hmem:=C2g (L:=L) h3
  rw[<- hv] at hmem
  rcases P4.1 hmem with h|h
  ·exact O3.1 hb _ h
  ·exact O3.1 hb2 _ h
theorem F2{A:Type}{P:Program}{n nb:Nat}{cd:IC}{N:Sl->List AO->Prop}{E0:Nat->Sl->List AO->Prop}{R:Sl->List AO->Prop}{L:Sl}{os:List AO}{m:Nat}(hm:P.follows .mixedOrders=true)(ts ks:List Nat)(vs:A->List AV)(So:A->List AO)(φ:A->Prop)(μ:A->Nat)(a0:A)(hmm:m=os.length)(hnb:Nat.ble nb m=true)
  (hv:vs a0=R3 L ts) (ho:os.take m=So a0) (hb:∀a,φ a->(vs a).all (λv=>v.bndB m)=true/\(So a).all (λo=>o.bndB m)=true) (hb2:(R3 L ks).all (λv=>v.bndB m)=true) (h0:φ a0)
  (step:Go (A0f L ks λws=>∀a,φ a->Go (A9r ts (vs a) (O8 ks ws) λL3=>xI P n nb cd (λL' os'=>A0f L' ts λvs'=>A0f L' ks λws'=>z6 os' m λos2=>∃a',vs a'=vs'/\ws=ws'/\So a'=os2/\μ a'<μ a/\φ a') E0 R L3 (So a)))):l8 P n nb cd N E0 R L os:=by
 have step:=A3Y.1 step
 refine⟨?_⟩
 refine C0q hm (λx:A=>D1 (O8 ts (vs x)++O8 ks (R3 L ks))) (λx=>So x) (λx=>φ x) (λx=>μ x) a0 h0 ?_ ?_
 ·exact A9m hv rfl m (P5 hnb) ho (hb a0 h0).1 hb2 (hb a0 h0).2
 ·intro x hx
  have:=B2B.1 (step x hx)
  refine A46 (K:=⟨λL' os'=>A0f L' ts λvs'=>A0f L' ks λws'=>z6 os' m λos2=>∃a',vs a'=vs'/\R3 L ks=ws'/\So a'=os2/\μ a'<μ x/\φ a',E0,R⟩) ⟨λL' os' h=>?_,λi L' os' h=>⟨L',rfl,h⟩,λL' os' h=>⟨L',rfl,h⟩⟩ this
  have h:=A2A.1 (A3Y.1 (A3Y.1 h))
  obtain⟨a',h1,h2,h3,h4,h5⟩:=h
  exact⟨a',h5,h4,by rw[h2];exact A9m h1 rfl m (P5 hnb) h3.symm (hb a' h5).1 (by rw[<- h2];exact hb2) (hb a' h5).2⟩
theorem I2{A:Type}{B:Type}{P:Program}{n nb:Nat}{cd:IC}{N:Sl->List AO->Prop}{E0:Nat->Sl->List AO->Prop}{R:Sl->List AO->Prop}{L:Sl}{os:List AO}{m:Nat}(hm:P.follows .mixedOrders=true)(ts ks:List Nat)(vs:A->B->List AV)(So:A->B->List AO)(φ:A->B->Prop)(μ:A->B->Nat)(a0:A)(b0:B)(hmm:m=os.length)(hnb:Nat.ble nb m=true)
  (hv:vs a0 b0=R3 L ts) (ho:os.take m=So a0 b0) (hb:∀a b,φ a b->(vs a b).all (λv=>v.bndB m)=true/\(So a b).all (λo=>o.bndB m)=true) (hb2:(R3 L ks).all (λv=>v.bndB m)=true) (h0:φ a0 b0)
  (step:Go (A0f L ks λws=>∀a b,φ a b->Go (A9r ts (vs a b) (O8 ks ws) λL3=>xI P n nb cd (λL' os'=>A0f L' ts λvs'=>A0f L' ks λws'=>z6 os' m λos2=>∃a' b',vs a' b'=vs'/\ws=ws'/\So a' b'=os2/\μ a' b'<μ a b/\φ a' b') E0 R L3 (So a b)))):l8 P n nb cd N E0 R L os:=by
 have step:=A3Y.1 step
 refine⟨?_⟩
 refine C0q hm (λx:(A×B)=>D1 (O8 ts (vs x.1 x.2)++O8 ks (R3 L ks))) (λx=>So x.1 x.2) (λx=>φ x.1 x.2) (λx=>μ x.1 x.2) (a0,b0) h0 ?_ ?_
 ·exact A9m hv rfl m (P5 hnb) ho (hb a0 b0 h0).1 hb2 (hb a0 b0 h0).2
 ·intro x hx
  have:=B2B.1 (step x.1 x.2 hx)
  refine A46 (K:=⟨λL' os'=>A0f L' ts λvs'=>A0f L' ks λws'=>z6 os' m λos2=>∃a' b',vs a' b'=vs'/\R3 L ks=ws'/\So a' b'=os2/\μ a' b'<μ x.1 x.2/\φ a' b',E0,R⟩) ⟨λL' os' h=>?_,λi L' os' h=>⟨L',rfl,h⟩,λL' os' h=>⟨L',rfl,h⟩⟩ this
  have h:=A2A.1 (A3Y.1 (A3Y.1 h))
  obtain⟨a',b',h1,h2,h3,h4,h5⟩:=h
  exact⟨(a',b'),h5,h4,by rw[h2];exact A9m h1 rfl m (P5 hnb) h3.symm (hb a' b' h5).1 (by rw[<- h2];exact hb2) (hb a' b' h5).2⟩
theorem A00{P:Program}{n nb:Nat}{cd:IC}{N:Sl->List AO->Prop}{E0:Nat->Sl->List AO->Prop}{R:Sl->List AO->Prop}{L:Sl}{os:List AO}(t sz:Nat)(hsz:Nat.blt 0 sz=true)(ht:D1 L t=.d .nil)
  (k:Go (r8 os 0 λm=>j4 os [.arr [] sz 0 true] λos'=>l8 P n nb cd N E0 R ((t,.arr m 0)::L) os')):l8 P n nb cd N E0 R L os:=by
 have k:=v8.1 (A1R k)
 have hw:=D83 (n:=n) (nb:=nb) (ρ:=D1 L) (os:=os) t sz (A2d Nat.zero_lt_one (P5 hsz)) ht
 rw[B1R] at hw
 refine⟨λcode hc c M G w a hR=>?_⟩
 obtain⟨M',G',hR'⟩:=hw c M G w a hR
 exact k.h code hc c M' G' w a hR'
end Go.Bi
