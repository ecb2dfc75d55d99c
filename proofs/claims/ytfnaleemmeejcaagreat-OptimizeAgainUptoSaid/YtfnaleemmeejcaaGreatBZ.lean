/- The evaluator of code: sound; loops; the words of the walk. No condition. -/
import Derived.Test.YtfnaleemmeejcaaGreatBY
set_option linter.unusedVariables false
namespace Go.Bi
set_option linter.unusedSectionVars false
variable [M6]
def CnK:Bool->(Sl->List AO->Prop)->(Sl->List AO->Prop)->Sl->List AO->Prop
 |true,X,_=>X
 |false,_,Y=>Y
structure KX where
 norm:Sl->List AO->Prop
 exit:Nat->Sl->List AO->Prop
 ret:Sl->List AO->Prop
def toK(K:KX):Kt:={norm:=λρ os=>∃L,ρ=E7 L/\K.norm L os,exit:=λi ρ os=>∃L,ρ=E7 L/\K.exit i L os,ret:=λρ os=>∃L,ρ=E7 L/\K.ret L os}
def A81(d:Option Nat)(v:AV)(L:Sl):Sl:=match d with
 |some t=>(t,v)::L
 |none=>L
theorem B0k{d:Option Nat}{v:AV}{L:Sl}:E7 (A81 d v L)=updo d v (E7 L):=by
 cases d with
 |none=>rfl
 |some t=>exact(B2Y t v L).symm
theorem A2A{t:Nat}{v:AV}{L:Sl}(h:E7 L t=v):E7 ((t,v)::L)=E7 L:=by
 funext s
 simp only[E7]
 cases hb:Nat.beq s t with
 |true=>rw[U5 hb];exact h.symm
 |false=>rfl
def gX(L:Sl)(g:Option (Nat×Bool))(yes no:Sl->Prop):Prop:=
 match g with
 |none=>yes L
 |some (t,w)=>match E7 L t with
  |.d (.bool b)=>Cn w (Cn b (yes ((t,.d (.bool true))::L)) (no ((t,.d (.bool false))::L))) (Cn b (no ((t,.d (.bool true))::L)) (yes ((t,.d (.bool false))::L)))
  |.tup []=>no L
  |_=>False
theorem D95{L:Sl}{g:Option (Nat×Bool)}{yes no:Sl->Prop}{y' n':Prop}(hy:∀L',E7 L'=E7 L->yes L'->y')(hn:∀L',E7 L'=E7 L->no L'->n')(h:gX L g yes no):gI (E7 L) g y' n':=by
 cases g with
 |none=>exact hy L rfl h
 |some p=>
  obtain⟨t,w⟩:=p
  simp only[gX] at h
  simp only[gI]
  split at h
  ·rename_i b e
   rw[e]
   cases w<;>cases b
   ·exact⟨λ_=>hy _ (A2A e) h,λe=>by cases e⟩
   ·exact⟨λe=>(by cases e),λ_=>hn _ (A2A e) h⟩
   ·exact⟨λe=>(by cases e),λ_=>hn _ (A2A e) h⟩
   ·exact⟨λ_=>hy _ (A2A e) h,λe=>(by cases e)⟩
  ·rename_i e;rw[e];exact hn L rfl h
  ·exact h.elim
def C5T(P:Program)(o:D0)(L:Sl)(os:List AO)(K:Sl->List AO->Prop):Prop:=
 gX L o.guard (λL=>xOp P L os (λr os'=>K (A81 o.dst r L) os') o.op) (λL=>K (A81 o.dst (.tup []) L) os)
theorem E2V{P:Program}{o:D0}{L:Sl}{os:List AO}{K:Sl->List AO->Prop}{K':D7->List AO->Prop}(hk:∀L os,K L os->K' (E7 L) os)(h:C5T P o L os K):S5 P o (E7 L) os K':=by
 refine D95 (λL' e h=>?_) (λL' e h=>?_) h
 ·rw[<- e]
  exact B32 (λr os' h=>by rw[<- B0k];exact hk _ _ h) (C5P h)
 ·rw[<- e,<- B0k];exact hk _ _ h
def C5Q(P:Program)(is:List D0):Sl->List AO->(Sl->List AO->Prop)->Prop:=
 List.rec (motive:=λ_=>Sl->List AO->(Sl->List AO->Prop)->Prop) (λL os K=>K L os) (λo _ ih L os K=>C5T P o L os λL' os'=>ih L' os' K) is
theorem C5S{P:Program}:∀{is:List D0}{L:Sl}{os:List AO}{K:Sl->List AO->Prop}{K':D7->List AO->Prop},(∀L os,K L os->K' (E7 L) os)->C5Q P is L os K->A2B P is (E7 L) os K'
 |[],L,os,K,K',hk,h=>hk _ _ h
 |o::rest,L,os,K,K',hk,h=>E2V (K':=λρ os=>A2B P rest ρ os K') (λL os h=>C5S hk h) h
def A8X(v:AV)(K:List Nat->Prop):Prop:=match v with
 |.aptr id _ _ _=>K [id]
 |.rp id _ _ _=>K [id]
 |_=>K []
def A4V(v:AV)(K:List Nat->Prop):Prop:=match v with
 |.ptr id _=>K [id]
 |.aptr id _ _ _=>K [id]
 |.arr id _=>K [id]
 |.rs id _=>K [id]
 |.rp id _ _ _=>K [id]
 |_=>K []
theorem B1Z{v:AV}{K:List Nat->Prop}(h:A8X v K):K (A5i v):=by cases v<;>exact h
theorem A5V{v:AV}{K:List Nat->Prop}(h:A4V v K):K (w4 v):=by cases v<;>exact h
def B0t(L:Sl)(K:P0->Prop):IK->Prop
 |.faddr _ x=>xV L x λv=>A8X v λR=>K (R,none)
 |.nilck x=>xV L x λv=>A8X v λR=>K (R,none)
 |.ixarr _ _ x _=>xV L x λv=>A8X v λR=>K (R,none)
 |.eqnil _ x=>xV L x λv=>A4V v λR=>K (R,none)
 |.len x=>xV L x λv=>A4V v λR=>K (R,none)
 |.ixsl _ x _=>xV L x λv=>A4V v λR=>K (R,none)
 |.load _ _ x=>xV L x λv=>A4V v λR=>K (R,none)
 |.store _ x v=>xV L x λa=>match a with
  |.ptr id _=>K ([],some id)
  |.aptr id _ _ _=>xV L v λb=>Cn b.isDB (K ([],some id)) False
  |_=>False
 |.app _ _ s x=>xV L s λa=>match a with
  |.arr id _=>xV L x λb=>A4V b λR=>K (R,some id)
  |.rs id _=>xV L x λb=>A4V b λR=>K (R,some id)
  |_=>False
 |.alloca id _=>K ([],some id)
 |.boxa id _ _=>K ([],some id)
 |.calln id _ args=>xVs L args λvs=>Cn (vs.all AV.isDB) (K ([],some id)) False
 |.callo _ args=>xVs L args λvs=>match vs with
  |[]=>K ([],none)
  |v::as=>match v with
   |.arr id _=>Cn (as.all AV.isDB) (K ([],some id)) False
   |v=>Cn ((v::as).all AV.isDB) (K ([],none)) False
 |.bslr id _ _ _ _=>K ([],some id)
 |.lkup _ _ _ _ m _=>xV L m λa=>match a with
  |.mp id=>K ([id,id+1],none)
  |_=>False
 |.mupd _ m _ _=>xV L m λa=>match a with
  |.mp id=>K ([],some id)
  |_=>False
 |.slsl _ x _ _=>xV L x λv=>Cn v.isDB (K ([],none)) False
 |.callp _ args=>xVs L args λvs=>match vs with
  |[]=>K ([],none)
  |v::as=>match v with
   |.ptr id _=>Cn (as.all AV.isDB) (K ([id],none)) False
   |v=>Cn ((v::as).all AV.isDB) (K ([],none)) False
 |.bsld _ _ _ ps=>xVs L (ps.map λp=>p.2.2) λvs=>Cn (vs.all AV.isDB) (K ([],none)) False
 |op=>Cn op.rd False (K ([],none))
theorem D7L{b:Bool}{X:Prop}(h:Cn b False X):b=false/\X:=by cases b;exact⟨rfl,h⟩;exact h.elim
theorem D6W{L:Sl}{K:P0->Prop}{op:IK}(h0:B0t L K op=Cn op.rd False (K ([],none)))(h1:I4 (E7 L) op=if op.rd then none else some ([],none))(h:B0t L K op):∃t,I4 (E7 L) op=some t/\K t:=by
 rw[h0] at h
 obtain⟨h2,h3⟩:=D7L h
 exact⟨([],none),by rw[h1,h2];rfl,h3⟩
theorem E2P{L:Sl}{K:P0->Prop}{op:IK}(h:B0t L K op):∃t,I4 (E7 L) op=some t/\K t:=by
 cases op<;>first|exact D6W rfl rfl h|skip
 case faddr a x=>exact⟨_,rfl,B1Z (K:=λR=>K (R,none)) (G9 h)⟩
 case nilck x=>exact⟨_,rfl,B1Z (K:=λR=>K (R,none)) (G9 h)⟩
 case ixarr a b x i=>exact⟨_,rfl,B1Z (K:=λR=>K (R,none)) (G9 h)⟩
 case eqnil a x=>exact⟨_,rfl,A5V (K:=λR=>K (R,none)) (G9 h)⟩
 case len x=>exact⟨_,rfl,A5V (K:=λR=>K (R,none)) (G9 h)⟩
 case ixsl a x i=>exact⟨_,rfl,A5V (K:=λR=>K (R,none)) (G9 h)⟩
 case load a b x=>exact⟨_,rfl,A5V (K:=λR=>K (R,none)) (G9 h)⟩
 case store a x v=>
  have h1:=G9 h
  simp only[I4]
  split at h1
  ·rename_i id off e;rw[e];exact⟨_,rfl,h1⟩
  ·rename_i id l i off e
   obtain⟨h2,h3⟩:=Z0.1 (G9 h1)
   rw[e];simp only[h2,if_true]
   exact⟨_,rfl,h3⟩
  ·exact h1.elim
 case app a b s x=>
  have h1:=G9 h
  simp only[I4]
  split at h1
  ·rename_i id l e;rw[e];exact⟨_,rfl,A5V (K:=λR=>K (R,some id)) (G9 h1)⟩
  ·rename_i id l e;rw[e];exact⟨_,rfl,A5V (K:=λR=>K (R,some id)) (G9 h1)⟩
  ·exact h1.elim
 case slsl sz x lo hi=>
  obtain⟨h2,h3⟩:=Z0.1 (G9 h)
  simp only[I4,h2,if_true]
  exact⟨_,rfl,h3⟩
 case callp f args=>
  have h1:=A2c h
  simp only[I4]
  generalize hvs:args.map (C1 (E7 L))=vs at h1 ⊢
  match vs,h1 with
  |[],h1=>exact⟨_,rfl,h1⟩
  |v::as,h1=>
   cases v with
   |ptr id off=>
    obtain⟨h2,h3⟩:=Z0.1 h1
    simp only[h2,if_true]
    exact⟨_,rfl,h3⟩
   |_=>
    obtain⟨h2,h3⟩:=Z0.1 h1
    simp only[h2,if_true]
    exact⟨_,rfl,h3⟩
 case bsld a b c ps=>
  obtain⟨h2,h3⟩:=Z0.1 (A2c h)
  rw[W3] at h2
  simp only[I4]
  rw[if_pos (show(List.map (λp=>C1 (E7 L) p.2.2) ps).all AV.isDB=true from h2)]
  exact⟨_,rfl,h3⟩
 case lkup sk ok g zs m k=>
  have h1:=G9 h
  simp only[I4]
  split at h1
  ·rename_i id e;rw[e];exact⟨_,rfl,h1⟩
  ·exact h1.elim
 case mupd sk m k v=>
  have h1:=G9 h
  simp only[I4]
  split at h1
  ·rename_i id e;rw[e];exact⟨_,rfl,h1⟩
  ·exact h1.elim
 case alloca id zs=>exact⟨_,rfl,h⟩
 case boxa id n x=>exact⟨_,rfl,h⟩
 case calln id f args=>
  obtain⟨h2,h3⟩:=Z0.1 (A2c h)
  simp only[I4,h2,if_true]
  exact⟨_,rfl,h3⟩
 case callo f args=>
  have h1:=A2c h
  simp only[I4]
  generalize hvs:args.map (C1 (E7 L))=vs at h1 ⊢
  match vs,h1 with
  |[],h1=>exact⟨_,rfl,h1⟩
  |v::as,h1=>
   cases v with
   |arr id len=>
    obtain⟨h2,h3⟩:=Z0.1 h1
    simp only[h2,if_true]
    exact⟨_,rfl,h3⟩
   |_=>
    obtain⟨h2,h3⟩:=Z0.1 h1
    simp only[h2,if_true]
    exact⟨_,rfl,h3⟩
 case bslr id n sz zs ps=>exact⟨_,rfl,h⟩
def C5U(P:Program)(o:D0)(L:Sl)(os:List AO)(I9:List P0)(K:Sl->List AO->List P0->Prop):Prop:=
 gX L o.guard (λL=>B0t L (λt=>xOp P L os (λr os'=>K (A81 o.dst r L) os' (t::I9)) o.op) o.op) (λL=>K (A81 o.dst (.tup []) L) os (([],none)::I9))
theorem D94{L:Sl}{g:Option (Nat×Bool)}{yes no:Sl->Prop}(h:gX L g yes no):(∃L',E7 L'=E7 L/\yes L'/\∀A B:Prop,A->gI (E7 L) g A B)\/(∃L',E7 L'=E7 L/\no L'/\∀A B:Prop,B->gI (E7 L) g A B):=by
 cases g with
 |none=>exact .inl ⟨L,rfl,h,λA B a=>a⟩
 |some p=>
  obtain⟨t,w⟩:=p
  simp only[gX] at h
  split at h
  ·rename_i b e
   have h1:∀A B:Prop,gI (E7 L) (some (t,w)) A B=((b=w->A)/\(b=!w->B)):=λA B=>by simp only[gI,e]
   cases w<;>cases b
   ·exact .inl ⟨_,A2A e,h,λA B a=>by rw[h1];exact⟨λ_=>a,λe=>by cases e⟩⟩
   ·exact .inr ⟨_,A2A e,h,λA B a=>by rw[h1];exact⟨λe=>(by cases e),λ_=>a⟩⟩
   ·exact .inr ⟨_,A2A e,h,λA B a=>by rw[h1];exact⟨λe=>(by cases e),λ_=>a⟩⟩
   ·exact .inl ⟨_,A2A e,h,λA B a=>by rw[h1];exact⟨λ_=>a,λe=>by cases e⟩⟩
  ·rename_i e
   exact .inr ⟨L,rfl,h,λA B a=>by simp only[gI,e];exact a⟩
  ·exact h.elim
theorem E2U{P:Program}{o:D0}{L:Sl}{os:List AO}{I9:List P0}{K:Sl->List AO->List P0->Prop}(hd:o.op.det=true)(h:C5U P o L os I9 K) :
  ∃t r os' L',A0Y (E7 L) o t/\N3 P o (E7 L) os r os'/\E7 L'=updo o.dst r (E7 L)/\K L' os' (t::I9):=by
 rcases D94 h with ⟨L1,e,h,hg⟩|⟨L1,e,h,hg⟩
 ·obtain⟨t,h1,h2⟩:=E2P h
  obtain⟨r,os',h3,h4⟩:=A7x hd (C5P h2)
  rw[e] at h1 h4
  exact⟨t,r,os',_,hg _ _ h1,hg _ _ h4,by rw[B0k,e],h3⟩
 ·exact⟨_,.tup [],os,_,hg _ _ trivial,hg _ _ ⟨rfl,rfl⟩,by rw[B0k,e],h⟩
def B0u(P:Program)(is:List D0):Sl->List AO->List P0->(Sl->List AO->List P0->Prop)->Prop:=
 List.rec (motive:=λ_=>Sl->List AO->List P0->(Sl->List AO->List P0->Prop)->Prop) (λL os I9 K=>K L os I9) (λo _ ih L os I9 K=>C5U P o L os I9 λL os I9=>ih L os I9 K) is
theorem C5R{P:Program}{is:List D0}{T0:List P0}:∀{l:List D0}{s:Nat}{L:Sl}{os:List AO}{I9:List P0}{K:Sl->List AO->List P0->Prop},(∀i,l[i]?=is[s+i]?)->(∀o∈l,o.op.det=true)->T0.length=s->
  B0u P l L os I9 K->∃T:List P0,T.length=l.length/\i9 P is (T0++T) (List.range' s l.length) (E7 L) os λρ os=>∃L,ρ=E7 L/\K L os (T.reverse++I9)
 |[],s,L,os,I9,K,hl,hd,hs,h=>⟨[],rfl,L,rfl,h⟩
 |o::l,s,L,os,I9,K,hl,hd,hs,h=>by
  obtain⟨t,r,os',L',h1,h2,h3,h4⟩:=E2U (K:=λL os I9=>B0u P l L os I9 K) (hd o (by simp)) h
  obtain⟨T,h5,h6⟩:=C5R (T0:=T0++[t]) (l:=l) (s:=s+1) (λi=>by have:=hl (i+1);rw[show s+(i+1)=s+1+i by omega] at this;simpa using this) (λo ho=>hd o (by simp[ho])) (by simp[hs]) (show B0u P l L' os' (t::I9) K from h4)
  refine⟨t::T,by simp[h5],?_⟩
  have ho:is[s]?=some o:=by have:=hl 0;simpa using this.symm
  rw[H7,List.range'_succ]
  have ht:(T0++t::T)[s]?=some t:=by rw[W8 (by omega),hs,Nat.sub_self];rfl
  simp only[i9,ho,ht]
  refine⟨h1,h2.step ?_⟩
  rw[<- h3]
  simpa using h6
structure A0j(P:Program)(n nb:Nat)(c:IC)(N:Sl->List AO->Prop)(E:Nat->Sl->List AO->Prop)(R:Sl->List AO->Prop)(L:Sl)(os:List AO):Prop where
 h:Tri P n nb (.loop c) (toK ⟨N,E,R⟩) (E7 L) os
def xC(c:C2)(X Y:Sl->List AO->Prop)(L:Sl)(os:List AO):Prop:=match c with
  |.t t=>match E7 L t with
   |.d (.bool b)=>Cn b (X ((t,.d (.bool true))::L) os) (Y ((t,.d (.bool false))::L) os)
   |_=>False
  |.c (.bool b)=>Cn b (X L os) (Y L os)
  |_=>False
def xI(P:Program)(n nb:Nat)(c:IC):(Sl->List AO->Prop)->(Nat->Sl->List AO->Prop)->(Sl->List AO->Prop)->Sl->List AO->Prop:=
 IC.rec (motive:=λ_=>(Sl->List AO->Prop)->(Nat->Sl->List AO->Prop)->(Sl->List AO->Prop)->Sl->List AO->Prop)
  (λN E R L os=>N L os)
  (λis N E R L os=>C5Q P is L os N)
  (λh ps is N E R L os=>Cn (is.all λo=>o.op.det) (A0d os 0 λb=>s9 os (List.replicate h .hole) λos'=>B0u P (is.map (D0.at b)) L os' [] λL os I9=>F8 (A6M ps I9.reverse=true) (N L os)) False)
  (λ_ _ iha ihb N E R L os=>iha (λL os=>ihb N E R L os) E R L os)
  (λc _ _ ihx ihy N E R L os=>xC c (ihx N E R) (ihy N E R) L os)
  (λid _ iha N E R L os=>iha N (λi=>CnK (Nat.beq i id) N (E i)) R L os)
  (λc _ N E R L os=>A0j P n nb c N E R L os)
  (λid N E R L os=>E id L os)
  (λN E R L os=>R L os) c
def KX.le(K:KX)(K':Kt):Prop:=(∀L os,K.norm L os->K'.norm (E7 L) os)/\(∀i L os,K.exit i L os->K'.exit i (E7 L) os)/\∀L os,K.ret L os->K'.ret (E7 L) os
theorem A3w{P:Program}{n nb:Nat}:∀{c:IC}{K:KX}{K':Kt}{L:Sl}{os:List AO},K.le K'->xI P n nb c K.norm K.exit K.ret L os->b8 P n nb c K' (E7 L) os:=by
 intro c
 induction c with
 |skip=>intro K K' L os hk h;exact hk.1 _ _ h
 |region is=>intro K K' L os hk h;exact C5S hk.1 h
 |dreg hc ps is=>
  intro K K' L os hk h
  obtain⟨h1,h2⟩:=Z0.1 h
  have h2:=A0m.1 (A2y h2)
  rw[K8] at h1
  obtain⟨T,h3,h4⟩:=C5R (is:=is.map (D0.at os.length)) (T0:=[]) (s:=0) (λi=>by rw[A17]) (λo ho=>by
   obtain⟨o',ho',rfl⟩:=D9.1 ho
   rw[(A6C _ _).2.1];exact h1 o' ho') rfl h2
  rw[D3] at h3
  rw[D3] at h4
  rw[A0J,<- A8z] at h4
  -- the check holds wherever the run ends
  have hdet:∀o∈is.map (D0.at os.length),o.op.det=true:=λo ho=>by
   obtain⟨o',ho',rfl⟩:=D9.1 ho
   rw[(A6C _ _).2.1];exact h1 o' ho'
  have hchk:A6M ps T=true:=C4f hdet (λρ os ⟨L,_,hh⟩=>by simpa using hh.1) h4
  refine⟨T,h3,hchk,C4i hdet (λρ os ⟨L,e,hh⟩=>by rw[e];exact hk.1 _ _ hh.2) h4⟩
 |seq a b iha ihb=>
  intro K K' L os hk h
  exact iha (K:=⟨λL os=>xI P n nb b K.norm K.exit K.ret L os,K.exit,K.ret⟩) (K':={K' with norm:=λρ os=>b8 P n nb b K' ρ os}) ⟨λL os h=>ihb hk h,hk.2.1,hk.2.2⟩ h
 |cond c x y ihx ihy=>
  intro K K' L os hk h
  have h:xC c (xI P n nb x K.norm K.exit K.ret) (xI P n nb y K.norm K.exit K.ret) L os:=h
  unfold xC at h
  simp only[b8]
  split at h
  ·rename_i t
   split at h
   ·rename_i b e
    simp only[C1]
    rw[e]
    obtain⟨h1,h2⟩:=A1b.1 h
    refine⟨λhb=>?_,λhb=>?_⟩
    ·subst hb
     have:=ihx hk (h1 rfl)
     rwa [A2A e] at this
    ·subst hb
     have:=ihy hk (h2 rfl)
     rwa [A2A e] at this
   ·exact h.elim
  ·rename_i b
   obtain⟨h1,h2⟩:=A1b.1 h
   exact⟨λhb=>ihx hk (h1 hb),λhb=>ihy hk (h2 hb)⟩
  ·exact h.elim
 |block id a ih=>
  intro K K' L os hk h
  refine ih (K:=⟨K.norm,λi=>CnK (Nat.beq i id) K.norm (K.exit i),K.ret⟩) (K':={K' with exit:=λi=>if i=id then K'.norm else K'.exit i}) ⟨hk.1,λi L os h=>?_,hk.2.2⟩ h
  dsimp only at h ⊢
  cases hb:Nat.beq i id with
  |true=>rw[hb] at h;rw[if_pos (U5 hb)];exact hk.1 _ _ h
  |false=>rw[hb] at h;rw[if_neg (Nat.ne_of_beq_eq_false hb)];exact hk.2.1 _ _ _ h
 |loop c ih=>
  intro K K' L os hk h
  refine Tri.mono h.h (λρ os h=>?_) (λi ρ os h=>?_) (λρ os h=>?_)
  ·obtain⟨L,rfl,h⟩:=h;exact hk.1 _ _ h
  ·obtain⟨L,rfl,h⟩:=h;exact hk.2.1 _ _ _ h
  ·obtain⟨L,rfl,h⟩:=h;exact hk.2.2 _ _ h
 |exit id=>intro K K' L os hk h;exact hk.2.1 _ _ _ h
 |ret=>intro K K' L os hk h;exact hk.2.2 _ _ h
def A4Z(L:Sl)(os:List AO):List RV->(List AV->Prop)->Prop
 |[],K=>K []
 |.t s::rs,K=>frc (E7 L s) λv=>A4Z L os rs λl=>K (v::l)
 |.cell s m g::rs,K=>frc (E7 L s) λa=>B3W os g m a λv=>A4Z L os rs λl=>K (v::l)
theorem B01{ρ:D7}{os:List AO}:∀{rs:List RV}{K K':List AV->Prop},(∀l,K l->K' l)->v8 ρ os rs K->v8 ρ os rs K'
 |[],K,K',hk,h=>hk _ h
 |.t s::rs,K,K',hk,h=>B01 (rs:=rs) (λl=>hk _) h
 |.cell s m g::rs,K,K',hk,h=>by
  simp only[v8] at h ⊢
  obtain⟨r,h1,h2⟩:=A9F h
  exact h2 _ (B01 (rs:=rs) (λl=>hk _) h1)
theorem A6a{L:Sl}{os:List AO}:∀{rs:List RV}{K:List AV->Prop},A4Z L os rs K->v8 (E7 L) os rs K
 |[],K,h=>h
 |.t s::rs,K,h=>A6a (rs:=rs) (A2u.1 h)
 |.cell s m g::rs,K,h=>by
  have:=C5N (A2u.1 h)
  simp only[v8]
  obtain⟨r,h1,h2⟩:=A9F this
  exact h2 _ (A6a (rs:=rs) h1)
def A7O(rs:List RV)(r:AV)(L:Sl)(os:List AO):Prop:=A4Z L os rs λl=>A1h os l λl' _=>match l' with
 |[v]=>v=r
 |l=>.tup l=r
theorem C4F{rs:List RV}{r:AV}{L:Sl}{os:List AO}(h:A7O rs r L os):A0x 0 (λr' os=>r'=r/\os=[]) rs (E7 L) os:=by
 refine B01 (λl h=>?_) (A6a h)
 obtain⟨xs,os',h1,h2⟩:=A4I h
 simp only[h1]
 refine⟨by simp,?_,by simp⟩
 split at h2
 ·exact h2
 ·rename_i hn
  unfold B03
  split
  ·rename_i v;exact absurd rfl (hn v)
  ·exact h2
def A7P(nb:Nat)(Q:AV->List AO->Prop)(rs:List RV)(L:Sl)(os:List AO):Prop:=A4Z L os rs λl=>A1h os l λl' os'=>p9 os' nb λos2=>F8 (os2.all (λo=>o.bndB nb)=true) (match l' with
 |[v]=>Q v os2
 |l=>Q (.tup l) os2)
theorem C4G{nb:Nat}{Q:AV->List AO->Prop}{rs:List RV}{L:Sl}{os:List AO}(h:A7P nb Q rs L os):A0x nb Q rs (E7 L) os:=by
 refine B01 (λl h=>?_) (A6a h)
 obtain⟨xs,os',h1,h2⟩:=A4I h
 simp only[h1]
 obtain⟨h3,h4⟩:=A29.1 h2
 refine⟨λo ho=>C1x (K8.1 h3 o ho),?_⟩
 unfold B03
 split at h4
 ·exact h4
 ·rename_i hn
  split
  ·rename_i v;exact absurd rfl (hn v)
  ·exact h4
theorem A4{X:Prop}(h:X):Go X:=h
theorem A7j{X:Prop}(h:Go X):X:=h
theorem B5.go{P:Program}(hm:P.follows .mixedOrders=true){f n:Nat}{ic:IC}{rs:List RV}(h:B5 P f n ic rs){args:List AV}(hargs:Nat.ble args.length n=true){r:AV}
  (hw:Go (xI P n 0 ic (A7O rs r) (λ_ _ _=>False) (A7O rs r) (A1K 0 args) [])):Pure P f args r:=
 h.walkP hm (R6 hargs) (A3w (K:=⟨A7O rs r,λ_ _ _=>False,A7O rs r⟩) ⟨λL os h=>C4F h,λ_ _ _ h=>h,λL os h=>C4F h⟩ hw)
theorem B5.goX{P:Program}(hm:P.follows .mixedOrders=true){f n:Nat}{ic:IC}{rs:List RV}(h:B5 P f n ic rs){args:List AV}{bs:List AO}(hargs:Nat.ble args.length n=true){Q:AV->List AO->Prop}
  (hw:Go (xI P n bs.length ic (A7P bs.length Q rs) (λ_ _ _=>False) (A7P bs.length Q rs) (A1K 0 args) bs)):C0 P f args bs Q:=
 h.walk hm (R6 hargs) (A3w (K:=⟨A7P bs.length Q rs,λ_ _ _=>False,A7P bs.length Q rs⟩) ⟨λL os h=>C4G h,λ_ _ _ h=>h,λL os h=>C4G h⟩ hw)
section
variable {X Y:Prop}{p:Prop}
theorem D9y{dp:Decidable p}(h:p)(k:Go X):Cn (decide p) X Y:=by rw[decide_eq_true h];exact k
theorem D9x{dp:Decidable p}(h:¬p)(k:Go Y):Cn (decide p) X Y:=by rw[decide_eq_false h];exact k
theorem k_d{dp:Decidable p}(h:p->Go X)(k:¬p->Go Y):Cn (decide p) X Y:=A1b.2 ⟨λe=>h (of_decide_eq_true e),λe=>k (of_decide_eq_false e)⟩
theorem k_n{b:Bool}(h:Cn b Y X):Cn (!b) X Y:=by cases b<;>exact h
theorem k_a{a b:Bool}(h:Cn a (Cn b X Y) Y):Cn (a&&b) X Y:=by cases a<;>exact h
theorem k_o{a b:Bool}(h:Cn a X (Cn b X Y)):Cn (a||b) X Y:=by cases a<;>exact h
theorem D9s{b:Bool}(h:b=true)(k:Go X):Cn b X Y:=by rw[h];exact k
theorem D9r{b:Bool}(h:b=false)(k:Go Y):Cn b X Y:=by rw[h];exact k
theorem k_b{b:Bool}(h:b=true->Go X)(k:b=false->Go Y):Cn b X Y:=A1b.2 ⟨h,k⟩
theorem D9u(h:p)(k:Go X):F8 p X:=⟨h,k⟩
theorem D9M{v:Int}{K:D->Prop}(h1:-9223372036854775808<=v)(h2:v<=9223372036854775807)(k:Go (K (.int .i64 v))):WrK .i64 v K:=by
 exact⟨by rw[E2F h1 h2];exact k⟩
theorem D9N{t:IntKind}{v:Int}{K:D->Prop}(k:Go (K (.int t (t.wrap v)))):WrK t v K:=⟨k⟩
theorem D9K{d:D}{es:List (List D)}{K:List (List D)->Prop}(h:B0 d es)(k:Go (K es)):A8t d K:=⟨⟨es,h,k⟩⟩
theorem D9E{sk:SK}{ok g:Bool}{zs:List D}{key:D}{kvs:List (D×AV)}{K:AV->Prop}{r:AV}(h0:mok sk key kvs)(h:lkR ok (zv g zs) (A3c sk key kvs)=r)(k:Go (K r)):B1e sk ok g zs key kvs K:=⟨⟨h0,r,h,k⟩⟩
theorem D9G{sk:SK}{key:D}{v:AV}{kvs l:List (D×AV)}{K:List (D×AV)->Prop}(h0:mok sk key kvs)(h:A1j sk key v kvs=l)(k:Go (K l)):B8M sk key v kvs K:=⟨⟨h0,by rw[h];exact k⟩⟩
theorem E8{P:Program}{g:FuncId}{as:List AV}{r:AV}{K:AV->Prop}(h:Pure P g as r)(k:Go (K r)):A31 P g as K:=⟨⟨r,h,k⟩⟩
theorem E9{P:Program}{g:FuncId}{as:List AV}{r:AV}{os:List AO}{K:AV->List AO->Prop}(h:Pure P g as r)(k:Go (K r os)):A3G P g as os K:=⟨E1i h k⟩
theorem O1{P:Program}{g:FuncId}{as:List AV}{os:List AO}{Q K:AV->List AO->Prop}(h:C0 P g as [] Q)(k:∀r os2,Q r os2->Go (K (shA os.length r) (os++os2.map (Z3 os.length)))):A3G P g as os K:=⟨h.mono k⟩
theorem D9J{P:Program}{g:FuncId}{as:List AV}{es:List (List D)}{sz:Nat}{nl:Bool}{K:List (List D)->Nat->Bool->Prop}(h:C0 P g as [] (λr os2=>r=.arr 0 es.length/\os2=[.arr es sz 0 nl]))(k:Go (K es sz nl)):C0U P g as K:=⟨⟨es,sz,nl,h,k⟩⟩
theorem O2{P:Program}{g:FuncId}{as:List AV}{os:List AO}{r:AV}{K:AV->Prop}(h:C0 P g as os (λr' os2=>r'=r/\os2=os))(k:Go (K r)):B1Q P g as os K:=⟨⟨r,h,k⟩⟩
theorem B2J{P:Program}{g:FuncId}{id off:Nat}{ob:AO}{as:List AV}{r:AV}{K:AV->Prop}(h:∀os2:List AO,os2[id]?=some ob->C0 P g (.ptr id off::as) os2 (λr' os3=>r'=r/\os3=os2))(k:Go (K r)):C0Y P g id off ob as K:=⟨⟨r,h,k⟩⟩
theorem D9C{X Y:Prop}(k:Go X):LkA X Y:=⟨.inl k⟩
theorem D9D{X Y:Prop}(k:Go Y):LkA X Y:=⟨.inr k⟩
theorem D9t{X Y:Prop}(k:Go X):A8n X Y:=⟨.inl k⟩
theorem B2I{X Y:Prop}(k:Go Y):A8n X Y:=⟨.inr k⟩
theorem O0{P:Program}{g:FuncId}{as:List AV}{os:List AO}{Q K:AV->List AO->Prop}(h:C0 P g as os Q)(k:∀r os',Q r os'->Go (K r os')):A1y P g as os K:=⟨h.mono k⟩
theorem D9A{α:Type}{cs:List α}{off:Nat}{c:α}{K:α->Prop}(h:cs[off]?=some c)(k:Go (K c)):Gn (Nat.blt off cs.length) (A5S cs off K):=by
 have:Nat.blt off cs.length=true:=Nat.ble_eq_true_of_le (B3.1 h).1
 rw[this];exact C41 h k
theorem D9B{α:Type}{cs l:List α}{off n:Nat}{K:List α->Prop}(h:(cs.drop off).take n=l)(h2:off+n<=cs.length)(k:Go (K l)):Gn (Nat.ble (off+n) cs.length) (A1R cs off λr=>p9 r n K):=by
 rw[Nat.ble_eq_true_of_le h2];subst h;exact A4D.2 (A29.2 k)
theorem C3z{α:Type}{cs vc:List α}{off n:Nat}{K:List α->Prop}(h2:off+n<=cs.length)(k:Go (K (I3 cs off vc))):Gn (Nat.ble (off+n) cs.length) (A3k cs off vc K):=by
 rw[Nat.ble_eq_true_of_le h2];exact B0a.2 k
theorem D9L{α:Type}{cs vc l:List α}{off n:Nat}{K:List α->Prop}(h:I3 cs off vc=l)(h2:off+n<=cs.length)(k:Go (K l)):Gn (Nat.ble (off+n) cs.length) (A3k cs off vc K):=by
 subst h;exact C3z h2 k
theorem D9z{os:List AO}{cs:List AV}{xs:List D}{K:List D->List AO->Prop}(h:cs=xs.map .d)(k:Go (K xs os)):A4H os cs K:=by
 subst h
 induction xs generalizing K with
 |nil=>exact k
 |cons x xs ih=>exact ih (K:=λl os=>K (x::l) os) k
theorem D9F{α β:Type}{f:α->β}{l:List α}{K:List β->Prop}(k:Go (K (l.map f))):A0v f l K:=A0Q.2 k
theorem E1X{nl:Bool}{es:List (List D)}(h:nl=true->es=[]):B0 (w7 nl .nil (.sl es)) es:=by
 cases nl with
 |true=>exact .inl ⟨rfl,h rfl⟩
 |false=>exact .inr rfl
end
def R1(L:Sl):List Nat->List AV
 |[]=>[]
 |t::ts=>E7 L t::R1 L ts
def U4:List Nat->List AV->Sl
 |t::ts,v::vs=>(t,v)::U4 ts vs
 |_,_=>[]
def A6c:List Nat->List AV->Sl->(Sl->Prop)->Prop
 |t::ts,v::vs,l,K=>A6c ts vs l λr=>K ((t,v)::r)
 |_,_,l,K=>K l
theorem A88:∀{ts:List Nat}{vs:List AV}{l:Sl}{K:Sl->Prop},A6c ts vs l K↔K (U4 ts vs++l)
 |[],_,l,K=>Iff.rfl
 |_::_,[],l,K=>Iff.rfl
 |t::ts,v::vs,l,K=>A88 (ts:=ts) (vs:=vs) (K:=λr=>K ((t,v)::r))
def Y0(L:Sl):List Nat->(List AV->Prop)->Prop
 |[],K=>K []
 |t::ts,K=>frc (E7 L t) λv=>Y0 L ts λr=>K (v::r)
theorem A0S{L:Sl}:∀{ts:List Nat}{K:List AV->Prop},Y0 L ts K↔K (R1 L ts)
 |[],K=>Iff.rfl
 |t::ts,K=>by
  simp only[Y0,A2u]
  exact A0S (ts:=ts) (K:=λr=>K (E7 L t::r))
theorem C42{L:Sl}:∀{ts:List Nat}{vs:List AV}(s:Nat),vs=R1 L ts->E7 (U4 ts vs) s=.junk\/(s∈ts/\E7 (U4 ts vs) s=E7 L s)
 |[],vs,s,h=>.inl rfl
 |t::ts,[],s,h=>by cases h
 |t::ts,v::vs,s,h=>by
  injection h with h1 h2
  simp only[U4,E7]
  cases hb:Nat.beq s t with
  |true=>
   have:=U5 hb
   subst this
   exact .inr ⟨by simp,h1⟩
  |false=>
   rcases C42 (vs:=vs) s h2 with h|⟨h3,h4⟩
   ·exact .inl h
   ·exact .inr ⟨by simp[h3],h4⟩
theorem C5Y:∀{ts:List Nat}{vs:List AV}{ks:List Nat}{ws:List AV},vs.length=ts.length->U4 (ts++ks) (vs++ws)=U4 ts vs++U4 ks ws
 |[],[],_,_,_=>rfl
 |t::ts,v::vs,ks,ws,h=>by
  simp only[A4r,U4]
  rw[C5Y (by simpa using h)]
 |[],_::_,_,_,h=>by simp at h
 |_::_,[],_,_,h=>by simp at h
theorem C5u{L:Sl}:∀{ts:List Nat},(R1 L ts).length=ts.length
 |[]=>rfl
 |t::ts=>by simp[R1,C5u (ts:=ts)]
theorem C5t{L:Sl}:∀{ts ks:List Nat},R1 L (ts++ks)=R1 L ts++R1 L ks
 |[],ks=>rfl
 |t::ts,ks=>by simp[R1,C5t (ts:=ts)]
theorem C5v{L:Sl}:∀{ts:List Nat}{s:Nat},s∈ts->E7 L s∈R1 L ts
 |t::ts,s,h=>by
  rcases I2.1 h with rfl|h
  ·simp[R1]
  ·simp[R1,C5v h]
theorem A3t{n nb:Nat}{L:Sl}{os:List AO}{ts ks:List Nat}{vs ws:List AV}{os2:List AO}(h1:vs=R1 L ts)(h2:ws=R1 L ks)(m:Nat)(hm:nb<=m)(ho:os.take m=os2)
  (hb:vs.all (λv=>v.bndB m)=true) (hb2:ws.all (λv=>v.bndB m)=true) (hb3:os2.all (λo=>o.bndB m)=true):A0l n nb (E7 L) os (E7 (U4 ts vs++U4 ks ws)) os2:=by
 subst ho
 have e:U4 ts vs++U4 ks ws=U4 (ts++ks) (vs++ws):=(C5Y (by rw[h1,C5u])).symm
 rw[e]
 have hv:vs++ws=R1 L (ts++ks):=by rw[C5t,h1,h2]
 refine E2E m hm (λt=>?_) (λo ho=>C1x (K8.1 hb3 o ho))
 rcases C42 (L:=L) t hv with h|⟨h3,h4⟩
 ·exact .inl h
 ·refine .inr ⟨h4,D7i ?_⟩
  have hmem:=C5v (L:=L) h3
  rw[<- hv] at hmem
  rcases L9.1 hmem with h|h
  ·exact K8.1 hb _ h
  ·exact K8.1 hb2 _ h
theorem J5{A:Type}{P:Program}{n nb:Nat}{cd:IC}{N:Sl->List AO->Prop}{E0:Nat->Sl->List AO->Prop}{R:Sl->List AO->Prop}{L:Sl}{os:List AO}{m:Nat}(hm:P.follows .mixedOrders=true)(ts ks:List Nat)(vs:A->List AV)(So:A->List AO)(φ:A->Prop)(μ:A->Nat)(a0:A)(hmm:m=os.length)(hnb:Nat.ble nb m=true)
  (hv:vs a0=R1 L ts) (ho:os.take m=So a0) (hb:∀a,φ a->(vs a).all (λv=>v.bndB m)=true/\(So a).all (λo=>o.bndB m)=true) (hb2:(R1 L ks).all (λv=>v.bndB m)=true) (h0:φ a0)
  (step:Go (Y0 L ks λws=>∀a,φ a->Go (A6c ts (vs a) (U4 ks ws) λL3=>xI P n nb cd (λL' os'=>Y0 L' ts λvs'=>Y0 L' ks λws'=>p9 os' m λos2=>∃a',vs a'=vs'/\ws=ws'/\So a'=os2/\μ a'<μ a/\φ a') E0 R L3 (So a)))):A0j P n nb cd N E0 R L os:=by
 have step:=A0S.1 step
 refine⟨?_⟩
 refine A9G hm (λx:A=>E7 (U4 ts (vs x)++U4 ks (R1 L ks))) (λx=>So x) (λx=>φ x) (λx=>μ x) a0 h0 ?_ ?_
 ·exact A3t hv rfl m (R6 hnb) ho (hb a0 h0).1 hb2 (hb a0 h0).2
 ·intro x hx
  have:=A88.1 (step x hx)
  refine A3w (K:=⟨λL' os'=>Y0 L' ts λvs'=>Y0 L' ks λws'=>p9 os' m λos2=>∃a',vs a'=vs'/\R1 L ks=ws'/\So a'=os2/\μ a'<μ x/\φ a',E0,R⟩) ⟨λL' os' h=>?_,λi L' os' h=>⟨L',rfl,h⟩,λL' os' h=>⟨L',rfl,h⟩⟩ this
  have h:=A29.1 (A0S.1 (A0S.1 h))
  obtain⟨a',h1,h2,h3,h4,h5⟩:=h
  exact⟨a',h5,h4,by rw[h2];exact A3t h1 rfl m (R6 hnb) h3.symm (hb a' h5).1 (by rw[<- h2];exact hb2) (hb a' h5).2⟩
theorem M5{A:Type}{B:Type}{P:Program}{n nb:Nat}{cd:IC}{N:Sl->List AO->Prop}{E0:Nat->Sl->List AO->Prop}{R:Sl->List AO->Prop}{L:Sl}{os:List AO}{m:Nat}(hm:P.follows .mixedOrders=true)(ts ks:List Nat)(vs:A->B->List AV)(So:A->B->List AO)(φ:A->B->Prop)(μ:A->B->Nat)(a0:A)(b0:B)(hmm:m=os.length)(hnb:Nat.ble nb m=true)
  (hv:vs a0 b0=R1 L ts) (ho:os.take m=So a0 b0) (hb:∀a b,φ a b->(vs a b).all (λv=>v.bndB m)=true/\(So a b).all (λo=>o.bndB m)=true) (hb2:(R1 L ks).all (λv=>v.bndB m)=true) (h0:φ a0 b0)
  (step:Go (Y0 L ks λws=>∀a b,φ a b->Go (A6c ts (vs a b) (U4 ks ws) λL3=>xI P n nb cd (λL' os'=>Y0 L' ts λvs'=>Y0 L' ks λws'=>p9 os' m λos2=>∃a' b',vs a' b'=vs'/\ws=ws'/\So a' b'=os2/\μ a' b'<μ a b/\φ a' b') E0 R L3 (So a b)))):A0j P n nb cd N E0 R L os:=by
 have step:=A0S.1 step
 refine⟨?_⟩
 refine A9G hm (λx:(A×B)=>E7 (U4 ts (vs x.1 x.2)++U4 ks (R1 L ks))) (λx=>So x.1 x.2) (λx=>φ x.1 x.2) (λx=>μ x.1 x.2) (a0,b0) h0 ?_ ?_
 ·exact A3t hv rfl m (R6 hnb) ho (hb a0 b0 h0).1 hb2 (hb a0 b0 h0).2
 ·intro x hx
  have:=A88.1 (step x.1 x.2 hx)
  refine A3w (K:=⟨λL' os'=>Y0 L' ts λvs'=>Y0 L' ks λws'=>p9 os' m λos2=>∃a' b',vs a' b'=vs'/\R1 L ks=ws'/\So a' b'=os2/\μ a' b'<μ x.1 x.2/\φ a' b',E0,R⟩) ⟨λL' os' h=>?_,λi L' os' h=>⟨L',rfl,h⟩,λL' os' h=>⟨L',rfl,h⟩⟩ this
  have h:=A29.1 (A0S.1 (A0S.1 h))
  obtain⟨a',b',h1,h2,h3,h4,h5⟩:=h
  exact⟨(a',b'),h5,h4,by rw[h2];exact A3t h1 rfl m (R6 hnb) h3.symm (hb a' b' h5).1 (by rw[<- h2];exact hb2) (hb a' b' h5).2⟩
theorem A6b{A:Type}{B:Type}{C:Type}{P:Program}{n nb:Nat}{cd:IC}{N:Sl->List AO->Prop}{E0:Nat->Sl->List AO->Prop}{R:Sl->List AO->Prop}{L:Sl}{os:List AO}{m:Nat}(hm:P.follows .mixedOrders=true)(ts ks:List Nat)(vs:A->B->C->List AV)(So:A->B->C->List AO)(φ:A->B->C->Prop)(μ:A->B->C->Nat)(a0:A)(b0:B)(c0:C)(hmm:m=os.length)(hnb:Nat.ble nb m=true)
  (hv:vs a0 b0 c0=R1 L ts) (ho:os.take m=So a0 b0 c0) (hb:∀a b c,φ a b c->(vs a b c).all (λv=>v.bndB m)=true/\(So a b c).all (λo=>o.bndB m)=true) (hb2:(R1 L ks).all (λv=>v.bndB m)=true) (h0:φ a0 b0 c0)
  (step:Go (Y0 L ks λws=>∀a b c,φ a b c->Go (A6c ts (vs a b c) (U4 ks ws) λL3=>xI P n nb cd (λL' os'=>Y0 L' ts λvs'=>Y0 L' ks λws'=>p9 os' m λos2=>∃a' b' c',vs a' b' c'=vs'/\ws=ws'/\So a' b' c'=os2/\μ a' b' c'<μ a b c/\φ a' b' c') E0 R L3 (So a b c)))):A0j P n nb cd N E0 R L os:=by
 have step:=A0S.1 step
 refine⟨?_⟩
 refine A9G hm (λx:(A×B×C)=>E7 (U4 ts (vs x.1 x.2.1 x.2.2)++U4 ks (R1 L ks))) (λx=>So x.1 x.2.1 x.2.2) (λx=>φ x.1 x.2.1 x.2.2) (λx=>μ x.1 x.2.1 x.2.2) (a0,b0,c0) h0 ?_ ?_
 ·exact A3t hv rfl m (R6 hnb) ho (hb a0 b0 c0 h0).1 hb2 (hb a0 b0 c0 h0).2
 ·intro x hx
  have:=A88.1 (step x.1 x.2.1 x.2.2 hx)
  refine A3w (K:=⟨λL' os'=>Y0 L' ts λvs'=>Y0 L' ks λws'=>p9 os' m λos2=>∃a' b' c',vs a' b' c'=vs'/\R1 L ks=ws'/\So a' b' c'=os2/\μ a' b' c'<μ x.1 x.2.1 x.2.2/\φ a' b' c',E0,R⟩) ⟨λL' os' h=>?_,λi L' os' h=>⟨L',rfl,h⟩,λL' os' h=>⟨L',rfl,h⟩⟩ this
  have h:=A29.1 (A0S.1 (A0S.1 h))
  obtain⟨a',b',c',h1,h2,h3,h4,h5⟩:=h
  exact⟨(a',b',c'),h5,h4,by rw[h2];exact A3t h1 rfl m (R6 hnb) h3.symm (hb a' b' c' h5).1 (by rw[<- h2];exact hb2) (hb a' b' c' h5).2⟩
theorem C5X{A:Type}{B:Type}{C:Type}{D':Type}{P:Program}{n nb:Nat}{cd:IC}{N:Sl->List AO->Prop}{E0:Nat->Sl->List AO->Prop}{R:Sl->List AO->Prop}{L:Sl}{os:List AO}{m:Nat}(hm:P.follows .mixedOrders=true)(ts ks:List Nat)(vs:A->B->C->D'->List AV)(So:A->B->C->D'->List AO)(φ:A->B->C->D'->Prop)(μ:A->B->C->D'->Nat)(a0:A)(b0:B)(c0:C)(d0:D')(hmm:m=os.length)(hnb:Nat.ble nb m=true)
  (hv:vs a0 b0 c0 d0=R1 L ts) (ho:os.take m=So a0 b0 c0 d0) (hb:∀a b c d,φ a b c d->(vs a b c d).all (λv=>v.bndB m)=true/\(So a b c d).all (λo=>o.bndB m)=true) (hb2:(R1 L ks).all (λv=>v.bndB m)=true) (h0:φ a0 b0 c0 d0)
  (step:Go (Y0 L ks λws=>∀a b c d,φ a b c d->Go (A6c ts (vs a b c d) (U4 ks ws) λL3=>xI P n nb cd (λL' os'=>Y0 L' ts λvs'=>Y0 L' ks λws'=>p9 os' m λos2=>∃a' b' c' d',vs a' b' c' d'=vs'/\ws=ws'/\So a' b' c' d'=os2/\μ a' b' c' d'<μ a b c d/\φ a' b' c' d') E0 R L3 (So a b c d)))):A0j P n nb cd N E0 R L os:=by
 have step:=A0S.1 step
 refine⟨?_⟩
 refine A9G hm (λx:(A×B×C×D')=>E7 (U4 ts (vs x.1 x.2.1 x.2.2.1 x.2.2.2)++U4 ks (R1 L ks))) (λx=>So x.1 x.2.1 x.2.2.1 x.2.2.2) (λx=>φ x.1 x.2.1 x.2.2.1 x.2.2.2) (λx=>μ x.1 x.2.1 x.2.2.1 x.2.2.2) (a0,b0,c0,d0) h0 ?_ ?_
 ·exact A3t hv rfl m (R6 hnb) ho (hb a0 b0 c0 d0 h0).1 hb2 (hb a0 b0 c0 d0 h0).2
 ·intro x hx
  have:=A88.1 (step x.1 x.2.1 x.2.2.1 x.2.2.2 hx)
  refine A3w (K:=⟨λL' os'=>Y0 L' ts λvs'=>Y0 L' ks λws'=>p9 os' m λos2=>∃a' b' c' d',vs a' b' c' d'=vs'/\R1 L ks=ws'/\So a' b' c' d'=os2/\μ a' b' c' d'<μ x.1 x.2.1 x.2.2.1 x.2.2.2/\φ a' b' c' d',E0,R⟩) ⟨λL' os' h=>?_,λi L' os' h=>⟨L',rfl,h⟩,λL' os' h=>⟨L',rfl,h⟩⟩ this
  have h:=A29.1 (A0S.1 (A0S.1 h))
  obtain⟨a',b',c',d',h1,h2,h3,h4,h5⟩:=h
  exact⟨(a',b',c',d'),h5,h4,by rw[h2];exact A3t h1 rfl m (R6 hnb) h3.symm (hb a' b' c' d' h5).1 (by rw[<- h2];exact hb2) (hb a' b' c' d' h5).2⟩
theorem T5{P:Program}{n nb:Nat}{cd:IC}{N:Sl->List AO->Prop}{E0:Nat->Sl->List AO->Prop}{R:Sl->List AO->Prop}{L:Sl}{os:List AO}(t sz:Nat)(hsz:Nat.blt 0 sz=true)(ht:E7 L t=.d .nil)
  (k:Go (A0d os 0 λm=>s9 os [.arr [] sz 0 true] λos'=>A0j P n nb cd N E0 R ((t,.arr m 0)::L) os')):A0j P n nb cd N E0 R L os:=by
 have k:=A0m.1 (A2y k)
 have hw:=E2D (n:=n) (nb:=nb) (ρ:=E7 L) (os:=os) t sz (A3F A5e (R6 hsz)) ht
 rw[B2Y] at hw
 refine⟨λcode hc c M G w a hR=>?_⟩
 obtain⟨M',G',hR'⟩:=hw c M G w a hR
 exact k.h code hc c M' G' w a hR'
end Go.Bi
