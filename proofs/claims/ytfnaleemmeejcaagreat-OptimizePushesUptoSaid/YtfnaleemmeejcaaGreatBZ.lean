/- The evaluator of code: sound; loops; the words of the walk. No condition. -/
import Derived.Test.YtfnaleemmeejcaaGreatBY
set_option linter.unusedVariables false
namespace Go.Bi
set_option linter.unusedSectionVars false
variable [N0]
def CnK:Bool->(Sl->List AO->Prop)->(Sl->List AO->Prop)->Sl->List AO->Prop
 |true,X,_=>X
 |false,_,Y=>Y
structure KX where
 norm:Sl->List AO->Prop
 exit:Nat->Sl->List AO->Prop
 ret:Sl->List AO->Prop
def toK(K:KX):Kt:={norm:=λρ os=>∃L,ρ=E8 L/\K.norm L os,exit:=λi ρ os=>∃L,ρ=E8 L/\K.exit i L os,ret:=λρ os=>∃L,ρ=E8 L/\K.ret L os}
def A7F(d:Option Nat)(v:AV)(L:Sl):Sl:=match d with
 |some t=>(t,v)::L
 |none=>L
theorem A9V{d:Option Nat}{v:AV}{L:Sl}:E8 (A7F d v L)=updo d v (E8 L):=by
 cases d with
 |none=>rfl
 |some t=>exact(A9l t v L).symm
theorem A2e{t:Nat}{v:AV}{L:Sl}(h:E8 L t=v):E8 ((t,v)::L)=E8 L:=by
 funext s
 simp only[E8]
 cases hb:Nat.beq s t with
 |true=>rw[U3 hb];exact h.symm
 |false=>rfl
def gX(L:Sl)(g:Option (Nat×Bool))(yes no:Sl->Prop):Prop:=
 match g with
 |none=>yes L
 |some (t,w)=>match E8 L t with
  |.d (.bool b)=>Cn w (Cn b (yes ((t,.d (.bool true))::L)) (no ((t,.d (.bool false))::L))) (Cn b (no ((t,.d (.bool true))::L)) (yes ((t,.d (.bool false))::L)))
  |.tup []=>no L
  |_=>False
theorem D6y{L:Sl}{g:Option (Nat×Bool)}{yes no:Sl->Prop}{y' n':Prop}(hy:∀L',E8 L'=E8 L->yes L'->y')(hn:∀L',E8 L'=E8 L->no L'->n')(h:gX L g yes no):gI (E8 L) g y' n':=by
 cases g with
 |none=>exact hy L rfl h
 |some p=>
  obtain⟨t,w⟩:=p
  simp only[gX] at h
  simp only[gI]
  split at h
  ·rename_i b e
   rw[e]
   cases w<;>cases b
   ·exact⟨λ_=>hy _ (A2e e) h,λe=>by cases e⟩
   ·exact⟨λe=>(by cases e),λ_=>hn _ (A2e e) h⟩
   ·exact⟨λe=>(by cases e),λ_=>hn _ (A2e e) h⟩
   ·exact⟨λ_=>hy _ (A2e e) h,λe=>(by cases e)⟩
  ·rename_i e;rw[e];exact hn L rfl h
  ·exact h.elim
def C4B(P:Program)(o:D0)(L:Sl)(os:List AO)(K:Sl->List AO->Prop):Prop:=
 gX L o.guard (λL=>xOp P L os (λr os'=>K (A7F o.dst r L) os') o.op) (λL=>K (A7F o.dst (.tup []) L) os)
theorem E0o{P:Program}{o:D0}{L:Sl}{os:List AO}{K:Sl->List AO->Prop}{K':D5->List AO->Prop}(hk:∀L os,K L os->K' (E8 L) os)(h:C4B P o L os K):S5 P o (E8 L) os K':=by
 refine D6y (λL' e h=>?_) (λL' e h=>?_) h
 ·rw[<- e]
  exact B2C (λr os' h=>by rw[<- A9V];exact hk _ _ h) (C4x h)
 ·rw[<- e,<- A9V];exact hk _ _ h
def C4y(P:Program)(is:List D0):Sl->List AO->(Sl->List AO->Prop)->Prop:=
 List.rec (motive:=λ_=>Sl->List AO->(Sl->List AO->Prop)->Prop) (λL os K=>K L os) (λo _ ih L os K=>C4B P o L os λL' os'=>ih L' os' K) is
theorem C4A{P:Program}:∀{is:List D0}{L:Sl}{os:List AO}{K:Sl->List AO->Prop}{K':D5->List AO->Prop},(∀L os,K L os->K' (E8 L) os)->C4y P is L os K->A2f P is (E8 L) os K'
 |[],L,os,K,K',hk,h=>hk _ _ h
 |o::rest,L,os,K,K',hk,h=>E0o (K':=λρ os=>A2f P rest ρ os K') (λL os h=>C4A hk h) h
def A8z(v:AV)(K:List Nat->Prop):Prop:=match v with
 |.aptr id _ _ _=>K [id]
 |.rp id _ _ _=>K [id]
 |_=>K []
def A4y(v:AV)(K:List Nat->Prop):Prop:=match v with
 |.ptr id _=>K [id]
 |.aptr id _ _ _=>K [id]
 |.arr id _=>K [id]
 |.rs id _=>K [id]
 |.rp id _ _ _=>K [id]
 |_=>K []
theorem B1u{v:AV}{K:List Nat->Prop}(h:A8z v K):K (A50 v):=by cases v<;>exact h
theorem A5F{v:AV}{K:List Nat->Prop}(h:A4y v K):K (r7 v):=by cases v<;>exact h
def B05(L:Sl)(K:P3->Prop):IK->Prop
 |.faddr _ x=>xV L x λv=>A8z v λR=>K (R,none)
 |.nilck x=>xV L x λv=>A8z v λR=>K (R,none)
 |.ixarr _ _ x _=>xV L x λv=>A8z v λR=>K (R,none)
 |.eqnil _ x=>xV L x λv=>A4y v λR=>K (R,none)
 |.len x=>xV L x λv=>A4y v λR=>K (R,none)
 |.ixsl _ x _=>xV L x λv=>A4y v λR=>K (R,none)
 |.load _ _ x=>xV L x λv=>A4y v λR=>K (R,none)
 |.store _ x v=>xV L x λa=>match a with
  |.ptr id _=>K ([],some id)
  |.aptr id _ _ _=>xV L v λb=>Cn b.isDB (K ([],some id)) False
  |_=>False
 |.app _ _ s x=>xV L s λa=>match a with
  |.arr id _=>xV L x λb=>A4y b λR=>K (R,some id)
  |.rs id _=>xV L x λb=>A4y b λR=>K (R,some id)
  |_=>False
 |.alloca id _=>K ([],some id)
 |.boxa id _ _=>K ([],some id)
 |.calln id _ args=>xVs L args λvs=>Cn (vs.all AV.isDB) (K ([],some id)) False
 |.callo _ args=>xVs L args λvs=>match vs with
  |[]=>K ([],none)
  |v::as=>match v with
   |.arr id _=>Cn (as.all AV.isDB) (K ([],some id)) False
   |v=>Cn ((v::as).all AV.isDB) (K ([],none)) False
 |.bslr id _ _ _ _=>K ([],some id)
 |.lkup _ _ _ _ m _=>xV L m λa=>match a with
  |.mp id=>K ([id,id+1],none)
  |_=>False
 |.mupd _ m _ _=>xV L m λa=>match a with
  |.mp id=>K ([],some id)
  |_=>False
 |.slsl _ x _ _=>xV L x λv=>Cn v.isDB (K ([],none)) False
 |.callp _ args=>xVs L args λvs=>match vs with
  |[]=>K ([],none)
  |v::as=>match v with
   |.ptr id _=>Cn (as.all AV.isDB) (K ([id],none)) False
   |v=>Cn ((v::as).all AV.isDB) (K ([],none)) False
 |.bsld _ _ _ ps=>xVs L (ps.map λp=>p.2.2) λvs=>Cn (vs.all AV.isDB) (K ([],none)) False
 |op=>Cn op.rd False (K ([],none))
theorem D5k{b:Bool}{X:Prop}(h:Cn b False X):b=false/\X:=by cases b;exact⟨rfl,h⟩;exact h.elim
theorem D4r{L:Sl}{K:P3->Prop}{op:IK}(h0:B05 L K op=Cn op.rd False (K ([],none)))(h1:I7 (E8 L) op=if op.rd then none else some ([],none))(h:B05 L K op):∃t,I7 (E8 L) op=some t/\K t:=by
 rw[h0] at h
 obtain⟨h2,h3⟩:=D5k h
 exact⟨([],none),by rw[h1,h2];rfl,h3⟩
theorem E0i{L:Sl}{K:P3->Prop}{op:IK}(h:B05 L K op):∃t,I7 (E8 L) op=some t/\K t:=by
 cases op<;>first|exact D4r rfl rfl h|skip
 case faddr a x=>exact⟨_,rfl,B1u (K:=λR=>K (R,none)) (H1 h)⟩
 case nilck x=>exact⟨_,rfl,B1u (K:=λR=>K (R,none)) (H1 h)⟩
 case ixarr a b x i=>exact⟨_,rfl,B1u (K:=λR=>K (R,none)) (H1 h)⟩
 case eqnil a x=>exact⟨_,rfl,A5F (K:=λR=>K (R,none)) (H1 h)⟩
 case len x=>exact⟨_,rfl,A5F (K:=λR=>K (R,none)) (H1 h)⟩
 case ixsl a x i=>exact⟨_,rfl,A5F (K:=λR=>K (R,none)) (H1 h)⟩
 case load a b x=>exact⟨_,rfl,A5F (K:=λR=>K (R,none)) (H1 h)⟩
 case store a x v=>
  have h1:=H1 h
  simp only[I7]
  split at h1
  ·rename_i id off e;rw[e];exact⟨_,rfl,h1⟩
  ·rename_i id l i off e
   obtain⟨h2,h3⟩:=Y4.1 (H1 h1)
   rw[e];simp only[h2,if_true]
   exact⟨_,rfl,h3⟩
  ·exact h1.elim
 case app a b s x=>
  have h1:=H1 h
  simp only[I7]
  split at h1
  ·rename_i id l e;rw[e];exact⟨_,rfl,A5F (K:=λR=>K (R,some id)) (H1 h1)⟩
  ·rename_i id l e;rw[e];exact⟨_,rfl,A5F (K:=λR=>K (R,some id)) (H1 h1)⟩
  ·exact h1.elim
 case slsl sz x lo hi=>
  obtain⟨h2,h3⟩:=Y4.1 (H1 h)
  simp only[I7,h2,if_true]
  exact⟨_,rfl,h3⟩
 case callp f args=>
  have h1:=A1T h
  simp only[I7]
  generalize hvs:args.map (C0 (E8 L))=vs at h1 ⊢
  match vs,h1 with
  |[],h1=>exact⟨_,rfl,h1⟩
  |v::as,h1=>
   cases v with
   |ptr id off=>
    obtain⟨h2,h3⟩:=Y4.1 h1
    simp only[h2,if_true]
    exact⟨_,rfl,h3⟩
   |_=>
    obtain⟨h2,h3⟩:=Y4.1 h1
    simp only[h2,if_true]
    exact⟨_,rfl,h3⟩
 case bsld a b c ps=>
  obtain⟨h2,h3⟩:=Y4.1 (A1T h)
  rw[V0] at h2
  simp only[I7]
  rw[if_pos (show(List.map (λp=>C0 (E8 L) p.2.2) ps).all AV.isDB=true from h2)]
  exact⟨_,rfl,h3⟩
 case lkup sk ok g zs m k=>
  have h1:=H1 h
  simp only[I7]
  split at h1
  ·rename_i id e;rw[e];exact⟨_,rfl,h1⟩
  ·exact h1.elim
 case mupd sk m k v=>
  have h1:=H1 h
  simp only[I7]
  split at h1
  ·rename_i id e;rw[e];exact⟨_,rfl,h1⟩
  ·exact h1.elim
 case alloca id zs=>exact⟨_,rfl,h⟩
 case boxa id n x=>exact⟨_,rfl,h⟩
 case calln id f args=>
  obtain⟨h2,h3⟩:=Y4.1 (A1T h)
  simp only[I7,h2,if_true]
  exact⟨_,rfl,h3⟩
 case callo f args=>
  have h1:=A1T h
  simp only[I7]
  generalize hvs:args.map (C0 (E8 L))=vs at h1 ⊢
  match vs,h1 with
  |[],h1=>exact⟨_,rfl,h1⟩
  |v::as,h1=>
   cases v with
   |arr id len=>
    obtain⟨h2,h3⟩:=Y4.1 h1
    simp only[h2,if_true]
    exact⟨_,rfl,h3⟩
   |_=>
    obtain⟨h2,h3⟩:=Y4.1 h1
    simp only[h2,if_true]
    exact⟨_,rfl,h3⟩
 case bslr id n sz zs ps=>exact⟨_,rfl,h⟩
def C4C(P:Program)(o:D0)(L:Sl)(os:List AO)(J2:List P3)(K:Sl->List AO->List P3->Prop):Prop:=
 gX L o.guard (λL=>B05 L (λt=>xOp P L os (λr os'=>K (A7F o.dst r L) os' (t::J2)) o.op) o.op) (λL=>K (A7F o.dst (.tup []) L) os (([],none)::J2))
theorem D6x{L:Sl}{g:Option (Nat×Bool)}{yes no:Sl->Prop}(h:gX L g yes no):(∃L',E8 L'=E8 L/\yes L'/\∀A B:Prop,A->gI (E8 L) g A B)\/(∃L',E8 L'=E8 L/\no L'/\∀A B:Prop,B->gI (E8 L) g A B):=by
 cases g with
 |none=>exact .inl ⟨L,rfl,h,λA B a=>a⟩
 |some p=>
  obtain⟨t,w⟩:=p
  simp only[gX] at h
  split at h
  ·rename_i b e
   have h1:∀A B:Prop,gI (E8 L) (some (t,w)) A B=((b=w->A)/\(b=!w->B)):=λA B=>by simp only[gI,e]
   cases w<;>cases b
   ·exact .inl ⟨_,A2e e,h,λA B a=>by rw[h1];exact⟨λ_=>a,λe=>by cases e⟩⟩
   ·exact .inr ⟨_,A2e e,h,λA B a=>by rw[h1];exact⟨λe=>(by cases e),λ_=>a⟩⟩
   ·exact .inr ⟨_,A2e e,h,λA B a=>by rw[h1];exact⟨λe=>(by cases e),λ_=>a⟩⟩
   ·exact .inl ⟨_,A2e e,h,λA B a=>by rw[h1];exact⟨λ_=>a,λe=>by cases e⟩⟩
  ·rename_i e
   exact .inr ⟨L,rfl,h,λA B a=>by simp only[gI,e];exact a⟩
  ·exact h.elim
theorem E0n{P:Program}{o:D0}{L:Sl}{os:List AO}{J2:List P3}{K:Sl->List AO->List P3->Prop}(hd:o.op.det=true)(h:C4C P o L os J2 K) :
  ∃t r os' L',A0G (E8 L) o t/\O1 P o (E8 L) os r os'/\E8 L'=updo o.dst r (E8 L)/\K L' os' (t::J2):=by
 rcases D6x h with ⟨L1,e,h,hg⟩|⟨L1,e,h,hg⟩
 ·obtain⟨t,h1,h2⟩:=E0i h
  obtain⟨r,os',h3,h4⟩:=A7c hd (C4x h2)
  rw[e] at h1 h4
  exact⟨t,r,os',_,hg _ _ h1,hg _ _ h4,by rw[A9V,e],h3⟩
 ·exact⟨_,.tup [],os,_,hg _ _ trivial,hg _ _ ⟨rfl,rfl⟩,by rw[A9V,e],h⟩
def B06(P:Program)(is:List D0):Sl->List AO->List P3->(Sl->List AO->List P3->Prop)->Prop:=
 List.rec (motive:=λ_=>Sl->List AO->List P3->(Sl->List AO->List P3->Prop)->Prop) (λL os J2 K=>K L os J2) (λo _ ih L os J2 K=>C4C P o L os J2 λL os J2=>ih L os J2 K) is
theorem C4z{P:Program}{is:List D0}{T0:List P3}:∀{l:List D0}{s:Nat}{L:Sl}{os:List AO}{J2:List P3}{K:Sl->List AO->List P3->Prop},(∀i,l[i]?=is[s+i]?)->(∀o∈l,o.op.det=true)->T0.length=s->
  B06 P l L os J2 K->∃T:List P3,T.length=l.length/\e8 P is (T0++T) (List.range' s l.length) (E8 L) os λρ os=>∃L,ρ=E8 L/\K L os (T.reverse++J2)
 |[],s,L,os,J2,K,hl,hd,hs,h=>⟨[],rfl,L,rfl,h⟩
 |o::l,s,L,os,J2,K,hl,hd,hs,h=>by
  obtain⟨t,r,os',L',h1,h2,h3,h4⟩:=E0n (K:=λL os J2=>B06 P l L os J2 K) (hd o (by simp)) h
  obtain⟨T,h5,h6⟩:=C4z (T0:=T0++[t]) (l:=l) (s:=s+1) (λi=>by have:=hl (i+1);rw[show s+(i+1)=s+1+i by omega] at this;simpa using this) (λo ho=>hd o (by simp[ho])) (by simp[hs]) (show B06 P l L' os' (t::J2) K from h4)
  refine⟨t::T,by simp[h5],?_⟩
  have ho:is[s]?=some o:=by have:=hl 0;simpa using this.symm
  rw[H9,List.range'_succ]
  have ht:(T0++t::T)[s]?=some t:=by rw[W4 (by omega),hs,Nat.sub_self];rfl
  simp only[e8,ho,ht]
  refine⟨h1,h2.step ?_⟩
  rw[<- h3]
  simpa using h6
structure s8(P:Program)(n nb:Nat)(c:IC)(N:Sl->List AO->Prop)(E:Nat->Sl->List AO->Prop)(R:Sl->List AO->Prop)(L:Sl)(os:List AO):Prop where
 h:Tri P n nb (.loop c) (toK ⟨N,E,R⟩) (E8 L) os
def xC(c:C1)(X Y:Sl->List AO->Prop)(L:Sl)(os:List AO):Prop:=match c with
  |.t t=>match E8 L t with
   |.d (.bool b)=>Cn b (X ((t,.d (.bool true))::L) os) (Y ((t,.d (.bool false))::L) os)
   |_=>False
  |.c (.bool b)=>Cn b (X L os) (Y L os)
  |_=>False
def xI(P:Program)(n nb:Nat)(c:IC):(Sl->List AO->Prop)->(Nat->Sl->List AO->Prop)->(Sl->List AO->Prop)->Sl->List AO->Prop:=
 IC.rec (motive:=λ_=>(Sl->List AO->Prop)->(Nat->Sl->List AO->Prop)->(Sl->List AO->Prop)->Sl->List AO->Prop)
  (λN E R L os=>N L os)
  (λis N E R L os=>C4y P is L os N)
  (λh ps is N E R L os=>Cn (is.all λo=>o.op.det) (y7 os 0 λb=>m7 os (List.replicate h .hole) λos'=>B06 P (is.map (D0.at b)) L os' [] λL os J2=>G4 (A6v ps J2.reverse=true) (N L os)) False)
  (λ_ _ iha ihb N E R L os=>iha (λL os=>ihb N E R L os) E R L os)
  (λc _ _ ihx ihy N E R L os=>xC c (ihx N E R) (ihy N E R) L os)
  (λid _ iha N E R L os=>iha N (λi=>CnK (Nat.beq i id) N (E i)) R L os)
  (λc _ N E R L os=>s8 P n nb c N E R L os)
  (λid N E R L os=>E id L os)
  (λN E R L os=>R L os) c
def KX.le(K:KX)(K':Kt):Prop:=(∀L os,K.norm L os->K'.norm (E8 L) os)/\(∀i L os,K.exit i L os->K'.exit i (E8 L) os)/\∀L os,K.ret L os->K'.ret (E8 L) os
theorem A36{P:Program}{n nb:Nat}:∀{c:IC}{K:KX}{K':Kt}{L:Sl}{os:List AO},K.le K'->xI P n nb c K.norm K.exit K.ret L os->Z3 P n nb c K' (E8 L) os:=by
 intro c
 induction c with
 |skip=>intro K K' L os hk h;exact hk.1 _ _ h
 |region is=>intro K K' L os hk h;exact C4A hk.1 h
 |dreg hc ps is=>
  intro K K' L os hk h
  obtain⟨h1,h2⟩:=Y4.1 h
  have h2:=A06.1 (A2c h2)
  rw[L7] at h1
  obtain⟨T,h3,h4⟩:=C4z (is:=is.map (D0.at os.length)) (T0:=[]) (s:=0) (λi=>by rw[A0Q]) (λo ho=>by
   obtain⟨o',ho',rfl⟩:=D7.1 ho
   rw[(A6l _ _).2.1];exact h1 o' ho') rfl h2
  rw[D8] at h3
  rw[D8] at h4
  rw[A0M,<- A8c] at h4
  -- the check holds wherever the run ends
  have hdet:∀o∈is.map (D0.at os.length),o.op.det=true:=λo ho=>by
   obtain⟨o',ho',rfl⟩:=D7.1 ho
   rw[(A6l _ _).2.1];exact h1 o' ho'
  have hchk:A6v ps T=true:=C2Y hdet (λρ os ⟨L,_,hh⟩=>by simpa using hh.1) h4
  refine⟨T,h3,hchk,C31 hdet (λρ os ⟨L,e,hh⟩=>by rw[e];exact hk.1 _ _ hh.2) h4⟩
 |seq a b iha ihb=>
  intro K K' L os hk h
  exact iha (K:=⟨λL os=>xI P n nb b K.norm K.exit K.ret L os,K.exit,K.ret⟩) (K':={K' with norm:=λρ os=>Z3 P n nb b K' ρ os}) ⟨λL os h=>ihb hk h,hk.2.1,hk.2.2⟩ h
 |cond c x y ihx ihy=>
  intro K K' L os hk h
  have h:xC c (xI P n nb x K.norm K.exit K.ret) (xI P n nb y K.norm K.exit K.ret) L os:=h
  unfold xC at h
  simp only[Z3]
  split at h
  ·rename_i t
   split at h
   ·rename_i b e
    simp only[C0]
    rw[e]
    obtain⟨h1,h2⟩:=A0V.1 h
    refine⟨λhb=>?_,λhb=>?_⟩
    ·subst hb
     have:=ihx hk (h1 rfl)
     rwa [A2e e] at this
    ·subst hb
     have:=ihy hk (h2 rfl)
     rwa [A2e e] at this
   ·exact h.elim
  ·rename_i b
   obtain⟨h1,h2⟩:=A0V.1 h
   exact⟨λhb=>ihx hk (h1 hb),λhb=>ihy hk (h2 hb)⟩
  ·exact h.elim
 |block id a ih=>
  intro K K' L os hk h
  refine ih (K:=⟨K.norm,λi=>CnK (Nat.beq i id) K.norm (K.exit i),K.ret⟩) (K':={K' with exit:=λi=>if i=id then K'.norm else K'.exit i}) ⟨hk.1,λi L os h=>?_,hk.2.2⟩ h
  dsimp only at h ⊢
  cases hb:Nat.beq i id with
  |true=>rw[hb] at h;rw[if_pos (U3 hb)];exact hk.1 _ _ h
  |false=>rw[hb] at h;rw[if_neg (Nat.ne_of_beq_eq_false hb)];exact hk.2.1 _ _ _ h
 |loop c ih=>
  intro K K' L os hk h
  refine Tri.mono h.h (λρ os h=>?_) (λi ρ os h=>?_) (λρ os h=>?_)
  ·obtain⟨L,rfl,h⟩:=h;exact hk.1 _ _ h
  ·obtain⟨L,rfl,h⟩:=h;exact hk.2.1 _ _ _ h
  ·obtain⟨L,rfl,h⟩:=h;exact hk.2.2 _ _ h
 |exit id=>intro K K' L os hk h;exact hk.2.1 _ _ _ h
 |ret=>intro K K' L os hk h;exact hk.2.2 _ _ h
def A4F(L:Sl)(os:List AO):List RV->(List AV->Prop)->Prop
 |[],K=>K []
 |.t s::rs,K=>frc (E8 L s) λv=>A4F L os rs λl=>K (v::l)
 |.cell s m g::rs,K=>frc (E8 L s) λa=>B3v os g m a λv=>A4F L os rs λl=>K (v::l)
theorem A9z{ρ:D5}{os:List AO}:∀{rs:List RV}{K K':List AV->Prop},(∀l,K l->K' l)->r6 ρ os rs K->r6 ρ os rs K'
 |[],K,K',hk,h=>hk _ h
 |.t s::rs,K,K',hk,h=>A9z (rs:=rs) (λl=>hk _) h
 |.cell s m g::rs,K,K',hk,h=>by
  simp only[r6] at h ⊢
  obtain⟨r,h1,h2⟩:=A9g h
  exact h2 _ (A9z (rs:=rs) (λl=>hk _) h1)
theorem A5T{L:Sl}{os:List AO}:∀{rs:List RV}{K:List AV->Prop},A4F L os rs K->r6 (E8 L) os rs K
 |[],K,h=>h
 |.t s::rs,K,h=>A5T (rs:=rs) (A28.1 h)
 |.cell s m g::rs,K,h=>by
  have:=C4v (A28.1 h)
  simp only[r6]
  obtain⟨r,h1,h2⟩:=A9g this
  exact h2 _ (A5T (rs:=rs) h1)
def A7r(rs:List RV)(r:AV)(L:Sl)(os:List AO):Prop:=A4F L os rs λl=>A10 os l λl' _=>match l' with
 |[v]=>v=r
 |l=>.tup l=r
theorem C3t{rs:List RV}{r:AV}{L:Sl}{os:List AO}(h:A7r rs r L os):A0l 0 (λr' os=>r'=r/\os=[]) rs (E8 L) os:=by
 refine A9z (λl h=>?_) (A5T h)
 obtain⟨xs,os',h1,h2⟩:=A4l h
 simp only[h1]
 refine⟨by simp,?_,by simp⟩
 split at h2
 ·exact h2
 ·rename_i hn
  unfold A9B
  split
  ·rename_i v;exact absurd rfl (hn v)
  ·exact h2
def A7s(nb:Nat)(Q:AV->List AO->Prop)(rs:List RV)(L:Sl)(os:List AO):Prop:=A4F L os rs λl=>A10 os l λl' os'=>l6 os' nb λos2=>G4 (os2.all (λo=>o.bndB nb)=true) (match l' with
 |[v]=>Q v os2
 |l=>Q (.tup l) os2)
theorem C3u{nb:Nat}{Q:AV->List AO->Prop}{rs:List RV}{L:Sl}{os:List AO}(h:A7s nb Q rs L os):A0l nb Q rs (E8 L) os:=by
 refine A9z (λl h=>?_) (A5T h)
 obtain⟨xs,os',h1,h2⟩:=A4l h
 simp only[h1]
 obtain⟨h3,h4⟩:=A1Q.1 h2
 refine⟨λo ho=>C0i (L7.1 h3 o ho),?_⟩
 unfold A9B
 split at h4
 ·exact h4
 ·rename_i hn
  split
  ·rename_i v;exact absurd rfl (hn v)
  ·exact h4
theorem A4{X:Prop}(h:X):Go X:=h
theorem A6X{X:Prop}(h:Go X):X:=h
theorem B8.go{P:Program}(hm:P.follows .mixedOrders=true){f n:Nat}{ic:IC}{rs:List RV}(h:B8 P f n ic rs){args:List AV}(hargs:Nat.ble args.length n=true){r:AV}
  (hw:Go (xI P n 0 ic (A7r rs r) (λ_ _ _=>False) (A7r rs r) (A1r 0 args) [])):Pure P f args r:=
 h.walkP hm (R3 hargs) (A36 (K:=⟨A7r rs r,λ_ _ _=>False,A7r rs r⟩) ⟨λL os h=>C3t h,λ_ _ _ h=>h,λL os h=>C3t h⟩ hw)
theorem B8.goX{P:Program}(hm:P.follows .mixedOrders=true){f n:Nat}{ic:IC}{rs:List RV}(h:B8 P f n ic rs){args:List AV}{bs:List AO}(hargs:Nat.ble args.length n=true){Q:AV->List AO->Prop}
  (hw:Go (xI P n bs.length ic (A7s bs.length Q rs) (λ_ _ _=>False) (A7s bs.length Q rs) (A1r 0 args) bs)):B9 P f args bs Q:=
 h.walk hm (R3 hargs) (A36 (K:=⟨A7s bs.length Q rs,λ_ _ _=>False,A7s bs.length Q rs⟩) ⟨λL os h=>C3u h,λ_ _ _ h=>h,λL os h=>C3u h⟩ hw)
section
variable {X Y:Prop}{p:Prop}
theorem D73{dp:Decidable p}(h:p)(k:Go X):Cn (decide p) X Y:=by rw[decide_eq_true h];exact k
theorem D72{dp:Decidable p}(h:¬p)(k:Go Y):Cn (decide p) X Y:=by rw[decide_eq_false h];exact k
theorem k_d{dp:Decidable p}(h:p->Go X)(k:¬p->Go Y):Cn (decide p) X Y:=A0V.2 ⟨λe=>h (of_decide_eq_true e),λe=>k (of_decide_eq_false e)⟩
theorem k_n{b:Bool}(h:Cn b Y X):Cn (!b) X Y:=by cases b<;>exact h
theorem k_a{a b:Bool}(h:Cn a (Cn b X Y) Y):Cn (a&&b) X Y:=by cases a<;>exact h
theorem k_o{a b:Bool}(h:Cn a X (Cn b X Y)):Cn (a||b) X Y:=by cases a<;>exact h
theorem D6X{b:Bool}(h:b=true)(k:Go X):Cn b X Y:=by rw[h];exact k
theorem D6W{b:Bool}(h:b=false)(k:Go Y):Cn b X Y:=by rw[h];exact k
theorem k_b{b:Bool}(h:b=true->Go X)(k:b=false->Go Y):Cn b X Y:=A0V.2 ⟨h,k⟩
theorem D6Z(h:p)(k:Go X):G4 p X:=⟨h,k⟩
theorem D7h{v:Int}{K:D->Prop}(h1:-9223372036854775808<=v)(h2:v<=9223372036854775807)(k:Go (K (.int .i64 v))):w5 .i64 v K:=by
 exact⟨by rw[E06 h1 h2];exact k⟩
theorem D7i{t:IntKind}{v:Int}{K:D->Prop}(k:Go (K (.int t (t.wrap v)))):w5 t v K:=⟨k⟩
theorem D7f{d:D}{es:List (List D)}{K:List (List D)->Prop}(h:A9 d es)(k:Go (K es)):A86 d K:=⟨⟨es,h,k⟩⟩
theorem D79{sk:SK}{ok g:Bool}{zs:List D}{key:D}{kvs:List (D×AV)}{K:AV->Prop}{r:AV}(h0:mok sk key kvs)(h:lkR ok (zv g zs) (A2Q sk key kvs)=r)(k:Go (K r)):B0P sk ok g zs key kvs K:=⟨⟨h0,r,h,k⟩⟩
theorem D7b{sk:SK}{key:D}{v:AV}{kvs l:List (D×AV)}{K:List (D×AV)->Prop}(h0:mok sk key kvs)(h:A12 sk key v kvs=l)(k:Go (K l)):B7O sk key v kvs K:=⟨⟨h0,by rw[h];exact k⟩⟩
theorem I5{P:Program}{g:FuncId}{as:List AV}{r:AV}{K:AV->Prop}(h:Pure P g as r)(k:Go (K r)):A2C P g as K:=⟨⟨r,h,k⟩⟩
theorem I9{P:Program}{g:FuncId}{as:List AV}{r:AV}{os:List AO}{K:AV->List AO->Prop}(h:Pure P g as r)(k:Go (K r os)):A3f P g as os K:=⟨D8P h k⟩
theorem O8{P:Program}{g:FuncId}{as:List AV}{os:List AO}{Q K:AV->List AO->Prop}(h:B9 P g as [] Q)(k:∀r os2,Q r os2->Go (K (shA os.length r) (os++os2.map (Y6 os.length)))):A3f P g as os K:=⟨h.mono k⟩
theorem D7e{P:Program}{g:FuncId}{as:List AV}{es:List (List D)}{sz:Nat}{nl:Bool}{K:List (List D)->Nat->Bool->Prop}(h:B9 P g as [] (λr os2=>r=.arr 0 es.length/\os2=[.arr es sz 0 nl]))(k:Go (K es sz nl)):B9I P g as K:=⟨⟨es,sz,nl,h,k⟩⟩
theorem O9{P:Program}{g:FuncId}{as:List AV}{os:List AO}{r:AV}{K:AV->Prop}(h:B9 P g as os (λr' os2=>r'=r/\os2=os))(k:Go (K r)):B1l P g as os K:=⟨⟨r,h,k⟩⟩
theorem B2j{P:Program}{g:FuncId}{id off:Nat}{ob:AO}{as:List AV}{r:AV}{K:AV->Prop}(h:∀os2:List AO,os2[id]?=some ob->B9 P g (.ptr id off::as) os2 (λr' os3=>r'=r/\os3=os2))(k:Go (K r)):B9M P g id off ob as K:=⟨⟨r,h,k⟩⟩
theorem D77{X Y:Prop}(k:Go X):LkA X Y:=⟨.inl k⟩
theorem D78{X Y:Prop}(k:Go Y):LkA X Y:=⟨.inr k⟩
theorem D6Y{X Y:Prop}(k:Go X):A80 X Y:=⟨.inl k⟩
theorem B2i{X Y:Prop}(k:Go Y):A80 X Y:=⟨.inr k⟩
theorem O7{P:Program}{g:FuncId}{as:List AV}{os:List AO}{Q K:AV->List AO->Prop}(h:B9 P g as os Q)(k:∀r os',Q r os'->Go (K r os')):A1h P g as os K:=⟨h.mono k⟩
theorem D75{α:Type}{cs:List α}{off:Nat}{c:α}{K:α->Prop}(h:cs[off]?=some c)(k:Go (K c)):Gn (Nat.blt off cs.length) (A5A cs off K):=by
 have:Nat.blt off cs.length=true:=Nat.ble_eq_true_of_le (B4.1 h).1
 rw[this];exact C2H h k
theorem D76{α:Type}{cs l:List α}{off n:Nat}{K:List α->Prop}(h:(cs.drop off).take n=l)(h2:off+n<=cs.length)(k:Go (K l)):Gn (Nat.ble (off+n) cs.length) (A1z cs off λr=>l6 r n K):=by
 rw[Nat.ble_eq_true_of_le h2];subst h;exact A4e.2 (A1Q.2 k)
theorem C2g{α:Type}{cs vc:List α}{off n:Nat}{K:List α->Prop}(h2:off+n<=cs.length)(k:Go (K (I6 cs off vc))):Gn (Nat.ble (off+n) cs.length) (A2X cs off vc K):=by
 rw[Nat.ble_eq_true_of_le h2];exact A9I.2 k
theorem D7g{α:Type}{cs vc l:List α}{off n:Nat}{K:List α->Prop}(h:I6 cs off vc=l)(h2:off+n<=cs.length)(k:Go (K l)):Gn (Nat.ble (off+n) cs.length) (A2X cs off vc K):=by
 subst h;exact C2g h2 k
theorem D74{os:List AO}{cs:List AV}{xs:List D}{K:List D->List AO->Prop}(h:cs=xs.map .d)(k:Go (K xs os)):A4k os cs K:=by
 subst h
 induction xs generalizing K with
 |nil=>exact k
 |cons x xs ih=>exact ih (K:=λl os=>K (x::l) os) k
theorem D7a{α β:Type}{f:α->β}{l:List α}{K:List β->Prop}(k:Go (K (l.map f))):A0g f l K:=A0z.2 k
theorem D9v{nl:Bool}{es:List (List D)}(h:nl=true->es=[]):A9 (u7 nl .nil (.sl es)) es:=by
 cases nl with
 |true=>exact .inl ⟨rfl,h rfl⟩
 |false=>exact .inr rfl
end
def R0(L:Sl):List Nat->List AV
 |[]=>[]
 |t::ts=>E8 L t::R0 L ts
def U1:List Nat->List AV->Sl
 |t::ts,v::vs=>(t,v)::U1 ts vs
 |_,_=>[]
def A5U:List Nat->List AV->Sl->(Sl->Prop)->Prop
 |t::ts,v::vs,l,K=>A5U ts vs l λr=>K ((t,v)::r)
 |_,_,l,K=>K l
theorem A7Q:∀{ts:List Nat}{vs:List AV}{l:Sl}{K:Sl->Prop},A5U ts vs l K↔K (U1 ts vs++l)
 |[],_,l,K=>Iff.rfl
 |_::_,[],l,K=>Iff.rfl
 |t::ts,v::vs,l,K=>A7Q (ts:=ts) (vs:=vs) (K:=λr=>K ((t,v)::r))
def X6(L:Sl):List Nat->(List AV->Prop)->Prop
 |[],K=>K []
 |t::ts,K=>frc (E8 L t) λv=>X6 L ts λr=>K (v::r)
theorem A0A{L:Sl}:∀{ts:List Nat}{K:List AV->Prop},X6 L ts K↔K (R0 L ts)
 |[],K=>Iff.rfl
 |t::ts,K=>by
  simp only[X6,A28]
  exact A0A (ts:=ts) (K:=λr=>K (E8 L t::r))
theorem C2I{L:Sl}:∀{ts:List Nat}{vs:List AV}(s:Nat),vs=R0 L ts->E8 (U1 ts vs) s=.junk\/(s∈ts/\E8 (U1 ts vs) s=E8 L s)
 |[],vs,s,h=>.inl rfl
 |t::ts,[],s,h=>by cases h
 |t::ts,v::vs,s,h=>by
  injection h with h1 h2
  simp only[U1,E8]
  cases hb:Nat.beq s t with
  |true=>
   have:=U3 hb
   subst this
   exact .inr ⟨by simp,h1⟩
  |false=>
   rcases C2I (vs:=vs) s h2 with h|⟨h3,h4⟩
   ·exact .inl h
   ·exact .inr ⟨by simp[h3],h4⟩
theorem C4H:∀{ts:List Nat}{vs:List AV}{ks:List Nat}{ws:List AV},vs.length=ts.length->U1 (ts++ks) (vs++ws)=U1 ts vs++U1 ks ws
 |[],[],_,_,_=>rfl
 |t::ts,v::vs,ks,ws,h=>by
  simp only[A4K,U1]
  rw[C4H (by simpa using h)]
 |[],_::_,_,_,h=>by simp at h
 |_::_,[],_,_,h=>by simp at h
theorem C4d{L:Sl}:∀{ts:List Nat},(R0 L ts).length=ts.length
 |[]=>rfl
 |t::ts=>by simp[R0,C4d (ts:=ts)]
theorem C4c{L:Sl}:∀{ts ks:List Nat},R0 L (ts++ks)=R0 L ts++R0 L ks
 |[],ks=>rfl
 |t::ts,ks=>by simp[R0,C4c (ts:=ts)]
theorem C4e{L:Sl}:∀{ts:List Nat}{s:Nat},s∈ts->E8 L s∈R0 L ts
 |t::ts,s,h=>by
  rcases H2.1 h with rfl|h
  ·simp[R0]
  ·simp[R0,C4e h]
theorem A34{n nb:Nat}{L:Sl}{os:List AO}{ts ks:List Nat}{vs ws:List AV}{os2:List AO}(h1:vs=R0 L ts)(h2:ws=R0 L ks)(m:Nat)(hm:nb<=m)(ho:os.take m=os2)
  (hb:vs.all (λv=>v.bndB m)=true) (hb2:ws.all (λv=>v.bndB m)=true) (hb3:os2.all (λo=>o.bndB m)=true):A05 n nb (E8 L) os (E8 (U1 ts vs++U1 ks ws)) os2:=by
 subst ho
 have e:U1 ts vs++U1 ks ws=U1 (ts++ks) (vs++ws):=(C4H (by rw[h1,C4d])).symm
 rw[e]
 have hv:vs++ws=R0 L (ts++ks):=by rw[C4c,h1,h2]
 refine E05 m hm (λt=>?_) (λo ho=>C0i (L7.1 hb3 o ho))
 rcases C2I (L:=L) t hv with h|⟨h3,h4⟩
 ·exact .inl h
 ·refine .inr ⟨h4,D4Q ?_⟩
  have hmem:=C4e (L:=L) h3
  rw[<- hv] at hmem
  rcases K8.1 hmem with h|h
  ·exact L7.1 hb _ h
  ·exact L7.1 hb2 _ h
theorem K6{A:Type}{P:Program}{n nb:Nat}{cd:IC}{N:Sl->List AO->Prop}{E0:Nat->Sl->List AO->Prop}{R:Sl->List AO->Prop}{L:Sl}{os:List AO}{m:Nat}(hm:P.follows .mixedOrders=true)(ts ks:List Nat)(vs:A->List AV)(So:A->List AO)(φ:A->Prop)(μ:A->Nat)(a0:A)(hmm:m=os.length)(hnb:Nat.ble nb m=true)
  (hv:vs a0=R0 L ts) (ho:os.take m=So a0) (hb:∀a,φ a->(vs a).all (λv=>v.bndB m)=true/\(So a).all (λo=>o.bndB m)=true) (hb2:(R0 L ks).all (λv=>v.bndB m)=true) (h0:φ a0)
  (step:Go (X6 L ks λws=>∀a,φ a->Go (A5U ts (vs a) (U1 ks ws) λL3=>xI P n nb cd (λL' os'=>X6 L' ts λvs'=>X6 L' ks λws'=>l6 os' m λos2=>∃a',vs a'=vs'/\ws=ws'/\So a'=os2/\μ a'<μ a/\φ a') E0 R L3 (So a)))):s8 P n nb cd N E0 R L os:=by
 have step:=A0A.1 step
 refine⟨?_⟩
 refine A9h hm (λx:A=>E8 (U1 ts (vs x)++U1 ks (R0 L ks))) (λx=>So x) (λx=>φ x) (λx=>μ x) a0 h0 ?_ ?_
 ·exact A34 hv rfl m (R3 hnb) ho (hb a0 h0).1 hb2 (hb a0 h0).2
 ·intro x hx
  have:=A7Q.1 (step x hx)
  refine A36 (K:=⟨λL' os'=>X6 L' ts λvs'=>X6 L' ks λws'=>l6 os' m λos2=>∃a',vs a'=vs'/\R0 L ks=ws'/\So a'=os2/\μ a'<μ x/\φ a',E0,R⟩) ⟨λL' os' h=>?_,λi L' os' h=>⟨L',rfl,h⟩,λL' os' h=>⟨L',rfl,h⟩⟩ this
  have h:=A1Q.1 (A0A.1 (A0A.1 h))
  obtain⟨a',h1,h2,h3,h4,h5⟩:=h
  exact⟨a',h5,h4,by rw[h2];exact A34 h1 rfl m (R3 hnb) h3.symm (hb a' h5).1 (by rw[<- h2];exact hb2) (hb a' h5).2⟩
theorem L6{A:Type}{B:Type}{P:Program}{n nb:Nat}{cd:IC}{N:Sl->List AO->Prop}{E0:Nat->Sl->List AO->Prop}{R:Sl->List AO->Prop}{L:Sl}{os:List AO}{m:Nat}(hm:P.follows .mixedOrders=true)(ts ks:List Nat)(vs:A->B->List AV)(So:A->B->List AO)(φ:A->B->Prop)(μ:A->B->Nat)(a0:A)(b0:B)(hmm:m=os.length)(hnb:Nat.ble nb m=true)
  (hv:vs a0 b0=R0 L ts) (ho:os.take m=So a0 b0) (hb:∀a b,φ a b->(vs a b).all (λv=>v.bndB m)=true/\(So a b).all (λo=>o.bndB m)=true) (hb2:(R0 L ks).all (λv=>v.bndB m)=true) (h0:φ a0 b0)
  (step:Go (X6 L ks λws=>∀a b,φ a b->Go (A5U ts (vs a b) (U1 ks ws) λL3=>xI P n nb cd (λL' os'=>X6 L' ts λvs'=>X6 L' ks λws'=>l6 os' m λos2=>∃a' b',vs a' b'=vs'/\ws=ws'/\So a' b'=os2/\μ a' b'<μ a b/\φ a' b') E0 R L3 (So a b)))):s8 P n nb cd N E0 R L os:=by
 have step:=A0A.1 step
 refine⟨?_⟩
 refine A9h hm (λx:(A×B)=>E8 (U1 ts (vs x.1 x.2)++U1 ks (R0 L ks))) (λx=>So x.1 x.2) (λx=>φ x.1 x.2) (λx=>μ x.1 x.2) (a0,b0) h0 ?_ ?_
 ·exact A34 hv rfl m (R3 hnb) ho (hb a0 b0 h0).1 hb2 (hb a0 b0 h0).2
 ·intro x hx
  have:=A7Q.1 (step x.1 x.2 hx)
  refine A36 (K:=⟨λL' os'=>X6 L' ts λvs'=>X6 L' ks λws'=>l6 os' m λos2=>∃a' b',vs a' b'=vs'/\R0 L ks=ws'/\So a' b'=os2/\μ a' b'<μ x.1 x.2/\φ a' b',E0,R⟩) ⟨λL' os' h=>?_,λi L' os' h=>⟨L',rfl,h⟩,λL' os' h=>⟨L',rfl,h⟩⟩ this
  have h:=A1Q.1 (A0A.1 (A0A.1 h))
  obtain⟨a',b',h1,h2,h3,h4,h5⟩:=h
  exact⟨(a',b'),h5,h4,by rw[h2];exact A34 h1 rfl m (R3 hnb) h3.symm (hb a' b' h5).1 (by rw[<- h2];exact hb2) (hb a' b' h5).2⟩
theorem A7P{A:Type}{B:Type}{C:Type}{P:Program}{n nb:Nat}{cd:IC}{N:Sl->List AO->Prop}{E0:Nat->Sl->List AO->Prop}{R:Sl->List AO->Prop}{L:Sl}{os:List AO}{m:Nat}(hm:P.follows .mixedOrders=true)(ts ks:List Nat)(vs:A->B->C->List AV)(So:A->B->C->List AO)(φ:A->B->C->Prop)(μ:A->B->C->Nat)(a0:A)(b0:B)(c0:C)(hmm:m=os.length)(hnb:Nat.ble nb m=true)
  (hv:vs a0 b0 c0=R0 L ts) (ho:os.take m=So a0 b0 c0) (hb:∀a b c,φ a b c->(vs a b c).all (λv=>v.bndB m)=true/\(So a b c).all (λo=>o.bndB m)=true) (hb2:(R0 L ks).all (λv=>v.bndB m)=true) (h0:φ a0 b0 c0)
  (step:Go (X6 L ks λws=>∀a b c,φ a b c->Go (A5U ts (vs a b c) (U1 ks ws) λL3=>xI P n nb cd (λL' os'=>X6 L' ts λvs'=>X6 L' ks λws'=>l6 os' m λos2=>∃a' b' c',vs a' b' c'=vs'/\ws=ws'/\So a' b' c'=os2/\μ a' b' c'<μ a b c/\φ a' b' c') E0 R L3 (So a b c)))):s8 P n nb cd N E0 R L os:=by
 have step:=A0A.1 step
 refine⟨?_⟩
 refine A9h hm (λx:(A×B×C)=>E8 (U1 ts (vs x.1 x.2.1 x.2.2)++U1 ks (R0 L ks))) (λx=>So x.1 x.2.1 x.2.2) (λx=>φ x.1 x.2.1 x.2.2) (λx=>μ x.1 x.2.1 x.2.2) (a0,b0,c0) h0 ?_ ?_
 ·exact A34 hv rfl m (R3 hnb) ho (hb a0 b0 c0 h0).1 hb2 (hb a0 b0 c0 h0).2
 ·intro x hx
  have:=A7Q.1 (step x.1 x.2.1 x.2.2 hx)
  refine A36 (K:=⟨λL' os'=>X6 L' ts λvs'=>X6 L' ks λws'=>l6 os' m λos2=>∃a' b' c',vs a' b' c'=vs'/\R0 L ks=ws'/\So a' b' c'=os2/\μ a' b' c'<μ x.1 x.2.1 x.2.2/\φ a' b' c',E0,R⟩) ⟨λL' os' h=>?_,λi L' os' h=>⟨L',rfl,h⟩,λL' os' h=>⟨L',rfl,h⟩⟩ this
  have h:=A1Q.1 (A0A.1 (A0A.1 h))
  obtain⟨a',b',c',h1,h2,h3,h4,h5⟩:=h
  exact⟨(a',b',c'),h5,h4,by rw[h2];exact A34 h1 rfl m (R3 hnb) h3.symm (hb a' b' c' h5).1 (by rw[<- h2];exact hb2) (hb a' b' c' h5).2⟩
theorem C4G{A:Type}{B:Type}{C:Type}{D':Type}{P:Program}{n nb:Nat}{cd:IC}{N:Sl->List AO->Prop}{E0:Nat->Sl->List AO->Prop}{R:Sl->List AO->Prop}{L:Sl}{os:List AO}{m:Nat}(hm:P.follows .mixedOrders=true)(ts ks:List Nat)(vs:A->B->C->D'->List AV)(So:A->B->C->D'->List AO)(φ:A->B->C->D'->Prop)(μ:A->B->C->D'->Nat)(a0:A)(b0:B)(c0:C)(d0:D')(hmm:m=os.length)(hnb:Nat.ble nb m=true)
  (hv:vs a0 b0 c0 d0=R0 L ts) (ho:os.take m=So a0 b0 c0 d0) (hb:∀a b c d,φ a b c d->(vs a b c d).all (λv=>v.bndB m)=true/\(So a b c d).all (λo=>o.bndB m)=true) (hb2:(R0 L ks).all (λv=>v.bndB m)=true) (h0:φ a0 b0 c0 d0)
  (step:Go (X6 L ks λws=>∀a b c d,φ a b c d->Go (A5U ts (vs a b c d) (U1 ks ws) λL3=>xI P n nb cd (λL' os'=>X6 L' ts λvs'=>X6 L' ks λws'=>l6 os' m λos2=>∃a' b' c' d',vs a' b' c' d'=vs'/\ws=ws'/\So a' b' c' d'=os2/\μ a' b' c' d'<μ a b c d/\φ a' b' c' d') E0 R L3 (So a b c d)))):s8 P n nb cd N E0 R L os:=by
 have step:=A0A.1 step
 refine⟨?_⟩
 refine A9h hm (λx:(A×B×C×D')=>E8 (U1 ts (vs x.1 x.2.1 x.2.2.1 x.2.2.2)++U1 ks (R0 L ks))) (λx=>So x.1 x.2.1 x.2.2.1 x.2.2.2) (λx=>φ x.1 x.2.1 x.2.2.1 x.2.2.2) (λx=>μ x.1 x.2.1 x.2.2.1 x.2.2.2) (a0,b0,c0,d0) h0 ?_ ?_
 ·exact A34 hv rfl m (R3 hnb) ho (hb a0 b0 c0 d0 h0).1 hb2 (hb a0 b0 c0 d0 h0).2
 ·intro x hx
  have:=A7Q.1 (step x.1 x.2.1 x.2.2.1 x.2.2.2 hx)
  refine A36 (K:=⟨λL' os'=>X6 L' ts λvs'=>X6 L' ks λws'=>l6 os' m λos2=>∃a' b' c' d',vs a' b' c' d'=vs'/\R0 L ks=ws'/\So a' b' c' d'=os2/\μ a' b' c' d'<μ x.1 x.2.1 x.2.2.1 x.2.2.2/\φ a' b' c' d',E0,R⟩) ⟨λL' os' h=>?_,λi L' os' h=>⟨L',rfl,h⟩,λL' os' h=>⟨L',rfl,h⟩⟩ this
  have h:=A1Q.1 (A0A.1 (A0A.1 h))
  obtain⟨a',b',c',d',h1,h2,h3,h4,h5⟩:=h
  exact⟨(a',b',c',d'),h5,h4,by rw[h2];exact A34 h1 rfl m (R3 hnb) h3.symm (hb a' b' c' d' h5).1 (by rw[<- h2];exact hb2) (hb a' b' c' d' h5).2⟩
theorem U7{P:Program}{n nb:Nat}{cd:IC}{N:Sl->List AO->Prop}{E0:Nat->Sl->List AO->Prop}{R:Sl->List AO->Prop}{L:Sl}{os:List AO}(t sz:Nat)(hsz:Nat.blt 0 sz=true)(ht:E8 L t=.d .nil)
  (k:Go (y7 os 0 λm=>m7 os [.arr [] sz 0 true] λos'=>s8 P n nb cd N E0 R ((t,.arr m 0)::L) os')):s8 P n nb cd N E0 R L os:=by
 have k:=A06.1 (A2c k)
 have hw:=E04 (n:=n) (nb:=nb) (ρ:=E8 L) (os:=os) t sz (A3e A4T (R3 hsz)) ht
 rw[A9l] at hw
 refine⟨λcode hc c M G w a hR=>?_⟩
 obtain⟨M',G',hR'⟩:=hw c M G w a hR
 exact k.h code hc c M' G' w a hR'
end Go.Bi
