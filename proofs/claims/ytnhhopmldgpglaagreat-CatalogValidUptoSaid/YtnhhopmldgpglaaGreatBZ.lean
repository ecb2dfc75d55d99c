/- The evaluator of code: sound; loops; the words of the walk. No condition. -/
import Derived.Test.YtnhhopmldgpglaaGreatBY
set_option linter.unusedVariables false
namespace Go.Bi
set_option linter.unusedSectionVars false
variable [K6]
def CnK:Bool->(Sl->List AO->Prop)->(Sl->List AO->Prop)->Sl->List AO->Prop
 |true,X,_=>X
 |false,_,Y=>Y
structure KX where
 norm:Sl->List AO->Prop
 exit:Nat->Sl->List AO->Prop
 ret:Sl->List AO->Prop
def toK(K:KX):Kt:={norm:=λρ os=>∃L,ρ=D5 L/\K.norm L os,exit:=λi ρ os=>∃L,ρ=D5 L/\K.exit i L os,ret:=λρ os=>∃L,ρ=D5 L/\K.ret L os}
def A6j(d:Option Nat)(v:AV)(L:Sl):Sl:=match d with
 |some t=>(t,v)::L
 |none=>L
theorem A7Y{d:Option Nat}{v:AV}{L:Sl}:D5 (A6j d v L)=updo d v (D5 L):=by
 cases d with
 |none=>rfl
 |some t=>exact(B0a t v L).symm
theorem A1k{t:Nat}{v:AV}{L:Sl}(h:D5 L t=v):D5 ((t,v)::L)=D5 L:=by
 funext s
 simp only[D5]
 cases hb:Nat.beq s t with
 |true=>rw[Q5 hb];exact h.symm
 |false=>rfl
def gX(L:Sl)(g:Option (Nat×Bool))(yes no:Sl->Prop):Prop:=
 match g with
 |none=>yes L
 |some (t,w)=>match D5 L t with
  |.d (.bool b)=>Cn w (Cn b (yes ((t,.d (.bool true))::L)) (no ((t,.d (.bool false))::L))) (Cn b (no ((t,.d (.bool true))::L)) (yes ((t,.d (.bool false))::L)))
  |.tup []=>no L
  |_=>False
theorem D0H{L:Sl}{g:Option (Nat×Bool)}{yes no:Sl->Prop}{y' n':Prop}(hy:∀L',D5 L'=D5 L->yes L'->y')(hn:∀L',D5 L'=D5 L->no L'->n')(h:gX L g yes no):gI (D5 L) g y' n':=by
 cases g with
 |none=>exact hy L rfl h
 |some p=>
  obtain⟨t,w⟩:=p
  simp only[gX] at h
  simp only[gI]
  split at h
  ·rename_i b e
   rw[e]
   cases w<;>cases b
   ·exact⟨λ_=>hy _ (A1k e) h,λe=>by cases e⟩
   ·exact⟨λe=>(by cases e),λ_=>hn _ (A1k e) h⟩
   ·exact⟨λe=>(by cases e),λ_=>hn _ (A1k e) h⟩
   ·exact⟨λ_=>hy _ (A1k e) h,λe=>(by cases e)⟩
  ·rename_i e;rw[e];exact hn L rfl h
  ·exact h.elim
theorem D2d{P:Program}{ρ:C7}{os:List AO}{K K':AV->List AO->Prop}{op:IK}(hk:∀r os,K r os->K' r os)(h:B1 P ρ os K op):B1 P ρ os K' op:=by
 by_cases hd:op.det=true
 ·obtain⟨r,os',h1,h2⟩:=A5W hd h
  exact h2 K' (hk _ _ h1)
 ·cases op with
  |call f args=>
   simp only[B1] at h ⊢
   rcases h with h|h
   ·refine .inl ?_
    split at h
    ·rename_i as os1 e
     split at h
     ·rename_i g e2
      split at h
      ·rename_i e3
       rw[if_pos e3]
       exact B4.mono h hk
      ·rename_i e3
       rw[if_neg e3]
       exact B4.mono h λr os'=>hk _ _
     ·rename_i g caps e2
      exact B4.mono h hk
     ·rename_i v e2
      split at h
      ·rename_i g ds e3
       exact⟨h.1,B4.mono h.2 λr os'=>hk _ _⟩
      ·exact h.elim
     ·exact h.elim
    ·exact h.elim
   ·refine .inr ?_
    split at h
    ·exact⟨h.1,B4.mono h.2 hk⟩
    ·exact h.elim
  |nmap x=>
   simp only[B1] at h ⊢
   split at h
   ·split at h
    ·split at h
     ·exact⟨h.1,λi p hi hp=>hk _ _ (h.2.1 i p hi hp),λhn=>hk _ _ (h.2.2 hn)⟩
     ·exact h.elim
    ·exact h.elim
   ·exact h.elim
  |_=>exact absurd rfl hd
def B9W(P:Program)(o:D4)(L:Sl)(os:List AO)(K:Sl->List AO->Prop):Prop:=
 gX L o.guard (λL=>xOp P L os (λr os'=>K (A6j o.dst r L) os') o.op) (λL=>K (A6j o.dst (.tup []) L) os)
theorem D3O{P:Program}{o:D4}{L:Sl}{os:List AO}{K:Sl->List AO->Prop}{K':C7->List AO->Prop}(hk:∀L os,K L os->K' (D5 L) os)(h:B9W P o L os K):m3 P o (D5 L) os K':=by
 refine D0H (λL' e h=>?_) (λL' e h=>?_) h
 ·rw[<- e]
  exact D2d (λr os' h=>by rw[<- A7Y];exact hk _ _ h) (B9S h)
 ·rw[<- e,<- A7Y];exact hk _ _ h
def B9T(P:Program)(is:List D4):Sl->List AO->(Sl->List AO->Prop)->Prop:=
 List.rec (motive:=λ_=>Sl->List AO->(Sl->List AO->Prop)->Prop) (λL os K=>K L os) (λo _ ih L os K=>B9W P o L os λL' os'=>ih L' os' K) is
theorem B9V{P:Program}:∀{is:List D4}{L:Sl}{os:List AO}{K:Sl->List AO->Prop}{K':C7->List AO->Prop},(∀L os,K L os->K' (D5 L) os)->B9T P is L os K->A1R P is (D5 L) os K'
 |[],L,os,K,K',hk,h=>hk _ _ h
 |o::rest,L,os,K,K',hk,h=>D3O (K':=λρ os=>A1R P rest ρ os K') (λL os h=>B9V hk h) h
def A74(v:AV)(K:List Nat->Prop):Prop:=match v with
 |.aptr id _ _ _=>K [id]
 |.rp id _ _ _=>K [id]
 |_=>K []
def A3c(v:AV)(K:List Nat->Prop):Prop:=match v with
 |.ptr id _=>K [id]
 |.aptr id _ _ _=>K [id]
 |.arr id _=>K [id]
 |.rs id _=>K [id]
 |.rp id _ _ _=>K [id]
 |_=>K []
theorem A9e{v:AV}{K:List Nat->Prop}(h:A74 v K):K (A3B v):=by cases v<;>exact h
theorem A4b{v:AV}{K:List Nat->Prop}(h:A3c v K):K (i6 v):=by cases v<;>exact h
def A83(L:Sl)(K:O2->Prop):IK->Prop
 |.faddr _ x=>xV L x λv=>A74 v λR=>K (R,none)
 |.nilck x=>xV L x λv=>A74 v λR=>K (R,none)
 |.ixarr _ _ x _=>xV L x λv=>A74 v λR=>K (R,none)
 |.eqnil _ x=>xV L x λv=>A3c v λR=>K (R,none)
 |.len x=>xV L x λv=>A3c v λR=>K (R,none)
 |.ixsl _ x _=>xV L x λv=>A3c v λR=>K (R,none)
 |.load _ _ x=>xV L x λv=>A3c v λR=>K (R,none)
 |.store _ x v=>xV L x λa=>match a with
  |.ptr id _=>K ([],some id)
  |.aptr id _ _ _=>xV L v λb=>Cn b.isDB (K ([],some id)) False
  |_=>False
 |.app _ _ s x=>xV L s λa=>match a with
  |.arr id _=>xV L x λb=>A3c b λR=>K (R,some id)
  |.rs id _=>xV L x λb=>A3c b λR=>K (R,some id)
  |_=>False
 |.alloca id _=>K ([],some id)
 |.boxa id _ _=>K ([],some id)
 |.calln id _ args=>xVs L args λvs=>Cn (vs.all AV.isDB) (K ([],some id)) False
 |.bslr id _ _ _ _=>K ([],some id)
 |.lkup _ _ _ _ m _=>xV L m λa=>match a with
  |.mp id=>K ([id,id+1],none)
  |_=>False
 |.mupd _ m _ _=>xV L m λa=>match a with
  |.mp id=>K ([],some id)
  |_=>False
 |.slsl _ x _ _=>xV L x λv=>Cn v.isDB (K ([],none)) False
 |.callp _ args=>xVs L args λvs=>Cn (vs.all AV.isDB) (K ([],none)) False
 |.bsld _ _ _ ps=>xVs L (ps.map λp=>p.2.2) λvs=>Cn (vs.all AV.isDB) (K ([],none)) False
 |op=>Cn op.rd False (K ([],none))
theorem C9k{b:Bool}{X:Prop}(h:Cn b False X):b=false/\X:=by cases b;exact⟨rfl,h⟩;exact h.elim
theorem C8q{L:Sl}{K:O2->Prop}{op:IK}(h0:A83 L K op=Cn op.rd False (K ([],none)))(h1:H8 (D5 L) op=if op.rd then none else some ([],none))(h:A83 L K op):∃t,H8 (D5 L) op=some t/\K t:=by
 rw[h0] at h
 obtain⟨h2,h3⟩:=C9k h
 exact⟨([],none),by rw[h1,h2];rfl,h3⟩
theorem D3I{L:Sl}{K:O2->Prop}{op:IK}(h:A83 L K op):∃t,H8 (D5 L) op=some t/\K t:=by
 cases op<;>first|exact C8q rfl rfl h|skip
 case faddr a x=>exact⟨_,rfl,A9e (K:=λR=>K (R,none)) (F6 h)⟩
 case nilck x=>exact⟨_,rfl,A9e (K:=λR=>K (R,none)) (F6 h)⟩
 case ixarr a b x i=>exact⟨_,rfl,A9e (K:=λR=>K (R,none)) (F6 h)⟩
 case eqnil a x=>exact⟨_,rfl,A4b (K:=λR=>K (R,none)) (F6 h)⟩
 case len x=>exact⟨_,rfl,A4b (K:=λR=>K (R,none)) (F6 h)⟩
 case ixsl a x i=>exact⟨_,rfl,A4b (K:=λR=>K (R,none)) (F6 h)⟩
 case load a b x=>exact⟨_,rfl,A4b (K:=λR=>K (R,none)) (F6 h)⟩
 case store a x v=>
  have h1:=F6 h
  simp only[H8]
  split at h1
  ·rename_i id off e;rw[e];exact⟨_,rfl,h1⟩
  ·rename_i id l i off e
   obtain⟨h2,h3⟩:=Y0.1 (F6 h1)
   rw[e];simp only[h2,if_true]
   exact⟨_,rfl,h3⟩
  ·exact h1.elim
 case app a b s x=>
  have h1:=F6 h
  simp only[H8]
  split at h1
  ·rename_i id l e;rw[e];exact⟨_,rfl,A4b (K:=λR=>K (R,some id)) (F6 h1)⟩
  ·rename_i id l e;rw[e];exact⟨_,rfl,A4b (K:=λR=>K (R,some id)) (F6 h1)⟩
  ·exact h1.elim
 case slsl sz x lo hi=>
  obtain⟨h2,h3⟩:=Y0.1 (F6 h)
  simp only[H8,h2,if_true]
  exact⟨_,rfl,h3⟩
 case callp f args=>
  obtain⟨h2,h3⟩:=Y0.1 (A22 h)
  simp only[H8,h2,if_true]
  exact⟨_,rfl,h3⟩
 case bsld a b c ps=>
  obtain⟨h2,h3⟩:=Y0.1 (A22 h)
  rw[W3] at h2
  simp only[H8]
  rw[if_pos (show(List.map (λp=>B9 (D5 L) p.2.2) ps).all AV.isDB=true from h2)]
  exact⟨_,rfl,h3⟩
 case lkup sk ok g zs m k=>
  have h1:=F6 h
  simp only[H8]
  split at h1
  ·rename_i id e;rw[e];exact⟨_,rfl,h1⟩
  ·exact h1.elim
 case mupd sk m k v=>
  have h1:=F6 h
  simp only[H8]
  split at h1
  ·rename_i id e;rw[e];exact⟨_,rfl,h1⟩
  ·exact h1.elim
 case alloca id zs=>exact⟨_,rfl,h⟩
 case boxa id n x=>exact⟨_,rfl,h⟩
 case calln id f args=>
  obtain⟨h2,h3⟩:=Y0.1 (A22 h)
  simp only[H8,h2,if_true]
  exact⟨_,rfl,h3⟩
 case bslr id n sz zs ps=>exact⟨_,rfl,h⟩
def B9X(P:Program)(o:D4)(L:Sl)(os:List AO)(F5:List O2)(K:Sl->List AO->List O2->Prop):Prop:=
 gX L o.guard (λL=>A83 L (λt=>xOp P L os (λr os'=>K (A6j o.dst r L) os' (t::F5)) o.op) o.op) (λL=>K (A6j o.dst (.tup []) L) os (([],none)::F5))
theorem D0G{L:Sl}{g:Option (Nat×Bool)}{yes no:Sl->Prop}(h:gX L g yes no):(∃L',D5 L'=D5 L/\yes L'/\∀A B:Prop,A->gI (D5 L) g A B)\/(∃L',D5 L'=D5 L/\no L'/\∀A B:Prop,B->gI (D5 L) g A B):=by
 cases g with
 |none=>exact .inl ⟨L,rfl,h,λA B a=>a⟩
 |some p=>
  obtain⟨t,w⟩:=p
  simp only[gX] at h
  split at h
  ·rename_i b e
   have h1:∀A B:Prop,gI (D5 L) (some (t,w)) A B=((b=w->A)/\(b=!w->B)):=λA B=>by simp only[gI,e]
   cases w<;>cases b
   ·exact .inl ⟨_,A1k e,h,λA B a=>by rw[h1];exact⟨λ_=>a,λe=>by cases e⟩⟩
   ·exact .inr ⟨_,A1k e,h,λA B a=>by rw[h1];exact⟨λe=>(by cases e),λ_=>a⟩⟩
   ·exact .inr ⟨_,A1k e,h,λA B a=>by rw[h1];exact⟨λe=>(by cases e),λ_=>a⟩⟩
   ·exact .inl ⟨_,A1k e,h,λA B a=>by rw[h1];exact⟨λ_=>a,λe=>by cases e⟩⟩
  ·rename_i e
   exact .inr ⟨L,rfl,h,λA B a=>by simp only[gI,e];exact a⟩
  ·exact h.elim
theorem D3N{P:Program}{o:D4}{L:Sl}{os:List AO}{F5:List O2}{K:Sl->List AO->List O2->Prop}(hd:o.op.det=true)(h:B9X P o L os F5 K) :
  ∃t r os' L',A07 (D5 L) o t/\M4 P o (D5 L) os r os'/\D5 L'=updo o.dst r (D5 L)/\K L' os' (t::F5):=by
 rcases D0G h with ⟨L1,e,h,hg⟩|⟨L1,e,h,hg⟩
 ·obtain⟨t,h1,h2⟩:=D3I h
  obtain⟨r,os',h3,h4⟩:=A5W hd (B9S h2)
  rw[e] at h1 h4
  exact⟨t,r,os',_,hg _ _ h1,hg _ _ h4,by rw[A7Y,e],h3⟩
 ·exact⟨_,.tup [],os,_,hg _ _ trivial,hg _ _ ⟨rfl,rfl⟩,by rw[A7Y,e],h⟩
def A85(P:Program)(is:List D4):Sl->List AO->List O2->(Sl->List AO->List O2->Prop)->Prop:=
 List.rec (motive:=λ_=>Sl->List AO->List O2->(Sl->List AO->List O2->Prop)->Prop) (λL os F5 K=>K L os F5) (λo _ ih L os F5 K=>B9X P o L os F5 λL os F5=>ih L os F5 K) is
theorem B9U{P:Program}{is:List D4}{T0:List O2}:∀{l:List D4}{s:Nat}{L:Sl}{os:List AO}{F5:List O2}{K:Sl->List AO->List O2->Prop},(∀i,l[i]?=is[s+i]?)->(∀o∈l,o.op.det=true)->T0.length=s->
  A85 P l L os F5 K->∃T:List O2,T.length=l.length/\Y1 P is (T0++T) (List.range' s l.length) (D5 L) os λρ os=>∃L,ρ=D5 L/\K L os (T.reverse++F5)
 |[],s,L,os,F5,K,hl,hd,hs,h=>⟨[],rfl,L,rfl,h⟩
 |o::l,s,L,os,F5,K,hl,hd,hs,h=>by
  obtain⟨t,r,os',L',h1,h2,h3,h4⟩:=D3N (K:=λL os F5=>A85 P l L os F5 K) (hd o (by simp)) h
  obtain⟨T,h5,h6⟩:=B9U (T0:=T0++[t]) (l:=l) (s:=s+1) (λi=>by have:=hl (i+1);rw[show s+(i+1)=s+1+i by omega] at this;simpa using this) (λo ho=>hd o (by simp[ho])) (by simp[hs]) (show A85 P l L' os' (t::F5) K from h4)
  refine⟨t::T,by simp[h5],?_⟩
  have ho:is[s]?=some o:=by have:=hl 0;simpa using this.symm
  rw[N9,List.range'_succ]
  have ht:(T0++t::T)[s]?=some t:=by rw[R6 (by omega),hs,Nat.sub_self];rfl
  simp only[Y1,ho,ht]
  refine⟨h1,h2.step ?_⟩
  rw[<- h3]
  simpa using h6
structure j6(P:Program)(n nb:Nat)(c:IC)(N:Sl->List AO->Prop)(E:Nat->Sl->List AO->Prop)(R:Sl->List AO->Prop)(L:Sl)(os:List AO):Prop where
 h:Tri P n nb (.loop c) (toK ⟨N,E,R⟩) (D5 L) os
def xC(c:B7)(X Y:Sl->List AO->Prop)(L:Sl)(os:List AO):Prop:=match c with
  |.t t=>match D5 L t with
   |.d (.bool b)=>Cn b (X ((t,.d (.bool true))::L) os) (Y ((t,.d (.bool false))::L) os)
   |_=>False
  |.c (.bool b)=>Cn b (X L os) (Y L os)
  |_=>False
def xI(P:Program)(n nb:Nat)(c:IC):(Sl->List AO->Prop)->(Nat->Sl->List AO->Prop)->(Sl->List AO->Prop)->Sl->List AO->Prop:=
 IC.rec (motive:=λ_=>(Sl->List AO->Prop)->(Nat->Sl->List AO->Prop)->(Sl->List AO->Prop)->Sl->List AO->Prop)
  (λN E R L os=>N L os)
  (λis N E R L os=>B9T P is L os N)
  (λh ps is N E R L os=>Cn (is.all λo=>o.op.det) (n9 os 0 λb=>Z8 os (List.replicate h .hole) λos'=>A85 P (is.map (D4.at b)) L os' [] λL os F5=>F7 (A5j ps F5.reverse=true) (N L os)) False)
  (λ_ _ iha ihb N E R L os=>iha (λL os=>ihb N E R L os) E R L os)
  (λc _ _ ihx ihy N E R L os=>xC c (ihx N E R) (ihy N E R) L os)
  (λid _ iha N E R L os=>iha N (λi=>CnK (Nat.beq i id) N (E i)) R L os)
  (λc _ N E R L os=>j6 P n nb c N E R L os)
  (λid N E R L os=>E id L os)
  (λN E R L os=>R L os) c
def KX.le(K:KX)(K':Kt):Prop:=(∀L os,K.norm L os->K'.norm (D5 L) os)/\(∀i L os,K.exit i L os->K'.exit i (D5 L) os)/\∀L os,K.ret L os->K'.ret (D5 L) os
theorem A3j{P:Program}{n nb:Nat}:∀{c:IC}{K:KX}{K':Kt}{L:Sl}{os:List AO},K.le K'->xI P n nb c K.norm K.exit K.ret L os->V9 P n nb c K' (D5 L) os:=by
 intro c
 induction c with
 |skip=>intro K K' L os hk h;exact hk.1 _ _ h
 |region is=>intro K K' L os hk h;exact B9V hk.1 h
 |dreg hc ps is=>
  intro K K' L os hk h
  obtain⟨h1,h2⟩:=Y0.1 h
  have h2:=t6.1 (A1i h2)
  rw[O3] at h1
  obtain⟨T,h3,h4⟩:=B9U (is:=is.map (D4.at os.length)) (T0:=[]) (s:=0) (λi=>by rw[x8]) (λo ho=>by
   obtain⟨o',ho',rfl⟩:=F2.1 ho
   rw[(A54 _ _).2.1];exact h1 o' ho') rfl h2
  rw[D0] at h3
  rw[D0] at h4
  rw[A1H,<- A6J] at h4
  -- the check holds wherever the run ends
  have hdet:∀o∈is.map (D4.at os.length),o.op.det=true:=λo ho=>by
   obtain⟨o',ho',rfl⟩:=F2.1 ho
   rw[(A54 _ _).2.1];exact h1 o' ho'
  have hchk:A5j ps T=true:=B8y hdet (λρ os ⟨L,_,hh⟩=>by simpa using hh.1) h4
  refine⟨T,h3,hchk,B8B hdet (λρ os ⟨L,e,hh⟩=>by rw[e];exact hk.1 _ _ hh.2) h4⟩
 |seq a b iha ihb=>
  intro K K' L os hk h
  exact iha (K:=⟨λL os=>xI P n nb b K.norm K.exit K.ret L os,K.exit,K.ret⟩) (K':={K' with norm:=λρ os=>V9 P n nb b K' ρ os}) ⟨λL os h=>ihb hk h,hk.2.1,hk.2.2⟩ h
 |cond c x y ihx ihy=>
  intro K K' L os hk h
  have h:xC c (xI P n nb x K.norm K.exit K.ret) (xI P n nb y K.norm K.exit K.ret) L os:=h
  unfold xC at h
  simp only[V9]
  split at h
  ·rename_i t
   split at h
   ·rename_i b e
    simp only[B9]
    rw[e]
    obtain⟨h1,h2⟩:=A0h.1 h
    refine⟨λhb=>?_,λhb=>?_⟩
    ·subst hb
     have:=ihx hk (h1 rfl)
     rwa [A1k e] at this
    ·subst hb
     have:=ihy hk (h2 rfl)
     rwa [A1k e] at this
   ·exact h.elim
  ·rename_i b
   obtain⟨h1,h2⟩:=A0h.1 h
   exact⟨λhb=>ihx hk (h1 hb),λhb=>ihy hk (h2 hb)⟩
  ·exact h.elim
 |block id a ih=>
  intro K K' L os hk h
  refine ih (K:=⟨K.norm,λi=>CnK (Nat.beq i id) K.norm (K.exit i),K.ret⟩) (K':={K' with exit:=λi=>if i=id then K'.norm else K'.exit i}) ⟨hk.1,λi L os h=>?_,hk.2.2⟩ h
  dsimp only at h ⊢
  cases hb:Nat.beq i id with
  |true=>rw[hb] at h;rw[if_pos (Q5 hb)];exact hk.1 _ _ h
  |false=>rw[hb] at h;rw[if_neg (Nat.ne_of_beq_eq_false hb)];exact hk.2.1 _ _ _ h
 |loop c ih=>
  intro K K' L os hk h
  refine Tri.mono h.h (λρ os h=>?_) (λi ρ os h=>?_) (λρ os h=>?_)
  ·obtain⟨L,rfl,h⟩:=h;exact hk.1 _ _ h
  ·obtain⟨L,rfl,h⟩:=h;exact hk.2.1 _ _ _ h
  ·obtain⟨L,rfl,h⟩:=h;exact hk.2.2 _ _ h
 |exit id=>intro K K' L os hk h;exact hk.2.1 _ _ _ h
 |ret=>intro K K' L os hk h;exact hk.2.2 _ _ h
def A3k(L:Sl)(os:List AO):List RV->(List AV->Prop)->Prop
 |[],K=>K []
 |.t s::rs,K=>frc (D5 L s) λv=>A3k L os rs λl=>K (v::l)
 |.cell s m g::rs,K=>frc (D5 L s) λa=>B0I os g m a λv=>A3k L os rs λl=>K (v::l)
theorem A7J{ρ:C7}{os:List AO}:∀{rs:List RV}{K K':List AV->Prop},(∀l,K l->K' l)->g9 ρ os rs K->g9 ρ os rs K'
 |[],K,K',hk,h=>hk _ h
 |.t s::rs,K,K',hk,h=>A7J (rs:=rs) (λl=>hk _) h
 |.cell s m g::rs,K,K',hk,h=>by
  simp only[g9] at h ⊢
  obtain⟨r,h1,h2⟩:=A7w h
  exact h2 _ (A7J (rs:=rs) (λl=>hk _) h1)
theorem A4h{L:Sl}{os:List AO}:∀{rs:List RV}{K:List AV->Prop},A3k L os rs K->g9 (D5 L) os rs K
 |[],K,h=>h
 |.t s::rs,K,h=>A4h (rs:=rs) (A1f.1 h)
 |.cell s m g::rs,K,h=>by
  have:=B9Q (A1f.1 h)
  simp only[g9]
  obtain⟨r,h1,h2⟩:=A7w this
  exact h2 _ (A4h (rs:=rs) h1)
def A67(rs:List RV)(r:AV)(L:Sl)(os:List AO):Prop:=A3k L os rs λl=>A32 os l λl' _=>match l' with
 |[v]=>v=r
 |l=>.tup l=r
theorem B8V{rs:List RV}{r:AV}{L:Sl}{os:List AO}(h:A67 rs r L os):v8 0 (λr' os=>r'=r/\os=[]) rs (D5 L) os:=by
 refine A7J (λl h=>?_) (A4h h)
 obtain⟨xs,os',h1,h2⟩:=A3T h
 simp only[h1]
 refine⟨by simp,?_,by simp⟩
 split at h2
 ·exact h2
 ·rename_i hn
  unfold A7L
  split
  ·rename_i v;exact absurd rfl (hn v)
  ·exact h2
def A68(nb:Nat)(Q:AV->List AO->Prop)(rs:List RV)(L:Sl)(os:List AO):Prop:=A3k L os rs λl=>A32 os l λl' os'=>w5 os' nb λos2=>F7 (os2.all (λo=>o.bndB nb)=true) (match l' with
 |[v]=>Q v os2
 |l=>Q (.tup l) os2)
theorem B8W{nb:Nat}{Q:AV->List AO->Prop}{rs:List RV}{L:Sl}{os:List AO}(h:A68 nb Q rs L os):v8 nb Q rs (D5 L) os:=by
 refine A7J (λl h=>?_) (A4h h)
 obtain⟨xs,os',h1,h2⟩:=A3T h
 simp only[h1]
 obtain⟨h3,h4⟩:=A20.1 h2
 refine⟨λo ho=>M7 (O3.1 h3 o ho),?_⟩
 unfold A7L
 split at h4
 ·exact h4
 ·rename_i hn
  split
  ·rename_i v;exact absurd rfl (hn v)
  ·exact h4
theorem D3{X:Prop}(h:X):Go X:=h
theorem C1.go{P:Program}(hm:P.follows .mixedOrders=true){f n:Nat}{ic:IC}{rs:List RV}(h:C1 P f n ic rs){args:List AV}(hargs:Nat.ble args.length n=true){r:AV}
  (hw:Go (xI P n 0 ic (A67 rs r) (λ_ _ _=>False) (A67 rs r) (A0E 0 args) [])):Pure P f args r:=
 h.walkP hm (P2 hargs) (A3j (K:=⟨A67 rs r,λ_ _ _=>False,A67 rs r⟩) ⟨λL os h=>B8V h,λ_ _ _ h=>h,λL os h=>B8V h⟩ hw)
theorem C1.goX{P:Program}(hm:P.follows .mixedOrders=true){f n:Nat}{ic:IC}{rs:List RV}(h:C1 P f n ic rs){args:List AV}{bs:List AO}(hargs:Nat.ble args.length n=true){Q:AV->List AO->Prop}
  (hw:Go (xI P n bs.length ic (A68 bs.length Q rs) (λ_ _ _=>False) (A68 bs.length Q rs) (A0E 0 args) bs)):B4 P f args bs Q:=
 h.walk hm (P2 hargs) (A3j (K:=⟨A68 bs.length Q rs,λ_ _ _=>False,A68 bs.length Q rs⟩) ⟨λL os h=>B8W h,λ_ _ _ h=>h,λL os h=>B8W h⟩ hw)
section
variable {X Y:Prop}{p:Prop}
theorem D0X{dp:Decidable p}(h:p)(k:Go X):Cn (decide p) X Y:=by rw[decide_eq_true h];exact k
theorem D0W{dp:Decidable p}(h:¬p)(k:Go Y):Cn (decide p) X Y:=by rw[decide_eq_false h];exact k
theorem A5{dp:Decidable p}(h:p->Go X)(k:¬p->Go Y):Cn (decide p) X Y:=A0h.2 ⟨λe=>h (of_decide_eq_true e),λe=>k (of_decide_eq_false e)⟩
theorem k_n{b:Bool}(h:Cn b Y X):Cn (!b) X Y:=by cases b<;>exact h
theorem k_a{a b:Bool}(h:Cn a (Cn b X Y) Y):Cn (a&&b) X Y:=by cases a<;>exact h
theorem k_o{a b:Bool}(h:Cn a X (Cn b X Y)):Cn (a||b) X Y:=by cases a<;>exact h
theorem D0U{b:Bool}(h:b=true)(k:Go X):Cn b X Y:=by rw[h];exact k
theorem D0T{b:Bool}(h:b=false)(k:Go Y):Cn b X Y:=by rw[h];exact k
theorem A4{b:Bool}(h:b=true->Go X)(k:b=false->Go Y):Cn b X Y:=A0h.2 ⟨h,k⟩
theorem J2(h:p)(k:Go X):F7 p X:=⟨h,k⟩
theorem D19{v:Int}{K:D->Prop}(h1:-9223372036854775808<=v)(h2:v<=9223372036854775807)(k:Go (K (.int .i64 v))):WrK .i64 v K:=by
 exact⟨by rw[D3z h1 h2];exact k⟩
theorem D1a{t:IntKind}{v:Int}{K:D->Prop}(k:Go (K (.int t (t.wrap v)))):WrK t v K:=⟨k⟩
theorem D17{d:D}{es:List (List D)}{K:List (List D)->Prop}(h:B5 d es)(k:Go (K es)):A6E d K:=⟨⟨es,h,k⟩⟩
theorem D12{sk:SK}{ok g:Bool}{zs:List D}{key:D}{kvs:List (D×AV)}{K:AV->Prop}{r:AV}(h0:l5 sk key kvs)(h:lkR ok (zv g zs) (J6 sk key kvs)=r)(k:Go (K r)):A8A sk ok g zs key kvs K:=⟨⟨h0,r,h,k⟩⟩
theorem D14{sk:SK}{key:D}{v:AV}{kvs l:List (D×AV)}{K:List (D×AV)->Prop}(h0:l5 sk key kvs)(h:K8 sk key v kvs=l)(k:Go (K l)):B4o sk key v kvs K:=⟨⟨h0,by rw[h];exact k⟩⟩
theorem A7{P:Program}{g:FuncId}{as:List AV}{r:AV}{K:AV->Prop}(h:Pure P g as r)(k:Go (K r)):A95 P g as K:=⟨⟨r,h,k⟩⟩
theorem A8{P:Program}{g:FuncId}{as:List AV}{r:AV}{os:List AO}{K:AV->List AO->Prop}(h:Pure P g as r)(k:Go (K r os)):A2b P g as os K:=⟨D2r h k⟩
theorem I7{P:Program}{g:FuncId}{as:List AV}{os:List AO}{Q K:AV->List AO->Prop}(h:B4 P g as [] Q)(k:∀r os2,Q r os2->Go (K (shA os.length r) (os++os2.map (U5 os.length)))):A2b P g as os K:=⟨h.mono k⟩
theorem V8{P:Program}{g:FuncId}{as:List AV}{es:List (List D)}{sz:Nat}{nl:Bool}{K:List (List D)->Nat->Bool->Prop}(h:B4 P g as [] (λr os2=>r=.arr 0 es.length/\os2=[.arr es sz 0 nl]))(k:Go (K es sz nl)):B5B P g as K:=⟨⟨es,sz,nl,h,k⟩⟩
theorem J4{P:Program}{g:FuncId}{as:List AV}{os:List AO}{r:AV}{K:AV->Prop}(h:B4 P g as os (λr' os2=>r'=r/\os2=os))(k:Go (K r)):B5C P g as os K:=⟨⟨r,h,k⟩⟩
theorem D11{X Y:Prop}(k:Go X):LkA X Y:=⟨.inl k⟩
theorem D0V{X Y:Prop}(k:Go X):A8p X Y:=⟨.inl k⟩
theorem I5{X Y:Prop}(k:Go Y):A8p X Y:=⟨.inr k⟩
theorem D8{P:Program}{g:FuncId}{as:List AV}{os:List AO}{Q K:AV->List AO->Prop}(h:B4 P g as os Q)(k:∀r os',Q r os'->Go (K r os')):A24 P g as os K:=⟨h.mono k⟩
theorem D0Z{α:Type}{cs:List α}{off:Nat}{c:α}{K:α->Prop}(h:cs[off]?=some c)(k:Go (K c)):Gn (Nat.blt off cs.length) (A45 cs off K):=by
 have:Nat.blt off cs.length=true:=Nat.ble_eq_true_of_le (B2.1 h).1
 rw[this];exact B8n h k
theorem D10{α:Type}{cs l:List α}{off n:Nat}{K:List α->Prop}(h:(cs.drop off).take n=l)(h2:off+n<=cs.length)(k:Go (K l)):Gn (Nat.ble (off+n) cs.length) (A0J cs off λr=>w5 r n K):=by
 rw[Nat.ble_eq_true_of_le h2];subst h;exact A2X.2 (A20.2 k)
theorem B7M{α:Type}{cs vc:List α}{off n:Nat}{K:List α->Prop}(h2:off+n<=cs.length)(k:Go (K (J8 cs off vc))):Gn (Nat.ble (off+n) cs.length) (A1W cs off vc K):=by
 rw[Nat.ble_eq_true_of_le h2];exact A7Q.2 k
theorem D18{α:Type}{cs vc l:List α}{off n:Nat}{K:List α->Prop}(h:J8 cs off vc=l)(h2:off+n<=cs.length)(k:Go (K l)):Gn (Nat.ble (off+n) cs.length) (A1W cs off vc K):=by
 subst h;exact B7M h2 k
theorem D0Y{os:List AO}{cs:List AV}{xs:List D}{K:List D->List AO->Prop}(h:cs=xs.map .d)(k:Go (K xs os)):A31 os cs K:=by
 subst h
 induction xs generalizing K with
 |nil=>exact k
 |cons x xs ih=>exact ih (K:=λl os=>K (x::l) os) k
theorem D13{α β:Type}{f:α->β}{l:List α}{K:List β->Prop}(k:Go (K (l.map f))):u9 f l K:=z8.2 k
theorem D34{nl:Bool}{es:List (List D)}(h:nl=true->es=[]):B5 (CnD nl .nil (.sl es)) es:=by
 cases nl with
 |true=>exact .inl ⟨rfl,h rfl⟩
 |false=>exact .inr rfl
end
def Q9(L:Sl):List Nat->List AV
 |[]=>[]
 |t::ts=>D5 L t::Q9 L ts
def O5:List Nat->List AV->Sl
 |t::ts,v::vs=>(t,v)::O5 ts vs
 |_,_=>[]
def A88:List Nat->List AV->Sl->(Sl->Prop)->Prop
 |t::ts,v::vs,l,K=>A88 ts vs l λr=>K ((t,v)::r)
 |_,_,l,K=>K l
theorem B0M:∀{ts:List Nat}{vs:List AV}{l:Sl}{K:Sl->Prop},A88 ts vs l K↔K (O5 ts vs++l)
 |[],_,l,K=>Iff.rfl
 |_::_,[],l,K=>Iff.rfl
 |t::ts,v::vs,l,K=>B0M (ts:=ts) (vs:=vs) (K:=λr=>K ((t,v)::r))
def A00(L:Sl):List Nat->(List AV->Prop)->Prop
 |[],K=>K []
 |t::ts,K=>frc (D5 L t) λv=>A00 L ts λr=>K (v::r)
theorem A3a{L:Sl}:∀{ts:List Nat}{K:List AV->Prop},A00 L ts K↔K (Q9 L ts)
 |[],K=>Iff.rfl
 |t::ts,K=>by
  simp only[A00,A1f]
  exact A3a (ts:=ts) (K:=λr=>K (D5 L t::r))
theorem B8o{L:Sl}:∀{ts:List Nat}{vs:List AV}(s:Nat),vs=Q9 L ts->D5 (O5 ts vs) s=.junk\/(s∈ts/\D5 (O5 ts vs) s=D5 L s)
 |[],vs,s,h=>.inl rfl
 |t::ts,[],s,h=>by cases h
 |t::ts,v::vs,s,h=>by
  injection h with h1 h2
  simp only[O5,D5]
  cases hb:Nat.beq s t with
  |true=>
   have:=Q5 hb
   subst this
   exact .inr ⟨by simp,h1⟩
  |false=>
   rcases B8o (vs:=vs) s h2 with h|⟨h3,h4⟩
   ·exact .inl h
   ·exact .inr ⟨by simp[h3],h4⟩
theorem B0N:∀{ts:List Nat}{vs:List AV}{ks:List Nat}{ws:List AV},vs.length=ts.length->O5 (ts++ks) (vs++ws)=O5 ts vs++O5 ks ws
 |[],[],_,_,_=>rfl
 |t::ts,v::vs,ks,ws,h=>by
  simp only[A25,O5]
  rw[B0N (by simpa using h)]
 |[],_::_,_,_,h=>by simp at h
 |_::_,[],_,_,h=>by simp at h
theorem B9B{L:Sl}:∀{ts:List Nat},(Q9 L ts).length=ts.length
 |[]=>rfl
 |t::ts=>by simp[Q9,B9B (ts:=ts)]
theorem B0C{L:Sl}:∀{ts ks:List Nat},Q9 L (ts++ks)=Q9 L ts++Q9 L ks
 |[],ks=>rfl
 |t::ts,ks=>by simp[Q9,B0C (ts:=ts)]
theorem B9C{L:Sl}:∀{ts:List Nat}{s:Nat},s∈ts->D5 L s∈Q9 L ts
 |t::ts,s,h=>by
  rcases I9.1 h with rfl|h
  ·simp[Q9]
  ·simp[Q9,B9C h]
theorem A82{n nb:Nat}{L:Sl}{os:List AO}{ts ks:List Nat}{vs ws:List AV}{os2:List AO}(h1:vs=Q9 L ts)(h2:ws=Q9 L ks)(m:Nat)(hm:nb<=m)(ho:os.take m=os2)
  (hb:vs.all (λv=>v.bndB m)=true) (hb2:ws.all (λv=>v.bndB m)=true) (hb3:os2.all (λo=>o.bndB m)=true):j8 n nb (D5 L) os (D5 (O5 ts vs++O5 ks ws)) os2:=by
 subst ho
 have e:O5 ts vs++O5 ks ws=O5 (ts++ks) (vs++ws):=(B0N (by rw[h1,B9B])).symm
 rw[e]
 have hv:vs++ws=Q9 L (ts++ks):=by rw[B0C,h1,h2]
 refine D3y m hm (λt=>?_) (λo ho=>M7 (O3.1 hb3 o ho))
 rcases B8o (L:=L) t hv with h|⟨h3,h4⟩
 ·exact .inl h
 ·refine .inr ⟨h4,B64 ?_⟩
  have hmem:=B9C (L:=L) h3
  rw[<- hv] at hmem
  rcases P0.1 hmem with h|h
  ·exact O3.1 hb _ h
  ·exact O3.1 hb2 _ h
theorem F3{A:Type}{P:Program}{n nb:Nat}{cd:IC}{N:Sl->List AO->Prop}{E0:Nat->Sl->List AO->Prop}{R:Sl->List AO->Prop}{L:Sl}{os:List AO}{m:Nat}(hm:P.follows .mixedOrders=true)(ts ks:List Nat)(vs:A->List AV)(So:A->List AO)(φ:A->Prop)(μ:A->Nat)(a0:A)(hmm:m=os.length)(hnb:Nat.ble nb m=true)
  (hv:vs a0=Q9 L ts) (ho:os.take m=So a0) (hb:∀a,φ a->(vs a).all (λv=>v.bndB m)=true/\(So a).all (λo=>o.bndB m)=true) (hb2:(Q9 L ks).all (λv=>v.bndB m)=true) (h0:φ a0)
  (step:Go (A00 L ks λws=>∀a,φ a->Go (A88 ts (vs a) (O5 ks ws) λL3=>xI P n nb cd (λL' os'=>A00 L' ts λvs'=>A00 L' ks λws'=>w5 os' m λos2=>∃a',vs a'=vs'/\ws=ws'/\So a'=os2/\μ a'<μ a/\φ a') E0 R L3 (So a)))):j6 P n nb cd N E0 R L os:=by
 have step:=A3a.1 step
 refine⟨?_⟩
 refine B7V hm (λx:A=>D5 (O5 ts (vs x)++O5 ks (Q9 L ks))) (λx=>So x) (λx=>φ x) (λx=>μ x) a0 h0 ?_ ?_
 ·exact A82 hv rfl m (P2 hnb) ho (hb a0 h0).1 hb2 (hb a0 h0).2
 ·intro x hx
  have:=B0M.1 (step x hx)
  refine A3j (K:=⟨λL' os'=>A00 L' ts λvs'=>A00 L' ks λws'=>w5 os' m λos2=>∃a',vs a'=vs'/\Q9 L ks=ws'/\So a'=os2/\μ a'<μ x/\φ a',E0,R⟩) ⟨λL' os' h=>?_,λi L' os' h=>⟨L',rfl,h⟩,λL' os' h=>⟨L',rfl,h⟩⟩ this
  have h:=A20.1 (A3a.1 (A3a.1 h))
  obtain⟨a',h1,h2,h3,h4,h5⟩:=h
  exact⟨a',h5,h4,by rw[h2];exact A82 h1 rfl m (P2 hnb) h3.symm (hb a' h5).1 (by rw[<- h2];exact hb2) (hb a' h5).2⟩
theorem I8{A:Type}{B:Type}{P:Program}{n nb:Nat}{cd:IC}{N:Sl->List AO->Prop}{E0:Nat->Sl->List AO->Prop}{R:Sl->List AO->Prop}{L:Sl}{os:List AO}{m:Nat}(hm:P.follows .mixedOrders=true)(ts ks:List Nat)(vs:A->B->List AV)(So:A->B->List AO)(φ:A->B->Prop)(μ:A->B->Nat)(a0:A)(b0:B)(hmm:m=os.length)(hnb:Nat.ble nb m=true)
  (hv:vs a0 b0=Q9 L ts) (ho:os.take m=So a0 b0) (hb:∀a b,φ a b->(vs a b).all (λv=>v.bndB m)=true/\(So a b).all (λo=>o.bndB m)=true) (hb2:(Q9 L ks).all (λv=>v.bndB m)=true) (h0:φ a0 b0)
  (step:Go (A00 L ks λws=>∀a b,φ a b->Go (A88 ts (vs a b) (O5 ks ws) λL3=>xI P n nb cd (λL' os'=>A00 L' ts λvs'=>A00 L' ks λws'=>w5 os' m λos2=>∃a' b',vs a' b'=vs'/\ws=ws'/\So a' b'=os2/\μ a' b'<μ a b/\φ a' b') E0 R L3 (So a b)))):j6 P n nb cd N E0 R L os:=by
 have step:=A3a.1 step
 refine⟨?_⟩
 refine B7V hm (λx:(A×B)=>D5 (O5 ts (vs x.1 x.2)++O5 ks (Q9 L ks))) (λx=>So x.1 x.2) (λx=>φ x.1 x.2) (λx=>μ x.1 x.2) (a0,b0) h0 ?_ ?_
 ·exact A82 hv rfl m (P2 hnb) ho (hb a0 b0 h0).1 hb2 (hb a0 b0 h0).2
 ·intro x hx
  have:=B0M.1 (step x.1 x.2 hx)
  refine A3j (K:=⟨λL' os'=>A00 L' ts λvs'=>A00 L' ks λws'=>w5 os' m λos2=>∃a' b',vs a' b'=vs'/\Q9 L ks=ws'/\So a' b'=os2/\μ a' b'<μ x.1 x.2/\φ a' b',E0,R⟩) ⟨λL' os' h=>?_,λi L' os' h=>⟨L',rfl,h⟩,λL' os' h=>⟨L',rfl,h⟩⟩ this
  have h:=A20.1 (A3a.1 (A3a.1 h))
  obtain⟨a',b',h1,h2,h3,h4,h5⟩:=h
  exact⟨(a',b'),h5,h4,by rw[h2];exact A82 h1 rfl m (P2 hnb) h3.symm (hb a' b' h5).1 (by rw[<- h2];exact hb2) (hb a' b' h5).2⟩
theorem s0{P:Program}{n nb:Nat}{cd:IC}{N:Sl->List AO->Prop}{E0:Nat->Sl->List AO->Prop}{R:Sl->List AO->Prop}{L:Sl}{os:List AO}(t sz:Nat)(hsz:Nat.blt 0 sz=true)(ht:D5 L t=.d .nil)
  (k:Go (n9 os 0 λm=>Z8 os [.arr [] sz 0 true] λos'=>j6 P n nb cd N E0 R ((t,.arr m 0)::L) os')):j6 P n nb cd N E0 R L os:=by
 have k:=t6.1 (A1i k)
 have hw:=D3u (n:=n) (nb:=nb) (ρ:=D5 L) (os:=os) t sz (A1J Nat.zero_lt_one (P2 hsz)) ht
 rw[B0a] at hw
 refine⟨λcode hc c M G w a hR=>?_⟩
 obtain⟨M',G',hR'⟩:=hw c M G w a hR
 exact k.h code hc c M' G' w a hR'
end Go.Bi
