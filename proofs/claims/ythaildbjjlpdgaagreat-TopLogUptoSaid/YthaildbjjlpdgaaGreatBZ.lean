/- The evaluator of code: sound; loops; the words of the walk. No condition. -/
import Derived.Test.YthaildbjjlpdgaaGreatBY
set_option linter.unusedVariables false
namespace Go.Bi
set_option linter.unusedSectionVars false
variable [Globs]
def CnK:Bool->(Sl->List AO->Prop)->(Sl->List AO->Prop)->Sl->List AO->Prop
 |true,X,_=>X
 |false,_,Y=>Y
structure KX where
 norm:Sl->List AO->Prop
 exit:Nat->Sl->List AO->Prop
 ret:Sl->List AO->Prop
def toK(K:KX):Kt:={norm:=λρ os=>∃L,ρ=ofL L/\K.norm L os,exit:=λi ρ os=>∃L,ρ=ofL L/\K.exit i L os,ret:=λρ os=>∃L,ρ=ofL L/\K.ret L os}
def updX(d:Option Nat)(v:AV)(L:Sl):Sl:=match d with
 |some t=>(t,v)::L
 |none=>L
theorem updX_eq{d:Option Nat}{v:AV}{L:Sl}:ofL (updX d v L)=updo d v (ofL L):=by
 cases d with
 |none=>rfl
 |some t=>exact(ofL_cons t v L).symm
theorem ofL_same{t:Nat}{v:AV}{L:Sl}(h:ofL L t=v):ofL ((t,v)::L)=ofL L:=by
 funext s
 simp only[ofL]
 cases hb:Nat.beq s t with
 |true=>rw[Nat.eq_of_beq_eq_true hb];exact h.symm
 |false=>rfl
def gX(L:Sl)(g:Option (Nat×Bool))(yes no:Sl->Prop):Prop:=
 match g with
 |none=>yes L
 |some (t,w)=>match ofL L t with
  |.d (.bool b)=>Cn w (Cn b (yes ((t,.d (.bool true))::L)) (no ((t,.d (.bool false))::L))) (Cn b (no ((t,.d (.bool true))::L)) (yes ((t,.d (.bool false))::L)))
  |.tup []=>no L
  |_=>False
theorem gX_ok{L:Sl}{g:Option (Nat×Bool)}{yes no:Sl->Prop}{y' n':Prop}(hy:∀L',ofL L'=ofL L->yes L'->y')(hn:∀L',ofL L'=ofL L->no L'->n')(h:gX L g yes no):gI (ofL L) g y' n':=by
 cases g with
 |none=>exact hy L rfl h
 |some p=>
  obtain⟨t,w⟩:=p
  simp only[gX] at h
  simp only[gI]
  split at h
  ·rename_i b e
   rw[e]
   cases w<;>cases b
   ·exact⟨λ_=>hy _ (ofL_same e) h,λe=>by cases e⟩
   ·exact⟨λe=>(by cases e),λ_=>hn _ (ofL_same e) h⟩
   ·exact⟨λe=>(by cases e),λ_=>hn _ (ofL_same e) h⟩
   ·exact⟨λ_=>hy _ (ofL_same e) h,λe=>(by cases e)⟩
  ·rename_i e;rw[e];exact hn L rfl h
  ·exact h.elim
def xStep(P:Program)(o:IOp)(L:Sl)(os:List AO)(K:Sl->List AO->Prop):Prop:=
 gX L o.guard (λL=>xOp P L os (λr os'=>K (updX o.dst r L) os') o.op) (λL=>K (updX o.dst (.tup []) L) os)
theorem xStep_ok{P:Program}{o:IOp}{L:Sl}{os:List AO}{K:Sl->List AO->Prop}{K':Rho->List AO->Prop}(hk:∀L os,K L os->K' (ofL L) os)(h:xStep P o L os K):stepI P o (ofL L) os K':=by
 refine gX_ok (λL' e h=>?_) (λL' e h=>?_) h
 ·rw[<- e]
  exact opI_mono (λr os' h=>by rw[<- updX_eq];exact hk _ _ h) (xOp_ok h)
 ·rw[<- e,<- updX_eq];exact hk _ _ h
def xOps(P:Program)(is:List IOp):Sl->List AO->(Sl->List AO->Prop)->Prop:=
 List.rec (motive:=λ_=>Sl->List AO->(Sl->List AO->Prop)->Prop) (λL os K=>K L os) (λo _ ih L os K=>xStep P o L os λL' os'=>ih L' os' K) is
theorem xOps_ok{P:Program}:∀{is:List IOp} {L:Sl} {os:List AO} {K:Sl->List AO->Prop} {K':Rho->List AO->Prop},(∀L os,K L os->K' (ofL L) os)->xOps P is L os K->opsI P is (ofL L) os K'
 |[],L,os,K,K',hk,h=>hk _ _ h
 |o::rest,L,os,K,K',hk,h=>xStep_ok (K':=λρ os=>opsI P rest ρ os K') (λL os h=>xOps_ok hk h) h
def arefK(v:AV)(K:List Nat->Prop):Prop:=match v with
 |.aptr id _ _ _=>K [id]
 |.rp id _ _ _=>K [id]
 |_=>K []
def srefK(v:AV)(K:List Nat->Prop):Prop:=match v with
 |.ptr id _=>K [id]
 |.aptr id _ _ _=>K [id]
 |.arr id _=>K [id]
 |.rs id _=>K [id]
 |.rp id _ _ _=>K [id]
 |.sub id _ _ _=>K [id]
 |_=>K []
theorem arefK_eq{v:AV}{K:List Nat->Prop}(h:arefK v K):K (aref v):=by cases v<;>exact h
theorem srefK_eq{v:AV}{K:List Nat->Prop}(h:srefK v K):K (sref v):=by cases v<;>exact h
def xAccX:XO->List AV->(Acc->Prop)->Prop
 |.apps ..,[s,_],K=>match s with
  |.arr id _=>K ([],some id)
  |_=>False
 |.appd ..,[_,x],K=>srefK x λR=>K (R,none)
 |.slu ..,x::_,K=>srefK x λR=>K (R,none)
 |.b2s,[x],K=>srefK x λR=>K (R,none)
 |e,_,K=>Cn e.rd False (K ([],none))
def xAcc(L:Sl)(K:Acc->Prop):IK->Prop
 |.faddr _ x=>xV L x λv=>arefK v λR=>K (R,none)
 |.nilck x=>xV L x λv=>arefK v λR=>K (R,none)
 |.ixarr _ _ x _=>xV L x λv=>arefK v λR=>K (R,none)
 |.eqnil _ x=>xV L x λv=>srefK v λR=>K (R,none)
 |.len x=>xV L x λv=>srefK v λR=>K (R,none)
 |.ixsl _ x _=>xV L x λv=>srefK v λR=>K (R,none)
 |.load _ _ x=>xV L x λv=>srefK v λR=>K (R,none)
 |.store _ x v=>xV L x λa=>match a with
  |.ptr id _=>K ([],some id)
  |.aptr id _ _ _=>xV L v λb=>Cn b.isDB (K ([],some id)) False
  |_=>False
 |.app _ _ s x=>xV L s λa=>match a with
  |.arr id _=>xV L x λb=>srefK b λR=>K (R,some id)
  |.rs id _=>xV L x λb=>srefK b λR=>K (R,some id)
  |_=>False
 |.alloca id _=>K ([],some id)
 |.boxa id _ _=>K ([],some id)
 |.calln id _ args=>xVs L args λvs=>match vs with
  |[]=>K ([],some id)
  |v::as=>match v with
   |.arr id0 _=>Cn (as.all AV.isDB) (K ([],some id0)) False
   |v=>Cn ((v::as).all AV.isDF) (K ([],some id)) False
 |.appn id _ _ s x=>xV L s λa=>match a with
  |.arr id0 _=>xV L x λb=>srefK b λR=>K (R,some id0)
  |.full _=>xV L x λb=>srefK b λR=>K (R,some id)
  |.d _=>xV L x λb=>srefK b λR=>K (R,some id)
  |_=>False
 |.ex e xs=>xVs L xs λvs=>xAccX e vs K
 |.callo _ args=>xVs L args λvs=>match vs with
  |[]=>K ([],none)
  |v::as=>match v with
   |.arr id _=>Cn (as.all AV.isDB) (K ([],some id)) False
   |v=>Cn ((v::as).all AV.isDB) (K ([],none)) False
 |.bslr id _ _ _ _=>K ([],some id)
 |.lkup _ _ _ _ m _=>xV L m λa=>match a with
  |.mp id=>K ([id,id+1],none)
  |_=>False
 |.mupd _ m _ _=>xV L m λa=>match a with
  |.mp id=>K ([],some id)
  |_=>False
 |.slsl _ x _ _=>xV L x λv=>Cn v.isDB (K ([],none)) False
 |.callp _ args=>xVs L args λvs=>match vs with
  |[]=>K ([],none)
  |v::as=>match v with
   |.ptr id _=>Cn (as.all AV.isDB) (K ([],some id)) False
   |v=>Cn ((v::as).all AV.isDB) (K ([],none)) False
 |.bsld _ _ _ ps=>xVs L (ps.map λp=>p.2.2) λvs=>Cn (vs.all AV.isDB) (K ([],none)) False
 |op=>Cn op.rd False (K ([],none))
theorem cn_true{b:Bool}{X:Prop}(h:Cn b False X):b=false/\X:=by cases b;exact⟨rfl,h⟩;exact h.elim
theorem accTriv{L:Sl}{K:Acc->Prop}{op:IK}(h0:xAcc L K op=Cn op.rd False (K ([],none)))(h1:accI (ofL L) op=if op.rd then none else some ([],none))(h:xAcc L K op):∃t,accI (ofL L) op=some t/\K t:=by
 rw[h0] at h
 obtain⟨h2,h3⟩:=cn_true h
 exact⟨([],none),by rw[h1,h2];rfl,h3⟩
theorem xAccX_ok{e:XO}{vs:List AV}{K:Acc->Prop}(h:xAccX e vs K):∃t,accX e vs=some t/\K t:=by
 unfold xAccX at h
 unfold accX
 split at h
 ·split at h
  ·exact⟨_,rfl,h⟩
  ·exact h.elim
 ·exact⟨_,rfl,srefK_eq (K:=λR=>K (R,none)) h⟩
 ·exact⟨_,rfl,srefK_eq (K:=λR=>K (R,none)) h⟩
 ·exact⟨_,rfl,srefK_eq (K:=λR=>K (R,none)) h⟩
 ·obtain⟨h2,h3⟩:=cn_true h
  simp only[h2]
  exact⟨_,rfl,h3⟩
theorem xAcc_ok{L:Sl}{K:Acc->Prop}{op:IK}(h:xAcc L K op):∃t,accI (ofL L) op=some t/\K t:=by
 cases op<;>first|exact accTriv rfl rfl h|skip
 case faddr a x=>exact⟨_,rfl,arefK_eq (K:=λR=>K (R,none)) (xV_ok h)⟩
 case nilck x=>exact⟨_,rfl,arefK_eq (K:=λR=>K (R,none)) (xV_ok h)⟩
 case ixarr a b x i=>exact⟨_,rfl,arefK_eq (K:=λR=>K (R,none)) (xV_ok h)⟩
 case eqnil a x=>exact⟨_,rfl,srefK_eq (K:=λR=>K (R,none)) (xV_ok h)⟩
 case len x=>exact⟨_,rfl,srefK_eq (K:=λR=>K (R,none)) (xV_ok h)⟩
 case ixsl a x i=>exact⟨_,rfl,srefK_eq (K:=λR=>K (R,none)) (xV_ok h)⟩
 case load a b x=>exact⟨_,rfl,srefK_eq (K:=λR=>K (R,none)) (xV_ok h)⟩
 case store a x v=>
  have h1:=xV_ok h
  simp only[accI]
  split at h1
  ·rename_i id off e;rw[e];exact⟨_,rfl,h1⟩
  ·rename_i id l i off e
   obtain⟨h2,h3⟩:=cn_false.1 (xV_ok h1)
   rw[e];simp only[h2,if_true]
   exact⟨_,rfl,h3⟩
  ·exact h1.elim
 case app a b s x=>
  have h1:=xV_ok h
  simp only[accI]
  split at h1
  ·rename_i id l e;rw[e];exact⟨_,rfl,srefK_eq (K:=λR=>K (R,some id)) (xV_ok h1)⟩
  ·rename_i id l e;rw[e];exact⟨_,rfl,srefK_eq (K:=λR=>K (R,some id)) (xV_ok h1)⟩
  ·exact h1.elim
 case slsl sz x lo hi=>
  obtain⟨h2,h3⟩:=cn_false.1 (xV_ok h)
  simp only[accI,h2,if_true]
  exact⟨_,rfl,h3⟩
 case callp f args=>
  have h1:=xVs_ok h
  simp only[accI]
  generalize hvs:args.map (evO (ofL L))=vs at h1 ⊢
  match vs,h1 with
  |[],h1=>exact⟨_,rfl,h1⟩
  |v::as,h1=>
   cases v with
   |ptr id off=>
    obtain⟨h2,h3⟩:=cn_false.1 h1
    simp only[h2,if_true]
    exact⟨_,rfl,h3⟩
   |_=>
    obtain⟨h2,h3⟩:=cn_false.1 h1
    simp only[h2,if_true]
    exact⟨_,rfl,h3⟩
 case bsld a b c ps=>
  obtain⟨h2,h3⟩:=cn_false.1 (xVs_ok h)
  rw[List.map_map] at h2
  simp only[accI]
  rw[if_pos (show(List.map (λp=>evO (ofL L) p.2.2) ps).all AV.isDB=true from h2)]
  exact⟨_,rfl,h3⟩
 case lkup sk ok g zs m k=>
  have h1:=xV_ok h
  simp only[accI]
  split at h1
  ·rename_i id e;rw[e];exact⟨_,rfl,h1⟩
  ·exact h1.elim
 case mupd sk m k v=>
  have h1:=xV_ok h
  simp only[accI]
  split at h1
  ·rename_i id e;rw[e];exact⟨_,rfl,h1⟩
  ·exact h1.elim
 case alloca id zs=>exact⟨_,rfl,h⟩
 case boxa id n x=>exact⟨_,rfl,h⟩
 case calln id f args=>
  have h1:=xVs_ok h
  simp only[accI]
  generalize hvs:args.map (evO (ofL L))=vs at h1 ⊢
  match vs,h1 with
  |[],h1=>exact⟨_,rfl,h1⟩
  |v::as,h1=>
   cases v with
   |arr id0 len=>
    obtain⟨h2,h3⟩:=cn_false.1 h1
    simp only[h2,if_true]
    exact⟨_,rfl,h3⟩
   |_=>
    obtain⟨h2,h3⟩:=cn_false.1 h1
    simp only[h2,if_true]
    exact⟨_,rfl,h3⟩
 case appn id a b s x=>
  have h1:=xV_ok h
  simp only[accI]
  split at h1
  ·rename_i id0 l e;rw[e];exact⟨_,rfl,srefK_eq (K:=λR=>K (R,some id0)) (xV_ok h1)⟩
  ·rename_i es e;rw[e];exact⟨_,rfl,srefK_eq (K:=λR=>K (R,some id)) (xV_ok h1)⟩
  ·rename_i d e;rw[e];exact⟨_,rfl,srefK_eq (K:=λR=>K (R,some id)) (xV_ok h1)⟩
  ·exact h1.elim
 case ex e xs=>exact xAccX_ok (xVs_ok h)
 case callo f args=>
  have h1:=xVs_ok h
  simp only[accI]
  generalize hvs:args.map (evO (ofL L))=vs at h1 ⊢
  match vs,h1 with
  |[],h1=>exact⟨_,rfl,h1⟩
  |v::as,h1=>
   cases v with
   |arr id len=>
    obtain⟨h2,h3⟩:=cn_false.1 h1
    simp only[h2,if_true]
    exact⟨_,rfl,h3⟩
   |_=>
    obtain⟨h2,h3⟩:=cn_false.1 h1
    simp only[h2,if_true]
    exact⟨_,rfl,h3⟩
 case bslr id n sz zs ps=>exact⟨_,rfl,h⟩
def xStepT(P:Program)(o:IOp)(L:Sl)(os:List AO)(acc:List Acc)(K:Sl->List AO->List Acc->Prop):Prop:=
 gX L o.guard (λL=>xAcc L (λt=>xOp P L os (λr os'=>K (updX o.dst r L) os' (t::acc)) o.op) o.op) (λL=>K (updX o.dst (.tup []) L) os (([],none)::acc))
theorem gX_cases{L:Sl}{g:Option (Nat×Bool)}{yes no:Sl->Prop}(h:gX L g yes no):(∃L',ofL L'=ofL L/\yes L'/\∀A B:Prop,A->gI (ofL L) g A B)\/(∃L',ofL L'=ofL L/\no L'/\∀A B:Prop,B->gI (ofL L) g A B):=by
 cases g with
 |none=>exact .inl ⟨L,rfl,h,λA B a=>a⟩
 |some p=>
  obtain⟨t,w⟩:=p
  simp only[gX] at h
  split at h
  ·rename_i b e
   have h1:∀A B:Prop,gI (ofL L) (some (t,w)) A B=((b=w->A)/\(b=!w->B)):=λA B=>by simp only[gI,e]
   cases w<;>cases b
   ·exact .inl ⟨_,ofL_same e,h,λA B a=>by rw[h1];exact⟨λ_=>a,λe=>by cases e⟩⟩
   ·exact .inr ⟨_,ofL_same e,h,λA B a=>by rw[h1];exact⟨λe=>(by cases e),λ_=>a⟩⟩
   ·exact .inr ⟨_,ofL_same e,h,λA B a=>by rw[h1];exact⟨λe=>(by cases e),λ_=>a⟩⟩
   ·exact .inl ⟨_,ofL_same e,h,λA B a=>by rw[h1];exact⟨λ_=>a,λe=>by cases e⟩⟩
  ·rename_i e
   exact .inr ⟨L,rfl,h,λA B a=>by simp only[gI,e];exact a⟩
  ·exact h.elim
theorem xStepT_ok{P:Program}{o:IOp}{L:Sl}{os:List AO}{acc:List Acc}{K:Sl->List AO->List Acc->Prop}(hd:o.op.det=true)(h:xStepT P o L os acc K) :
  ∃t r os' L',AccOK (ofL L) o t/\Gives P o (ofL L) os r os'/\ofL L'=updo o.dst r (ofL L)/\K L' os' (t::acc):=by
 rcases gX_cases h with ⟨L1,e,h,hg⟩|⟨L1,e,h,hg⟩
 ·obtain⟨t,h1,h2⟩:=xAcc_ok h
  obtain⟨r,os',h3,h4⟩:=opI_iff hd (xOp_ok h2)
  rw[e] at h1 h4
  exact⟨t,r,os',_,hg _ _ h1,hg _ _ h4,by rw[updX_eq,e],h3⟩
 ·exact⟨_,.tup [],os,_,hg _ _ trivial,hg _ _ ⟨rfl,rfl⟩,by rw[updX_eq,e],h⟩
def xOpsT(P:Program)(is:List IOp):Sl->List AO->List Acc->(Sl->List AO->List Acc->Prop)->Prop:=
 List.rec (motive:=λ_=>Sl->List AO->List Acc->(Sl->List AO->List Acc->Prop)->Prop) (λL os acc K=>K L os acc) (λo _ ih L os acc K=>xStepT P o L os acc λL os acc=>ih L os acc K) is
theorem xOpsT_ok{P:Program}{is:List IOp}{T0:List Acc}:∀{l:List IOp} {s:Nat} {L:Sl} {os:List AO} {acc:List Acc} {K:Sl->List AO->List Acc->Prop},(∀i,l[i]?=is[s+i]?)->(∀o∈l,o.op.det=true)->T0.length=s->
  xOpsT P l L os acc K->∃T:List Acc,T.length=l.length/\opsT P is (T0++T) (List.range' s l.length) (ofL L) os λρ os=>∃L,ρ=ofL L/\K L os (T.reverse++acc)
 |[],s,L,os,acc,K,hl,hd,hs,h=>⟨[],rfl,L,rfl,h⟩
 |o::l,s,L,os,acc,K,hl,hd,hs,h=>by
  obtain⟨t,r,os',L',h1,h2,h3,h4⟩:=xStepT_ok (K:=λL os acc=>xOpsT P l L os acc K) (hd o (by simp)) h
  obtain⟨T,h5,h6⟩:=xOpsT_ok (T0:=T0++[t]) (l:=l) (s:=s+1) (λi=>by have:=hl (i+1);rw[show s+(i+1)=s+1+i by omega] at this;simpa using this) (λo ho=>hd o (by simp[ho])) (by simp[hs]) (show xOpsT P l L' os' (t::acc) K from h4)
  refine⟨t::T,by simp[h5],?_⟩
  have ho:is[s]?=some o:=by have:=hl 0;simpa using this.symm
  rw[List.length_cons,List.range'_succ]
  have ht:(T0++t::T)[s]?=some t:=by rw[List.getElem?_append_right (by omega),hs,Nat.sub_self];rfl
  simp only[opsT,ho,ht]
  refine⟨h1,h2.step ?_⟩
  rw[<- h3]
  simpa using h6
structure LoopX(P:Program)(n nb:Nat)(c:IC)(N:Sl->List AO->Prop)(E:Nat->Sl->List AO->Prop)(R:Sl->List AO->Prop)(L:Sl)(os:List AO):Prop where
 h:Tri P n nb (.loop c) (toK ⟨N,E,R⟩) (ofL L) os
def xC(c:Opd)(X Y:Sl->List AO->Prop)(L:Sl)(os:List AO):Prop:=match c with
  |.t t=>match ofL L t with
   |.d (.bool b)=>Cn b (X ((t,.d (.bool true))::L) os) (Y ((t,.d (.bool false))::L) os)
   |_=>False
  |.c (.bool b)=>Cn b (X L os) (Y L os)
  |_=>False
def xI(P:Program)(n nb:Nat)(c:IC):(Sl->List AO->Prop)->(Nat->Sl->List AO->Prop)->(Sl->List AO->Prop)->Sl->List AO->Prop:=
 IC.rec (motive:=λ_=>(Sl->List AO->Prop)->(Nat->Sl->List AO->Prop)->(Sl->List AO->Prop)->Sl->List AO->Prop)
  (λN E R L os=>N L os)
  (λis N E R L os=>xOps P is L os N)
  (λh ps is N E R L os=>Cn (is.all λo=>o.op.det) (lenK os 0 λb=>appK os (List.replicate h .hole) λos'=>xOpsT P (is.map (IOp.at b)) L os' [] λL os acc=>Chk (chkT ps acc.reverse=true) (N L os)) False)
  (λ_ _ iha ihb N E R L os=>iha (λL os=>ihb N E R L os) E R L os)
  (λc _ _ ihx ihy N E R L os=>xC c (ihx N E R) (ihy N E R) L os)
  (λid _ iha N E R L os=>iha N (λi=>CnK (Nat.beq i id) N (E i)) R L os)
  (λc _ N E R L os=>LoopX P n nb c N E R L os)
  (λid N E R L os=>E id L os)
  (λN E R L os=>R L os) c
def KX.le(K:KX)(K':Kt):Prop:=(∀L os,K.norm L os->K'.norm (ofL L) os)/\(∀i L os,K.exit i L os->K'.exit i (ofL L) os)/\∀L os,K.ret L os->K'.ret (ofL L) os
theorem xI_ok{P:Program}{n nb:Nat}:∀{c:IC} {K:KX} {K':Kt} {L:Sl} {os:List AO},K.le K'->xI P n nb c K.norm K.exit K.ret L os->wpI P n nb c K' (ofL L) os:=by
 intro c
 induction c with
 |skip=>intro K K' L os hk h;exact hk.1 _ _ h
 |region is=>intro K K' L os hk h;exact xOps_ok hk.1 h
 |dreg hc ps is=>
  intro K K' L os hk h
  obtain⟨h1,h2⟩:=cn_false.1 h
  have h2:=appK_eq.1 (lenK0 h2)
  rw[List.all_eq_true] at h1
  obtain⟨T,h3,h4⟩:=xOpsT_ok (is:=is.map (IOp.at os.length)) (T0:=[]) (s:=0) (λi=>by rw[Nat.zero_add]) (λo ho=>by
   obtain⟨o',ho',rfl⟩:=List.mem_map.1 ho
   rw[(at_same _ _).2.1];exact h1 o' ho') rfl h2
  rw[List.length_map] at h3
  rw[List.length_map] at h4
  rw[List.nil_append,<- List.range_eq_range'] at h4
  -- the check holds wherever the run ends
  have hdet:∀o∈is.map (IOp.at os.length),o.op.det=true:=λo ho=>by
   obtain⟨o',ho',rfl⟩:=List.mem_map.1 ho
   rw[(at_same _ _).2.1];exact h1 o' ho'
  have hchk:chkT ps T=true:=opsT_end hdet (λρ os ⟨L,_,hh⟩=>by simpa using hh.1) h4
  refine⟨T,h3,hchk,opsT_mono hdet (λρ os ⟨L,e,hh⟩=>by rw[e];exact hk.1 _ _ hh.2) h4⟩
 |seq a b iha ihb=>
  intro K K' L os hk h
  exact iha (K:=⟨λL os=>xI P n nb b K.norm K.exit K.ret L os,K.exit,K.ret⟩) (K':={K' with norm:=λρ os=>wpI P n nb b K' ρ os}) ⟨λL os h=>ihb hk h,hk.2.1,hk.2.2⟩ h
 |cond c x y ihx ihy=>
  intro K K' L os hk h
  have h:xC c (xI P n nb x K.norm K.exit K.ret) (xI P n nb y K.norm K.exit K.ret) L os:=h
  unfold xC at h
  simp only[wpI]
  split at h
  ·rename_i t
   split at h
   ·rename_i b e
    simp only[evO]
    rw[e]
    obtain⟨h1,h2⟩:=cn_both.1 h
    refine⟨λhb=>?_,λhb=>?_⟩
    ·subst hb
     have:=ihx hk (h1 rfl)
     rwa [ofL_same e] at this
    ·subst hb
     have:=ihy hk (h2 rfl)
     rwa [ofL_same e] at this
   ·exact h.elim
  ·rename_i b
   obtain⟨h1,h2⟩:=cn_both.1 h
   exact⟨λhb=>ihx hk (h1 hb),λhb=>ihy hk (h2 hb)⟩
  ·exact h.elim
 |block id a ih=>
  intro K K' L os hk h
  refine ih (K:=⟨K.norm,λi=>CnK (Nat.beq i id) K.norm (K.exit i),K.ret⟩) (K':={K' with exit:=λi=>if i=id then K'.norm else K'.exit i}) ⟨hk.1,λi L os h=>?_,hk.2.2⟩ h
  dsimp only at h ⊢
  cases hb:Nat.beq i id with
  |true=>rw[hb] at h;rw[if_pos (Nat.eq_of_beq_eq_true hb)];exact hk.1 _ _ h
  |false=>rw[hb] at h;rw[if_neg (Nat.ne_of_beq_eq_false hb)];exact hk.2.1 _ _ _ h
 |loop c ih=>
  intro K K' L os hk h
  refine Tri.mono h.h (λρ os h=>?_) (λi ρ os h=>?_) (λρ os h=>?_)
  ·obtain⟨L,rfl,h⟩:=h;exact hk.1 _ _ h
  ·obtain⟨L,rfl,h⟩:=h;exact hk.2.1 _ _ _ h
  ·obtain⟨L,rfl,h⟩:=h;exact hk.2.2 _ _ h
 |exit id=>intro K K' L os hk h;exact hk.2.1 _ _ _ h
 |ret=>intro K K' L os hk h;exact hk.2.2 _ _ h
def xRes(L:Sl)(os:List AO):List RV->(List AV->Prop)->Prop
 |[],K=>K []
 |.t s::rs,K=>frc (ofL L s) λv=>xRes L os rs λl=>K (v::l)
 |.cell s m g::rs,K=>frc (ofL L s) λa=>xLoad os g m a λv=>xRes L os rs λl=>K (v::l)
theorem resI_mono{ρ:Rho}{os:List AO}:∀{rs:List RV} {K K':List AV->Prop},(∀l,K l->K' l)->resI ρ os rs K->resI ρ os rs K'
 |[],K,K',hk,h=>hk _ h
 |.t s::rs,K,K',hk,h=>resI_mono (rs:=rs) (λl=>hk _) h
 |.cell s m g::rs,K,K',hk,h=>by
  simp only[resI] at h ⊢
  obtain⟨r,h1,h2⟩:=loadI_iff h
  exact h2 _ (resI_mono (rs:=rs) (λl=>hk _) h1)
theorem xRes_ok{L:Sl}{os:List AO}:∀{rs:List RV} {K:List AV->Prop},xRes L os rs K->resI (ofL L) os rs K
 |[],K,h=>h
 |.t s::rs,K,h=>xRes_ok (rs:=rs) (frc_eq.1 h)
 |.cell s m g::rs,K,h=>by
  have:=xLoad_ok (frc_eq.1 h)
  simp only[resI]
  obtain⟨r,h1,h2⟩:=loadI_iff this
  exact h2 _ (xRes_ok (rs:=rs) h1)
def retP(rs:List RV)(r:AV)(L:Sl)(os:List AO):Prop:=xRes L os rs λl=>frzGsK os l λl' _=>match l' with
 |[v]=>v=r
 |l=>.tup l=r
theorem retP_ok{rs:List RV}{r:AV}{L:Sl}{os:List AO}(h:retP rs r L os):retI 0 (λr' os=>r'=r/\os=[]) rs (ofL L) os:=by
 refine resI_mono (λl h=>?_) (xRes_ok h)
 obtain⟨xs,os',h1,h2⟩:=frzGsK_ok h
 simp only[h1]
 refine⟨by simp,?_,by simp⟩
 split at h2
 ·exact h2
 ·rename_i hn
  unfold ret1
  split
  ·rename_i v;exact absurd rfl (hn v)
  ·exact h2
def retX(nb:Nat)(Q:AV->List AO->Prop)(rs:List RV)(L:Sl)(os:List AO):Prop:=xRes L os rs λl=>frzGsK os l λl' os'=>takeK os' nb λos2=>Chk (os2.all (λo=>o.bndB nb)=true) (match l' with
 |[v]=>Q v os2
 |l=>Q (.tup l) os2)
theorem retX_ok{nb:Nat}{Q:AV->List AO->Prop}{rs:List RV}{L:Sl}{os:List AO}(h:retX nb Q rs L os):retI nb Q rs (ofL L) os:=by
 refine resI_mono (λl h=>?_) (xRes_ok h)
 obtain⟨xs,os',h1,h2⟩:=frzGsK_ok h
 simp only[h1]
 obtain⟨h3,h4⟩:=takeK_eq.1 h2
 refine⟨λo ho=>bndo_of (List.all_eq_true.1 h3 o ho),?_⟩
 unfold ret1
 split at h4
 ·exact h4
 ·rename_i hn
  split
  ·rename_i v;exact absurd rfl (hn v)
  ·exact h4
theorem go_i{X:Prop}(h:X):Go X:=h
theorem go_o{X:Prop}(h:Go X):X:=h
theorem IsFn.go{P:Program}(hm:P.follows .mixedOrders=true){f n:Nat}{ic:IC}{rs:List RV}(h:IsFn P f n ic rs){args:List AV}(hargs:Nat.ble args.length n=true){r:AV}
  (hw:Go (xI P n 0 ic (retP rs r) (λ_ _ _=>False) (retP rs r) (argsL 0 args) [])):Pure P f args r:=
 h.walkP hm (Nat.le_of_ble_eq_true hargs) (xI_ok (K:=⟨retP rs r,λ_ _ _=>False,retP rs r⟩) ⟨λL os h=>retP_ok h,λ_ _ _ h=>h,λL os h=>retP_ok h⟩ hw)
theorem IsFn.goX{P:Program}(hm:P.follows .mixedOrders=true){f n:Nat}{ic:IC}{rs:List RV}(h:IsFn P f n ic rs){args:List AV}{bs:List AO}(hargs:Nat.ble args.length n=true){Q:AV->List AO->Prop}
  (hw:Go (xI P n bs.length ic (retX bs.length Q rs) (λ_ _ _=>False) (retX bs.length Q rs) (argsL 0 args) bs)):CallSpec P f args bs Q:=
 h.walk hm (Nat.le_of_ble_eq_true hargs) (xI_ok (K:=⟨retX bs.length Q rs,λ_ _ _=>False,retX bs.length Q rs⟩) ⟨λL os h=>retX_ok h,λ_ _ _ h=>h,λL os h=>retX_ok h⟩ hw)
section
variable {X Y:Prop}{p:Prop}
theorem k_dt{dp:Decidable p}(h:p)(k:Go X):Cn (decide p) X Y:=by rw[decide_eq_true h];exact k
theorem k_df{dp:Decidable p}(h:¬p)(k:Go Y):Cn (decide p) X Y:=by rw[decide_eq_false h];exact k
theorem k_d{dp:Decidable p}(h:p->Go X)(k:¬p->Go Y):Cn (decide p) X Y:=cn_both.2 ⟨λe=>h (of_decide_eq_true e),λe=>k (of_decide_eq_false e)⟩
theorem k_n{b:Bool}(h:Cn b Y X):Cn (!b) X Y:=by cases b<;>exact h
theorem k_a{a b:Bool}(h:Cn a (Cn b X Y) Y):Cn (a&&b) X Y:=by cases a<;>exact h
theorem k_o{a b:Bool}(h:Cn a X (Cn b X Y)):Cn (a||b) X Y:=by cases a<;>exact h
theorem k_bt{b:Bool}(h:b=true)(k:Go X):Cn b X Y:=by rw[h];exact k
theorem k_bf{b:Bool}(h:b=false)(k:Go Y):Cn b X Y:=by rw[h];exact k
theorem k_b{b:Bool}(h:b=true->Go X)(k:b=false->Go Y):Cn b X Y:=cn_both.2 ⟨h,k⟩
theorem k_chk(h:p)(k:Go X):Chk p X:=⟨h,k⟩
theorem k_wr{v:Int}{K:D->Prop}(h1:-9223372036854775808<=v)(h2:v<=9223372036854775807)(k:Go (K (.int .i64 v))):WrK .i64 v K:=by
 exact⟨by rw[wrap64 h1 h2];exact k⟩
theorem k_ww{t:IntKind}{v:Int}{K:D->Prop}(k:Go (K (.int t (t.wrap v)))):WrK t v K:=⟨k⟩
theorem k_sl{d:D}{es:List (List D)}{K:List (List D)->Prop}(h:SlD d es)(k:Go (K es)):GetSl d K:=⟨⟨es,h,k⟩⟩
theorem k_mg{sk:SK}{ok g:Bool}{zs:List D}{key:D}{kvs:List (D×AV)}{K:AV->Prop}{r:AV}(h0:mok sk key kvs)(h:lkR ok (zv g zs) (mget sk key kvs)=r)(k:Go (K r)):MGet sk ok g zs key kvs K:=⟨⟨h0,r,h,k⟩⟩
theorem k_mp'{sk:SK}{key:D}{v:AV}{kvs l:List (D×AV)}{K:List (D×AV)->Prop}(h0:mok sk key kvs)(h:mput sk key v kvs=l)(k:Go (K l)):MPut sk key v kvs K:=⟨⟨h0,by rw[h];exact k⟩⟩
theorem k_pc{P:Program}{g:FuncId}{as:List AV}{r:AV}{K:AV->Prop}(h:Pure P g as r)(k:Go (K r)):PureC P g as K:=⟨⟨r,h,k⟩⟩
theorem k_pn{P:Program}{g:FuncId}{as:List AV}{r:AV}{os:List AO}{K:AV->List AO->Prop}(h:Pure P g as r)(k:Go (K r os)):NewC P g as os K:=⟨pure_call h k⟩
theorem k_nc{P:Program}{g:FuncId}{as:List AV}{os:List AO}{Q K:AV->List AO->Prop}(h:CallSpec P g as [] Q)(k:∀r os2,Q r os2->Go (K (shA os.length r) (os++os2.map (shO os.length)))):NewC P g as os K:=⟨h.mono k⟩
theorem k_ow{P:Program}{g:FuncId}{as:List AV}{es:List (List D)}{sz:Nat}{nl:Bool}{K:List (List D)->Nat->Bool->Prop}(h:CallSpec P g as [] (λr os2=>r=.arr 0 es.length/\os2=[.arr es sz 0 nl]))(k:Go (K es sz nl)):OwnC P g as K:=⟨⟨es,sz,nl,h,k⟩⟩
theorem k_pr{P:Program}{g:FuncId}{as:List AV}{os:List AO}{r:AV}{K:AV->Prop}(h:CallSpec P g as os (λr' os2=>r'=r/\os2=os))(k:Go (K r)):PureR P g as os K:=⟨⟨r,h,k⟩⟩
theorem k_pa{P:Program}{g:FuncId}{id off:Nat}{ob:AO}{as:List AV}{r:AV}{ob':AO}{K:AV->AO->Prop}(h:∀os2:List AO,os2[id]?=some ob->CallSpec P g (.ptr id off::as) os2 (λr' os3=>r'=r/\os3=os2.set id ob'))(k:Go (K r ob')):PureA P g id off ob as K:=⟨⟨r,ob',h,k⟩⟩
theorem k_by{ns:List (List D)}{s:List UInt8}{K:List UInt8->Prop}(h:unbyte ns=some s)(k:Go (K s)):ByK ns K:=⟨⟨s,h,k⟩⟩
theorem k_md{sk:SK}{key:D}{kvs l:List (D×AV)}{K:List (D×AV)->Prop}(h0:mok sk key kvs)(h:mdelL sk key kvs=l)(k:Go (K l)):MDel sk key kvs K:=⟨⟨h0,by rw[h];exact k⟩⟩
theorem k_lk1{X Y:Prop}(k:Go X):LkA X Y:=⟨.inl k⟩
theorem k_lk2{X Y:Prop}(k:Go Y):LkA X Y:=⟨.inr k⟩
theorem k_caf{X Y:Prop}(k:Go X):CallA X Y:=⟨.inl k⟩
theorem k_cal{X Y:Prop}(k:Go Y):CallA X Y:=⟨.inr k⟩
theorem k_cs{P:Program}{g:FuncId}{as:List AV}{os:List AO}{Q K:AV->List AO->Prop}(h:CallSpec P g as os Q)(k:∀r os',Q r os'->Go (K r os')):CallW P g as os K:=⟨h.mono k⟩
theorem k_gc{α:Type}{cs:List α}{off:Nat}{c:α}{K:α->Prop}(h:cs[off]?=some c)(k:Go (K c)):Gn (Nat.blt off cs.length) (nthK cs off K):=by
 have:Nat.blt off cs.length=true:=Nat.ble_eq_true_of_le (List.getElem?_eq_some_iff.1 h).1
 rw[this];exact nthK_of h k
theorem k_gcs{α:Type}{cs l:List α}{off n:Nat}{K:List α->Prop}(h:(cs.drop off).take n=l)(h2:off+n<=cs.length)(k:Go (K l)):Gn (Nat.ble (off+n) cs.length) (dropK cs off λr=>takeK r n K):=by
 rw[Nat.ble_eq_true_of_le h2];subst h;exact dropK_eq.2 (takeK_eq.2 k)
theorem k_stc{α:Type}{cs vc:List α}{off n:Nat}{K:List α->Prop}(h2:off+n<=cs.length)(k:Go (K (setR cs off vc))):Gn (Nat.ble (off+n) cs.length) (setRK cs off vc K):=by
 rw[Nat.ble_eq_true_of_le h2];exact setRK_eq.2 k
theorem k_ste{α:Type}{cs vc l:List α}{off n:Nat}{K:List α->Prop}(h:setR cs off vc=l)(h2:off+n<=cs.length)(k:Go (K l)):Gn (Nat.ble (off+n) cs.length) (setRK cs off vc K):=by
 subst h;exact k_stc h2 k
theorem k_fz{os:List AO}{cs:List AV}{xs:List D}{K:List D->List AO->Prop}(h:cs=xs.map .d)(k:Go (K xs os)):frzCsK os cs K:=by
 subst h
 induction xs generalizing K with
 |nil=>exact k
 |cons x xs ih=>exact ih (K:=λl os=>K (x::l) os) k
theorem k_mp{α β:Type}{f:α->β}{l:List α}{K:List β->Prop}(k:Go (K (l.map f))):mapK f l K:=mapK_eq.2 k
theorem sld_cond{nl:Bool}{es:List (List D)}(h:nl=true->es=[]):SlD (CnD nl .nil (.sl es)) es:=by
 cases nl with
 |true=>exact .inl ⟨rfl,h rfl⟩
 |false=>exact .inr rfl
end
def valsOf(L:Sl):List Nat->List AV
 |[]=>[]
 |t::ts=>ofL L t::valsOf L ts
def zipS:List Nat->List AV->Sl
 |t::ts,v::vs=>(t,v)::zipS ts vs
 |_,_=>[]
def zipSK:List Nat->List AV->Sl->(Sl->Prop)->Prop
 |t::ts,v::vs,l,K=>zipSK ts vs l λr=>K ((t,v)::r)
 |_,_,l,K=>K l
theorem zipSK_eq:∀{ts:List Nat} {vs:List AV} {l:Sl} {K:Sl->Prop},zipSK ts vs l K↔K (zipS ts vs++l)
 |[],_,l,K=>Iff.rfl
 |_::_,[],l,K=>Iff.rfl
 |t::ts,v::vs,l,K=>zipSK_eq (ts:=ts) (vs:=vs) (K:=λr=>K ((t,v)::r))
def selK(L:Sl):List Nat->(List AV->Prop)->Prop
 |[],K=>K []
 |t::ts,K=>frc (ofL L t) λv=>selK L ts λr=>K (v::r)
theorem selK_eq{L:Sl}:∀{ts:List Nat} {K:List AV->Prop},selK L ts K↔K (valsOf L ts)
 |[],K=>Iff.rfl
 |t::ts,K=>by
  simp only[selK,frc_eq]
  exact selK_eq (ts:=ts) (K:=λr=>K (ofL L t::r))
theorem ofL_zip{L:Sl}:∀{ts:List Nat} {vs:List AV} (s:Nat),vs=valsOf L ts->ofL (zipS ts vs) s=.junk\/(s∈ts/\ofL (zipS ts vs) s=ofL L s)
 |[],vs,s,h=>.inl rfl
 |t::ts,[],s,h=>by cases h
 |t::ts,v::vs,s,h=>by
  injection h with h1 h2
  simp only[zipS,ofL]
  cases hb:Nat.beq s t with
  |true=>
   have:=Nat.eq_of_beq_eq_true hb
   subst this
   exact .inr ⟨by simp,h1⟩
  |false=>
   rcases ofL_zip (vs:=vs) s h2 with h|⟨h3,h4⟩
   ·exact .inl h
   ·exact .inr ⟨by simp[h3],h4⟩
theorem zipS_app:∀{ts:List Nat} {vs:List AV} {ks:List Nat} {ws:List AV},vs.length=ts.length->zipS (ts++ks) (vs++ws)=zipS ts vs++zipS ks ws
 |[],[],_,_,_=>rfl
 |t::ts,v::vs,ks,ws,h=>by
  simp only[List.cons_append,zipS]
  rw[zipS_app (by simpa using h)]
 |[],_::_,_,_,h=>by simp at h
 |_::_,[],_,_,h=>by simp at h
theorem valsOf_len{L:Sl}:∀{ts:List Nat},(valsOf L ts).length=ts.length
 |[]=>rfl
 |t::ts=>by simp[valsOf,valsOf_len (ts:=ts)]
theorem valsOf_app{L:Sl}:∀{ts ks:List Nat},valsOf L (ts++ks)=valsOf L ts++valsOf L ks
 |[],ks=>rfl
 |t::ts,ks=>by simp[valsOf,valsOf_app (ts:=ts)]
theorem valsOf_mem{L:Sl}:∀{ts:List Nat} {s:Nat},s∈ts->ofL L s∈valsOf L ts
 |t::ts,s,h=>by
  rcases List.mem_cons.1 h with rfl|h
  ·simp[valsOf]
  ·simp[valsOf,valsOf_mem h]
theorem weak_sel{n nb:Nat}{L:Sl}{os:List AO}{ts ks:List Nat}{vs ws:List AV}{os2:List AO}(h1:vs=valsOf L ts)(h2:ws=valsOf L ks)(m:Nat)(hm:nb<=m)(ho:os.take m=os2)
  (hb:vs.all (λv=>v.bndB m)=true) (hb2:ws.all (λv=>v.bndB m)=true) (hb3:os2.all (λo=>o.bndB m)=true):Weak n nb (ofL L) os (ofL (zipS ts vs++zipS ks ws)) os2:=by
 subst ho
 have e:zipS ts vs++zipS ks ws=zipS (ts++ks) (vs++ws):=(zipS_app (by rw[h1,valsOf_len])).symm
 rw[e]
 have hv:vs++ws=valsOf L (ts++ks):=by rw[valsOf_app,h1,h2]
 refine weak_take m hm (λt=>?_) (λo ho=>bndo_of (List.all_eq_true.1 hb3 o ho))
 rcases ofL_zip (L:=L) t hv with h|⟨h3,h4⟩
 ·exact .inl h
 ·refine .inr ⟨h4,bnd_of ?_⟩
  have hmem:=valsOf_mem (L:=L) h3
  rw[<- hv] at hmem
  rcases List.mem_append.1 hmem with h|h
  ·exact List.all_eq_true.1 hb _ h
  ·exact List.all_eq_true.1 hb2 _ h
theorem x_loop1{A:Type}{P:Program}{n nb:Nat}{cd:IC}{N:Sl->List AO->Prop}{E0:Nat->Sl->List AO->Prop}{R:Sl->List AO->Prop}{L:Sl}{os:List AO}{m:Nat}(hm:P.follows .mixedOrders=true)(ts ks:List Nat)(vs:A->List AV)(So:A->List AO)(φ:A->Prop)(μ:A->Nat)(a0:A)(hmm:m=os.length)(hnb:Nat.ble nb m=true)
  (hv:vs a0=valsOf L ts) (ho:os.take m=So a0) (hb:∀a,φ a->(vs a).all (λv=>v.bndB m)=true/\(So a).all (λo=>o.bndB m)=true) (hb2:(valsOf L ks).all (λv=>v.bndB m)=true) (h0:φ a0)
  (step:Go (selK L ks λws=>∀a,φ a->Go (zipSK ts (vs a) (zipS ks ws) λL3=>xI P n nb cd (λL' os'=>selK L' ts λvs'=>selK L' ks λws'=>takeK os' m λos2=>∃a',vs a'=vs'/\ws=ws'/\So a'=os2/\μ a'<μ a/\φ a') E0 R L3 (So a)))):LoopX P n nb cd N E0 R L os:=by
 have step:=selK_eq.1 step
 refine⟨?_⟩
 refine loop_rule hm (λx:A=>ofL (zipS ts (vs x)++zipS ks (valsOf L ks))) (λx=>So x) (λx=>φ x) (λx=>μ x) a0 h0 ?_ ?_
 ·exact weak_sel hv rfl m (Nat.le_of_ble_eq_true hnb) ho (hb a0 h0).1 hb2 (hb a0 h0).2
 ·intro x hx
  have:=zipSK_eq.1 (step x hx)
  refine xI_ok (K:=⟨λL' os'=>selK L' ts λvs'=>selK L' ks λws'=>takeK os' m λos2=>∃a',vs a'=vs'/\valsOf L ks=ws'/\So a'=os2/\μ a'<μ x/\φ a',E0,R⟩) ⟨λL' os' h=>?_,λi L' os' h=>⟨L',rfl,h⟩,λL' os' h=>⟨L',rfl,h⟩⟩ this
  have h:=takeK_eq.1 (selK_eq.1 (selK_eq.1 h))
  obtain⟨a',h1,h2,h3,h4,h5⟩:=h
  exact⟨a',h5,h4,by rw[h2];exact weak_sel h1 rfl m (Nat.le_of_ble_eq_true hnb) h3.symm (hb a' h5).1 (by rw[<- h2];exact hb2) (hb a' h5).2⟩
theorem x_loop2{A:Type}{B:Type}{P:Program}{n nb:Nat}{cd:IC}{N:Sl->List AO->Prop}{E0:Nat->Sl->List AO->Prop}{R:Sl->List AO->Prop}{L:Sl}{os:List AO}{m:Nat}(hm:P.follows .mixedOrders=true)(ts ks:List Nat)(vs:A->B->List AV)(So:A->B->List AO)(φ:A->B->Prop)(μ:A->B->Nat)(a0:A)(b0:B)(hmm:m=os.length)(hnb:Nat.ble nb m=true)
  (hv:vs a0 b0=valsOf L ts) (ho:os.take m=So a0 b0) (hb:∀a b,φ a b->(vs a b).all (λv=>v.bndB m)=true/\(So a b).all (λo=>o.bndB m)=true) (hb2:(valsOf L ks).all (λv=>v.bndB m)=true) (h0:φ a0 b0)
  (step:Go (selK L ks λws=>∀a b,φ a b->Go (zipSK ts (vs a b) (zipS ks ws) λL3=>xI P n nb cd (λL' os'=>selK L' ts λvs'=>selK L' ks λws'=>takeK os' m λos2=>∃a' b',vs a' b'=vs'/\ws=ws'/\So a' b'=os2/\μ a' b'<μ a b/\φ a' b') E0 R L3 (So a b)))):LoopX P n nb cd N E0 R L os:=by
 have step:=selK_eq.1 step
 refine⟨?_⟩
 refine loop_rule hm (λx:(A×B)=>ofL (zipS ts (vs x.1 x.2)++zipS ks (valsOf L ks))) (λx=>So x.1 x.2) (λx=>φ x.1 x.2) (λx=>μ x.1 x.2) (a0,b0) h0 ?_ ?_
 ·exact weak_sel hv rfl m (Nat.le_of_ble_eq_true hnb) ho (hb a0 b0 h0).1 hb2 (hb a0 b0 h0).2
 ·intro x hx
  have:=zipSK_eq.1 (step x.1 x.2 hx)
  refine xI_ok (K:=⟨λL' os'=>selK L' ts λvs'=>selK L' ks λws'=>takeK os' m λos2=>∃a' b',vs a' b'=vs'/\valsOf L ks=ws'/\So a' b'=os2/\μ a' b'<μ x.1 x.2/\φ a' b',E0,R⟩) ⟨λL' os' h=>?_,λi L' os' h=>⟨L',rfl,h⟩,λL' os' h=>⟨L',rfl,h⟩⟩ this
  have h:=takeK_eq.1 (selK_eq.1 (selK_eq.1 h))
  obtain⟨a',b',h1,h2,h3,h4,h5⟩:=h
  exact⟨(a',b'),h5,h4,by rw[h2];exact weak_sel h1 rfl m (Nat.le_of_ble_eq_true hnb) h3.symm (hb a' b' h5).1 (by rw[<- h2];exact hb2) (hb a' b' h5).2⟩
theorem x_loop3{A:Type}{B:Type}{C:Type}{P:Program}{n nb:Nat}{cd:IC}{N:Sl->List AO->Prop}{E0:Nat->Sl->List AO->Prop}{R:Sl->List AO->Prop}{L:Sl}{os:List AO}{m:Nat}(hm:P.follows .mixedOrders=true)(ts ks:List Nat)(vs:A->B->C->List AV)(So:A->B->C->List AO)(φ:A->B->C->Prop)(μ:A->B->C->Nat)(a0:A)(b0:B)(c0:C)(hmm:m=os.length)(hnb:Nat.ble nb m=true)
  (hv:vs a0 b0 c0=valsOf L ts) (ho:os.take m=So a0 b0 c0) (hb:∀a b c,φ a b c->(vs a b c).all (λv=>v.bndB m)=true/\(So a b c).all (λo=>o.bndB m)=true) (hb2:(valsOf L ks).all (λv=>v.bndB m)=true) (h0:φ a0 b0 c0)
  (step:Go (selK L ks λws=>∀a b c,φ a b c->Go (zipSK ts (vs a b c) (zipS ks ws) λL3=>xI P n nb cd (λL' os'=>selK L' ts λvs'=>selK L' ks λws'=>takeK os' m λos2=>∃a' b' c',vs a' b' c'=vs'/\ws=ws'/\So a' b' c'=os2/\μ a' b' c'<μ a b c/\φ a' b' c') E0 R L3 (So a b c)))):LoopX P n nb cd N E0 R L os:=by
 have step:=selK_eq.1 step
 refine⟨?_⟩
 refine loop_rule hm (λx:(A×B×C)=>ofL (zipS ts (vs x.1 x.2.1 x.2.2)++zipS ks (valsOf L ks))) (λx=>So x.1 x.2.1 x.2.2) (λx=>φ x.1 x.2.1 x.2.2) (λx=>μ x.1 x.2.1 x.2.2) (a0,b0,c0) h0 ?_ ?_
 ·exact weak_sel hv rfl m (Nat.le_of_ble_eq_true hnb) ho (hb a0 b0 c0 h0).1 hb2 (hb a0 b0 c0 h0).2
 ·intro x hx
  have:=zipSK_eq.1 (step x.1 x.2.1 x.2.2 hx)
  refine xI_ok (K:=⟨λL' os'=>selK L' ts λvs'=>selK L' ks λws'=>takeK os' m λos2=>∃a' b' c',vs a' b' c'=vs'/\valsOf L ks=ws'/\So a' b' c'=os2/\μ a' b' c'<μ x.1 x.2.1 x.2.2/\φ a' b' c',E0,R⟩) ⟨λL' os' h=>?_,λi L' os' h=>⟨L',rfl,h⟩,λL' os' h=>⟨L',rfl,h⟩⟩ this
  have h:=takeK_eq.1 (selK_eq.1 (selK_eq.1 h))
  obtain⟨a',b',c',h1,h2,h3,h4,h5⟩:=h
  exact⟨(a',b',c'),h5,h4,by rw[h2];exact weak_sel h1 rfl m (Nat.le_of_ble_eq_true hnb) h3.symm (hb a' b' c' h5).1 (by rw[<- h2];exact hb2) (hb a' b' c' h5).2⟩
theorem x_nil{P:Program}{n nb:Nat}{cd:IC}{N:Sl->List AO->Prop}{E0:Nat->Sl->List AO->Prop}{R:Sl->List AO->Prop}{L:Sl}{os:List AO}(t sz:Nat)(hsz:Nat.blt 0 sz=true)(ht:ofL L t=.d .nil)
  (k:Go (lenK os 0 λm=>appK os [.arr [] sz 0 true] λos'=>LoopX P n nb cd N E0 R ((t,.arr m 0)::L) os')):LoopX P n nb cd N E0 R L os:=by
 have k:=appK_eq.1 (lenK0 k)
 have hw:=weak_nil (n:=n) (nb:=nb) (ρ:=ofL L) (os:=os) t sz (Nat.lt_of_lt_of_le Nat.zero_lt_one (Nat.le_of_ble_eq_true hsz)) ht
 rw[ofL_cons] at hw
 refine⟨λcode hc c M G w a hR=>?_⟩
 obtain⟨M',G',hR'⟩:=hw c M G w a hR
 exact k.h code hc c M' G' w a hR'
end Go.Bi
