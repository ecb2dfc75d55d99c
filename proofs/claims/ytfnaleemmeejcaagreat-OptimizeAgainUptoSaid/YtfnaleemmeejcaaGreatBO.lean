/- The code: what it does to abstract states, loops, the return, contracts of functions. No condition. -/
import Derived.Test.YtfnaleemmeejcaaGreatBN2
import Derived.Scope
set_option linter.unusedVariables false
namespace Go.Bi
set_option linter.unusedSectionVars false
variable [M6]
structure Kt where
 norm:D7->List AO->Prop
 exit:Nat->D7->List AO->Prop
 ret:D7->List AO->Prop
def post(n nb:Nat)(c:Ctx)(K:Kt):Exit->Act->World->Prop
 |.normal,a,w=>A10 n nb c K.norm a w
 |.exit id,a,w=>A10 n nb c (K.exit id) a w
 |.ret,a,w=>A10 n nb c K.ret a w
 |_,_,_=>False
def Tri(P:Program)(n nb:Nat)(ic:IC)(K:Kt)(ρ:D7)(os:List AO):Prop:=
 ∀code,cC P n code=some ic->∀(c:Ctx) M G w a,Z5 n nb c M G os w ρ a->code.wp P (post n nb c K) a w
def b8(P:Program)(n nb:Nat):IC->Kt->D7->List AO->Prop
 |.skip,K,ρ,os=>K.norm ρ os
 |.region is,K,ρ,os=>A2B P is ρ os K.norm
 |.dreg h ps is,K,ρ,os=>∃T:List P0,T.length=is.length/\A6M ps T=true/\i9 P (is.map (D0.at os.length)) T (List.range is.length) ρ (os++List.replicate h .hole) K.norm
 |.seq x y,K,ρ,os=>b8 P n nb x {K with norm:=λρ os=>b8 P n nb y K ρ os} ρ os
 |.cond c x y,K,ρ,os=>match C1 ρ c with
  |.d (.bool b)=>(b=true->b8 P n nb x K ρ os)/\(b=false->b8 P n nb y K ρ os)
  |_=>False
 |.block id x,K,ρ,os=>b8 P n nb x {K with exit:=λi=>if i=id then K.norm else K.exit i} ρ os
 |.loop x,K,ρ,os=>Tri P n nb (.loop x) K ρ os
 |.exit id,K,ρ,os=>K.exit id ρ os
 |.ret,K,ρ,os=>K.ret ρ os
section
variable {P:Program}{n nb:Nat}
theorem E1a{is:List D0}:is.length=is.length/\∀(i:Nat) o0 o,is[i]?=some o0->is[i]?=some o->A19 o0.op o.op/\o.guard=o0.guard/\o.dst=o0.dst:=
 ⟨rfl,λi o0 o h0 h1=>by rw[h0] at h1;cases h1;exact⟨.inl rfl,rfl,rfl⟩⟩
theorem C3p(ow ap:C2->Bool)(br:List (Nat×Nat×C2)->Bool):∀(is:List D0)(k:Nat),(Q7 ow ap br is k).length=is.length/\∀(i:Nat) o0 o,is[i]?=some o0->(Q7 ow ap br is k)[i]?=some o->
  (o.guard=o0.guard/\o.dst=o0.dst)/\A19 o0.op o.op
 |[],k=>⟨rfl,λi o0 o h=>by simp at h⟩
 |o1::is,k=>by
  have step:∀(o2:D0) (k':Nat),Q7 ow ap br (o1::is) k=o2::Q7 ow ap br is k'->(o2.guard=o1.guard/\o2.dst=o1.dst)/\A19 o1.op o2.op->
    (Q7 ow ap br (o1::is) k).length=(o1::is).length/\∀(i:Nat) o0 o,(o1::is)[i]?=some o0->(Q7 ow ap br (o1::is) k)[i]?=some o->(o.guard=o0.guard/\o.dst=o0.dst)/\A19 o0.op o.op:=by
   intro o2 k' he hq
   obtain⟨h1,h2⟩:=C3p ow ap br is k'
   rw[he]
   refine⟨by simp[h1],λi o0 o h0 h=>?_⟩
   cases i with
   |zero=>simp at h0 h;subst h0;subst h;exact hq
   |succ i=>exact h2 i o0 o (by simpa using h0) (by simpa using h)
  have hh:Q7 ow ap br (o1::is) k=match o1.op with
   |.alloc zs=>{o1 with op:=.alloca k zs}::Q7 ow ap br is (k+1)
   |.box n x=>{o1 with op:=.boxa k n x}::Q7 ow ap br is (k+1)
   |.calld f args=>if ow f then {o1 with op:=.calln k f args}::Q7 ow ap br is (k+1) else if ap f then {o1 with op:=.callo f args}::Q7 ow ap br is k else {o1 with op:=.callp f args}::Q7 ow ap br is k
   |.bsld n sz zs ps=>if br ps then {o1 with op:=.bslr k n sz zs ps}::Q7 ow ap br is (k+1) else o1::Q7 ow ap br is k
   |_=>o1::Q7 ow ap br is k:=rfl
  cases hop:o1.op with
  |alloc zs=>exact step {o1 with op:=.alloca k zs} (k+1) (by rw[hh,hop]) ⟨⟨rfl,rfl⟩,.inr (.inl ⟨zs,k,hop,rfl⟩)⟩
  |box m x=>exact step {o1 with op:=.boxa k m x} (k+1) (by rw[hh,hop]) ⟨⟨rfl,rfl⟩,.inr (.inr (.inl ⟨m,x,k,hop,rfl⟩))⟩
  |calld f args=>
   by_cases hw:ow f=true
   ·exact step {o1 with op:=.calln k f args} (k+1) (by rw[hh,hop];simp only[hw,if_true]) ⟨⟨rfl,rfl⟩,.inr (.inr (.inr (.inr (.inl ⟨f,args,k,hop,rfl⟩))))⟩
   ·by_cases hap:ap f=true
    ·exact step {o1 with op:=.callo f args} k (by rw[hh,hop];simp only[if_neg hw,if_pos hap]) ⟨⟨rfl,rfl⟩,.inr (.inr (.inr (.inr (.inr (.inl ⟨f,args,hop,rfl⟩)))))⟩
    ·exact step {o1 with op:=.callp f args} k (by rw[hh,hop];simp only[if_neg hw,if_neg hap]) ⟨⟨rfl,rfl⟩,.inr (.inr (.inr (.inl ⟨f,args,hop,rfl⟩)))⟩
  |bsld m sz zs ps=>
   by_cases hw:br ps=true
   ·exact step {o1 with op:=.bslr k m sz zs ps} (k+1) (by rw[hh,hop];simp only[hw,if_true]) ⟨⟨rfl,rfl⟩,.inr (.inr (.inr (.inr (.inr (.inr (.inl ⟨m,sz,zs,ps,k,hop,rfl⟩))))))⟩
   ·exact step o1 k (by rw[hh,hop];simp only[if_neg hw]) ⟨⟨rfl,rfl⟩,.inl rfl⟩
  |_=>exact step o1 k (by rw[hh,hop]) ⟨⟨rfl,rfl⟩,.inl rfl⟩
def IK.at(b:Nat):IK->IK
 |.alloca k zs=>.alloca (b+k) zs
 |.boxa k n x=>.boxa (b+k) n x
 |.calln k f args=>.calln (b+k) f args
 |.bslr k n sz zs ps=>.bslr (b+k) n sz zs ps
 |k=>k
theorem B21(b:Nat)(o:D0):(o.at b).guard=o.guard/\(o.at b).dst=o.dst/\(o.at b).op=o.op.at b:=by
 obtain⟨d,g,op⟩:=o
 cases op<;>exact⟨rfl,rfl,rfl⟩
theorem A6C(b:Nat)(o:D0):(o.at b).looks=o.looks/\(o.at b).op.det=o.op.det/\(o.at b).op.rd=o.op.rd/\(o.at b).op.wr=o.op.wr:=by
 obtain⟨d,g,op⟩:=o
 cases op<;>exact⟨rfl,rfl,rfl,rfl⟩
theorem E19(b:Nat){k0 k:IK}(h:A19 k0 k)(ht:k0.tag<=4):A19 k0 (k.at b):=by
 rcases h with rfl|⟨zs,id,rfl,rfl⟩|⟨n,x,id,rfl,rfl⟩|⟨f,args,rfl,rfl⟩|⟨f,args,id,rfl,rfl⟩|⟨f,args,rfl,rfl⟩|⟨n,sz,zs,ps,id,rfl,rfl⟩|⟨f,args,rfl,rfl⟩
 ·refine .inl ?_
  cases k<;>first|rfl|(simp only[IK.tag] at ht;omega)
 ·exact .inr (.inl ⟨_,_,rfl,rfl⟩)
 ·exact .inr (.inr (.inl ⟨_,_,_,rfl,rfl⟩))
 ·exact .inr (.inr (.inr (.inl ⟨_,_,rfl,rfl⟩)))
 ·exact .inr (.inr (.inr (.inr (.inl ⟨_,_,_,rfl,rfl⟩))))
 ·exact .inr (.inr (.inr (.inr (.inr (.inl ⟨_,_,rfl,rfl⟩)))))
 ·exact .inr (.inr (.inr (.inr (.inr (.inr (.inl ⟨_,_,_,_,_,rfl,rfl⟩))))))
 ·exact .inr (.inr (.inr (.inr (.inr (.inr (.inr ⟨_,_,rfl,rfl⟩))))))
theorem C1p(b:Nat)(x y:D0):(x.at b).apart (y.at b)=x.apart y/\(x.at b).apartS (y.at b)=x.apartS y:=by
 obtain⟨a1,a2,a3,a4⟩:=A6C b x
 obtain⟨b1,b2,b3,b4⟩:=A6C b y
 unfold D0.apart D0.apartS
 rw[a1,a2,a3,a4,b1,b2,b3,b4,(B21 b x).2.1,(B21 b y).2.1]
 exact⟨rfl,rfl⟩
theorem D79(b:Nat)(is:List D0)(i:Nat):(is.map (D0.at b)).getD i default=(is.getD i default).at b:=by
 rw[H6,H6,I7]
 cases is[i]? with
 |none=>rfl
 |some o=>rfl
theorem C1q(b:Nat)(ops:List Oper)(is:List D0)(ps:List (Nat×Nat)):A3T ops (is.map (D0.at b)) ps=A3T ops is ps:=by
 unfold A3T
 simp only[D79,(C1p b _ _).1,(C1p b _ _).2,D3,List.all_map]
 congr 2
 congr 1
 funext o
 simp only[Function.comp,(A6C b o).2.1]
theorem D8t{M:D6}{G:Gh}{os:List AO}{w:World}(he:C8 M G os w):∀k,C8 M G (os++List.replicate k .hole) w/\F9 M G os w M G (os++List.replicate k .hole) w
 |0=>by simp only[List.replicate_zero,W2];exact⟨he,F9.refl ..⟩
 |k+1=>by
  have hget:∀(i:Nat) o,(os++List.replicate (k+1) AO.hole)[i]?=some o->os[i]?=some o\/o=.hole:=λi o h=>by
   by_cases hi:i<os.length
   ·rw[P8 hi] at h;exact .inl h
   ·rw[W8 (by omega)] at h
    exact .inr (List.eq_of_mem_replicate (C3 h))
  have hlv:∀i,H1 (os++List.replicate (k+1) AO.hole) i->H1 os i:=λi ⟨o,ho,hl⟩=>by
   rcases hget i o ho with h|rfl
   ·exact⟨o,h,hl⟩
   ·cases hl
  have hup:∀(i:Nat) o,os[i]?=some o->(os++List.replicate (k+1) AO.hole)[i]?=some o:=λi o h=>by
   rw[P8 (B3.1 h).1];exact h
  have hs:F9 M G os w M G (os++List.replicate (k+1) AO.hole) w:={
   sys:=rfl,tape:=rfl,output:=rfl,size:=D4 _,frame:=λ_ _ _=>rfl,grow:=λ_ _ h=>h,fresh:=λ_ _ h=>.inl h
   own:=λi hi=>.inr ⟨i,hlv i hi,rfl⟩
   keep:=λi o ho=>P2.same (hup i o ho) rfl rfl}
  refine⟨⟨he.mem,λid o ho=>?_,λi j hi hj=>he.inj i j (hlv i hi) (hlv j hj),λi x v hi hx hb=>?_,A2v hs he.glb⟩,hs⟩
  ·rcases hget id o ho with h|rfl
   ·exact OR.since hs (he.obj id o h) rfl rfl rfl (λ_ _=>rfl)
   ·trivial
  ·obtain⟨es,sz',frz,nl,h1,h2⟩:=he.sep i x v (hlv i hi) hx hb
   exact⟨es,sz',frz,nl,hup i _ h1,h2⟩
theorem D8c{ops:Array Oper}{id:Nat}{is0:List D0}{ps:List (Nat×Nat)}{ow ap:C2->Bool}{br:List (Nat×Nat×C2)->Bool}(hm:P.follows .mixedOrders=true)(hc:ops.toList.mapM (cOp P n true ops.toList)=some is0)(hd:A3T ops.toList (Q7 ow ap br is0 0) ps=true){K:Kt}{ρ:D7}{os:List AO}{T:List P0}
  (hT:T.length=(Q7 ow ap br is0 0).length) (hp:A6M ps T=true) (h:i9 P ((Q7 ow ap br is0 0).map (D0.at os.length)) T (List.range (Q7 ow ap br is0 0).length) ρ (os++List.replicate (A1W ow br is0) .hole) K.norm)
  {c:Ctx} {M:D6} {G:Gh} {w:World} {a:Act} (hR:Z5 n nb c M G os w ρ a):(Code.region id ops true).wp P (post n nb c K) a w:=by
 have hlen:is0.length=ops.size:=by have:=(A5M hc).1;simpa using this
 obtain⟨g1,g2⟩:=C3p ow ap br is0 0
 have hlen2:((Q7 ow ap br is0 0).map (D0.at os.length)).length=ops.size:=by rw[D3,g1,hlen]
 have hdet:∀o∈(Q7 ow ap br is0 0).map (D0.at os.length),o.op.det=true:=by
  have hd':=hd
  rw[<- C1q os.length] at hd'
  unfold A3T at hd'
  simp only[J9,K8] at hd'
  exact hd'.1.1
 refine wp_region_draw λt=>?_
 obtain⟨n1,n2⟩:=D8t hR.env (A1W ow br is0)
 have hR':Z5 n nb c M G (os++List.replicate (A1W ow br is0) .hole) w.drew ρ a:={
  env:=n1.drew,since:=(hR.since.trans n2).trans (A4T ..),tmps:=λs=>(hR.tmps s).since n2,size:=hR.size,defers:=hR.defers,base:=hR.base}
 refine A7y (is:=(Q7 ow ap br is0 0).map (D0.at os.length)) (w:=w.drew) hc ⟨by rw[D3,g1],λi o0 o h0 ho=>?_⟩ (λa w h=>h) _ hR' (C4h (T:=T) hdet ?_)
 ·rw[I7,J3] at ho
  obtain⟨o1,h1,rfl⟩:=ho
  obtain⟨⟨k1,k2⟩,k3⟩:=g2 i o0 o1 h0 h1
  obtain⟨j1,j2,j3⟩:=B21 os.length o1
  refine⟨?_,j1.trans k1,j2.trans k2⟩
  rw[j3]
  refine E19 _ k3 ?_
  have:=(A5M hc).2 i (ops.toList[i]'(by have:=(B3.1 h0).1;simpa[hlen] using this)) (F1 _)
  obtain⟨y,hy,hco⟩:=this
  rw[h0] at hy;cases hy
  exact D7s (C1C hco).1
 ·simp only[Region.schedule,hm,Bool.true_or,if_true,Region.linearise]
  refine E1x hlen2 (by rw[hT,D3]) (by rw[C1q];exact hd) hp K.norm ops.size t _ ρ _ (by simp) ?_ (λi hi hl=>?_) ?_
  ·have:(left ops.size (Array.replicate ops.size false)).length<=(List.range ops.size).length:=A1D _ _
   simpa using this
  ·simp[hi] at hl
  ·have:left ops.size (Array.replicate ops.size false)=List.range ops.size:=by
    unfold left
    rw[A54]
    intro i hi
    have:=A2g.1 hi
    simp[this]
   rw[this,<- hlen,<- g1]
   exact h
theorem E2d(b:List Nat)(is:List D0):(A5Z b is).length=is.length/\∀(i:Nat) o0 o,is[i]?=some o0->(A5Z b is)[i]?=some o->A19 o0.op o.op/\o.guard=o0.guard/\o.dst=o0.dst:=by
 refine⟨by simp[A5Z],λi o0 o h0 h=>?_⟩
 unfold A5Z at h
 rw[List.getElem?_mapIdx,h0,A18] at h
 cases h
 obtain⟨d,g,op⟩:=o0
 cases op with
 |calld f args=>
  show A19 _ (B3F b is i ⟨d,g,.calld f args⟩).op/\_
  unfold B3F
  dsimp only
  split
  ·exact⟨.inr (.inr (.inr (.inr (.inr (.inr (.inr ⟨_,_,rfl,rfl⟩)))))),rfl,rfl⟩
  ·exact⟨.inl rfl,rfl,rfl⟩
 |_=>exact⟨.inl rfl,rfl,rfl⟩
theorem C4x{ops:Array Oper}{draw:Bool}{id:Nat}{is:List D0}(hm:P.follows .mixedOrders=true){is0:List D0}(hc:ops.toList.mapM (cOp P n draw ops.toList)=some is0)(hpl:is.length=is0.length/\∀(i:Nat) o0 o,is0[i]?=some o0->is[i]?=some o->A19 o0.op o.op/\o.guard=o0.guard/\o.dst=o0.dst)(hd:draw=true->A5t ops.toList is=true){K:Kt}{ρ:D7}{os:List AO}(h:A2B P is ρ os K.norm)
  {c:Ctx} {M:D6} {G:Gh} {w:World} {a:Act} (hR:Z5 n nb c M G os w ρ a):(Code.region id ops draw).wp P (post n nb c K) a w:=by
 have hlen:is.length=ops.size:=by have:=(A5M hc).1;rw[hpl.1];simpa using this
 have hall:n6 P is (List.range ops.size) ρ os K.norm:=by rw[<- hlen];exact E11 h
 cases draw with
 |false=>exact wp_region (A7y hc hpl (λa w h=>h) _ hR hall)
 |true=>
  refine wp_region_draw λt=>?_
  have hR':Z5 n nb c M G os w.drew ρ a:={
   env:=hR.env.drew,since:=hR.since.trans (A4T ..),tmps:=hR.tmps,size:=hR.size,defers:=hR.defers,base:=hR.base}
  refine A7y (w:=w.drew) hc hpl (λa w h=>h) _ hR' ?_
  simp only[Region.schedule,hm,Bool.true_or,if_true,Region.linearise]
  refine E1w hlen (hd rfl) K.norm ops.size t _ ρ os (by simp) ?_ (λi hi hl=>?_) ?_
  ·have:(left ops.size (Array.replicate ops.size false)).length<=(List.range ops.size).length:=A1D _ _
   simpa using this
  ·simp[hi] at hl
  ·have:left ops.size (Array.replicate ops.size false)=List.range ops.size:=by
    unfold left
    rw[A54]
    intro i hi
    have:=A2g.1 hi
    simp[this]
   rw[this]
   exact hall
theorem C4w{ops:Array Oper}{draw:Bool}{id:Nat}{is:List D0}(hm:P.follows .mixedOrders=true)(hc:ops.toList.mapM (cOp P n draw ops.toList)=some is)(hd:draw=true->A9d ops.toList is=true){K:Kt}{ρ:D7}{os:List AO}(h:A2B P is ρ os K.norm)
  {c:Ctx} {M:D6} {G:Gh} {w:World} {a:Act} (hR:Z5 n nb c M G os w ρ a):(Code.region id ops draw).wp P (post n nb c K) a w:=
 C4x hm hc E1a (λe=>D8b (hd e)) h hR
theorem E1f{c:Ctx}{K K':Kt}(h1:∀ρ os,K.norm ρ os->K'.norm ρ os)(h2:∀i ρ os,K.exit i ρ os->K'.exit i ρ os)(h3:∀ρ os,K.ret ρ os->K'.ret ρ os){e:Exit}{a:Act}{w:World}(h:post n nb c K e a w):post n nb c K' e a w:=by
 cases e with
 |normal=>obtain⟨M,G,os,ρ,hR,hk⟩:=h;exact⟨M,G,os,ρ,hR,h1 _ _ hk⟩
 |exit id=>obtain⟨M,G,os,ρ,hR,hk⟩:=h;exact⟨M,G,os,ρ,hR,h2 _ _ _ hk⟩
 |ret=>obtain⟨M,G,os,ρ,hR,hk⟩:=h;exact⟨M,G,os,ρ,hR,h3 _ _ hk⟩
 |_=>exact h
theorem Tri.mono{ic:IC}{K K':Kt}{ρ:D7}{os:List AO}(h:Tri P n nb ic K ρ os)(h1:∀ρ os,K.norm ρ os->K'.norm ρ os)(h2:∀i ρ os,K.exit i ρ os->K'.exit i ρ os)(h3:∀ρ os,K.ret ρ os->K'.ret ρ os):Tri P n nb ic K' ρ os:=
 λcode hc c M G w a hR=>wp_mono (h code hc c M G w a hR) λ_ _ _ hp=>E1f h1 h2 h3 hp
theorem A87(hm:P.follows .mixedOrders=true):∀(code:Code)(ic:IC),cC P n code=some ic->∀(K:Kt)(ρ:D7)(os:List AO),b8 P n nb ic K ρ os->∀(c:Ctx) M G w a,Z5 n nb c M G os w ρ a->code.wp P (post n nb c K) a w:=by
 intro code
 induction code with
 |skip=>
  intro ic hc K ρ os h c M G w a hR
  simp only[cC] at hc
  cases hc
  exact wp_skip ⟨M,G,os,ρ,hR,h⟩
 |region id ops draw=>
  intro ic hc K ρ os h c M G w a hR
  simp only[cC] at hc
  split at hc
  ·rename_i is his
   split at hc
   ·rename_i hdr
    split at hc
    ·rename_i hok
     cases hc
     unfold C4k at hok
     rw[J9] at hok
     exact C4x hm his (E2d _ _) (λ_=>hok.2) h hR
    split at hc
    ·rename_i hok
     cases hc
     exact C4w hm his (λ_=>hok.2.2) h hR
    ·split at hc
     ·rename_i hok2
      cases hc
      obtain⟨T,h1,h2,h3⟩:=h
      subst hdr
      exact D8c hm his hok2 h1 h2 h3 hR
     ·cases hc
   ·rename_i hdr
    cases hc
    exact C4w hm his (λe=>absurd e hdr) h hR
  ·cases hc
 |seq x y ihx ihy=>
  intro ic hc K ρ os h c M G w a hR
  simp only[cC] at hc
  split at hc
  ·rename_i x' y' hx hy
   cases hc
   simp only[b8] at h
   refine wp_seq (wp_mono (ihx x' hx _ ρ os h c M G w a hR) λe a' w' hp=>?_)
   cases e with
   |normal=>
    obtain⟨M',G',os',ρ',hR',hk⟩:=hp
    exact ihy y' hy K ρ' os' hk c M' G' w' a' hR'
   |exit i=>exact hp
   |ret=>exact hp
   |_=>exact hp
  ·cases hc
 |cond cnd x y ihx ihy=>
  intro ic hc K ρ os h c M G w a hR
  simp only[cC] at hc
  split at hc
  ·rename_i c' x' y' h1 hx hy
   cases hc
   simp only[b8] at h
   have e1:=I5 hR.tmps h1
   split at h
   ·rename_i b hb
    rw[hb] at e1
    exact wp_cond_split (A4X e1) (λht=>ihx x' hx K ρ os (h.1 ht) c M G w a hR) (λhf=>ihy y' hy K ρ os (h.2 hf) c M G w a hR)
   ·exact h.elim
  ·cases hc
 |block id x ih=>
  intro ic hc K ρ os h c M G w a hR
  simp only[cC] at hc
  obtain⟨x',hx,rfl⟩:=U1 hc
  simp only[b8] at h
  refine wp_block (wp_mono (ih x' hx _ ρ os h c M G w a hR) λe a' w' hp=>?_)
  cases e with
  |exit i=>
   obtain⟨M',G',os',ρ',hR',hk⟩:=hp
   simp only[Exit.inBlock]
   dsimp only at hk
   split
   ·rename_i hi
    rw[if_pos hi] at hk
    exact⟨M',G',os',ρ',hR',hk⟩
   ·rename_i hi
    rw[if_neg hi] at hk
    exact⟨M',G',os',ρ',hR',hk⟩
  |normal=>exact hp
  |ret=>exact hp
  |_=>exact hp
 |loop x ih=>
  intro ic hc K ρ os h c M G w a hR
  simp only[cC] at hc
  obtain⟨x',hx,rfl⟩:=U1 hc
  simp only[b8] at h
  exact h (.loop x) (by simp only[cC,hx];rfl) c M G w a hR
 |exit id=>
  intro ic hc K ρ os h c M G w a hR
  simp only[cC] at hc
  cases hc
  exact wp_exit ⟨M,G,os,ρ,hR,h⟩
 |ret=>
  intro ic hc K ρ os h c M G w a hR
  simp only[cC] at hc
  cases hc
  exact wp_ret ⟨M,G,os,ρ,hR,h⟩
 |scope x ih=>
  intro ic hc K ρ os h c M G w a hR
  simp only[cC] at hc
  refine wp_scope_straight (wp_mono (ih ic hc K ρ os h c M G w a hR) λe a' w' hp=>?_)
  cases e<;>first|exact hp|exact hp.elim
 |label l=>intro ic hc;simp[cC] at hc
 |goto l=>intro ic hc;simp[cC] at hc
 |rangeFunc f ps x y ihx ihy=>intro ic hc;simp[cC] at hc
 |refuse why=>intro ic hc;simp[cC] at hc
def A0l(n nb:Nat)(ρ:D7)(os:List AO)(ρ':D7)(os':List AO):Prop:=
 ∀(c:Ctx) M G w a,Z5 n nb c M G os w ρ a->∃M' G',Z5 n nb c M' G' os' w ρ' a
theorem A0l.refl{ρ:D7}{os:List AO}:A0l n nb ρ os ρ os:=λc M G w a h=>⟨M,G,h⟩
theorem A0l.trans{ρ ρ1 ρ2:D7}{os os1 os2:List AO}(h:A0l n nb ρ os ρ1 os1)(k:A0l n nb ρ1 os1 ρ2 os2):A0l n nb ρ os ρ2 os2:=
 λc M G w a hR=>let ⟨M1,G1,h1⟩:=h c M G w a hR;k c M1 G1 w a h1
theorem A9G{α:Type}(hm:P.follows .mixedOrders=true){ic:IC}{K:Kt}{ρ:D7}{os:List AO}(Sρ:α->D7)(So:α->List AO)(φ:α->Prop)(μ:α->Nat)(x0:α)(h0:φ x0)(hw:A0l n nb ρ os (Sρ x0) (So x0))
  (step:∀x,φ x->b8 P n nb ic {K with norm:=λρ' os'=>∃y,φ y/\μ y<μ x/\A0l n nb ρ' os' (Sρ y) (So y)} (Sρ x) (So x)):Tri P n nb (.loop ic) K ρ os:=by
 have body_ok:∀(body:Code),cC P n body=some ic->∀(c:Ctx) M G w a,Z5 n nb c M G os w ρ a->(Code.loop body).wp P (post n nb c K) a w:=by
  intro body hic c M G w a hR
  obtain⟨M1,G1,hR1⟩:=hw c M G w a hR
  have key:∀k x a w M G,φ x->μ x=k->Z5 n nb c M G (So x) w (Sρ x) a->∀(b:Frame) (kk:List Item) (cs:List Frame),
    ∃e a' w',post n nb c K e a' w'/\Arrives P (lone (b.at a (.code body::.inLoop body::kk)) cs w) b kk cs e a' w':=by
   intro k
   induction k using Nat.strongRecOn with
   |_ k ih=>
    intro x a w M G hx hk hR b kk cs
    obtain⟨e,a1,w1,hq,harr⟩:=A87 hm body ic hic _ _ _ (step x hx) c M G w a hR b (.inLoop body::kk) cs
    cases e with
    |normal=>
     obtain⟨M',G',os',ρ',hR',y,hy,hlt,hwk⟩:=hq
     obtain⟨M2,G2,hR2⟩:=hwk c M' G' w1 a1 hR'
     obtain⟨e2,a2,w2,hq2,harr2⟩:=ih (μ y) (by omega) y a1 w1 M2 G2 hy rfl hR2 b kk cs
     exact⟨e2,a2,w2,hq2,.of_steps (Steps.trans harr (.one step_inLoop)) harr2⟩
    |exit id=>exact⟨.exit id,a1,w1,hq,.pass (x:=.inLoop body) rfl (λ_ _=>.inl (by simp)) harr⟩
    |ret=>exact⟨.ret,a1,w1,hq,.pass (x:=.inLoop body) rfl (λ_ _=>.inl (by simp)) harr⟩
    |_=>exact hq.elim
  intro b kk cs
  obtain⟨e,a',w',hq,harr⟩:=key _ x0 a w M1 G1 h0 rfl hR1 b kk cs
  exact⟨e,a',w',hq,.of_steps (.one step_loop) harr⟩
 intro code
 induction code with
 |loop body ih=>
  intro hc c M G w a hR
  simp only[cC] at hc
  obtain⟨ic',hic,he⟩:=U1 hc
  cases he
  exact body_ok body hic c M G w a hR
 |scope x ih=>
  intro hc c M G w a hR
  simp only[cC] at hc
  refine wp_scope_straight (wp_mono (ih hc c M G w a hR) λe a' w' hp=>?_)
  cases e<;>first|exact hp|exact hp.elim
 |skip=>intro hc;simp[cC] at hc
 |region id ops draw=>intro hc;simp only[cC] at hc;split at hc<;>(try split at hc)<;>(try split at hc)<;>(try split at hc)<;>(try split at hc)<;>cases hc
 |seq x y=>intro hc;simp only[cC] at hc;split at hc<;>cases hc
 |cond cnd x y=>intro hc;simp only[cC] at hc;split at hc<;>cases hc
 |block id x=>intro hc;simp only[cC] at hc;obtain⟨_,_,he⟩:=U1 hc;cases he
 |exit id=>intro hc;simp[cC] at hc
 |ret=>intro hc;simp[cC] at hc
 |label l=>intro hc;simp[cC] at hc
 |goto l=>intro hc;simp[cC] at hc
 |rangeFunc f ps x y=>intro hc;simp[cC] at hc
 |refuse why=>intro hc;simp[cC] at hc
end
end Go.Bi
