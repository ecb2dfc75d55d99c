/- The code: what it does to abstract states, loops, the return, contracts of functions. No condition. -/
import Derived.Test.YtfnaleemmeejcaaGreatBN2
import Derived.Scope
set_option linter.unusedVariables false
namespace Go.Bi
set_option linter.unusedSectionVars false
variable [N0]
structure Kt where
 norm:D5->List AO->Prop
 exit:Nat->D5->List AO->Prop
 ret:D5->List AO->Prop
def post(n nb:Nat)(c:u9)(K:Kt):Exit->Act->World->Prop
 |.normal,a,w=>A0H n nb c K.norm a w
 |.exit id,a,w=>A0H n nb c (K.exit id) a w
 |.ret,a,w=>A0H n nb c K.ret a w
 |_,_,_=>False
def Tri(P:Program)(n nb:Nat)(ic:IC)(K:Kt)(ρ:D5)(os:List AO):Prop:=
 ∀code,cC P n code=some ic->∀(c:u9) M G w a,Y7 n nb c M G os w ρ a->code.wp P (post n nb c K) a w
def Z3(P:Program)(n nb:Nat):IC->Kt->D5->List AO->Prop
 |.skip,K,ρ,os=>K.norm ρ os
 |.region is,K,ρ,os=>A2f P is ρ os K.norm
 |.dreg h ps is,K,ρ,os=>∃T:List P3,T.length=is.length/\A6v ps T=true/\e8 P (is.map (D0.at os.length)) T (List.range is.length) ρ (os++List.replicate h .hole) K.norm
 |.seq x y,K,ρ,os=>Z3 P n nb x {K with norm:=λρ os=>Z3 P n nb y K ρ os} ρ os
 |.cond c x y,K,ρ,os=>match C0 ρ c with
  |.d (.bool b)=>(b=true->Z3 P n nb x K ρ os)/\(b=false->Z3 P n nb y K ρ os)
  |_=>False
 |.block id x,K,ρ,os=>Z3 P n nb x {K with exit:=λi=>if i=id then K.norm else K.exit i} ρ os
 |.loop x,K,ρ,os=>Tri P n nb (.loop x) K ρ os
 |.exit id,K,ρ,os=>K.exit id ρ os
 |.ret,K,ρ,os=>K.ret ρ os
section
variable {P:Program}{n nb:Nat}
theorem D8E{is:List D0}:is.length=is.length/\∀(i:Nat) o0 o,is[i]?=some o0->is[i]?=some o->A0S o0.op o.op/\o.guard=o0.guard/\o.dst=o0.dst:=
 ⟨rfl,λi o0 o h0 h1=>by rw[h0] at h1;cases h1;exact⟨.inl rfl,rfl,rfl⟩⟩
theorem C22(ow ap:C1->Bool)(br:List (Nat×Nat×C1)->Bool):∀(is:List D0)(k:Nat),(Q3 ow ap br is k).length=is.length/\∀(i:Nat) o0 o,is[i]?=some o0->(Q3 ow ap br is k)[i]?=some o->
  (o.guard=o0.guard/\o.dst=o0.dst)/\A0S o0.op o.op
 |[],k=>⟨rfl,λi o0 o h=>by simp at h⟩
 |o1::is,k=>by
  have step:∀(o2:D0) (k':Nat),Q3 ow ap br (o1::is) k=o2::Q3 ow ap br is k'->(o2.guard=o1.guard/\o2.dst=o1.dst)/\A0S o1.op o2.op->
    (Q3 ow ap br (o1::is) k).length=(o1::is).length/\∀(i:Nat) o0 o,(o1::is)[i]?=some o0->(Q3 ow ap br (o1::is) k)[i]?=some o->(o.guard=o0.guard/\o.dst=o0.dst)/\A0S o0.op o.op:=by
   intro o2 k' he hq
   obtain⟨h1,h2⟩:=C22 ow ap br is k'
   rw[he]
   refine⟨by simp[h1],λi o0 o h0 h=>?_⟩
   cases i with
   |zero=>simp at h0 h;subst h0;subst h;exact hq
   |succ i=>exact h2 i o0 o (by simpa using h0) (by simpa using h)
  have hh:Q3 ow ap br (o1::is) k=match o1.op with
   |.alloc zs=>{o1 with op:=.alloca k zs}::Q3 ow ap br is (k+1)
   |.box n x=>{o1 with op:=.boxa k n x}::Q3 ow ap br is (k+1)
   |.calld f args=>if ow f then {o1 with op:=.calln k f args}::Q3 ow ap br is (k+1) else if ap f then {o1 with op:=.callo f args}::Q3 ow ap br is k else {o1 with op:=.callp f args}::Q3 ow ap br is k
   |.bsld n sz zs ps=>if br ps then {o1 with op:=.bslr k n sz zs ps}::Q3 ow ap br is (k+1) else o1::Q3 ow ap br is k
   |_=>o1::Q3 ow ap br is k:=rfl
  cases hop:o1.op with
  |alloc zs=>exact step {o1 with op:=.alloca k zs} (k+1) (by rw[hh,hop]) ⟨⟨rfl,rfl⟩,.inr (.inl ⟨zs,k,hop,rfl⟩)⟩
  |box m x=>exact step {o1 with op:=.boxa k m x} (k+1) (by rw[hh,hop]) ⟨⟨rfl,rfl⟩,.inr (.inr (.inl ⟨m,x,k,hop,rfl⟩))⟩
  |calld f args=>
   by_cases hw:ow f=true
   ·exact step {o1 with op:=.calln k f args} (k+1) (by rw[hh,hop];simp only[hw,if_true]) ⟨⟨rfl,rfl⟩,.inr (.inr (.inr (.inr (.inl ⟨f,args,k,hop,rfl⟩))))⟩
   ·by_cases hap:ap f=true
    ·exact step {o1 with op:=.callo f args} k (by rw[hh,hop];simp only[if_neg hw,if_pos hap]) ⟨⟨rfl,rfl⟩,.inr (.inr (.inr (.inr (.inr (.inl ⟨f,args,hop,rfl⟩)))))⟩
    ·exact step {o1 with op:=.callp f args} k (by rw[hh,hop];simp only[if_neg hw,if_neg hap]) ⟨⟨rfl,rfl⟩,.inr (.inr (.inr (.inl ⟨f,args,hop,rfl⟩)))⟩
  |bsld m sz zs ps=>
   by_cases hw:br ps=true
   ·exact step {o1 with op:=.bslr k m sz zs ps} (k+1) (by rw[hh,hop];simp only[hw,if_true]) ⟨⟨rfl,rfl⟩,.inr (.inr (.inr (.inr (.inr (.inr (.inl ⟨m,sz,zs,ps,k,hop,rfl⟩))))))⟩
   ·exact step o1 k (by rw[hh,hop];simp only[if_neg hw]) ⟨⟨rfl,rfl⟩,.inl rfl⟩
  |_=>exact step o1 k (by rw[hh,hop]) ⟨⟨rfl,rfl⟩,.inl rfl⟩
def IK.at(b:Nat):IK->IK
 |.alloca k zs=>.alloca (b+k) zs
 |.boxa k n x=>.boxa (b+k) n x
 |.calln k f args=>.calln (b+k) f args
 |.bslr k n sz zs ps=>.bslr (b+k) n sz zs ps
 |k=>k
theorem B1w(b:Nat)(o:D0):(o.at b).guard=o.guard/\(o.at b).dst=o.dst/\(o.at b).op=o.op.at b:=by
 obtain⟨d,g,op⟩:=o
 cases op<;>exact⟨rfl,rfl,rfl⟩
theorem A6l(b:Nat)(o:D0):(o.at b).looks=o.looks/\(o.at b).op.det=o.op.det/\(o.at b).op.rd=o.op.rd/\(o.at b).op.wr=o.op.wr:=by
 obtain⟨d,g,op⟩:=o
 cases op<;>exact⟨rfl,rfl,rfl,rfl⟩
theorem D8D(b:Nat){k0 k:IK}(h:A0S k0 k)(ht:k0.tag<=4):A0S k0 (k.at b):=by
 rcases h with rfl|⟨zs,id,rfl,rfl⟩|⟨n,x,id,rfl,rfl⟩|⟨f,args,rfl,rfl⟩|⟨f,args,id,rfl,rfl⟩|⟨f,args,rfl,rfl⟩|⟨n,sz,zs,ps,id,rfl,rfl⟩|⟨f,args,rfl,rfl⟩
 ·refine .inl ?_
  cases k<;>first|rfl|(simp only[IK.tag] at ht;omega)
 ·exact .inr (.inl ⟨_,_,rfl,rfl⟩)
 ·exact .inr (.inr (.inl ⟨_,_,_,rfl,rfl⟩))
 ·exact .inr (.inr (.inr (.inl ⟨_,_,rfl,rfl⟩)))
 ·exact .inr (.inr (.inr (.inr (.inl ⟨_,_,_,rfl,rfl⟩))))
 ·exact .inr (.inr (.inr (.inr (.inr (.inl ⟨_,_,rfl,rfl⟩)))))
 ·exact .inr (.inr (.inr (.inr (.inr (.inr (.inl ⟨_,_,_,_,_,rfl,rfl⟩))))))
 ·exact .inr (.inr (.inr (.inr (.inr (.inr (.inr ⟨_,_,rfl,rfl⟩))))))
theorem C0e(b:Nat)(x y:D0):(x.at b).apart (y.at b)=x.apart y/\(x.at b).apartS (y.at b)=x.apartS y:=by
 obtain⟨a1,a2,a3,a4⟩:=A6l b x
 obtain⟨b1,b2,b3,b4⟩:=A6l b y
 unfold D0.apart D0.apartS
 rw[a1,a2,a3,a4,b1,b2,b3,b4,(B1w b x).2.1,(B1w b y).2.1]
 exact⟨rfl,rfl⟩
theorem D4E(b:Nat)(is:List D0)(i:Nat):(is.map (D0.at b)).getD i default=(is.getD i default).at b:=by
 rw[I4,I4,J1]
 cases is[i]? with
 |none=>rfl
 |some o=>rfl
theorem C0f(b:Nat)(ops:List Oper)(is:List D0)(ps:List (Nat×Nat)):A3t ops (is.map (D0.at b)) ps=A3t ops is ps:=by
 unfold A3t
 simp only[D4E,(C0e b _ _).1,(C0e b _ _).2,D8,List.all_map]
 congr 2
 congr 1
 funext o
 simp only[Function.comp,(A6l b o).2.1]
theorem D5X{M:D4}{G:Gh}{os:List AO}{w:World}(he:C9 M G os w):∀k,C9 M G (os++List.replicate k .hole) w/\G7 M G os w M G (os++List.replicate k .hole) w
 |0=>by simp only[List.replicate_zero,U9];exact⟨he,G7.refl ..⟩
 |k+1=>by
  have hget:∀(i:Nat) o,(os++List.replicate (k+1) AO.hole)[i]?=some o->os[i]?=some o\/o=.hole:=λi o h=>by
   by_cases hi:i<os.length
   ·rw[P8 hi] at h;exact .inl h
   ·rw[W4 (by omega)] at h
    exact .inr (List.eq_of_mem_replicate (C3 h))
  have hlv:∀i,H6 (os++List.replicate (k+1) AO.hole) i->H6 os i:=λi ⟨o,ho,hl⟩=>by
   rcases hget i o ho with h|rfl
   ·exact⟨o,h,hl⟩
   ·cases hl
  have hup:∀(i:Nat) o,os[i]?=some o->(os++List.replicate (k+1) AO.hole)[i]?=some o:=λi o h=>by
   rw[P8 (B4.1 h).1];exact h
  have hs:G7 M G os w M G (os++List.replicate (k+1) AO.hole) w:={
   sys:=rfl,tape:=rfl,output:=rfl,size:=D3 _,frame:=λ_ _ _=>rfl,grow:=λ_ _ h=>h,fresh:=λ_ _ h=>.inl h
   own:=λi hi=>.inr ⟨i,hlv i hi,rfl⟩
   keep:=λi o ho=>P4.same (hup i o ho) rfl rfl}
  refine⟨⟨he.mem,λid o ho=>?_,λi j hi hj=>he.inj i j (hlv i hi) (hlv j hj),λi x v hi hx hb=>?_,A29 hs he.glb⟩,hs⟩
  ·rcases hget id o ho with h|rfl
   ·exact OR.since hs (he.obj id o h) rfl rfl rfl (λ_ _=>rfl)
   ·trivial
  ·obtain⟨es,sz',frz,nl,h1,h2⟩:=he.sep i x v (hlv i hi) hx hb
   exact⟨es,sz',frz,nl,hup i _ h1,h2⟩
theorem D5H{ops:Array Oper}{id:Nat}{is0:List D0}{ps:List (Nat×Nat)}{ow ap:C1->Bool}{br:List (Nat×Nat×C1)->Bool}(hm:P.follows .mixedOrders=true)(hc:ops.toList.mapM (cOp P n true ops.toList)=some is0)(hd:A3t ops.toList (Q3 ow ap br is0 0) ps=true){K:Kt}{ρ:D5}{os:List AO}{T:List P3}
  (hT:T.length=(Q3 ow ap br is0 0).length) (hp:A6v ps T=true) (h:e8 P ((Q3 ow ap br is0 0).map (D0.at os.length)) T (List.range (Q3 ow ap br is0 0).length) ρ (os++List.replicate (A1F ow br is0) .hole) K.norm)
  {c:u9} {M:D4} {G:Gh} {w:World} {a:Act} (hR:Y7 n nb c M G os w ρ a):(Code.region id ops true).wp P (post n nb c K) a w:=by
 have hlen:is0.length=ops.size:=by have:=(A5u hc).1;simpa using this
 obtain⟨g1,g2⟩:=C22 ow ap br is0 0
 have hlen2:((Q3 ow ap br is0 0).map (D0.at os.length)).length=ops.size:=by rw[D8,g1,hlen]
 have hdet:∀o∈(Q3 ow ap br is0 0).map (D0.at os.length),o.op.det=true:=by
  have hd':=hd
  rw[<- C0f os.length] at hd'
  unfold A3t at hd'
  simp only[K7,L7] at hd'
  exact hd'.1.1
 refine wp_region_draw λt=>?_
 obtain⟨n1,n2⟩:=D5X hR.env (A1F ow br is0)
 have hR':Y7 n nb c M G (os++List.replicate (A1F ow br is0) .hole) w.drew ρ a:={
  env:=n1.drew,since:=(hR.since.trans n2).trans (A4x ..),tmps:=λs=>(hR.tmps s).since n2,size:=hR.size,defers:=hR.defers,base:=hR.base}
 refine A7d (is:=(Q3 ow ap br is0 0).map (D0.at os.length)) (w:=w.drew) hc ⟨by rw[D8,g1],λi o0 o h0 ho=>?_⟩ (λa w h=>h) _ hR' (C30 (T:=T) hdet ?_)
 ·rw[J1,J7] at ho
  obtain⟨o1,h1,rfl⟩:=ho
  obtain⟨⟨k1,k2⟩,k3⟩:=g2 i o0 o1 h0 h1
  obtain⟨j1,j2,j3⟩:=B1w os.length o1
  refine⟨?_,j1.trans k1,j2.trans k2⟩
  rw[j3]
  refine D8D _ k3 ?_
  have:=(A5u hc).2 i (ops.toList[i]'(by have:=(B4.1 h0).1;simpa[hlen] using this)) (F4 _)
  obtain⟨y,hy,hco⟩:=this
  rw[h0] at hy;cases hy
  exact D51 (C0n hco).1
 ·simp only[Region.schedule,hm,Bool.true_or,if_true,Region.linearise]
  refine D94 hlen2 (by rw[hT,D8]) (by rw[C0f];exact hd) hp K.norm ops.size t _ ρ _ (by simp) ?_ (λi hi hl=>?_) ?_
  ·have:(left ops.size (Array.replicate ops.size false)).length<=(List.range ops.size).length:=A0K _ _
   simpa using this
  ·simp[hi] at hl
  ·have:left ops.size (Array.replicate ops.size false)=List.range ops.size:=by
    unfold left
    rw[A63]
    intro i hi
    have:=A1X.1 hi
    simp[this]
   rw[this,<- hlen,<- g1]
   exact h
theorem D9I(b:List Nat)(is:List D0):(A5K b is).length=is.length/\∀(i:Nat) o0 o,is[i]?=some o0->(A5K b is)[i]?=some o->A0S o0.op o.op/\o.guard=o0.guard/\o.dst=o0.dst:=by
 refine⟨by simp[A5K],λi o0 o h0 h=>?_⟩
 unfold A5K at h
 rw[List.getElem?_mapIdx,h0,A0R] at h
 cases h
 obtain⟨d,g,op⟩:=o0
 cases op with
 |calld f args=>
  show A0S _ (B3e b is i ⟨d,g,.calld f args⟩).op/\_
  unfold B3e
  dsimp only
  split
  ·exact⟨.inr (.inr (.inr (.inr (.inr (.inr (.inr ⟨_,_,rfl,rfl⟩)))))),rfl,rfl⟩
  ·exact⟨.inl rfl,rfl,rfl⟩
 |_=>exact⟨.inl rfl,rfl,rfl⟩
theorem C3l{ops:Array Oper}{draw:Bool}{id:Nat}{is:List D0}(hm:P.follows .mixedOrders=true){is0:List D0}(hc:ops.toList.mapM (cOp P n draw ops.toList)=some is0)(hpl:is.length=is0.length/\∀(i:Nat) o0 o,is0[i]?=some o0->is[i]?=some o->A0S o0.op o.op/\o.guard=o0.guard/\o.dst=o0.dst)(hd:draw=true->A5b ops.toList is=true){K:Kt}{ρ:D5}{os:List AO}(h:A2f P is ρ os K.norm)
  {c:u9} {M:D4} {G:Gh} {w:World} {a:Act} (hR:Y7 n nb c M G os w ρ a):(Code.region id ops draw).wp P (post n nb c K) a w:=by
 have hlen:is.length=ops.size:=by have:=(A5u hc).1;rw[hpl.1];simpa using this
 have hall:j5 P is (List.range ops.size) ρ os K.norm:=by rw[<- hlen];exact D8u h
 cases draw with
 |false=>exact wp_region (A7d hc hpl (λa w h=>h) _ hR hall)
 |true=>
  refine wp_region_draw λt=>?_
  have hR':Y7 n nb c M G os w.drew ρ a:={
   env:=hR.env.drew,since:=hR.since.trans (A4x ..),tmps:=hR.tmps,size:=hR.size,defers:=hR.defers,base:=hR.base}
  refine A7d (w:=w.drew) hc hpl (λa w h=>h) _ hR' ?_
  simp only[Region.schedule,hm,Bool.true_or,if_true,Region.linearise]
  refine D93 hlen (hd rfl) K.norm ops.size t _ ρ os (by simp) ?_ (λi hi hl=>?_) ?_
  ·have:(left ops.size (Array.replicate ops.size false)).length<=(List.range ops.size).length:=A0K _ _
   simpa using this
  ·simp[hi] at hl
  ·have:left ops.size (Array.replicate ops.size false)=List.range ops.size:=by
    unfold left
    rw[A63]
    intro i hi
    have:=A1X.1 hi
    simp[this]
   rw[this]
   exact hall
theorem C3k{ops:Array Oper}{draw:Bool}{id:Nat}{is:List D0}(hm:P.follows .mixedOrders=true)(hc:ops.toList.mapM (cOp P n draw ops.toList)=some is)(hd:draw=true->A8O ops.toList is=true){K:Kt}{ρ:D5}{os:List AO}(h:A2f P is ρ os K.norm)
  {c:u9} {M:D4} {G:Gh} {w:World} {a:Act} (hR:Y7 n nb c M G os w ρ a):(Code.region id ops draw).wp P (post n nb c K) a w:=
 C3l hm hc D8E (λe=>D5G (hd e)) h hR
theorem D8I{c:u9}{K K':Kt}(h1:∀ρ os,K.norm ρ os->K'.norm ρ os)(h2:∀i ρ os,K.exit i ρ os->K'.exit i ρ os)(h3:∀ρ os,K.ret ρ os->K'.ret ρ os){e:Exit}{a:Act}{w:World}(h:post n nb c K e a w):post n nb c K' e a w:=by
 cases e with
 |normal=>obtain⟨M,G,os,ρ,hR,hk⟩:=h;exact⟨M,G,os,ρ,hR,h1 _ _ hk⟩
 |exit id=>obtain⟨M,G,os,ρ,hR,hk⟩:=h;exact⟨M,G,os,ρ,hR,h2 _ _ _ hk⟩
 |ret=>obtain⟨M,G,os,ρ,hR,hk⟩:=h;exact⟨M,G,os,ρ,hR,h3 _ _ hk⟩
 |_=>exact h
theorem Tri.mono{ic:IC}{K K':Kt}{ρ:D5}{os:List AO}(h:Tri P n nb ic K ρ os)(h1:∀ρ os,K.norm ρ os->K'.norm ρ os)(h2:∀i ρ os,K.exit i ρ os->K'.exit i ρ os)(h3:∀ρ os,K.ret ρ os->K'.ret ρ os):Tri P n nb ic K' ρ os:=
 λcode hc c M G w a hR=>wp_mono (h code hc c M G w a hR) λ_ _ _ hp=>D8I h1 h2 h3 hp
theorem A7N(hm:P.follows .mixedOrders=true):∀(code:Code)(ic:IC),cC P n code=some ic->∀(K:Kt)(ρ:D5)(os:List AO),Z3 P n nb ic K ρ os->∀(c:u9) M G w a,Y7 n nb c M G os w ρ a->code.wp P (post n nb c K) a w:=by
 intro code
 induction code with
 |skip=>
  intro ic hc K ρ os h c M G w a hR
  simp only[cC] at hc
  cases hc
  exact wp_skip ⟨M,G,os,ρ,hR,h⟩
 |region id ops draw=>
  intro ic hc K ρ os h c M G w a hR
  simp only[cC] at hc
  split at hc
  ·rename_i is his
   split at hc
   ·rename_i hdr
    split at hc
    ·rename_i hok
     cases hc
     unfold C33 at hok
     rw[K7] at hok
     exact C3l hm his (D9I _ _) (λ_=>hok.2) h hR
    split at hc
    ·rename_i hok
     cases hc
     exact C3k hm his (λ_=>hok.2.2) h hR
    ·split at hc
     ·rename_i hok2
      cases hc
      obtain⟨T,h1,h2,h3⟩:=h
      subst hdr
      exact D5H hm his hok2 h1 h2 h3 hR
     ·cases hc
   ·rename_i hdr
    cases hc
    exact C3k hm his (λe=>absurd e hdr) h hR
  ·cases hc
 |seq x y ihx ihy=>
  intro ic hc K ρ os h c M G w a hR
  simp only[cC] at hc
  split at hc
  ·rename_i x' y' hx hy
   cases hc
   simp only[Z3] at h
   refine wp_seq (wp_mono (ihx x' hx _ ρ os h c M G w a hR) λe a' w' hp=>?_)
   cases e with
   |normal=>
    obtain⟨M',G',os',ρ',hR',hk⟩:=hp
    exact ihy y' hy K ρ' os' hk c M' G' w' a' hR'
   |exit i=>exact hp
   |ret=>exact hp
   |_=>exact hp
  ·cases hc
 |cond cnd x y ihx ihy=>
  intro ic hc K ρ os h c M G w a hR
  simp only[cC] at hc
  split at hc
  ·rename_i c' x' y' h1 hx hy
   cases hc
   simp only[Z3] at h
   have e1:=I8 hR.tmps h1
   split at h
   ·rename_i b hb
    rw[hb] at e1
    exact wp_cond_split (A4D e1) (λht=>ihx x' hx K ρ os (h.1 ht) c M G w a hR) (λhf=>ihy y' hy K ρ os (h.2 hf) c M G w a hR)
   ·exact h.elim
  ·cases hc
 |block id x ih=>
  intro ic hc K ρ os h c M G w a hR
  simp only[cC] at hc
  obtain⟨x',hx,rfl⟩:=T9 hc
  simp only[Z3] at h
  refine wp_block (wp_mono (ih x' hx _ ρ os h c M G w a hR) λe a' w' hp=>?_)
  cases e with
  |exit i=>
   obtain⟨M',G',os',ρ',hR',hk⟩:=hp
   simp only[Exit.inBlock]
   dsimp only at hk
   split
   ·rename_i hi
    rw[if_pos hi] at hk
    exact⟨M',G',os',ρ',hR',hk⟩
   ·rename_i hi
    rw[if_neg hi] at hk
    exact⟨M',G',os',ρ',hR',hk⟩
  |normal=>exact hp
  |ret=>exact hp
  |_=>exact hp
 |loop x ih=>
  intro ic hc K ρ os h c M G w a hR
  simp only[cC] at hc
  obtain⟨x',hx,rfl⟩:=T9 hc
  simp only[Z3] at h
  exact h (.loop x) (by simp only[cC,hx];rfl) c M G w a hR
 |exit id=>
  intro ic hc K ρ os h c M G w a hR
  simp only[cC] at hc
  cases hc
  exact wp_exit ⟨M,G,os,ρ,hR,h⟩
 |ret=>
  intro ic hc K ρ os h c M G w a hR
  simp only[cC] at hc
  cases hc
  exact wp_ret ⟨M,G,os,ρ,hR,h⟩
 |scope x ih=>
  intro ic hc K ρ os h c M G w a hR
  simp only[cC] at hc
  refine wp_scope_straight (wp_mono (ih ic hc K ρ os h c M G w a hR) λe a' w' hp=>?_)
  cases e<;>first|exact hp|exact hp.elim
 |label l=>intro ic hc;simp[cC] at hc
 |goto l=>intro ic hc;simp[cC] at hc
 |rangeFunc f ps x y ihx ihy=>intro ic hc;simp[cC] at hc
 |refuse why=>intro ic hc;simp[cC] at hc
def A05(n nb:Nat)(ρ:D5)(os:List AO)(ρ':D5)(os':List AO):Prop:=
 ∀(c:u9) M G w a,Y7 n nb c M G os w ρ a->∃M' G',Y7 n nb c M' G' os' w ρ' a
theorem A05.refl{ρ:D5}{os:List AO}:A05 n nb ρ os ρ os:=λc M G w a h=>⟨M,G,h⟩
theorem A05.trans{ρ ρ1 ρ2:D5}{os os1 os2:List AO}(h:A05 n nb ρ os ρ1 os1)(k:A05 n nb ρ1 os1 ρ2 os2):A05 n nb ρ os ρ2 os2:=
 λc M G w a hR=>let ⟨M1,G1,h1⟩:=h c M G w a hR;k c M1 G1 w a h1
theorem A9h{α:Type}(hm:P.follows .mixedOrders=true){ic:IC}{K:Kt}{ρ:D5}{os:List AO}(Sρ:α->D5)(So:α->List AO)(φ:α->Prop)(μ:α->Nat)(x0:α)(h0:φ x0)(hw:A05 n nb ρ os (Sρ x0) (So x0))
  (step:∀x,φ x->Z3 P n nb ic {K with norm:=λρ' os'=>∃y,φ y/\μ y<μ x/\A05 n nb ρ' os' (Sρ y) (So y)} (Sρ x) (So x)):Tri P n nb (.loop ic) K ρ os:=by
 have body_ok:∀(body:Code),cC P n body=some ic->∀(c:u9) M G w a,Y7 n nb c M G os w ρ a->(Code.loop body).wp P (post n nb c K) a w:=by
  intro body hic c M G w a hR
  obtain⟨M1,G1,hR1⟩:=hw c M G w a hR
  have key:∀k x a w M G,φ x->μ x=k->Y7 n nb c M G (So x) w (Sρ x) a->∀(b:Frame) (kk:List Item) (cs:List Frame),
    ∃e a' w',post n nb c K e a' w'/\Arrives P (lone (b.at a (.code body::.inLoop body::kk)) cs w) b kk cs e a' w':=by
   intro k
   induction k using Nat.strongRecOn with
   |_ k ih=>
    intro x a w M G hx hk hR b kk cs
    obtain⟨e,a1,w1,hq,harr⟩:=A7N hm body ic hic _ _ _ (step x hx) c M G w a hR b (.inLoop body::kk) cs
    cases e with
    |normal=>
     obtain⟨M',G',os',ρ',hR',y,hy,hlt,hwk⟩:=hq
     obtain⟨M2,G2,hR2⟩:=hwk c M' G' w1 a1 hR'
     obtain⟨e2,a2,w2,hq2,harr2⟩:=ih (μ y) (by omega) y a1 w1 M2 G2 hy rfl hR2 b kk cs
     exact⟨e2,a2,w2,hq2,.of_steps (Steps.trans harr (.one step_inLoop)) harr2⟩
    |exit id=>exact⟨.exit id,a1,w1,hq,.pass (x:=.inLoop body) rfl (λ_ _=>.inl (by simp)) harr⟩
    |ret=>exact⟨.ret,a1,w1,hq,.pass (x:=.inLoop body) rfl (λ_ _=>.inl (by simp)) harr⟩
    |_=>exact hq.elim
  intro b kk cs
  obtain⟨e,a',w',hq,harr⟩:=key _ x0 a w M1 G1 h0 rfl hR1 b kk cs
  exact⟨e,a',w',hq,.of_steps (.one step_loop) harr⟩
 intro code
 induction code with
 |loop body ih=>
  intro hc c M G w a hR
  simp only[cC] at hc
  obtain⟨ic',hic,he⟩:=T9 hc
  cases he
  exact body_ok body hic c M G w a hR
 |scope x ih=>
  intro hc c M G w a hR
  simp only[cC] at hc
  refine wp_scope_straight (wp_mono (ih hc c M G w a hR) λe a' w' hp=>?_)
  cases e<;>first|exact hp|exact hp.elim
 |skip=>intro hc;simp[cC] at hc
 |region id ops draw=>intro hc;simp only[cC] at hc;split at hc<;>(try split at hc)<;>(try split at hc)<;>(try split at hc)<;>(try split at hc)<;>cases hc
 |seq x y=>intro hc;simp only[cC] at hc;split at hc<;>cases hc
 |cond cnd x y=>intro hc;simp only[cC] at hc;split at hc<;>cases hc
 |block id x=>intro hc;simp only[cC] at hc;obtain⟨_,_,he⟩:=T9 hc;cases he
 |exit id=>intro hc;simp[cC] at hc
 |ret=>intro hc;simp[cC] at hc
 |label l=>intro hc;simp[cC] at hc
 |goto l=>intro hc;simp[cC] at hc
 |rangeFunc f ps x y=>intro hc;simp[cC] at hc
 |refuse why=>intro hc;simp[cC] at hc
end
end Go.Bi
