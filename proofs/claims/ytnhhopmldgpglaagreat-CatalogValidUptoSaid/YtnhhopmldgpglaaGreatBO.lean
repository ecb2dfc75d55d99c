/- The code: what it does to abstract states, loops, the return, contracts of functions. No condition. -/
import Derived.Test.YtnhhopmldgpglaaGreatBN2
import Derived.Scope
set_option linter.unusedVariables false
namespace Go.Bi
set_option linter.unusedSectionVars false
variable [K6]
structure Kt where
 norm:C7->List AO->Prop
 exit:Nat->C7->List AO->Prop
 ret:C7->List AO->Prop
def post(n nb:Nat)(c:s6)(K:Kt):Exit->Act->World->Prop
 |.normal,a,w=>A09 n nb c K.norm a w
 |.exit id,a,w=>A09 n nb c (K.exit id) a w
 |.ret,a,w=>A09 n nb c K.ret a w
 |_,_,_=>False
def Tri(P:Program)(n nb:Nat)(ic:IC)(K:Kt)(ρ:C7)(os:List AO):Prop:=
 ∀code,cC P n code=some ic->∀(c:s6) M G w a,W6 n nb c M G os w ρ a->code.wp P (post n nb c K) a w
def V9(P:Program)(n nb:Nat):IC->Kt->C7->List AO->Prop
 |.skip,K,ρ,os=>K.norm ρ os
 |.region is,K,ρ,os=>A1R P is ρ os K.norm
 |.dreg h ps is,K,ρ,os=>∃T:List O2,T.length=is.length/\A5j ps T=true/\Y1 P (is.map (D4.at os.length)) T (List.range is.length) ρ (os++List.replicate h .hole) K.norm
 |.seq x y,K,ρ,os=>V9 P n nb x {K with norm:=λρ os=>V9 P n nb y K ρ os} ρ os
 |.cond c x y,K,ρ,os=>match B9 ρ c with
  |.d (.bool b)=>(b=true->V9 P n nb x K ρ os)/\(b=false->V9 P n nb y K ρ os)
  |_=>False
 |.block id x,K,ρ,os=>V9 P n nb x {K with exit:=λi=>if i=id then K.norm else K.exit i} ρ os
 |.loop x,K,ρ,os=>Tri P n nb (.loop x) K ρ os
 |.exit id,K,ρ,os=>K.exit id ρ os
 |.ret,K,ρ,os=>K.ret ρ os
section
variable {P:Program}{n nb:Nat}
theorem B8K{is:List D4}:is.length=is.length/\∀(i:Nat) o0 o,is[i]?=some o0->is[i]?=some o->A1K o0.op o.op/\o.guard=o0.guard/\o.dst=o0.dst:=
 ⟨rfl,λi o0 o h0 h1=>by rw[h0] at h1;cases h1;exact⟨.inl rfl,rfl,rfl⟩⟩
theorem B7z(ow:B7->Bool)(br:List (Nat×Nat×B7)->Bool):∀(is:List D4)(k:Nat),(P1 ow br is k).length=is.length/\∀(i:Nat) o0 o,is[i]?=some o0->(P1 ow br is k)[i]?=some o->
  (o.guard=o0.guard/\o.dst=o0.dst)/\A1K o0.op o.op
 |[],k=>⟨rfl,λi o0 o h=>by simp at h⟩
 |o1::is,k=>by
  have step:∀(o2:D4) (k':Nat),P1 ow br (o1::is) k=o2::P1 ow br is k'->(o2.guard=o1.guard/\o2.dst=o1.dst)/\A1K o1.op o2.op->
    (P1 ow br (o1::is) k).length=(o1::is).length/\∀(i:Nat) o0 o,(o1::is)[i]?=some o0->(P1 ow br (o1::is) k)[i]?=some o->(o.guard=o0.guard/\o.dst=o0.dst)/\A1K o0.op o.op:=by
   intro o2 k' he hq
   obtain⟨h1,h2⟩:=B7z ow br is k'
   rw[he]
   refine⟨by simp[h1],λi o0 o h0 h=>?_⟩
   cases i with
   |zero=>simp at h0 h;subst h0;subst h;exact hq
   |succ i=>exact h2 i o0 o (by simpa using h0) (by simpa using h)
  have hh:P1 ow br (o1::is) k=match o1.op with
   |.alloc zs=>{o1 with op:=.alloca k zs}::P1 ow br is (k+1)
   |.box n x=>{o1 with op:=.boxa k n x}::P1 ow br is (k+1)
   |.calld f args=>if ow f then {o1 with op:=.calln k f args}::P1 ow br is (k+1) else {o1 with op:=.callp f args}::P1 ow br is k
   |.bsld n sz zs ps=>if br ps then {o1 with op:=.bslr k n sz zs ps}::P1 ow br is (k+1) else o1::P1 ow br is k
   |_=>o1::P1 ow br is k:=rfl
  cases hop:o1.op with
  |alloc zs=>exact step {o1 with op:=.alloca k zs} (k+1) (by rw[hh,hop]) ⟨⟨rfl,rfl⟩,.inr (.inl ⟨zs,k,hop,rfl⟩)⟩
  |box m x=>exact step {o1 with op:=.boxa k m x} (k+1) (by rw[hh,hop]) ⟨⟨rfl,rfl⟩,.inr (.inr (.inl ⟨m,x,k,hop,rfl⟩))⟩
  |calld f args=>
   by_cases hw:ow f=true
   ·exact step {o1 with op:=.calln k f args} (k+1) (by rw[hh,hop];simp only[hw,if_true]) ⟨⟨rfl,rfl⟩,.inr (.inr (.inr (.inr (.inl ⟨f,args,k,hop,rfl⟩))))⟩
   ·exact step {o1 with op:=.callp f args} k (by rw[hh,hop];simp only[if_neg hw]) ⟨⟨rfl,rfl⟩,.inr (.inr (.inr (.inl ⟨f,args,hop,rfl⟩)))⟩
  |bsld m sz zs ps=>
   by_cases hw:br ps=true
   ·exact step {o1 with op:=.bslr k m sz zs ps} (k+1) (by rw[hh,hop];simp only[hw,if_true]) ⟨⟨rfl,rfl⟩,.inr (.inr (.inr (.inr (.inr ⟨m,sz,zs,ps,k,hop,rfl⟩))))⟩
   ·exact step o1 k (by rw[hh,hop];simp only[if_neg hw]) ⟨⟨rfl,rfl⟩,.inl rfl⟩
  |_=>exact step o1 k (by rw[hh,hop]) ⟨⟨rfl,rfl⟩,.inl rfl⟩
def IK.at(b:Nat):IK->IK
 |.alloca k zs=>.alloca (b+k) zs
 |.boxa k n x=>.boxa (b+k) n x
 |.calln k f args=>.calln (b+k) f args
 |.bslr k n sz zs ps=>.bslr (b+k) n sz zs ps
 |k=>k
theorem A9h(b:Nat)(o:D4):(o.at b).guard=o.guard/\(o.at b).dst=o.dst/\(o.at b).op=o.op.at b:=by
 obtain⟨d,g,op⟩:=o
 cases op<;>exact⟨rfl,rfl,rfl⟩
theorem A54(b:Nat)(o:D4):(o.at b).looks=o.looks/\(o.at b).op.det=o.op.det/\(o.at b).op.rd=o.op.rd/\(o.at b).op.wr=o.op.wr:=by
 obtain⟨d,g,op⟩:=o
 cases op<;>exact⟨rfl,rfl,rfl,rfl⟩
theorem D2p(b:Nat){k0 k:IK}(h:A1K k0 k)(ht:k0.tag<=4):A1K k0 (k.at b):=by
 rcases h with rfl|⟨zs,id,rfl,rfl⟩|⟨n,x,id,rfl,rfl⟩|⟨f,args,rfl,rfl⟩|⟨f,args,id,rfl,rfl⟩|⟨n,sz,zs,ps,id,rfl,rfl⟩
 ·refine .inl ?_
  cases k<;>first|rfl|(simp only[IK.tag] at ht;omega)
 ·exact .inr (.inl ⟨_,_,rfl,rfl⟩)
 ·exact .inr (.inr (.inl ⟨_,_,_,rfl,rfl⟩))
 ·exact .inr (.inr (.inr (.inl ⟨_,_,rfl,rfl⟩)))
 ·exact .inr (.inr (.inr (.inr (.inl ⟨_,_,_,rfl,rfl⟩))))
 ·exact .inr (.inr (.inr (.inr (.inr ⟨_,_,_,_,_,rfl,rfl⟩))))
theorem B5Z(b:Nat)(x y:D4):(x.at b).apart (y.at b)=x.apart y/\(x.at b).apartS (y.at b)=x.apartS y:=by
 obtain⟨a1,a2,a3,a4⟩:=A54 b x
 obtain⟨b1,b2,b3,b4⟩:=A54 b y
 unfold D4.apart D4.apartS
 rw[a1,a2,a3,a4,b1,b2,b3,b4,(A9h b x).2.1,(A9h b y).2.1]
 exact⟨rfl,rfl⟩
theorem C8F(b:Nat)(is:List D4)(i:Nat):(is.map (D4.at b)).getD i default=(is.getD i default).at b:=by
 rw[G9,G9,G4]
 cases is[i]? with
 |none=>rfl
 |some o=>rfl
theorem B60(b:Nat)(ops:List Oper)(is:List D4)(ps:List (Nat×Nat)):A2k ops (is.map (D4.at b)) ps=A2k ops is ps:=by
 unfold A2k
 simp only[C8F,(B5Z b _ _).1,(B5Z b _ _).2,D0,List.all_map]
 congr 2
 congr 1
 funext o
 simp only[Function.comp,(A54 b o).2.1]
theorem D08{M:C5}{G:Gh}{os:List AO}{w:World}(he:C3 M G os w):∀k,C3 M G (os++List.replicate k .hole) w/\E3 M G os w M G (os++List.replicate k .hole) w
 |0=>by simp only[List.replicate_zero,Z6];exact⟨he,E3.refl ..⟩
 |k+1=>by
  have hget:∀(i:Nat) o,(os++List.replicate (k+1) AO.hole)[i]?=some o->os[i]?=some o\/o=.hole:=λi o h=>by
   by_cases hi:i<os.length
   ·rw[M6 hi] at h;exact .inl h
   ·rw[R6 (by omega)] at h
    exact .inr (List.eq_of_mem_replicate (C2 h))
  have hlv:∀i,E6 (os++List.replicate (k+1) AO.hole) i->E6 os i:=λi ⟨o,ho,hl⟩=>by
   rcases hget i o ho with h|rfl
   ·exact⟨o,h,hl⟩
   ·cases hl
  have hup:∀(i:Nat) o,os[i]?=some o->(os++List.replicate (k+1) AO.hole)[i]?=some o:=λi o h=>by
   rw[M6 (B2.1 h).1];exact h
  have hs:E3 M G os w M G (os++List.replicate (k+1) AO.hole) w:={
   sys:=rfl,tape:=rfl,output:=rfl,size:=M9 _,frame:=λ_ _ _=>rfl,grow:=λ_ _ h=>h,fresh:=λ_ _ h=>.inl h
   own:=λi hi=>.inr ⟨i,hlv i hi,rfl⟩
   keep:=λi o ho=>M5.same (hup i o ho) rfl rfl}
  refine⟨⟨he.mem,λid o ho=>?_,λi j hi hj=>he.inj i j (hlv i hi) (hlv j hj),λi x v hi hx hb=>?_,A0O hs he.glb⟩,hs⟩
  ·rcases hget id o ho with h|rfl
   ·exact OR.since hs (he.obj id o h) rfl rfl rfl (λ_ _=>rfl)
   ·trivial
  ·obtain⟨es,sz',frz,nl,h1,h2⟩:=he.sep i x v (hlv i hi) hx hb
   exact⟨es,sz',frz,nl,hup i _ h1,h2⟩
theorem C9R{ops:Array Oper}{id:Nat}{is0:List D4}{ps:List (Nat×Nat)}{ow:B7->Bool}{br:List (Nat×Nat×B7)->Bool}(hm:P.follows .mixedOrders=true)(hc:ops.toList.mapM (cOp P n true ops.toList)=some is0)(hd:A2k ops.toList (P1 ow br is0 0) ps=true){K:Kt}{ρ:C7}{os:List AO}{T:List O2}
  (hT:T.length=(P1 ow br is0 0).length) (hp:A5j ps T=true) (h:Y1 P ((P1 ow br is0 0).map (D4.at os.length)) T (List.range (P1 ow br is0 0).length) ρ (os++List.replicate (A0P ow br is0) .hole) K.norm)
  {c:s6} {M:C5} {G:Gh} {w:World} {a:Act} (hR:W6 n nb c M G os w ρ a):(Code.region id ops true).wp P (post n nb c K) a w:=by
 have hlen:is0.length=ops.size:=by have:=(A3Z hc).1;simpa using this
 obtain⟨g1,g2⟩:=B7z ow br is0 0
 have hlen2:((P1 ow br is0 0).map (D4.at os.length)).length=ops.size:=by rw[D0,g1,hlen]
 have hdet:∀o∈(P1 ow br is0 0).map (D4.at os.length),o.op.det=true:=by
  have hd':=hd
  rw[<- B60 os.length] at hd'
  unfold A2k at hd'
  simp only[O9,O3] at hd'
  exact hd'.1.1
 refine wp_region_draw λt=>?_
 obtain⟨n1,n2⟩:=D08 hR.env (A0P ow br is0)
 have hR':W6 n nb c M G (os++List.replicate (A0P ow br is0) .hole) w.drew ρ a:={
  env:=n1.drew,since:=(hR.since.trans n2).trans (A2w ..),tmps:=λs=>(hR.tmps s).since n2,size:=hR.size,defers:=hR.defers,base:=hR.base}
 refine A5X (is:=(P1 ow br is0 0).map (D4.at os.length)) (w:=w.drew) hc ⟨by rw[D0,g1],λi o0 o h0 ho=>?_⟩ (λa w h=>h) _ hR' (B8A (T:=T) hdet ?_)
 ·rw[G4,H6] at ho
  obtain⟨o1,h1,rfl⟩:=ho
  obtain⟨⟨k1,k2⟩,k3⟩:=g2 i o0 o1 h0 h1
  obtain⟨j1,j2,j3⟩:=A9h os.length o1
  refine⟨?_,j1.trans k1,j2.trans k2⟩
  rw[j3]
  refine D2p _ k3 ?_
  have:=(A3Z hc).2 i (ops.toList[i]'(by have:=(B2.1 h0).1;simpa[hlen] using this)) (C9 _)
  obtain⟨y,hy,hco⟩:=this
  rw[h0] at hy;cases hy
  exact C93 (B68 hco).1
 ·simp only[Region.schedule,hm,Bool.true_or,if_true,Region.linearise]
  refine D2A hlen2 (by rw[hT,D0]) (by rw[B60];exact hd) hp K.norm ops.size t _ ρ _ (by simp) ?_ (λi hi hl=>?_) ?_
  ·have:(left ops.size (Array.replicate ops.size false)).length<=(List.range ops.size).length:=j4 _ _
   simpa using this
  ·simp[hi] at hl
  ·have:left ops.size (Array.replicate ops.size false)=List.range ops.size:=by
    unfold left
    rw[List.filter_eq_self]
    intro i hi
    have:=A1G.1 hi
    simp[this]
   rw[this,<- hlen,<- g1]
   exact h
theorem B8S{ops:Array Oper}{draw:Bool}{id:Nat}{is:List D4}(hm:P.follows .mixedOrders=true)(hc:ops.toList.mapM (cOp P n draw ops.toList)=some is)(hd:draw=true->A7c ops.toList is=true){K:Kt}{ρ:C7}{os:List AO}(h:A1R P is ρ os K.norm)
  {c:s6} {M:C5} {G:Gh} {w:World} {a:Act} (hR:W6 n nb c M G os w ρ a):(Code.region id ops draw).wp P (post n nb c K) a w:=by
 have hlen:is.length=ops.size:=by have:=(A3Z hc).1;simpa using this
 have hall:Y8 P is (List.range ops.size) ρ os K.norm:=by rw[<- hlen];exact D2h h
 cases draw with
 |false=>exact wp_region (A5X hc B8K (λa w h=>h) _ hR hall)
 |true=>
  refine wp_region_draw λt=>?_
  have hR':W6 n nb c M G os w.drew ρ a:={
   env:=hR.env.drew,since:=hR.since.trans (A2w ..),tmps:=hR.tmps,size:=hR.size,defers:=hR.defers,base:=hR.base}
  refine A5X (w:=w.drew) hc B8K (λa w h=>h) _ hR' ?_
  simp only[Region.schedule,hm,Bool.true_or,if_true,Region.linearise]
  refine D2z hlen (hd rfl) K.norm ops.size t _ ρ os (by simp) ?_ (λi hi hl=>?_) ?_
  ·have:(left ops.size (Array.replicate ops.size false)).length<=(List.range ops.size).length:=j4 _ _
   simpa using this
  ·simp[hi] at hl
  ·have:left ops.size (Array.replicate ops.size false)=List.range ops.size:=by
    unfold left
    rw[List.filter_eq_self]
    intro i hi
    have:=A1G.1 hi
    simp[this]
   rw[this]
   exact hall
theorem D2q{c:s6}{K K':Kt}(h1:∀ρ os,K.norm ρ os->K'.norm ρ os)(h2:∀i ρ os,K.exit i ρ os->K'.exit i ρ os)(h3:∀ρ os,K.ret ρ os->K'.ret ρ os){e:Exit}{a:Act}{w:World}(h:post n nb c K e a w):post n nb c K' e a w:=by
 cases e with
 |normal=>obtain⟨M,G,os,ρ,hR,hk⟩:=h;exact⟨M,G,os,ρ,hR,h1 _ _ hk⟩
 |exit id=>obtain⟨M,G,os,ρ,hR,hk⟩:=h;exact⟨M,G,os,ρ,hR,h2 _ _ _ hk⟩
 |ret=>obtain⟨M,G,os,ρ,hR,hk⟩:=h;exact⟨M,G,os,ρ,hR,h3 _ _ hk⟩
 |_=>exact h
theorem Tri.mono{ic:IC}{K K':Kt}{ρ:C7}{os:List AO}(h:Tri P n nb ic K ρ os)(h1:∀ρ os,K.norm ρ os->K'.norm ρ os)(h2:∀i ρ os,K.exit i ρ os->K'.exit i ρ os)(h3:∀ρ os,K.ret ρ os->K'.ret ρ os):Tri P n nb ic K' ρ os:=
 λcode hc c M G w a hR=>wp_mono (h code hc c M G w a hR) λ_ _ _ hp=>D2q h1 h2 h3 hp
theorem A6m(hm:P.follows .mixedOrders=true):∀(code:Code)(ic:IC),cC P n code=some ic->∀(K:Kt)(ρ:C7)(os:List AO),V9 P n nb ic K ρ os->∀(c:s6) M G w a,W6 n nb c M G os w ρ a->code.wp P (post n nb c K) a w:=by
 intro code
 induction code with
 |skip=>
  intro ic hc K ρ os h c M G w a hR
  simp only[cC] at hc
  cases hc
  exact wp_skip ⟨M,G,os,ρ,hR,h⟩
 |region id ops draw=>
  intro ic hc K ρ os h c M G w a hR
  simp only[cC] at hc
  split at hc
  ·rename_i is his
   split at hc
   ·rename_i hdr
    split at hc
    ·rename_i hok
     cases hc
     exact B8S hm his (λ_=>hok.2) h hR
    ·split at hc
     ·rename_i hok2
      cases hc
      obtain⟨T,h1,h2,h3⟩:=h
      subst hdr
      exact C9R hm his hok2 h1 h2 h3 hR
     ·cases hc
   ·rename_i hdr
    cases hc
    exact B8S hm his (λe=>absurd e hdr) h hR
  ·cases hc
 |seq x y ihx ihy=>
  intro ic hc K ρ os h c M G w a hR
  simp only[cC] at hc
  split at hc
  ·rename_i x' y' hx hy
   cases hc
   simp only[V9] at h
   refine wp_seq (wp_mono (ihx x' hx _ ρ os h c M G w a hR) λe a' w' hp=>?_)
   cases e with
   |normal=>
    obtain⟨M',G',os',ρ',hR',hk⟩:=hp
    exact ihy y' hy K ρ' os' hk c M' G' w' a' hR'
   |exit i=>exact hp
   |ret=>exact hp
   |_=>exact hp
  ·cases hc
 |cond cnd x y ihx ihy=>
  intro ic hc K ρ os h c M G w a hR
  simp only[cC] at hc
  split at hc
  ·rename_i c' x' y' h1 hx hy
   cases hc
   simp only[V9] at h
   have e1:=H4 hR.tmps h1
   split at h
   ·rename_i b hb
    rw[hb] at e1
    exact wp_cond_split (A3g e1) (λht=>ihx x' hx K ρ os (h.1 ht) c M G w a hR) (λhf=>ihy y' hy K ρ os (h.2 hf) c M G w a hR)
   ·exact h.elim
  ·cases hc
 |block id x ih=>
  intro ic hc K ρ os h c M G w a hR
  simp only[cC] at hc
  obtain⟨x',hx,rfl⟩:=Q8 hc
  simp only[V9] at h
  refine wp_block (wp_mono (ih x' hx _ ρ os h c M G w a hR) λe a' w' hp=>?_)
  cases e with
  |exit i=>
   obtain⟨M',G',os',ρ',hR',hk⟩:=hp
   simp only[Exit.inBlock]
   dsimp only at hk
   split
   ·rename_i hi
    rw[if_pos hi] at hk
    exact⟨M',G',os',ρ',hR',hk⟩
   ·rename_i hi
    rw[if_neg hi] at hk
    exact⟨M',G',os',ρ',hR',hk⟩
  |normal=>exact hp
  |ret=>exact hp
  |_=>exact hp
 |loop x ih=>
  intro ic hc K ρ os h c M G w a hR
  simp only[cC] at hc
  obtain⟨x',hx,rfl⟩:=Q8 hc
  simp only[V9] at h
  exact h (.loop x) (by simp only[cC,hx];rfl) c M G w a hR
 |exit id=>
  intro ic hc K ρ os h c M G w a hR
  simp only[cC] at hc
  cases hc
  exact wp_exit ⟨M,G,os,ρ,hR,h⟩
 |ret=>
  intro ic hc K ρ os h c M G w a hR
  simp only[cC] at hc
  cases hc
  exact wp_ret ⟨M,G,os,ρ,hR,h⟩
 |scope x ih=>
  intro ic hc K ρ os h c M G w a hR
  simp only[cC] at hc
  refine wp_scope_straight (wp_mono (ih ic hc K ρ os h c M G w a hR) λe a' w' hp=>?_)
  cases e<;>first|exact hp|exact hp.elim
 |label l=>intro ic hc;simp[cC] at hc
 |goto l=>intro ic hc;simp[cC] at hc
 |rangeFunc f ps x y ihx ihy=>intro ic hc;simp[cC] at hc
 |refuse why=>intro ic hc;simp[cC] at hc
def j8(n nb:Nat)(ρ:C7)(os:List AO)(ρ':C7)(os':List AO):Prop:=
 ∀(c:s6) M G w a,W6 n nb c M G os w ρ a->∃M' G',W6 n nb c M' G' os' w ρ' a
theorem j8.refl{ρ:C7}{os:List AO}:j8 n nb ρ os ρ os:=λc M G w a h=>⟨M,G,h⟩
theorem j8.trans{ρ ρ1 ρ2:C7}{os os1 os2:List AO}(h:j8 n nb ρ os ρ1 os1)(k:j8 n nb ρ1 os1 ρ2 os2):j8 n nb ρ os ρ2 os2:=
 λc M G w a hR=>let ⟨M1,G1,h1⟩:=h c M G w a hR;k c M1 G1 w a h1
theorem B7V{α:Type}(hm:P.follows .mixedOrders=true){ic:IC}{K:Kt}{ρ:C7}{os:List AO}(Sρ:α->C7)(So:α->List AO)(φ:α->Prop)(μ:α->Nat)(x0:α)(h0:φ x0)(hw:j8 n nb ρ os (Sρ x0) (So x0))
  (step:∀x,φ x->V9 P n nb ic {K with norm:=λρ' os'=>∃y,φ y/\μ y<μ x/\j8 n nb ρ' os' (Sρ y) (So y)} (Sρ x) (So x)):Tri P n nb (.loop ic) K ρ os:=by
 have body_ok:∀(body:Code),cC P n body=some ic->∀(c:s6) M G w a,W6 n nb c M G os w ρ a->(Code.loop body).wp P (post n nb c K) a w:=by
  intro body hic c M G w a hR
  obtain⟨M1,G1,hR1⟩:=hw c M G w a hR
  have key:∀k x a w M G,φ x->μ x=k->W6 n nb c M G (So x) w (Sρ x) a->∀(b:Frame) (kk:List Item) (cs:List Frame),
    ∃e a' w',post n nb c K e a' w'/\Arrives P (lone (b.at a (.code body::.inLoop body::kk)) cs w) b kk cs e a' w':=by
   intro k
   induction k using Nat.strongRecOn with
   |_ k ih=>
    intro x a w M G hx hk hR b kk cs
    obtain⟨e,a1,w1,hq,harr⟩:=A6m hm body ic hic _ _ _ (step x hx) c M G w a hR b (.inLoop body::kk) cs
    cases e with
    |normal=>
     obtain⟨M',G',os',ρ',hR',y,hy,hlt,hwk⟩:=hq
     obtain⟨M2,G2,hR2⟩:=hwk c M' G' w1 a1 hR'
     obtain⟨e2,a2,w2,hq2,harr2⟩:=ih (μ y) (by omega) y a1 w1 M2 G2 hy rfl hR2 b kk cs
     exact⟨e2,a2,w2,hq2,.of_steps (Steps.trans harr (.one step_inLoop)) harr2⟩
    |exit id=>exact⟨.exit id,a1,w1,hq,.pass (x:=.inLoop body) rfl (λ_ _=>.inl (by simp)) harr⟩
    |ret=>exact⟨.ret,a1,w1,hq,.pass (x:=.inLoop body) rfl (λ_ _=>.inl (by simp)) harr⟩
    |_=>exact hq.elim
  intro b kk cs
  obtain⟨e,a',w',hq,harr⟩:=key _ x0 a w M1 G1 h0 rfl hR1 b kk cs
  exact⟨e,a',w',hq,.of_steps (.one step_loop) harr⟩
 intro code
 induction code with
 |loop body ih=>
  intro hc c M G w a hR
  simp only[cC] at hc
  obtain⟨ic',hic,he⟩:=Q8 hc
  cases he
  exact body_ok body hic c M G w a hR
 |scope x ih=>
  intro hc c M G w a hR
  simp only[cC] at hc
  refine wp_scope_straight (wp_mono (ih hc c M G w a hR) λe a' w' hp=>?_)
  cases e<;>first|exact hp|exact hp.elim
 |skip=>intro hc;simp[cC] at hc
 |region id ops draw=>intro hc;simp only[cC] at hc;split at hc<;>(try split at hc)<;>(try split at hc)<;>(try split at hc)<;>cases hc
 |seq x y=>intro hc;simp only[cC] at hc;split at hc<;>cases hc
 |cond cnd x y=>intro hc;simp only[cC] at hc;split at hc<;>cases hc
 |block id x=>intro hc;simp only[cC] at hc;obtain⟨_,_,he⟩:=Q8 hc;cases he
 |exit id=>intro hc;simp[cC] at hc
 |ret=>intro hc;simp[cC] at hc
 |label l=>intro hc;simp[cC] at hc
 |goto l=>intro hc;simp[cC] at hc
 |rangeFunc f ps x y=>intro hc;simp[cC] at hc
 |refuse why=>intro hc;simp[cC] at hc
end
end Go.Bi
