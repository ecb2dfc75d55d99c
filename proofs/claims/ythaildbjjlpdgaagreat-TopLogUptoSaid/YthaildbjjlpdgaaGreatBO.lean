/- The code: what it does to abstract states, loops, the return, contracts of functions. No condition. -/
import Derived.Test.YthaildbjjlpdgaaGreatBN2
import Derived.Scope
set_option linter.unusedVariables false
namespace Go.Bi
set_option linter.unusedSectionVars false
variable [Globs]
structure Kt where
 norm:Rho->List AO->Prop
 exit:Nat->Rho->List AO->Prop
 ret:Rho->List AO->Prop
def post(n nb:Nat)(c:Ctx)(K:Kt):Exit->Act->World->Prop
 |.normal,a,w=>Fits n nb c K.norm a w
 |.exit id,a,w=>Fits n nb c (K.exit id) a w
 |.ret,a,w=>Fits n nb c K.ret a w
 |_,_,_=>False
def Tri(P:Program)(n nb:Nat)(ic:IC)(K:Kt)(ρ:Rho)(os:List AO):Prop:=
 ∀code,cC P n code=some ic->∀(c:Ctx) M G w a,Rel n nb c M G os w ρ a->code.wp P (post n nb c K) a w
def wpI(P:Program)(n nb:Nat):IC->Kt->Rho->List AO->Prop
 |.skip,K,ρ,os=>K.norm ρ os
 |.region is,K,ρ,os=>opsI P is ρ os K.norm
 |.dreg h ps is,K,ρ,os=>∃T:List Acc,T.length=is.length/\chkT ps T=true/\opsT P (is.map (IOp.at os.length)) T (List.range is.length) ρ (os++List.replicate h .hole) K.norm
 |.seq x y,K,ρ,os=>wpI P n nb x {K with norm:=λρ os=>wpI P n nb y K ρ os} ρ os
 |.cond c x y,K,ρ,os=>match evO ρ c with
  |.d (.bool b)=>(b=true->wpI P n nb x K ρ os)/\(b=false->wpI P n nb y K ρ os)
  |_=>False
 |.block id x,K,ρ,os=>wpI P n nb x {K with exit:=λi=>if i=id then K.norm else K.exit i} ρ os
 |.loop x,K,ρ,os=>Tri P n nb (.loop x) K ρ os
 |.exit id,K,ρ,os=>K.exit id ρ os
 |.ret,K,ρ,os=>K.ret ρ os
section
variable {P:Program}{n nb:Nat}
theorem placed_refl{is:List IOp}:is.length=is.length/\∀(i:Nat) o0 o,is[i]?=some o0->is[i]?=some o->Placed o0.op o.op/\o.guard=o0.guard/\o.dst=o0.dst:=
 ⟨rfl,λi o0 o h0 h1=>by rw[h0] at h1;cases h1;exact⟨.refl _,rfl,rfl⟩⟩
theorem holes_placed(ow:Opd->Bool)(dd:Option Nat->Bool)(br:List (Nat×Nat×Opd)->Bool):∀(is:List IOp) (k:Nat),(holes ow dd br is k).length=is.length/\∀(i:Nat) o0 o,is[i]?=some o0->(holes ow dd br is k)[i]?=some o->
  (o.guard=o0.guard/\o.dst=o0.dst)/\Placed o0.op o.op
 |[],k=>⟨rfl,λi o0 o h=>by simp at h⟩
 |o1::is,k=>by
  have step:∀(o2:IOp) (k':Nat),holes ow dd br (o1::is) k=o2::holes ow dd br is k'->(o2.guard=o1.guard/\o2.dst=o1.dst)/\Placed o1.op o2.op->
    (holes ow dd br (o1::is) k).length=(o1::is).length/\∀(i:Nat) o0 o,(o1::is)[i]?=some o0->(holes ow dd br (o1::is) k)[i]?=some o->(o.guard=o0.guard/\o.dst=o0.dst)/\Placed o0.op o.op:=by
   intro o2 k' he hq
   obtain⟨h1,h2⟩:=holes_placed ow dd br is k'
   rw[he]
   refine⟨by simp[h1],λi o0 o h0 h=>?_⟩
   cases i with
   |zero=>simp at h0 h;subst h0;subst h;exact hq
   |succ i=>exact h2 i o0 o (by simpa using h0) (by simpa using h)
  have hh:holes ow dd br (o1::is) k=match o1.op with
   |.alloc zs=>{o1 with op:=.alloca k zs}::holes ow dd br is (k+1)
   |.box n x=>{o1 with op:=.boxa k n x}::holes ow dd br is (k+1)
   |.calld f args=>if ow f then {o1 with op:=.calln k f args}::holes ow dd br is (k+1) else {o1 with op:=.callp f args}::holes ow dd br is k
   |.app sz b s x=>if dd o1.dst then {o1 with op:=.ex (.appd sz b) [s,x]}::holes ow dd br is k else {o1 with op:=.appn k sz b s x}::holes ow dd br is (k+1)
   |.bsld n sz zs ps=>if br ps then {o1 with op:=.bslr k n sz zs ps}::holes ow dd br is (k+1) else o1::holes ow dd br is k
   |_=>o1::holes ow dd br is k:=rfl
  cases hop:o1.op with
  |alloc zs=>exact step {o1 with op:=.alloca k zs} (k+1) (by rw[hh,hop]) ⟨⟨rfl,rfl⟩,by rw[hop];exact .alloc ..⟩
  |box m x=>exact step {o1 with op:=.boxa k m x} (k+1) (by rw[hh,hop]) ⟨⟨rfl,rfl⟩,by rw[hop];exact .box ..⟩
  |calld f args=>
   by_cases hw:ow f=true
   ·exact step {o1 with op:=.calln k f args} (k+1) (by rw[hh,hop];simp only[hw,if_true]) ⟨⟨rfl,rfl⟩,by rw[hop];exact .calln ..⟩
   ·exact step {o1 with op:=.callp f args} k (by rw[hh,hop];simp only[if_neg hw]) ⟨⟨rfl,rfl⟩,by rw[hop];exact .callp ..⟩
  |app sz b s x=>
   by_cases hw:dd o1.dst=true
   ·exact step {o1 with op:=.ex (.appd sz b) [s,x]} k (by rw[hh,hop];simp only[hw,if_true]) ⟨⟨rfl,rfl⟩,by rw[hop];exact .appd ..⟩
   ·exact step {o1 with op:=.appn k sz b s x} (k+1) (by rw[hh,hop];simp only[if_neg hw]) ⟨⟨rfl,rfl⟩,by rw[hop];exact .appn ..⟩
  |bsld m sz zs ps=>
   by_cases hw:br ps=true
   ·exact step {o1 with op:=.bslr k m sz zs ps} (k+1) (by rw[hh,hop];simp only[hw,if_true]) ⟨⟨rfl,rfl⟩,by rw[hop];exact .bslr ..⟩
   ·exact step o1 k (by rw[hh,hop];simp only[if_neg hw]) ⟨⟨rfl,rfl⟩,.refl _⟩
  |_=>exact step o1 k (by rw[hh,hop]) ⟨⟨rfl,rfl⟩,.refl _⟩
def IK.at(b:Nat):IK->IK
 |.alloca k zs=>.alloca (b+k) zs
 |.boxa k n x=>.boxa (b+k) n x
 |.calln k f args=>.calln (b+k) f args
 |.appn k sz y s x=>.appn (b+k) sz y s x
 |.bslr k n sz zs ps=>.bslr (b+k) n sz zs ps
 |k=>k
theorem at_op(b:Nat)(o:IOp):(o.at b).guard=o.guard/\(o.at b).dst=o.dst/\(o.at b).op=o.op.at b:=by
 obtain⟨d,g,op⟩:=o
 cases op<;>exact⟨rfl,rfl,rfl⟩
theorem at_same(b:Nat)(o:IOp):(o.at b).looks=o.looks/\(o.at b).op.det=o.op.det/\(o.at b).op.rd=o.op.rd/\(o.at b).op.wr=o.op.wr:=by
 obtain⟨d,g,op⟩:=o
 cases op<;>exact⟨rfl,rfl,rfl,rfl⟩
theorem placed_at(b:Nat){k0 k:IK}(h:Placed k0 k)(ht:k0.tag<=4):Placed k0 (k.at b):=by
 cases h with
 |refl=>
  have:k0.at b=k0:=by cases k0<;>first|rfl|(simp only[IK.tag] at ht;omega)
  rw[this]
  exact .refl _
 |alloc=>exact .alloc ..
 |box=>exact .box ..
 |callp=>exact .callp ..
 |calln=>exact .calln ..
 |bslr=>exact .bslr ..
 |call=>exact .call ..
 |appn=>exact .appn ..
 |appd=>exact .appd ..
theorem at_apart(b:Nat)(x y:IOp):(x.at b).apart (y.at b)=x.apart y/\(x.at b).apartS (y.at b)=x.apartS y:=by
 obtain⟨a1,a2,a3,a4⟩:=at_same b x
 obtain⟨b1,b2,b3,b4⟩:=at_same b y
 unfold IOp.apart IOp.apartS
 rw[a1,a2,a3,a4,b1,b2,b3,b4,(at_op b x).2.1,(at_op b y).2.1]
 exact⟨rfl,rfl⟩
theorem at_getD(b:Nat)(is:List IOp)(i:Nat):(is.map (IOp.at b)).getD i default=(is.getD i default).at b:=by
 rw[List.getD_eq_getElem?_getD,List.getD_eq_getElem?_getD,List.getElem?_map]
 cases is[i]? with
 |none=>rfl
 |some o=>rfl
theorem at_drawOK2(b:Nat)(ops:List Oper)(is:List IOp)(ps:List (Nat×Nat)):drawOK2 ops (is.map (IOp.at b)) ps=drawOK2 ops is ps:=by
 unfold drawOK2
 simp only[at_getD,(at_apart b _ _).1,(at_apart b _ _).2,List.length_map,List.all_map]
 congr 2
 congr 1
 funext o
 simp only[Function.comp,(at_same b o).2.1]
theorem env_holes{M:Mem}{G:Gh}{os:List AO}{w:World}(he:Env M G os w):∀k,Env M G (os++List.replicate k .hole) w/\Since M G os w M G (os++List.replicate k .hole) w
 |0=>by simp only[List.replicate_zero,List.append_nil];exact⟨he,Since.refl ..⟩
 |k+1=>by
  have hget:∀(i:Nat) o,(os++List.replicate (k+1) AO.hole)[i]?=some o->os[i]?=some o\/o=.hole:=λi o h=>by
   by_cases hi:i<os.length
   ·rw[List.getElem?_append_left hi] at h;exact .inl h
   ·rw[List.getElem?_append_right (by omega)] at h
    exact .inr (List.eq_of_mem_replicate (List.mem_of_getElem? h))
  have hlv:∀i,Live (os++List.replicate (k+1) AO.hole) i->Live os i:=λi ⟨o,ho,hl⟩=>by
   rcases hget i o ho with h|rfl
   ·exact⟨o,h,hl⟩
   ·cases hl
  have hup:∀(i:Nat) o,os[i]?=some o->(os++List.replicate (k+1) AO.hole)[i]?=some o:=λi o h=>by
   rw[List.getElem?_append_left (List.getElem?_eq_some_iff.1 h).1];exact h
  have hs:Since M G os w M G (os++List.replicate (k+1) AO.hole) w:={
   sys:=rfl,tape:=rfl,output:=rfl,size:=Nat.le_refl _,frame:=λ_ _ _=>rfl,grow:=λ_ _ h=>h,fresh:=λ_ _ h=>.inl h
   own:=λi hi=>.inr ⟨i,hlv i hi,rfl⟩
   keep:=λi o ho=>Keeps.same (hup i o ho) rfl rfl}
  refine⟨⟨he.mem,λid o ho=>?_,λi j hi hj=>he.inj i j (hlv i hi) (hlv j hj),λi x v hi hx hb=>?_,glb_since hs he.glb⟩,hs⟩
  ·rcases hget id o ho with h|rfl
   ·exact OR.since hs (he.obj id o h) rfl rfl rfl (λ_ _=>rfl)
   ·trivial
  ·obtain⟨es,sz',frz,nl,h1,h2⟩:=he.sep i x v (hlv i hi) hx hb
   exact⟨es,sz',frz,nl,hup i _ h1,h2⟩
theorem dreg_wp{ops:Array Oper}{id:Nat}{is0:List IOp}{ps:List (Nat×Nat)}{ow:Opd->Bool}{dd:Option Nat->Bool}{br:List (Nat×Nat×Opd)->Bool}(hm:P.follows .mixedOrders=true)(hc:ops.toList.mapM (cOp P n true ops.toList)=some is0)(hd:drawOK2 ops.toList (holes ow dd br is0 0) ps=true){K:Kt}{ρ:Rho}{os:List AO}{T:List Acc}
  (hT:T.length=(holes ow dd br is0 0).length) (hp:chkT ps T=true) (h:opsT P ((holes ow dd br is0 0).map (IOp.at os.length)) T (List.range (holes ow dd br is0 0).length) ρ (os++List.replicate (holeCount ow dd br is0) .hole) K.norm)
  {c:Ctx} {M:Mem} {G:Gh} {w:World} {a:Act} (hR:Rel n nb c M G os w ρ a):(Code.region id ops true).wp P (post n nb c K) a w:=by
 have hlen:is0.length=ops.size:=by have:=(mapM_get hc).1;simpa using this
 obtain⟨g1,g2⟩:=holes_placed ow dd br is0 0
 have hlen2:((holes ow dd br is0 0).map (IOp.at os.length)).length=ops.size:=by rw[List.length_map,g1,hlen]
 have hdet:∀o∈(holes ow dd br is0 0).map (IOp.at os.length),o.op.det=true:=by
  have hd':=hd
  rw[<- at_drawOK2 os.length] at hd'
  unfold drawOK2 at hd'
  simp only[Bool.and_eq_true,List.all_eq_true] at hd'
  exact hd'.1.1
 refine wp_region_draw λt=>?_
 obtain⟨n1,n2⟩:=env_holes hR.env (holeCount ow dd br is0)
 have hR':Rel n nb c M G (os++List.replicate (holeCount ow dd br is0) .hole) w.drew ρ a:={
  env:=n1.drew,since:=(hR.since.trans n2).trans (since_drew ..),tmps:=λs=>(hR.tmps s).since n2,size:=hR.size,defers:=hR.defers,base:=hR.base}
 refine ops_wp (is:=(holes ow dd br is0 0).map (IOp.at os.length)) (w:=w.drew) hc ⟨by rw[List.length_map,g1],λi o0 o h0 ho=>?_⟩ (λa w h=>h) _ hR' (opsT_ix (T:=T) hdet ?_)
 ·rw[List.getElem?_map,Option.map_eq_some_iff] at ho
  obtain⟨o1,h1,rfl⟩:=ho
  obtain⟨⟨k1,k2⟩,k3⟩:=g2 i o0 o1 h0 h1
  obtain⟨j1,j2,j3⟩:=at_op os.length o1
  refine⟨?_,j1.trans k1,j2.trans k2⟩
  rw[j3]
  refine placed_at _ k3 ?_
  have:=(mapM_get hc).2 i (ops.toList[i]'(by have:=(List.getElem?_eq_some_iff.1 h0).1;simpa[hlen] using this)) (List.getElem?_eq_getElem _)
  obtain⟨y,hy,hco⟩:=this
  rw[h0] at hy;cases hy
  exact cIK_noplace (cOp_some hco).1
 ·simp only[Region.schedule,hm,Bool.true_or,if_true,Region.linearise]
  refine reorderT hlen2 (by rw[hT,List.length_map]) (by rw[at_drawOK2];exact hd) hp K.norm ops.size t _ ρ _ (by simp) ?_ (λi hi hl=>?_) ?_
  ·have:(left ops.size (Array.replicate ops.size false)).length<=(List.range ops.size).length:=List.length_filter_le _ _
   simpa using this
  ·simp[hi] at hl
  ·have:left ops.size (Array.replicate ops.size false)=List.range ops.size:=by
    unfold left
    rw[List.filter_eq_self]
    intro i hi
    have:=List.mem_range.1 hi
    simp[this]
   rw[this,<- hlen,<- g1]
   exact h
theorem toCalls_placed(b:List Nat)(is:List IOp):(toCalls b is).length=is.length/\∀(i:Nat) o0 o,is[i]?=some o0->(toCalls b is)[i]?=some o->Placed o0.op o.op/\o.guard=o0.guard/\o.dst=o0.dst:=by
 refine⟨by simp[toCalls],λi o0 o h0 h=>?_⟩
 unfold toCalls at h
 rw[List.getElem?_mapIdx,h0,Option.map_some] at h
 cases h
 obtain⟨d,g,op⟩:=o0
 cases op with
 |calld f args=>
  show Placed _ (toCall b is i ⟨d,g,.calld f args⟩).op/\_
  unfold toCall
  dsimp only
  split
  ·exact⟨.call ..,rfl,rfl⟩
  ·exact⟨.refl _,rfl,rfl⟩
 |_=>exact⟨.refl _,rfl,rfl⟩
theorem region_wpS{ops:Array Oper}{draw:Bool}{id:Nat}{is:List IOp}(hm:P.follows .mixedOrders=true){is0:List IOp}(hc:ops.toList.mapM (cOp P n draw ops.toList)=some is0)(hpl:is.length=is0.length/\∀(i:Nat) o0 o,is0[i]?=some o0->is[i]?=some o->Placed o0.op o.op/\o.guard=o0.guard/\o.dst=o0.dst)(hd:draw=true->drawOKS ops.toList is=true){K:Kt}{ρ:Rho}{os:List AO}(h:opsI P is ρ os K.norm)
  {c:Ctx} {M:Mem} {G:Gh} {w:World} {a:Act} (hR:Rel n nb c M G os w ρ a):(Code.region id ops draw).wp P (post n nb c K) a w:=by
 have hlen:is.length=ops.size:=by have:=(mapM_get hc).1;rw[hpl.1];simpa using this
 have hall:opsIx P is (List.range ops.size) ρ os K.norm:=by rw[<- hlen];exact opsIx_all h
 cases draw with
 |false=>exact wp_region (ops_wp hc hpl (λa w h=>h) _ hR hall)
 |true=>
  refine wp_region_draw λt=>?_
  have hR':Rel n nb c M G os w.drew ρ a:={
   env:=hR.env.drew,since:=hR.since.trans (since_drew ..),tmps:=hR.tmps,size:=hR.size,defers:=hR.defers,base:=hR.base}
  refine ops_wp (w:=w.drew) hc hpl (λa w h=>h) _ hR' ?_
  simp only[Region.schedule,hm,Bool.true_or,if_true,Region.linearise]
  refine reorder hlen (hd rfl) K.norm ops.size t _ ρ os (by simp) ?_ (λi hi hl=>?_) ?_
  ·have:(left ops.size (Array.replicate ops.size false)).length<=(List.range ops.size).length:=List.length_filter_le _ _
   simpa using this
  ·simp[hi] at hl
  ·have:left ops.size (Array.replicate ops.size false)=List.range ops.size:=by
    unfold left
    rw[List.filter_eq_self]
    intro i hi
    have:=List.mem_range.1 hi
    simp[this]
   rw[this]
   exact hall
theorem region_wp{ops:Array Oper}{draw:Bool}{id:Nat}{is:List IOp}(hm:P.follows .mixedOrders=true)(hc:ops.toList.mapM (cOp P n draw ops.toList)=some is)(hd:draw=true->drawOK ops.toList is=true){K:Kt}{ρ:Rho}{os:List AO}(h:opsI P is ρ os K.norm)
  {c:Ctx} {M:Mem} {G:Gh} {w:World} {a:Act} (hR:Rel n nb c M G os w ρ a):(Code.region id ops draw).wp P (post n nb c K) a w:=
 region_wpS hm hc placed_refl (λe=>drawOK_S (hd e)) h hR
theorem post_mono{c:Ctx}{K K':Kt}(h1:∀ρ os,K.norm ρ os->K'.norm ρ os)(h2:∀i ρ os,K.exit i ρ os->K'.exit i ρ os)(h3:∀ρ os,K.ret ρ os->K'.ret ρ os){e:Exit}{a:Act}{w:World}(h:post n nb c K e a w):post n nb c K' e a w:=by
 cases e with
 |normal=>obtain⟨M,G,os,ρ,hR,hk⟩:=h;exact⟨M,G,os,ρ,hR,h1 _ _ hk⟩
 |exit id=>obtain⟨M,G,os,ρ,hR,hk⟩:=h;exact⟨M,G,os,ρ,hR,h2 _ _ _ hk⟩
 |ret=>obtain⟨M,G,os,ρ,hR,hk⟩:=h;exact⟨M,G,os,ρ,hR,h3 _ _ hk⟩
 |_=>exact h
theorem Tri.mono{ic:IC}{K K':Kt}{ρ:Rho}{os:List AO}(h:Tri P n nb ic K ρ os)(h1:∀ρ os,K.norm ρ os->K'.norm ρ os)(h2:∀i ρ os,K.exit i ρ os->K'.exit i ρ os)(h3:∀ρ os,K.ret ρ os->K'.ret ρ os):Tri P n nb ic K' ρ os:=
 λcode hc c M G w a hR=>wp_mono (h code hc c M G w a hR) λ_ _ _ hp=>post_mono h1 h2 h3 hp
theorem wpI_tri(hm:P.follows .mixedOrders=true):∀(code:Code) (ic:IC),cC P n code=some ic->∀(K:Kt) (ρ:Rho) (os:List AO),wpI P n nb ic K ρ os->∀(c:Ctx) M G w a,Rel n nb c M G os w ρ a->code.wp P (post n nb c K) a w:=by
 intro code
 induction code with
 |skip=>
  intro ic hc K ρ os h c M G w a hR
  simp only[cC] at hc
  cases hc
  exact wp_skip ⟨M,G,os,ρ,hR,h⟩
 |region id ops draw=>
  intro ic hc K ρ os h c M G w a hR
  simp only[cC] at hc
  split at hc
  ·rename_i is his
   split at hc
   ·rename_i hdr
    split at hc
    ·rename_i hok
     cases hc
     unfold ordOK at hok
     rw[Bool.and_eq_true] at hok
     exact region_wpS hm his (toCalls_placed _ _) (λ_=>hok.1) h hR
    ·split at hc
     ·rename_i hok2
      cases hc
      obtain⟨T,h1,h2,h3⟩:=h
      subst hdr
      exact dreg_wp hm his hok2 h1 h2 h3 hR
     ·cases hc
   ·rename_i hdr
    cases hc
    exact region_wp hm his (λe=>absurd e hdr) h hR
  ·cases hc
 |seq x y ihx ihy=>
  intro ic hc K ρ os h c M G w a hR
  simp only[cC] at hc
  split at hc
  ·rename_i x' y' hx hy
   cases hc
   simp only[wpI] at h
   refine wp_seq (wp_mono (ihx x' hx _ ρ os h c M G w a hR) λe a' w' hp=>?_)
   cases e with
   |normal=>
    obtain⟨M',G',os',ρ',hR',hk⟩:=hp
    exact ihy y' hy K ρ' os' hk c M' G' w' a' hR'
   |exit i=>exact hp
   |ret=>exact hp
   |_=>exact hp
  ·cases hc
 |cond cnd x y ihx ihy=>
  intro ic hc K ρ os h c M G w a hR
  simp only[cC] at hc
  split at hc
  ·rename_i c' x' y' h1 hx hy
   cases hc
   simp only[wpI] at h
   have e1:=cO_ev hR.tmps h1
   split at h
   ·rename_i b hb
    rw[hb] at e1
    exact wp_cond_split (va_bool e1) (λht=>ihx x' hx K ρ os (h.1 ht) c M G w a hR) (λhf=>ihy y' hy K ρ os (h.2 hf) c M G w a hR)
   ·exact h.elim
  ·cases hc
 |block id x ih=>
  intro ic hc K ρ os h c M G w a hR
  simp only[cC] at hc
  obtain⟨x',hx,rfl⟩:=opt_map hc
  simp only[wpI] at h
  refine wp_block (wp_mono (ih x' hx _ ρ os h c M G w a hR) λe a' w' hp=>?_)
  cases e with
  |exit i=>
   obtain⟨M',G',os',ρ',hR',hk⟩:=hp
   simp only[Exit.inBlock]
   dsimp only at hk
   split
   ·rename_i hi
    rw[if_pos hi] at hk
    exact⟨M',G',os',ρ',hR',hk⟩
   ·rename_i hi
    rw[if_neg hi] at hk
    exact⟨M',G',os',ρ',hR',hk⟩
  |normal=>exact hp
  |ret=>exact hp
  |_=>exact hp
 |loop x ih=>
  intro ic hc K ρ os h c M G w a hR
  simp only[cC] at hc
  obtain⟨x',hx,rfl⟩:=opt_map hc
  simp only[wpI] at h
  exact h (.loop x) (by simp only[cC,hx];rfl) c M G w a hR
 |exit id=>
  intro ic hc K ρ os h c M G w a hR
  simp only[cC] at hc
  cases hc
  exact wp_exit ⟨M,G,os,ρ,hR,h⟩
 |ret=>
  intro ic hc K ρ os h c M G w a hR
  simp only[cC] at hc
  cases hc
  exact wp_ret ⟨M,G,os,ρ,hR,h⟩
 |scope x ih=>
  intro ic hc K ρ os h c M G w a hR
  simp only[cC] at hc
  refine wp_scope_straight (wp_mono (ih ic hc K ρ os h c M G w a hR) λe a' w' hp=>?_)
  cases e<;>first|exact hp|exact hp.elim
 |label l=>intro ic hc;simp[cC] at hc
 |goto l=>intro ic hc;simp[cC] at hc
 |rangeFunc f ps x y ihx ihy=>intro ic hc;simp[cC] at hc
 |refuse why=>intro ic hc;simp[cC] at hc
def Weak(n nb:Nat)(ρ:Rho)(os:List AO)(ρ':Rho)(os':List AO):Prop:=
 ∀(c:Ctx) M G w a,Rel n nb c M G os w ρ a->∃M' G',Rel n nb c M' G' os' w ρ' a
theorem Weak.refl{ρ:Rho}{os:List AO}:Weak n nb ρ os ρ os:=λc M G w a h=>⟨M,G,h⟩
theorem Weak.trans{ρ ρ1 ρ2:Rho}{os os1 os2:List AO}(h:Weak n nb ρ os ρ1 os1)(k:Weak n nb ρ1 os1 ρ2 os2):Weak n nb ρ os ρ2 os2:=
 λc M G w a hR=>let ⟨M1,G1,h1⟩:=h c M G w a hR;k c M1 G1 w a h1
theorem loop_rule{α:Type}(hm:P.follows .mixedOrders=true){ic:IC}{K:Kt}{ρ:Rho}{os:List AO}(Sρ:α->Rho)(So:α->List AO)(φ:α->Prop)(μ:α->Nat)(x0:α)(h0:φ x0)(hw:Weak n nb ρ os (Sρ x0) (So x0))
  (step:∀x,φ x->wpI P n nb ic {K with norm:=λρ' os'=>∃y,φ y/\μ y<μ x/\Weak n nb ρ' os' (Sρ y) (So y)} (Sρ x) (So x)):Tri P n nb (.loop ic) K ρ os:=by
 have body_ok:∀(body:Code),cC P n body=some ic->∀(c:Ctx) M G w a,Rel n nb c M G os w ρ a->(Code.loop body).wp P (post n nb c K) a w:=by
  intro body hic c M G w a hR
  obtain⟨M1,G1,hR1⟩:=hw c M G w a hR
  have key:∀k x a w M G,φ x->μ x=k->Rel n nb c M G (So x) w (Sρ x) a->∀(b:Frame) (kk:List Item) (cs:List Frame),
    ∃e a' w',post n nb c K e a' w'/\Arrives P (lone (b.at a (.code body::.inLoop body::kk)) cs w) b kk cs e a' w':=by
   intro k
   induction k using Nat.strongRecOn with
   |_ k ih=>
    intro x a w M G hx hk hR b kk cs
    obtain⟨e,a1,w1,hq,harr⟩:=wpI_tri hm body ic hic _ _ _ (step x hx) c M G w a hR b (.inLoop body::kk) cs
    cases e with
    |normal=>
     obtain⟨M',G',os',ρ',hR',y,hy,hlt,hwk⟩:=hq
     obtain⟨M2,G2,hR2⟩:=hwk c M' G' w1 a1 hR'
     obtain⟨e2,a2,w2,hq2,harr2⟩:=ih (μ y) (by omega) y a1 w1 M2 G2 hy rfl hR2 b kk cs
     exact⟨e2,a2,w2,hq2,.of_steps (Steps.trans harr (.one step_inLoop)) harr2⟩
    |exit id=>exact⟨.exit id,a1,w1,hq,.pass (x:=.inLoop body) rfl (λ_ _=>.inl (by simp)) harr⟩
    |ret=>exact⟨.ret,a1,w1,hq,.pass (x:=.inLoop body) rfl (λ_ _=>.inl (by simp)) harr⟩
    |_=>exact hq.elim
  intro b kk cs
  obtain⟨e,a',w',hq,harr⟩:=key _ x0 a w M1 G1 h0 rfl hR1 b kk cs
  exact⟨e,a',w',hq,.of_steps (.one step_loop) harr⟩
 intro code
 induction code with
 |loop body ih=>
  intro hc c M G w a hR
  simp only[cC] at hc
  obtain⟨ic',hic,he⟩:=opt_map hc
  cases he
  exact body_ok body hic c M G w a hR
 |scope x ih=>
  intro hc c M G w a hR
  simp only[cC] at hc
  refine wp_scope_straight (wp_mono (ih hc c M G w a hR) λe a' w' hp=>?_)
  cases e<;>first|exact hp|exact hp.elim
 |skip=>intro hc;simp[cC] at hc
 |region id ops draw=>intro hc;simp only[cC] at hc;split at hc<;>(try split at hc)<;>(try split at hc)<;>(try split at hc)<;>(try split at hc)<;>cases hc
 |seq x y=>intro hc;simp only[cC] at hc;split at hc<;>cases hc
 |cond cnd x y=>intro hc;simp only[cC] at hc;split at hc<;>cases hc
 |block id x=>intro hc;simp only[cC] at hc;obtain⟨_,_,he⟩:=opt_map hc;cases he
 |exit id=>intro hc;simp[cC] at hc
 |ret=>intro hc;simp[cC] at hc
 |label l=>intro hc;simp[cC] at hc
 |goto l=>intro hc;simp[cC] at hc
 |rangeFunc f ps x y=>intro hc;simp[cC] at hc
 |refuse why=>intro hc;simp[cC] at hc
end
end Go.Bi
