/- Soundness of the operations of a region, in the order of the text and in any other. No condition. -/
import Derived.Test.YtfnaleemmeejcaaGreatBL
set_option linter.unusedVariables false
namespace Go.Bi
set_option linter.unusedSectionVars false
variable [N0]
structure u9 where
 M:D4
 G:Gh
 os:List AO
 w:World
structure Y7(n nb:Nat)(c:u9)(M:D4)(G:Gh)(os:List AO)(w:World)(ρ:D5)(a:Act):Prop where
 env:C9 M G os w
 since:G7 c.M c.G c.os c.w M G os w
 tmps:J3 M G os ρ a
 size:a.tmps.size=n
 defers:a.defers=[]
 base:c.os.length=nb
section
variable {P:Program}{n nb:Nat}{c:u9}{M:D4}{G:Gh}{os:List AO}{w:World}{ρ:D5}{a:Act}
theorem D8W{M':D4}{G':Gh}{os':List AO}{w':World}(ht:J3 M G os ρ a)(hs:G7 M G os w M' G' os' w'){d:Option Nat}(hd:∀t,d=some t->t<a.tmps.size){r:AV}{v:Value}(hv:VA M' G' os' r v) :
  J3 M' G' os' (updo d r ρ) (a.put d v):=by
 intro t
 cases d with
 |none=>exact(ht t).since hs
 |some d=>
  have hlt:=hd d rfl
  simp only[updo,upd,Act.put]
  by_cases htd:t=d
  ·subst htd
   rw[if_pos rfl]
   have:(a.tmps.setIfInBounds t v).getD t undef=v:=by simp[hlt]
   rw[this]
   exact hv
  ·rw[if_neg htd]
   have:(a.tmps.setIfInBounds d v).getD t undef=a.tmps.getD t undef:=by
    simp[A1V (Ne.symm htd)]
   rw[this]
   exact(ht t).since hs
theorem D8V(a:Act)(d:Option Nat)(v:Value):(a.put d v).tmps.size=a.tmps.size:=by cases d<;>simp[Act.put]
theorem D8U(a:Act)(d:Option Nat)(v:Value):(a.put d v).defers=a.defers:=by cases d<;>rfl
theorem Y7.put{M':D4}{G':Gh}{os':List AO}{w':World}(h:Y7 n nb c M G os w ρ a)(he:C9 M' G' os' w')(hs:G7 M G os w M' G' os' w'){d:Option Nat}(hd:∀t,d=some t->t<n){r:AV}{v:Value}(hv:VA M' G' os' r v) :
  Y7 n nb c M' G' os' w' (updo d r ρ) (a.put d v) where
 env:=he
 since:=h.since.trans hs
 tmps:=D8W h.tmps hs (λt ht=>by rw[h.size];exact hd t ht) hv
 size:=by rw[D8V];exact h.size
 defers:=by rw[D8U];exact h.defers
 base:=h.base
def A0H(n nb:Nat)(c:u9)(K:D5->List AO->Prop)(a:Act)(w:World):Prop:=∃M G os ρ,Y7 n nb c M G os w ρ a/\K ρ os
theorem D9Q:VA M G os (.tup []) undef:=⟨#[],rfl,rfl,λj c u h=>by simp at h⟩
theorem C0n{draw:Bool}{ops:List Oper}{o:Oper}{io:D0}(h:cOp P n draw ops o=some io):cIK P draw o.op=some io.op/\A8B ops o.guard=some io.guard/\io.dst=o.dst/\∀t,o.dst=some t->t<n:=by
 unfold cOp at h
 split at h
 ·rename_i k g h1 h2
  by_cases hd:B1O n o.dst=true
  ·rw[if_pos hd] at h
   cases h
   exact⟨h1,h2,rfl,λt ht=>by rw[ht] at hd;simpa[B1O] using hd⟩
  ·rw[if_neg hd] at h
   cases h
 ·cases h
def B1x(x:Option Value):Option Bool:=match x with|some (.bool b)=>some b|_=>none
def A0S(k k':IK):Prop:=k'=k\/(∃zs id,k=.alloc zs/\k'=.alloca id zs)\/(∃n x id,k=.box n x/\k'=.boxa id n x)\/(∃f args,k=.calld f args/\k'=.callp f args)\/
 (∃f args id,k=.calld f args/\k'=.calln id f args)\/(∃f args,k=.calld f args/\k'=.callo f args)\/(∃n sz zs ps id,k=.bsld n sz zs ps/\k'=.bslr id n sz zs ps)\/∃f args,k=.calld f args/\k'=.call f args
def IK.tag:IK->Nat
 |.alloc _=>1
 |.box ..=>2
 |.calld ..=>3
 |.bsld ..=>4
 |.alloca ..=>5
 |.boxa ..=>6
 |.calln ..=>7
 |.bslr ..=>8
 |.callo ..=>9
 |_=>0
theorem A6p{op:BinOp}{t:TypeId}{x y:Operand}{k:IK}(h:A6o P op t x y=some k):k.tag=0:=by
 unfold A6o A6s at h
 repeat' (first|(cases h;done)|(injection h with h;subst h;rfl)|(obtain⟨_,_,rfl⟩:=J7.1 h;rfl)|split at h)
theorem A6r{b:Builtin}{as:List Operand}{ts:List TypeId}{k:IK}(h:A6q P b as ts=some k):k.tag=0:=by
 unfold A6q at h
 repeat' (first|(cases h;done)|(injection h with h;subst h;rfl)|(obtain⟨_,_,rfl⟩:=J7.1 h;rfl)|split at h)
theorem D4X{draw:Bool}{op:Op}{zs:List D}(h:A09 P draw op=some (.alloc zs)):∃t,op=.alloc t/\tz P t=some zs:=by
 unfold A09 at h
 split at h
 all_goals first
  |exact absurd (A6p h) (by simp[IK.tag])
  |(obtain⟨x,hx,e⟩:=J7.1 h;cases e;exact⟨_,rfl,hx⟩)
  |skip
 all_goals repeat' (first|(cases h;done)|exact absurd (A6r h) (by simp[IK.tag])|(obtain⟨_,_,e⟩:=J7.1 h;cases e;done)|(obtain⟨_,_,e⟩:=J7.1 h;split at e<;>(cases e;done))|(injection h with h;split at h<;>(cases h;done))|split at h)
theorem D4Y{draw:Bool}{op:Op}{m:Nat}{x':C1}(h:A09 P draw op=some (.box m x')):∃t x,op=.box t x/\cO x=some x':=by
 unfold A09 at h
 split at h
 all_goals first
  |exact absurd (A6p h) (by simp[IK.tag])
  |skip
 all_goals repeat' (first|(cases h;done)|exact absurd (A6r h) (by simp[IK.tag])|(obtain⟨_,_,e⟩:=J7.1 h;cases e;done)|(injection h with h;injection h with h3 h4;subst h4;exact⟨_,_,rfl,by assumption⟩)|(obtain⟨_,_,e⟩:=J7.1 h;split at e<;>(cases e;done))|(injection h with h;split at h<;>(cases h;done))|split at h)
theorem B1z{draw:Bool}{op:Op}{f':C1}{args':List C1}(h:A09 P draw op=some (.calld f' args')):∃c f,op=.call c/\c.callee=.value f/\cO f=some f'/\c.args.toList.mapM cO=some args':=by
 unfold A09 at h
 split at h
 all_goals first
  |exact absurd (A6p h) (by simp[IK.tag])
  |skip
 all_goals repeat' (first|(cases h;done)|exact absurd (A6r h) (by simp[IK.tag])|(obtain⟨_,_,e⟩:=J7.1 h;cases e;done)|(injection h with h;split at h<;>first|(cases h;done)|(injection h with h1 h2;subst h1;subst h2;exact⟨_,_,rfl,by assumption,by assumption,by assumption⟩))|(obtain⟨_,_,e⟩:=J7.1 h;split at e<;>(cases e;done))|split at h)
theorem D4Z{draw:Bool}{op:Op}{n sz:Nat}{zs:List D}{ps:List (Nat×Nat×C1)}(h:A09 P draw op=some (.bsld n sz zs ps)):∃t parts e,op=.buildSlice t n parts/\P.underlying t=some (.slice e)/\M3 P e=some sz/\tz P e=some zs/\0<sz/\zs.length=sz/\n*sz<=16777216/\A1v (λi=>some (i*sz,sz)) parts.toList=some ps:=by
 unfold A09 at h
 split at h
 all_goals first
  |exact absurd (A6p h) (by simp[IK.tag])
  |skip
 all_goals repeat' (first|(cases h;done)|exact absurd (A6r h) (by simp[IK.tag])|(obtain⟨_,_,e⟩:=J7.1 h;cases e;done)|(injection h with h;split at h<;>(cases h;done))|(obtain⟨w,hq,e⟩:=J7.1 h;split at e<;>first|(cases e;done)|(injection e with h1 h2 h3 h4;subst h1;subst h2;subst h3;subst h4;rename_i hc _;exact⟨_,_,_,rfl,by assumption,by assumption,by assumption,hc.1,hc.2.1,hc.2.2,hq⟩))|split at h)
theorem D50{draw:Bool}{op:Op}{k:IK}(h:A09 P draw op=some k):k.tag<=4:=by
 unfold A09 at h
 split at h
 all_goals first
  |exact K4 (Nat.le_of_eq (A6p h)) (by decide)
  |skip
 all_goals repeat' (first|(cases h;done)|exact K4 (Nat.le_of_eq (A6r h)) (by decide)|(obtain⟨_,_,rfl⟩:=J7.1 h;first|(simp only[IK.tag];omega)|(split<;>(simp only[IK.tag];omega)))|(injection h with h;subst h;first|(simp only[IK.tag];omega)|(split<;>(simp only[IK.tag];omega)))|split at h)
theorem D51{draw:Bool}{op:Op}{k:IK}(h:cIK P draw op=some k):k.tag<=4:=by
 by_cases hs:k=.stop
 ·subst hs;simp[IK.tag]
 ·exact D50 (A3k h hs)
theorem dbC:∀{cs:List AV},cs.all AV.isd=true->∃xs:List D,cs=xs.map .d/\∀os,n5 os cs=some (xs,os)
 |[],_=>⟨[],rfl,λ_=>rfl⟩
 |c::cs,h=>by
  simp only[A1l,K7] at h
  obtain⟨xs,h1,h2⟩:=dbC h.2
  cases c with
  |d x=>exact⟨x::xs,by rw[h1];rfl,λos=>by simp only[n5,A0Y,h2]⟩
  |_=>cases h.1
theorem dbG{c:AV}(h:c.isDB=true)(os:List AO):A0Z os c=some (c,os)/\c.ref=false:=by
 cases c with
 |d x=>exact⟨rfl,rfl⟩
 |agg cs=>
  obtain⟨xs,rfl,h2⟩:=dbC (show cs.all AV.isd=true from h)
  refine⟨by simp only[A0Z,h2],?_⟩
  simp only[AV.ref]
  rw[A4G]
  intro e
  obtain⟨c,hc,h3⟩:=List.any_eq_true.1 e
  obtain⟨x,_,rfl⟩:=D7.1 hc
  cases h3
 |_=>cases h
theorem dbP:∀{cs:List AV},cs.all AV.isDB=true->∀os,p8 os cs=some (cs,os)
 |[],_,os=>rfl
 |c::cs,h,os=>by
  simp only[A1l,K7] at h
  obtain⟨h1,h2⟩:=dbG h.1 os
  simp only[p8,h1,h2,dbP h.2]
  rfl
theorem D8M{cs:List AV}{id off:Nat}(h:cs.all AV.isDB=true)(os:List AO):p8 os (.ptr id off::cs)=some (.ptr id off::cs,os):=by
 have h2:(AV.ptr id off).ref=true:=rfl
 simp only[p8,h2,dbP h,if_true]
theorem D8s(he:C9 M G os w)(ht:J3 M G os ρ a){o:Oper}{draw:Bool}{k k':IK}(hk:cIK P draw o.op=some k)(hp:A0S k k'){K:AV->List AO->Prop}(h:A7 P ρ os K k'):G6 P M G os w K (execOp a.eval o):=by
 rcases hp with rfl|⟨zs,id,rfl,rfl⟩|⟨m,x,id,rfl,rfl⟩|⟨f,args,rfl,rfl⟩|⟨f,args,id,rfl,rfl⟩|⟨f,args,rfl,rfl⟩|⟨m,sz,zs,ps,id,rfl,rfl⟩|⟨f,args,rfl,rfl⟩
 ·exact B2E he ht hk h
 ·obtain⟨t,h1,h2⟩:=D4X (A3k hk (by simp))
  exact D7K he h1 h2 h
 ·obtain⟨t,x0,h1,h2⟩:=D4Y (A3k hk (by simp))
  exact D7O he ht h1 h2 h
 ·refine B2E he ht hk ?_
  simp only[A7] at h ⊢
  split at h
  ·rename_i g e
   rw[e]
   rcases h with h|h
   ·exact Or.inl h
   ·refine Or.inr ?_
    split at h
    ·rename_i id off as0 hv
     split at h
     ·rename_i ob hob
      obtain⟨h1,r,h2,h3⟩:=h
      rw[hv,D8M h1]
      exact⟨rfl,r,h2 os hob,h3⟩
     ·exact h.elim
    ·exact h.elim
  ·exact h.elim
 ·obtain⟨c,f0,h1,h2,h3,h4⟩:=B1z (A3k hk (by simp))
  exact D7S he ht h1 h2 h3 h4 h
 ·by_cases harr:∃id len as,args.map (C0 ρ)=AV.arr id len::as
  ·obtain⟨id,len,as,hmap⟩:=harr
   obtain⟨c,f0,h1,h2,h3,h4⟩:=B1z (A3k hk (by simp))
   exact D7T he ht h1 h2 h3 h4 hmap h
  ·refine B2E he ht hk ?_
   simp only[A7] at h ⊢
   split at h
   ·split at h
    ·rename_i hm
     exact absurd ⟨_,_,_,hm⟩ harr
    ·rename_i g e _ _
     rw[e]
     exact Or.inl h
   ·exact h.elim
 ·obtain⟨t,parts,e,h1,h2,h3,h4,h5,h6,h7,h8⟩:=D4Z (A3k hk (by simp))
  exact D7Q he ht h1 h2 h3 h4 h5 h6 h7 h8 h
 ·obtain⟨c,f0,h1,h2,h3,h4⟩:=B1z (A3k hk (by simp))
  exact C2P he ht h1 h2 h3 h4 h
theorem D8t{draw:Bool}{ops:Array Oper}{o:Oper}{io0 io:D0}{Q:Exit->Act->World->Prop}{i:Nat}(hi:ops[i]?=some o)(hc:cOp P n draw ops.toList o=some io0)(hpl:A0S io0.op io.op/\io.guard=io0.guard/\io.dst=io0.dst)(hR:Y7 n nb c M G os w ρ a){K:D5->List AO->Prop}(h:S5 P io ρ os K) :
  wpOp P ops Q i (A0H n nb c K) a w:=by
 obtain⟨h1,h2,h3,h4⟩:=C0n hc
 rw[<- hpl.2.1] at h2
 rw[<- hpl.2.2] at h3
 unfold S5 at h
 rw[h3] at h
 unfold wpOp
 rw[hi]
 dsimp only
 have yes:Region.wanted o (yielded ops a.tmps)=true->A7 P ρ os (λr os'=>K (updo o.dst r ρ) os') io.op->(if Region.wanted o (yielded ops a.tmps)=true then o.wp P a w (A0H n nb c K) Q\/(o.asks P a w/\LetsOut Q) else A0H n nb c K (a.put o.dst undef) w):=by
  intro hw hop
  rw[if_pos hw]
  refine .inl ?_
  have hok:=D8s hR.env hR.tmps h1 hpl.1 hop
  unfold G6 at hok
  unfold Oper.wp
  generalize (execOp a.eval o).run P w=N8 at hok
  cases N8 with
  |halt x w'=>exact hok.elim
  |ok nx w'=>
   cases nx with
   |value v=>
    obtain⟨M',G',r,os',q1,q2,q3,q4⟩:=hok
    exact⟨M',G',os',_,hR.put q1 q2 h4 q3,q4⟩
   |skip=>
    obtain⟨M',G',os',q1,q2,q3⟩:=hok
    exact⟨M',G',os',_,hR.put q1 q2 h4 (r:=.junk) trivial,q3⟩
   |enter f args=>
    obtain⟨rfl,hcall⟩:=hok
    refine Calls.mono hcall ?_
    rintro e w'' ⟨v,rfl,M',G',r,os',q1,q2,q3,q4⟩
    exact⟨M',G',os',_,hR.put q1 q2 h4 q3,q4⟩
   |_=>exact hok.elim
 have no:Region.wanted o (yielded ops a.tmps)=false->K (updo o.dst (.tup []) ρ) os->(if Region.wanted o (yielded ops a.tmps)=true then o.wp P a w (A0H n nb c K) Q\/(o.asks P a w/\LetsOut Q) else A0H n nb c K (a.put o.dst undef) w):=by
  intro hw hk
  rw[if_neg (by rw[hw];simp)]
  exact⟨M,G,os,_,hR.put hR.env (G7.refl ..) h4 D9Q,hk⟩
 cases hg:o.guard with
 |none=>
  rw[hg] at h2
  simp only[A8B] at h2
  cases h2':io.guard with
  |some _=>rw[h2'] at h2;cases h2
  |none=>
   rw[h2'] at h
   exact yes (by simp[Region.wanted,hg]) h
 |some jw=>
  obtain⟨j,want⟩:=jw
  rw[hg] at h2
  simp only[A8B] at h2
  split at h2
  ·rename_i o' ho'
   obtain⟨t,ht,hgd⟩:=J7.1 h2
   rw[<- hgd] at h
   simp only[gI] at h
   have hy:yielded ops a.tmps j=B1x (a.tmps[t]?):=by
    have:ops[j]?=some o':=by simpa using ho'
    unfold yielded
    rw[this]
    simp only[Option.bind_some,ht]
    cases hq:a.tmps[t]? with
    |none=>rfl
    |some v=>cases v<;>rfl
   have hget:∀v,a.tmps.getD t undef=v->v≠undef->a.tmps[t]?=some v:=λv hv hne=>by
    cases hq:a.tmps[t]? with
    |none=>simp[hq] at hv;exact absurd hv.symm hne
    |some u=>simp[hq] at hv;rw[hv]
   split at h
   ·rename_i b hb
    have hv:=hR.tmps t
    rw[hb] at hv
    have hv:=hget _ (A4D hv) (by simp[undef])
    rw[hv] at hy
    by_cases hbw:b=want
    ·exact yes (by simp[Region.wanted,hg,hy,hbw,B1x]) (h.1 hbw)
    ·have hbn:b=!want:=by cases b<;>cases want<;>simp_all
     exact no (by simp[Region.wanted,hg,hy,hbw,B1x]) (h.2 hbn)
   ·rename_i hb
    have hv:=hR.tmps t
    rw[hb] at hv
    obtain⟨vs,hvs,hl,_⟩:=hv
    have hvs':vs=#[]:=Array.size_eq_zero_iff.1 hl
    subst hvs'
    have:yielded ops a.tmps j=none:=by
     rw[hy]
     cases hq:a.tmps[t]? with
     |none=>rfl
     |some u=>
      simp[hq] at hvs
      rw[hvs]
      rfl
    exact no (by simp[Region.wanted,hg,this]) h
   ·exact h.elim
  ·cases h2
def j5(P:Program)(is:List D0):List Nat->D5->List AO->(D5->List AO->Prop)->Prop
 |[],ρ,os,K=>K ρ os
 |i::l,ρ,os,K=>match is[i]? with
  |some o=>S5 P o ρ os λρ' os'=>j5 P is l ρ' os' K
  |none=>j5 P is l ρ os K
theorem A5u{α β:Type}{f:α->Option β}:∀{l:List α}{r:List β},l.mapM f=some r->r.length=l.length/\∀(i:Nat) x,l[i]?=some x->∃y,r[i]?=some y/\f x=some y
 |[],r,h=>by simp at h;subst h;simp
 |x::l,r,h=>by
  simp only[A0L,A3g,i7] at h
  obtain⟨y,hy,ys,hys,hp⟩:=h
  simp at hp
  subst hp
  obtain⟨i1,i2⟩:=A5u hys
  refine⟨by simp[i1],λi z hz=>?_⟩
  cases i with
  |zero=>simp at hz;subst hz;exact⟨y,rfl,hy⟩
  |succ i=>exact i2 i z (by simpa using hz)
theorem A7d{draw:Bool}{ops:Array Oper}{is0 is:List D0}{Q:Exit->Act->World->Prop}{K:D5->List AO->Prop}(hc:ops.toList.mapM (cOp P n draw ops.toList)=some is0)(hpl:is.length=is0.length/\∀(i:Nat) o0 o,is0[i]?=some o0->is[i]?=some o->A0S o0.op o.op/\o.guard=o0.guard/\o.dst=o0.dst)(hQ:∀a w,A0H n nb c K a w->Q .normal a w) :
  ∀(l:List Nat) {M:D4} {G:Gh} {os:List AO} {w:World} {ρ:D5} {a:Act},Y7 n nb c M G os w ρ a->j5 P is l ρ os K->wpOps P ops Q l a w
 |[],M,G,os,w,ρ,a,hR,h=>hQ a w ⟨M,G,os,ρ,hR,h⟩
 |i::l,M,G,os,w,ρ,a,hR,h=>by
  obtain⟨hlen,hget⟩:=A5u hc
  rw[wpOps_cons]
  simp only[j5] at h
  cases ho:ops[i]? with
  |none=>
   have:is[i]?=none:=by
    have:=Array.getElem?_eq_none_iff.1 ho
    rw[A1m]
    rw[hpl.1,hlen];simpa using this
   rw[this] at h
   unfold wpOp
   rw[ho]
   exact A7d hc hpl hQ l hR h
  |some o=>
   obtain⟨io0,hio0,hco⟩:=hget i o (by simpa using ho)
   have hil:i<is.length:=by rw[hpl.1];exact(B4.1 hio0).1
   obtain⟨io,hio⟩:∃io,is[i]?=some io:=⟨_,F4 hil⟩
   rw[hio] at h
   refine wpOp_mono ?_ (D8t ho hco (hpl.2 i _ _ hio0 hio) hR h)
   rintro a' w' ⟨M',G',os',ρ',hR',hk⟩
   exact A7d hc hpl hQ l hR' hk
theorem C2X(is:List D0)(K:D5->List AO->Prop):∀(l:List D0)(s:Nat)(ρ:D5)(os:List AO),(∀i,l[i]?=is[s+i]?)->j5 P is (List.range' s l.length) ρ os K=A2f P l ρ os K
 |[],s,ρ,os,hl=>rfl
 |o::l,s,ρ,os,hl=>by
  have h0:=hl 0
  simp only[A2y,A3d] at h0
  have ih:(λρ' os'=>j5 P is (List.range' (s+1) l.length) ρ' os' K)=λρ' os'=>A2f P l ρ' os' K:=by
   funext ρ' os'
   exact C2X is K l (s+1) ρ' os' (λi=>by have:=hl (i+1);simpa[Nat.add_assoc,Nat.add_comm 1] using this)
  simp only[H9,List.range'_succ,j5,<- h0,ih,A2f]
theorem D8u{is:List D0}{K:D5->List AO->Prop}(h:A2f P is ρ os K):j5 P is (List.range is.length) ρ os K:=by
 rw[A8c,C2X is K is 0 ρ os (λi=>by simp)]
 exact h
theorem A97{g:Option (Nat×Bool)}{y y' n n':Prop}(h1:y->y')(h2:n->n')(h:gI ρ g y n):gI ρ g y' n':=by
 unfold gI at *
 split
 ·exact h1 h
 ·rename_i t want
  dsimp only at h
  split at h
  ·exact⟨λe=>h1 (h.1 e),λe=>h2 (h.2 e)⟩
  ·exact h2 h
  ·exact h.elim
theorem A20{x:Option C1}{d:Nat}{K:Int->Prop}(h:V1 ρ x d K):∃m,K m/\∀K':Int->Prop,K' m->V1 ρ x d K':=by
 unfold V1 at h
 split at h
 ·exact⟨_,h,λK' hk=>hk⟩
 ·split at h
  ·rename_i k m hm
   exact⟨m,h,λK' hk=>by unfold V1;simp only[hm];exact hk⟩
  ·exact h.elim
theorem A5j:∀{ps:List (Nat×Nat×C1)}{cs:List AV}{K:List AV->Prop},Q5 ρ ps cs K->∃r,K r/\∀K':List AV->Prop,K' r->Q5 ρ ps cs K'
 |[],cs,K,h=>⟨cs,h,λ_ h=>h⟩
 |(off,n,x)::ps,cs,K,h=>by
  simp only[Q5] at h ⊢
  split at h
  ·obtain⟨h1,h2,h3⟩:=h
   obtain⟨r,hr,hk⟩:=A5j h3
   exact⟨r,hr,λK' hk'=>⟨h1,h2,hk K' hk'⟩⟩
  ·exact h.elim
theorem A75(mx:Bool)(k:IntKind):∀{xs:List AV}{m:Int}{K:AV->Prop},t8 mx k m xs K->∃r,K r/\∀K':AV->Prop,K' r->t8 mx k m xs K'
 |[],m,K,h=>⟨_,h,λ_ h=>h⟩
 |x::xs,m,K,h=>by
  unfold t8 at h
  split at h
  ·rename_i hc;cases hc
  ·rename_i k' b rest hc
   injection hc with hc1 hc2
   subst hc1;subst hc2
   cases mx with
   |true=>
    simp only[if_true] at h
    rcases Int.lt_or_le m b with hlt|hle
    ·obtain⟨r,hr,hk⟩:=A75 true k (h.2 hlt)
     exact⟨r,hr,λK' hk'=>by unfold t8;simp only[if_true];exact⟨λh=>by omega,λ_=>hk K' hk'⟩⟩
    ·obtain⟨r,hr,hk⟩:=A75 true k (h.1 hle)
     exact⟨r,hr,λK' hk'=>by unfold t8;simp only[if_true];exact⟨λ_=>hk K' hk',λh=>by omega⟩⟩
   |false=>
    simp only[O2,if_false] at h
    rcases Int.lt_or_le b m with hlt|hle
    ·obtain⟨r,hr,hk⟩:=A75 false k (h.2 hlt)
     exact⟨r,hr,λK' hk'=>by unfold t8;simp only[O2,if_false];exact⟨λh=>by omega,λ_=>hk K' hk'⟩⟩
    ·obtain⟨r,hr,hk⟩:=A75 false k (h.1 hle)
     exact⟨r,hr,λK' hk'=>by unfold t8;simp only[O2,if_false];exact⟨λ_=>hk K' hk',λh=>by omega⟩⟩
  ·exact h.elim
theorem D9O{op:UnOp}{x:D}{K:D->Prop}(h:unD op x K):∃r,K r/\∀K':D->Prop,K' r->unD op x K':=by
 unfold unD at h
 split at h<;>first|exact⟨_,h,λ_ h=>h⟩|exact h.elim
theorem D4J{op:BinOp}{k:IntKind}{x y:Int}{K:D->Prop}(h:A2J op k x y K):∃r,K r/\∀K':D->Prop,K' r->A2J op k x y K':=by
 cases op<;>simp only[A2J] at h ⊢<;>first|exact⟨_,h,λ_ h=>h⟩|exact⟨_,h.2,λ_ h'=>⟨h.1,h'⟩⟩|exact h.elim
theorem D4L{op:BinOp}{x y:List UInt8}{K:D->Prop}(h:A3j op x y K):∃r,K r/\∀K':D->Prop,K' r->A3j op x y K':=by
 cases op<;>simp only[A3j] at h ⊢<;>first|exact⟨_,h,λ_ h=>h⟩|exact⟨_,h.2,λ_ h'=>⟨h.1,h'⟩⟩|exact h.elim
theorem D4I{op:BinOp}{x y:AV}{K:D->Prop}(h:A49 op x y K):∃r,K r/\∀K':D->Prop,K' r->A49 op x y K':=by
 unfold A49 at h
 split at h
 ·rename_i k m k' q
  split at h
  ·exact⟨_,h.2,λ_ h'=>⟨h.1,h'⟩⟩
  ·exact⟨_,h.2,λ_ h'=>⟨h.1,h'⟩⟩
  ·rename_i hs1 hs2
   obtain⟨h1,h2⟩:=h
   obtain⟨r,hr,hk⟩:=D4J h2
   refine⟨r,hr,λK' hk'=>?_⟩
   unfold A49
   have:=hk K' hk'
   cases op<;>first|exact⟨h1,this⟩|exact absurd rfl hs1|exact absurd rfl hs2
 ·exact D4L h
 ·exact h.elim
theorem B34{d:Nat}{x:AV}{K:AV->Prop}(h:k8 os d x K):∃r,K r/\∀K':AV->Prop,K' r->k8 os d x K':=by
 unfold k8 at h
 split at h
 ·exact⟨_,h,λ_ h=>h⟩
 ·split at h
  ·rename_i hid
   exact⟨_,h.2,λ_ h'=>by unfold k8;simp only[hid];exact⟨h.1,h'⟩⟩
  ·exact h.elim
 ·exact⟨_,h,λ_ h=>h⟩
 ·exact h.elim
theorem A9g{g:Bool}{m:Nat}{x:AV}{K:AV->Prop}(h:Y5 os g m x K):∃r,K r/\∀K':AV->Prop,K' r->Y5 os g m x K':=by
 unfold Y5 at h
 split at h
 ·split at h
  ·rename_i hid
   cases g with
   |true=>simp only[if_true] at h;exact⟨_,h.2,λ_ h'=>by unfold Y5;simp only[hid,if_true];exact⟨h.1,h'⟩⟩
   |false=>simp only[O2,if_false] at h;exact⟨_,h.2,λ_ h'=>by unfold Y5;simp only[hid,O2,if_false];exact⟨h.1,h'⟩⟩
  ·exact h.elim
 ·split at h
  ·rename_i hid
   obtain⟨h1,h2,h3,h⟩:=h
   cases g with
   |true=>simp only[if_true] at h;exact⟨_,h.2,λ_ h'=>by unfold Y5;simp only[hid,if_true];exact⟨h1,h2,h3,h.1,h'⟩⟩
   |false=>simp only[O2,if_false] at h;exact⟨_,h.2,λ_ h'=>by unfold Y5;simp only[hid,O2,if_false];exact⟨h1,h2,h3,h.1,h'⟩⟩
  ·exact h.elim
 ·split at h
  ·rename_i hid
   obtain⟨h1,h2,h3,h⟩:=h
   cases g with
   |true=>simp only[if_true] at h;exact⟨_,h.2,λ_ h'=>by unfold Y5;simp only[hid,if_true];exact⟨h1,h2,h3,h.1,h'⟩⟩
   |false=>simp only[O2,if_false] at h;exact⟨_,h.2,λ_ h'=>by unfold Y5;simp only[hid,O2,if_false];exact⟨h1,h2,h3,h.1,h'⟩⟩
  ·exact h.elim
 ·obtain⟨h1,h⟩:=h
  cases g with
  |true=>simp only[if_true] at h;exact⟨_,h.2,λ_ h'=>by unfold Y5;simp only[if_true];exact⟨h1,h.1,h'⟩⟩
  |false=>simp only[O2,if_false] at h;exact⟨_,h.2,λ_ h'=>by unfold Y5;simp only[O2,if_false];exact⟨h1,h.1,h'⟩⟩
 ·exact h.elim
theorem D9B{m:Nat}{x v:AV}{K:List AO->Prop}(h:A1O os m x v K):∃r,K r/\∀K':List AO->Prop,K' r->A1O os m x v K':=by
 unfold A1O at h
 split at h
 ·exact h.elim
 rename_i vc hvc
 split at h
 ·split at h
  ·rename_i hid
   exact⟨_,h.2.2,λ_ h'=>by unfold A1O;simp only[hvc,hid];exact⟨h.1,h.2.1,h'⟩⟩
  ·exact h.elim
 ·split at h
  ·rename_i hf
   split at h
   ·rename_i hid
    obtain⟨h1,h2,h3,h4,h5,h6,h7⟩:=h
    exact⟨_,h7,λ_ h'=>by unfold A1O;simp only[hvc,hf,hid];exact⟨h1,h2,h3,h4,h5,h6,h'⟩⟩
   ·exact h.elim
  ·exact h.elim
 ·exact h.elim
theorem D7D{x:AV}{K:List (List D)->Prop}(h:p7 os x K):∃r,K r/\∀K':List (List D)->Prop,K' r->p7 os x K':=by
 unfold p7 at h
 split at h
 ·exact⟨_,h,λ_ h=>h⟩
 ·exact⟨_,h,λ_ h=>h⟩
 ·split at h
  ·rename_i hid
   exact⟨_,h.2,λ_ h'=>by unfold p7;simp only[hid];exact⟨h.1,h'⟩⟩
  ·exact h.elim
 ·exact h.elim
theorem D4A{sz by_:Nat}{s:AV}{ns:List (List D)}{K:AV->List AO->Prop}(h:A0T os sz by_ s ns K):∃r os',K r os'/\∀K':AV->List AO->Prop,K' r os'->A0T os sz by_ s ns K':=by
 unfold A0T at h
 split at h
 ·exact⟨_,_,h.2.2.2,λ_ h'=>⟨h.1,h.2.1,h.2.2.1,h'⟩⟩
 ·split at h
  ·rename_i hid
   obtain⟨h1,h2,h3,h4,h5,h6⟩:=h
   exact⟨_,_,h6,λ_ h'=>by unfold A0T;simp only[hid];exact⟨h1,h2,h3,h4,h5,h'⟩⟩
  ·exact h.elim
 ·exact h.elim
theorem D4B{sz by_:Nat}{s:AV}{ns:List (List AV)}{K:AV->List AO->Prop}(h:A1q os sz by_ s ns K):∃r os',K r os'/\∀K':AV->List AO->Prop,K' r os'->A1q os sz by_ s ns K':=by
 unfold A1q at h
 split at h
 ·split at h
  ·rename_i hid
   obtain⟨h1,h2,h3,h4,h5,h6⟩:=h
   exact⟨_,_,h6,λ_ h'=>by unfold A1q;simp only[hid];exact⟨h1,h2,h3,h4,h5,h'⟩⟩
  ·exact h.elim
 ·exact h.elim
theorem D9t{sz:Nat}{x:AV}{lo hi:Option C1}{K:AV->List AO->Prop}(h:slI ρ os sz x lo hi K):∃r os',K r os'/\∀K':AV->List AO->Prop,K' r os'->slI ρ os sz x lo hi K':=by
 unfold slI at h
 split at h
 ·rename_i hf
  obtain⟨m,h,k1⟩:=A20 h
  obtain⟨l,h,k2⟩:=A20 h
  obtain⟨h1,h2,h3,h4,h5⟩:=h
  exact⟨_,_,h5,λK' h'=>by unfold slI;simp only[hf];exact k1 _ (k2 _ ⟨h1,h2,h3,h4,h'⟩)⟩
 ·rename_i hf
  obtain⟨m,h,k1⟩:=A20 h
  obtain⟨l,h,k2⟩:=A20 h
  obtain⟨h1,h2,h3⟩:=h
  exact⟨_,_,h3,λK' h'=>by unfold slI;simp only[hf];exact k1 _ (k2 _ ⟨h1,h2,h'⟩)⟩
 ·exact h.elim
theorem A7c{op:IK}(hd:op.det=true){K:AV->List AO->Prop}(h:A7 P ρ os K op):∃r os',K r os'/\∀K':AV->List AO->Prop,K' r os'->A7 P ρ os K' op:=by
 have one:∀{r:AV} {os':List AO},K r os'->(∀K':AV->List AO->Prop,K' r os'->A7 P ρ os K' op)->∃r os',K r os'/\∀K':AV->List AO->Prop,K' r os'->A7 P ρ os K' op:=λh1 h2=>⟨_,_,h1,h2⟩
 cases op with
 |call f args=>cases hd
 |mv x=>exact one h λ_ h=>h
 |pick c x y=>
  simp only[A7] at h ⊢
  split at h
  ·rename_i t hc
   cases t with
   |true=>exact⟨_,_,h.1 rfl,λK' h'=>⟨λ_=>h',λe=>by cases e⟩⟩
   |false=>exact⟨_,_,h.2 rfl,λK' h'=>⟨λe=>(by cases e),λ_=>h'⟩⟩
  ·exact h.elim
 |un u x=>
  simp only[A7] at h ⊢
  split at h
  ·obtain⟨r,hr,hk⟩:=D9O h;exact⟨_,_,hr,λK' h'=>hk (λr=>K' (.d r) os) h'⟩
  ·exact h.elim
 |bin u x y=>
  simp only[A7] at h ⊢
  obtain⟨r,hr,hk⟩:=D4I h
  exact⟨_,_,hr,λK' h'=>hk (λr=>K' (.d r) os) h'⟩
 |eqb neg x y=>simp only[A7] at h ⊢;split at h<;>first|exact⟨_,_,h,λ_ h=>h⟩|exact h.elim
 |eqs neg ks x y=>
  simp only[A7] at h ⊢
  split at h
  ·split at h
   ·exact⟨_,_,h,λ_ h=>h⟩
   ·exact h.elim
  ·exact h.elim
 |eqnil neg x=>
  simp only[A7] at h ⊢
  split at h
  ·exact⟨_,_,h,λ_ h=>h⟩
  ·exact⟨_,_,h,λ_ h=>h⟩
  ·split at h
   ·exact⟨_,_,h.2,λ_ h'=>⟨h.1,h'⟩⟩
   ·exact h.elim
  ·exact h.elim
 |conv k x=>simp only[A7] at h ⊢;split at h<;>first|exact⟨_,_,h,λ_ h=>h⟩|exact h.elim
 |cvs x=>simp only[A7] at h ⊢;split at h<;>first|exact⟨_,_,h,λ_ h=>h⟩|exact h.elim
 |faddr off x=>
  obtain⟨r,hr,hk⟩:=B34 (show k8 os off (C0 ρ x) λr=>K r os from h)
  exact⟨_,_,hr,λK' h'=>hk (λr=>K' r os) h'⟩
 |nilck x=>
  obtain⟨r,hr,hk⟩:=B34 (show k8 os 0 (C0 ρ x) λr=>K r os from h)
  exact⟨_,_,hr,λK' h'=>hk (λr=>K' r os) h'⟩
 |field off m g x=>
  simp only[A7] at h ⊢
  split at h
  ·cases g with
   |true=>simp only[if_true] at h ⊢;exact⟨_,_,h.2,λ_ h'=>⟨h.1,h'⟩⟩
   |false=>simp only[O2,if_false] at h ⊢;exact⟨_,_,h.2,λ_ h'=>⟨h.1,h'⟩⟩
  ·exact h.elim
 |ixarr l sz x i=>
  simp only[A7] at h ⊢
  split at h
  ·obtain⟨h1,h2,h3⟩:=h
   obtain⟨r,hr,hk⟩:=B34 h3
   exact⟨_,_,hr,λK' h'=>⟨h1,h2,hk (λr=>K' r os) h'⟩⟩
  ·exact h.elim
 |ixsl sz x i=>
  simp only[A7] at h ⊢
  split at h
  ·split at h
   ·obtain⟨h1,h2,h3,h4⟩:=h
    exact⟨_,_,h4,λK' h'=>⟨h1,h2,h3,h'⟩⟩
   ·split at h
    ·obtain⟨h1,h2,h3,h4,h5,h6⟩:=h
     exact⟨_,_,h6,λK' h'=>⟨h1,h2,h3,h4,h5,h'⟩⟩
    ·exact h.elim
   ·split at h
    ·obtain⟨h1,h2,h3,h4,h5,h6⟩:=h
     exact⟨_,_,h6,λK' h'=>⟨h1,h2,h3,h4,h5,h'⟩⟩
    ·exact h.elim
   ·exact h.elim
  ·exact h.elim
 |ixstr x i=>
  simp only[A7] at h ⊢
  split at h
  ·exact⟨_,_,h.2.2,λK' h'=>⟨h.1,h.2.1,h'⟩⟩
  ·exact h.elim
 |ixval l sz g x i=>
  simp only[A7] at h ⊢
  split at h
  ·obtain⟨h1,h2,h⟩:=h
   cases g with
   |true=>simp only[if_true] at h ⊢;exact⟨_,_,h.2,λ_ h'=>⟨h1,h2,h.1,h'⟩⟩
   |false=>simp only[O2,if_false] at h ⊢;exact⟨_,_,h.2.2,λ_ h'=>⟨h1,h2,h.1,h.2.1,h'⟩⟩
  ·exact h.elim
 |slstr x lo hi=>
  simp only[A7] at h ⊢
  split at h
  ·obtain⟨m,h,k1⟩:=A20 h
   obtain⟨l,h,k2⟩:=A20 h
   obtain⟨h1,h2,h3,h4⟩:=h
   exact⟨_,_,h4,λK' h'=>k1 _ (k2 _ ⟨h1,h2,h3,h'⟩)⟩
  ·exact h.elim
 |slsl sz x lo hi=>exact D9t h
 |stop=>exact h.elim
 |mkb f x=>
  simp only[A7] at h ⊢
  split at h
  ·rename_i cs e
   split at h
   ·rename_i vs e2
    exact⟨_,_,h,λK' h'=>h'⟩
   ·exact h.elim
  ·exact⟨_,_,h,λK' h'=>h'⟩
  ·exact h.elim
 |slsld sz x lo hi=>
  simp only[A7] at h ⊢
  unfold A2Z at h
  split at h
  ·rename_i es e
   obtain⟨m,h,k1⟩:=A20 h
   obtain⟨l,h,k2⟩:=A20 h
   obtain⟨h1,h2,h3,h4,h5⟩:=h
   exact⟨_,_,h5,λK' h'=>by unfold A2Z;rw[e];exact k1 _ (k2 _ ⟨h1,h2,h3,h4,h'⟩)⟩
  ·rename_i e
   obtain⟨m,h,k1⟩:=A20 h
   obtain⟨l,h,k2⟩:=A20 h
   obtain⟨h1,h2,h3⟩:=h
   exact⟨_,_,h3,λK' h'=>by unfold A2Z;rw[e];exact k1 _ (k2 _ ⟨h1,h2,h'⟩)⟩
  ·exact h.elim
 |build zs ps=>
  simp only[A7] at h ⊢
  obtain⟨r,hr,hk⟩:=A5j h
  exact⟨_,_,hr,λK' h'=>hk _ h'⟩
 |bsl m sz zs ps=>
  simp only[A7] at h ⊢
  obtain⟨r,hr,hk⟩:=A5j h
  split at hr
  ·rename_i xs os1 hf
   rcases hr with hr|⟨he,hr⟩
   ·exact⟨_,_,hr,λK' h'=>hk _ (by simp only[hf];exact .inl h')⟩
   ·exact⟨_,_,hr,λK' h'=>hk _ (by simp only[hf];exact .inr ⟨he,h'⟩)⟩
  ·exact hr.elim
 |bsld m sz zs ps=>
  simp only[A7] at h ⊢
  obtain⟨r,hr,hk⟩:=A5j h
  split at hr
  ·rename_i xs os1 hf
   exact⟨_,_,hr.2,λK' h'=>hk _ (by simp only[hf];exact⟨hr.1,h'⟩)⟩
  ·exact hr.elim
 |clo f caps=>
  simp only[A7] at h ⊢
  split at h
  ·exact⟨_,_,h,λ_ h=>h⟩
  ·split at h
   ·exact⟨_,_,h,λ_ h=>h⟩
   ·exact h.elim
 |ext i x=>
  simp only[A7] at h ⊢
  split at h
  ·exact⟨_,_,h.2,λ_ h'=>⟨h.1,h'⟩⟩
  ·exact h.elim
 |len x=>
  simp only[A7] at h ⊢
  split at h
  ·exact⟨_,_,h,λ_ h=>h⟩
  ·exact⟨_,_,h,λ_ h=>h⟩
  ·split at h
   ·exact⟨_,_,h.2,λ_ h'=>⟨h.1,h'⟩⟩
   ·exact h.elim
  ·split at h
   ·exact⟨_,_,h.2,λ_ h'=>⟨h.1,h'⟩⟩
   ·exact h.elim
  ·exact h.elim
 |lens x=>simp only[A7] at h ⊢;split at h<;>first|exact⟨_,_,h,λ_ h=>h⟩|exact h.elim
 |lenk m=>exact one h λ_ h=>h
 |minmax mx x xs=>
  simp only[A7] at h ⊢
  split at h
  ·obtain⟨r,hr,hk⟩:=A75 mx _ h
   exact⟨_,_,hr,λK' h'=>hk (λr=>K' r os) h'⟩
  ·exact h.elim
 |load g m x=>
  obtain⟨r,hr,hk⟩:=A9g (show Y5 os g m (C0 ρ x) λr=>K r os from h)
  exact⟨_,_,hr,λK' h'=>hk (λr=>K' r os) h'⟩
 |store m x v=>
  obtain⟨r,hr,hk⟩:=D9B (show A1O os m (C0 ρ x) (C0 ρ v) λos'=>K .junk os' from h)
  exact⟨_,_,hr,λK' h'=>hk (λos'=>K' .junk os') h'⟩
 |alloc zs=>exact one h λ_ h=>h
 |box m x=>
  simp only[A7] at h ⊢
  split at h
  ·exact⟨_,_,h.2,λ_ h'=>⟨h.1,h'⟩⟩
  ·exact h.elim
 |mksl sz by_ zs l c=>
  simp only[A7] at h ⊢
  split at h
  ·obtain⟨h1,h2,h3,h4,h5⟩:=h
   exact⟨_,_,h5,λ_ h'=>⟨h1,h2,h3,h4,h'⟩⟩
  ·exact h.elim
 |app sz by_ s x=>
  simp only[A7] at h ⊢
  split at h
  ·split at h
   ·obtain⟨h1,h2,h⟩:=h
    obtain⟨r,os',hr,k2⟩:=D4B h
    exact⟨r,os',hr,λK' h'=>⟨h1,h2,k2 K' h'⟩⟩
   ·exact h.elim
  ·obtain⟨ns,h,k1⟩:=D7D h
   obtain⟨r,os',hr,k2⟩:=D4A h
   exact⟨r,os',hr,λK' h'=>k1 (λns=>A0T os sz by_ (C0 ρ s) ns K') (k2 K' h')⟩
 |calld f args=>
  simp only[A7] at h ⊢
  split at h
  ·rcases h with h|h
   ·split at h
    ·rename_i e
     obtain⟨h1,r,h2,h3⟩:=h
     exact⟨r,_,h3,λK' h'=>.inl ⟨h1,r,h2,h'⟩⟩
    ·exact h.elim
   ·split at h
    ·rename_i e
     obtain⟨h1,r,h2,h3⟩:=h
     exact⟨r,_,h3,λK' h'=>.inr ⟨h1,r,h2,h'⟩⟩
    ·exact h.elim
  ·split at h
   ·obtain⟨h1,r,h2,h3⟩:=h
    exact⟨r,_,h3,λK' h'=>⟨h1,r,h2,h'⟩⟩
   ·exact h.elim
  ·exact h.elim
 |rstr x=>simp only[A7] at h ⊢;split at h<;>first|exact⟨_,_,h,λ_ h=>h⟩|exact h.elim
 |nstr x=>
  simp only[A7] at h ⊢
  split at h
  ·split at h
   ·rename_i s p hid
    by_cases hp:p<s.length
    ·exact⟨_,_,h.1 hp,λK' h'=>⟨λ_=>h',λhn=>by omega⟩⟩
    ·exact⟨_,_,h.2 (by omega),λK' h'=>⟨λhn=>absurd hn hp,λ_=>h'⟩⟩
   ·exact h.elim
  ·exact h.elim
 |nmap x=>cases hd
 |callp f args=>
  simp only[A7] at h ⊢
  split at h
  ·rcases h with h|h
   ·split at h
    ·obtain⟨h1,r,h2,h3⟩:=h
     exact⟨r,_,h3,λK' h'=>.inl ⟨h1,r,h2,h'⟩⟩
    ·exact h.elim
   ·split at h
    ·split at h
     ·obtain⟨h1,r,h2,h3⟩:=h
      exact⟨r,_,h3,λK' h'=>.inr ⟨h1,r,h2,h'⟩⟩
     ·exact h.elim
    ·exact h.elim
  ·exact h.elim
 |calln id f args=>
  simp only[A7] at h ⊢
  split at h
  ·split at h
   ·obtain⟨h1,h0,h⟩:=h
    rcases h with ⟨es,sz,nl,h2,h3⟩|⟨r,h2,h3⟩
    ·exact⟨_,_,h3,λK' h'=>⟨h1,h0,.inl ⟨es,sz,nl,h2,h'⟩⟩⟩
    ·exact⟨_,_,h3,λK' h'=>⟨h1,h0,.inr ⟨r,h2,h'⟩⟩⟩
   ·exact h.elim
  ·exact h.elim
 |callo f args=>
  simp only[A7] at h ⊢
  split at h
  ·split at h
   ·split at h
    ·obtain⟨h0,es,nl,h2,h3⟩:=h
     exact⟨_,_,h3,λK' h'=>⟨h0,es,nl,h2,h'⟩⟩
    ·exact h.elim
   ·split at h
    ·obtain⟨h1,r,h2,h3⟩:=h
     exact⟨r,_,h3,λK' h'=>⟨h1,r,h2,h'⟩⟩
    ·exact h.elim
  ·exact h.elim
 |bslr id m sz zs ps=>
  simp only[A7] at h ⊢
  obtain⟨r,hr,hk⟩:=A5j h
  split at hr
  ·rename_i hid
   exact⟨_,_,hr,λK' h'=>hk _ h'⟩
  ·exact hr.elim
 |alloca id zs=>
  simp only[A7] at h ⊢
  split at h
  ·exact⟨_,_,h,λ_ h=>h⟩
  ·exact h.elim
 |boxa id m x=>
  simp only[A7] at h ⊢
  split at h
  ·exact⟨_,_,h.2,λ_ h'=>⟨h.1,h'⟩⟩
  ·exact h.elim
 |mkmap=>exact one h λ_ h=>h
 |lkup sk ok g zs m k=>
  simp only[A7] at h ⊢
  split at h
  ·split at h
   ·obtain⟨h0,h|⟨e,sz,frz,ho,h⟩⟩:=h
    ·exact⟨_,_,h,λ_ h'=>⟨h0,.inl h'⟩⟩
    ·exact⟨_,_,h,λ_ h'=>⟨h0,.inr ⟨e,sz,frz,ho,h'⟩⟩⟩
   ·exact h.elim
  ·exact h.elim
 |mupd sk m k v=>
  simp only[A7] at h ⊢
  split at h
  ·split at h
   ·exact⟨_,_,h.2.2,λ_ h'=>⟨h.1,h.2.1,h'⟩⟩
   ·exact h.elim
  ·exact h.elim
 |rmap x=>
  simp only[A7] at h ⊢
  split at h
  ·split at h
   ·exact⟨_,_,h,λ_ h=>h⟩
   ·exact h.elim
  ·exact h.elim
 |entry x=>
  simp only[A7] at h ⊢
  split at h
  ·split at h
   ·split at h
    ·obtain⟨h1,h⟩:=h
     split at h
     ·split at h
      ·exact⟨_,_,h,λ_ h=>⟨h1,h⟩⟩
      ·exact h.elim
     ·exact h.elim
    ·exact h.elim
   ·exact h.elim
  ·exact h.elim
end
end Go.Bi
