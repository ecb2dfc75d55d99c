/- Soundness of the operations of a region, in the order of the text and in any other. No condition. -/
import Derived.Test.YtfnaleemmeejcaaGreatBL
set_option linter.unusedVariables false
namespace Go.Bi
set_option linter.unusedSectionVars false
variable [M6]
structure Ctx where
 M:D6
 G:Gh
 os:List AO
 w:World
structure Z5(n nb:Nat)(c:Ctx)(M:D6)(G:Gh)(os:List AO)(w:World)(ρ:D7)(a:Act):Prop where
 env:C8 M G os w
 since:F9 c.M c.G c.os c.w M G os w
 tmps:J0 M G os ρ a
 size:a.tmps.size=n
 defers:a.defers=[]
 base:c.os.length=nb
section
variable {P:Program}{n nb:Nat}{c:Ctx}{M:D6}{G:Gh}{os:List AO}{w:World}{ρ:D7}{a:Act}
theorem E1p{M':D6}{G':Gh}{os':List AO}{w':World}(ht:J0 M G os ρ a)(hs:F9 M G os w M' G' os' w'){d:Option Nat}(hd:∀t,d=some t->t<a.tmps.size){r:AV}{v:Value}(hv:VA M' G' os' r v) :
  J0 M' G' os' (updo d r ρ) (a.put d v):=by
 intro t
 cases d with
 |none=>exact(ht t).since hs
 |some d=>
  have hlt:=hd d rfl
  simp only[updo,upd,Act.put]
  by_cases htd:t=d
  ·subst htd
   rw[if_pos rfl]
   have:(a.tmps.setIfInBounds t v).getD t undef=v:=by simp[hlt]
   rw[this]
   exact hv
  ·rw[if_neg htd]
   have:(a.tmps.setIfInBounds d v).getD t undef=a.tmps.getD t undef:=by
    simp[A2e (Ne.symm htd)]
   rw[this]
   exact(ht t).since hs
theorem E1o(a:Act)(d:Option Nat)(v:Value):(a.put d v).tmps.size=a.tmps.size:=by cases d<;>simp[Act.put]
theorem E1n(a:Act)(d:Option Nat)(v:Value):(a.put d v).defers=a.defers:=by cases d<;>rfl
theorem Z5.put{M':D6}{G':Gh}{os':List AO}{w':World}(h:Z5 n nb c M G os w ρ a)(he:C8 M' G' os' w')(hs:F9 M G os w M' G' os' w'){d:Option Nat}(hd:∀t,d=some t->t<n){r:AV}{v:Value}(hv:VA M' G' os' r v) :
  Z5 n nb c M' G' os' w' (updo d r ρ) (a.put d v) where
 env:=he
 since:=h.since.trans hs
 tmps:=E1p h.tmps hs (λt ht=>by rw[h.size];exact hd t ht) hv
 size:=by rw[E1o];exact h.size
 defers:=by rw[E1n];exact h.defers
 base:=h.base
def A10(n nb:Nat)(c:Ctx)(K:D7->List AO->Prop)(a:Act)(w:World):Prop:=∃M G os ρ,Z5 n nb c M G os w ρ a/\K ρ os
theorem E2l:VA M G os (.tup []) undef:=⟨#[],rfl,rfl,λj c u h=>by simp at h⟩
theorem C1C{draw:Bool}{ops:List Oper}{o:Oper}{io:D0}(h:cOp P n draw ops o=some io):cIK P draw o.op=some io.op/\A90 ops o.guard=some io.guard/\io.dst=o.dst/\∀t,o.dst=some t->t<n:=by
 unfold cOp at h
 split at h
 ·rename_i k g h1 h2
  by_cases hd:B2e n o.dst=true
  ·rw[if_pos hd] at h
   cases h
   exact⟨h1,h2,rfl,λt ht=>by rw[ht] at hd;simpa[B2e] using hd⟩
  ·rw[if_neg hd] at h
   cases h
 ·cases h
def B22(x:Option Value):Option Bool:=match x with|some (.bool b)=>some b|_=>none
def A19(k k':IK):Prop:=k'=k\/(∃zs id,k=.alloc zs/\k'=.alloca id zs)\/(∃n x id,k=.box n x/\k'=.boxa id n x)\/(∃f args,k=.calld f args/\k'=.callp f args)\/
 (∃f args id,k=.calld f args/\k'=.calln id f args)\/(∃f args,k=.calld f args/\k'=.callo f args)\/(∃n sz zs ps id,k=.bsld n sz zs ps/\k'=.bslr id n sz zs ps)\/∃f args,k=.calld f args/\k'=.call f args
def IK.tag:IK->Nat
 |.alloc _=>1
 |.box ..=>2
 |.calld ..=>3
 |.bsld ..=>4
 |.alloca ..=>5
 |.boxa ..=>6
 |.calln ..=>7
 |.bslr ..=>8
 |.callo ..=>9
 |_=>0
theorem A6G{op:BinOp}{t:TypeId}{x y:Operand}{k:IK}(h:A6F P op t x y=some k):k.tag=0:=by
 unfold A6F A6J at h
 repeat' (first|(cases h;done)|(injection h with h;subst h;rfl)|(obtain⟨_,_,rfl⟩:=J3.1 h;rfl)|split at h)
theorem A6I{b:Builtin}{as:List Operand}{ts:List TypeId}{k:IK}(h:A6H P b as ts=some k):k.tag=0:=by
 unfold A6H at h
 repeat' (first|(cases h;done)|(injection h with h;subst h;rfl)|(obtain⟨_,_,rfl⟩:=J3.1 h;rfl)|split at h)
theorem D7o{draw:Bool}{op:Op}{zs:List D}(h:A0o P draw op=some (.alloc zs)):∃t,op=.alloc t/\tz P t=some zs:=by
 unfold A0o at h
 split at h
 all_goals first
  |exact absurd (A6G h) (by simp[IK.tag])
  |(obtain⟨x,hx,e⟩:=J3.1 h;cases e;exact⟨_,rfl,hx⟩)
  |skip
 all_goals repeat' (first|(cases h;done)|exact absurd (A6I h) (by simp[IK.tag])|(obtain⟨_,_,e⟩:=J3.1 h;cases e;done)|(obtain⟨_,_,e⟩:=J3.1 h;split at e<;>(cases e;done))|(injection h with h;split at h<;>(cases h;done))|split at h)
theorem D7p{draw:Bool}{op:Op}{m:Nat}{x':C2}(h:A0o P draw op=some (.box m x')):∃t x,op=.box t x/\cO x=some x':=by
 unfold A0o at h
 split at h
 all_goals first
  |exact absurd (A6G h) (by simp[IK.tag])
  |skip
 all_goals repeat' (first|(cases h;done)|exact absurd (A6I h) (by simp[IK.tag])|(obtain⟨_,_,e⟩:=J3.1 h;cases e;done)|(injection h with h;injection h with h3 h4;subst h4;exact⟨_,_,rfl,by assumption⟩)|(obtain⟨_,_,e⟩:=J3.1 h;split at e<;>(cases e;done))|(injection h with h;split at h<;>(cases h;done))|split at h)
theorem B23{draw:Bool}{op:Op}{f':C2}{args':List C2}(h:A0o P draw op=some (.calld f' args')):∃c f,op=.call c/\c.callee=.value f/\cO f=some f'/\c.args.toList.mapM cO=some args':=by
 unfold A0o at h
 split at h
 all_goals first
  |exact absurd (A6G h) (by simp[IK.tag])
  |skip
 all_goals repeat' (first|(cases h;done)|exact absurd (A6I h) (by simp[IK.tag])|(obtain⟨_,_,e⟩:=J3.1 h;cases e;done)|(injection h with h;split at h<;>first|(cases h;done)|(injection h with h1 h2;subst h1;subst h2;exact⟨_,_,rfl,by assumption,by assumption,by assumption⟩))|(obtain⟨_,_,e⟩:=J3.1 h;split at e<;>(cases e;done))|split at h)
theorem D7q{draw:Bool}{op:Op}{n sz:Nat}{zs:List D}{ps:List (Nat×Nat×C2)}(h:A0o P draw op=some (.bsld n sz zs ps)):∃t parts e,op=.buildSlice t n parts/\P.underlying t=some (.slice e)/\L7 P e=some sz/\tz P e=some zs/\0<sz/\zs.length=sz/\n*sz<=16777216/\A1N (λi=>some (i*sz,sz)) parts.toList=some ps:=by
 unfold A0o at h
 split at h
 all_goals first
  |exact absurd (A6G h) (by simp[IK.tag])
  |skip
 all_goals repeat' (first|(cases h;done)|exact absurd (A6I h) (by simp[IK.tag])|(obtain⟨_,_,e⟩:=J3.1 h;cases e;done)|(injection h with h;split at h<;>(cases h;done))|(obtain⟨w,hq,e⟩:=J3.1 h;split at e<;>first|(cases e;done)|(injection e with h1 h2 h3 h4;subst h1;subst h2;subst h3;subst h4;rename_i hc _;exact⟨_,_,_,rfl,by assumption,by assumption,by assumption,hc.1,hc.2.1,hc.2.2,hq⟩))|split at h)
theorem D7r{draw:Bool}{op:Op}{k:IK}(h:A0o P draw op=some k):k.tag<=4:=by
 unfold A0o at h
 split at h
 all_goals first
  |exact J2 (Nat.le_of_eq (A6G h)) (by decide)
  |skip
 all_goals repeat' (first|(cases h;done)|exact J2 (Nat.le_of_eq (A6I h)) (by decide)|(obtain⟨_,_,rfl⟩:=J3.1 h;first|(simp only[IK.tag];omega)|(split<;>(simp only[IK.tag];omega)))|(injection h with h;subst h;first|(simp only[IK.tag];omega)|(split<;>(simp only[IK.tag];omega)))|split at h)
theorem D7s{draw:Bool}{op:Op}{k:IK}(h:cIK P draw op=some k):k.tag<=4:=by
 by_cases hs:k=.stop
 ·subst hs;simp[IK.tag]
 ·exact D7r (A3O h hs)
theorem dbC:∀{cs:List AV},cs.all AV.isd=true->∃xs:List D,cs=xs.map .d/\∀os,t8 os cs=some (xs,os)
 |[],_=>⟨[],rfl,λ_=>rfl⟩
 |c::cs,h=>by
  simp only[A1B,J9] at h
  obtain⟨xs,h1,h2⟩:=dbC h.2
  cases c with
  |d x=>exact⟨x::xs,by rw[h1];rfl,λos=>by simp only[t8,A1f,h2]⟩
  |_=>cases h.1
theorem dbG{c:AV}(h:c.isDB=true)(os:List AO):A1g os c=some (c,os)/\c.ref=false:=by
 cases c with
 |d x=>exact⟨rfl,rfl⟩
 |agg cs=>
  obtain⟨xs,rfl,h2⟩:=dbC (show cs.all AV.isd=true from h)
  refine⟨by simp only[A1g,h2],?_⟩
  simp only[AV.ref]
  rw[A50]
  intro e
  obtain⟨c,hc,h3⟩:=List.any_eq_true.1 e
  obtain⟨x,_,rfl⟩:=D9.1 hc
  cases h3
 |_=>cases h
theorem dbP:∀{cs:List AV},cs.all AV.isDB=true->∀os,u9 os cs=some (cs,os)
 |[],_,os=>rfl
 |c::cs,h,os=>by
  simp only[A1B,J9] at h
  obtain⟨h1,h2⟩:=dbG h.1 os
  simp only[u9,h1,h2,dbP h.2]
  rfl
theorem E1h{cs:List AV}{id off:Nat}(h:cs.all AV.isDB=true)(os:List AO):u9 os (.ptr id off::cs)=some (.ptr id off::cs,os):=by
 have h2:(AV.ptr id off).ref=true:=rfl
 simp only[u9,h2,dbP h,if_true]
theorem E0Z(he:C8 M G os w)(ht:J0 M G os ρ a){o:Oper}{draw:Bool}{k k':IK}(hk:cIK P draw o.op=some k)(hp:A19 k k'){K:AV->List AO->Prop}(h:A7 P ρ os K k'):G3 P M G os w K (execOp a.eval o):=by
 rcases hp with rfl|⟨zs,id,rfl,rfl⟩|⟨m,x,id,rfl,rfl⟩|⟨f,args,rfl,rfl⟩|⟨f,args,id,rfl,rfl⟩|⟨f,args,rfl,rfl⟩|⟨m,sz,zs,ps,id,rfl,rfl⟩|⟨f,args,rfl,rfl⟩
 ·exact B34 he ht hk h
 ·obtain⟨t,h1,h2⟩:=D7o (A3O hk (by simp))
  exact E0h he h1 h2 h
 ·obtain⟨t,x0,h1,h2⟩:=D7p (A3O hk (by simp))
  exact E0l he ht h1 h2 h
 ·refine B34 he ht hk ?_
  simp only[A7] at h ⊢
  split at h
  ·rename_i g e
   rw[e]
   rcases h with h|h
   ·exact Or.inl h
   ·refine Or.inr ?_
    split at h
    ·rename_i id off as0 hv
     split at h
     ·rename_i ob hob
      obtain⟨h1,r,h2,h3⟩:=h
      rw[hv,E1h h1]
      exact⟨rfl,r,h2 os hob,h3⟩
     ·exact h.elim
    ·exact h.elim
  ·exact h.elim
 ·obtain⟨c,f0,h1,h2,h3,h4⟩:=B23 (A3O hk (by simp))
  exact E0p he ht h1 h2 h3 h4 h
 ·by_cases harr:∃id len as,args.map (C1 ρ)=AV.arr id len::as
  ·obtain⟨id,len,as,hmap⟩:=harr
   obtain⟨c,f0,h1,h2,h3,h4⟩:=B23 (A3O hk (by simp))
   exact E0q he ht h1 h2 h3 h4 hmap h
  ·refine B34 he ht hk ?_
   simp only[A7] at h ⊢
   split at h
   ·split at h
    ·rename_i hm
     exact absurd ⟨_,_,_,hm⟩ harr
    ·rename_i g e _ _
     rw[e]
     exact Or.inl h
   ·exact h.elim
 ·obtain⟨t,parts,e,h1,h2,h3,h4,h5,h6,h7,h8⟩:=D7q (A3O hk (by simp))
  exact E0n he ht h1 h2 h3 h4 h5 h6 h7 h8 h
 ·obtain⟨c,f0,h1,h2,h3,h4⟩:=B23 (A3O hk (by simp))
  exact C46 he ht h1 h2 h3 h4 h
theorem E10{draw:Bool}{ops:Array Oper}{o:Oper}{io0 io:D0}{Q:Exit->Act->World->Prop}{i:Nat}(hi:ops[i]?=some o)(hc:cOp P n draw ops.toList o=some io0)(hpl:A19 io0.op io.op/\io.guard=io0.guard/\io.dst=io0.dst)(hR:Z5 n nb c M G os w ρ a){K:D7->List AO->Prop}(h:S5 P io ρ os K) :
  wpOp P ops Q i (A10 n nb c K) a w:=by
 obtain⟨h1,h2,h3,h4⟩:=C1C hc
 rw[<- hpl.2.1] at h2
 rw[<- hpl.2.2] at h3
 unfold S5 at h
 rw[h3] at h
 unfold wpOp
 rw[hi]
 dsimp only
 have yes:Region.wanted o (yielded ops a.tmps)=true->A7 P ρ os (λr os'=>K (updo o.dst r ρ) os') io.op->(if Region.wanted o (yielded ops a.tmps)=true then o.wp P a w (A10 n nb c K) Q\/(o.asks P a w/\LetsOut Q) else A10 n nb c K (a.put o.dst undef) w):=by
  intro hw hop
  rw[if_pos hw]
  refine .inl ?_
  have hok:=E0Z hR.env hR.tmps h1 hpl.1 hop
  unfold G3 at hok
  unfold Oper.wp
  generalize (execOp a.eval o).run P w=N0 at hok
  cases N0 with
  |halt x w'=>exact hok.elim
  |ok nx w'=>
   cases nx with
   |value v=>
    obtain⟨M',G',r,os',q1,q2,q3,q4⟩:=hok
    exact⟨M',G',os',_,hR.put q1 q2 h4 q3,q4⟩
   |skip=>
    obtain⟨M',G',os',q1,q2,q3⟩:=hok
    exact⟨M',G',os',_,hR.put q1 q2 h4 (r:=.junk) trivial,q3⟩
   |enter f args=>
    obtain⟨rfl,hcall⟩:=hok
    refine Calls.mono hcall ?_
    rintro e w'' ⟨v,rfl,M',G',r,os',q1,q2,q3,q4⟩
    exact⟨M',G',os',_,hR.put q1 q2 h4 q3,q4⟩
   |_=>exact hok.elim
 have no:Region.wanted o (yielded ops a.tmps)=false->K (updo o.dst (.tup []) ρ) os->(if Region.wanted o (yielded ops a.tmps)=true then o.wp P a w (A10 n nb c K) Q\/(o.asks P a w/\LetsOut Q) else A10 n nb c K (a.put o.dst undef) w):=by
  intro hw hk
  rw[if_neg (by rw[hw];simp)]
  exact⟨M,G,os,_,hR.put hR.env (F9.refl ..) h4 E2l,hk⟩
 cases hg:o.guard with
 |none=>
  rw[hg] at h2
  simp only[A90] at h2
  cases h2':io.guard with
  |some _=>rw[h2'] at h2;cases h2
  |none=>
   rw[h2'] at h
   exact yes (by simp[Region.wanted,hg]) h
 |some jw=>
  obtain⟨j,want⟩:=jw
  rw[hg] at h2
  simp only[A90] at h2
  split at h2
  ·rename_i o' ho'
   obtain⟨t,ht,hgd⟩:=J3.1 h2
   rw[<- hgd] at h
   simp only[gI] at h
   have hy:yielded ops a.tmps j=B22 (a.tmps[t]?):=by
    have:ops[j]?=some o':=by simpa using ho'
    unfold yielded
    rw[this]
    simp only[Option.bind_some,ht]
    cases hq:a.tmps[t]? with
    |none=>rfl
    |some v=>cases v<;>rfl
   have hget:∀v,a.tmps.getD t undef=v->v≠undef->a.tmps[t]?=some v:=λv hv hne=>by
    cases hq:a.tmps[t]? with
    |none=>simp[hq] at hv;exact absurd hv.symm hne
    |some u=>simp[hq] at hv;rw[hv]
   split at h
   ·rename_i b hb
    have hv:=hR.tmps t
    rw[hb] at hv
    have hv:=hget _ (A4X hv) (by simp[undef])
    rw[hv] at hy
    by_cases hbw:b=want
    ·exact yes (by simp[Region.wanted,hg,hy,hbw,B22]) (h.1 hbw)
    ·have hbn:b=!want:=by cases b<;>cases want<;>simp_all
     exact no (by simp[Region.wanted,hg,hy,hbw,B22]) (h.2 hbn)
   ·rename_i hb
    have hv:=hR.tmps t
    rw[hb] at hv
    obtain⟨vs,hvs,hl,_⟩:=hv
    have hvs':vs=#[]:=Array.size_eq_zero_iff.1 hl
    subst hvs'
    have:yielded ops a.tmps j=none:=by
     rw[hy]
     cases hq:a.tmps[t]? with
     |none=>rfl
     |some u=>
      simp[hq] at hvs
      rw[hvs]
      rfl
    exact no (by simp[Region.wanted,hg,this]) h
   ·exact h.elim
  ·cases h2
def n6(P:Program)(is:List D0):List Nat->D7->List AO->(D7->List AO->Prop)->Prop
 |[],ρ,os,K=>K ρ os
 |i::l,ρ,os,K=>match is[i]? with
  |some o=>S5 P o ρ os λρ' os'=>n6 P is l ρ' os' K
  |none=>n6 P is l ρ os K
theorem A5M{α β:Type}{f:α->Option β}:∀{l:List α}{r:List β},l.mapM f=some r->r.length=l.length/\∀(i:Nat) x,l[i]?=some x->∃y,r[i]?=some y/\f x=some y
 |[],r,h=>by simp at h;subst h;simp
 |x::l,r,h=>by
  simp only[A12,A3H,i6] at h
  obtain⟨y,hy,ys,hys,hp⟩:=h
  simp at hp
  subst hp
  obtain⟨i1,i2⟩:=A5M hys
  refine⟨by simp[i1],λi z hz=>?_⟩
  cases i with
  |zero=>simp at hz;subst hz;exact⟨y,rfl,hy⟩
  |succ i=>exact i2 i z (by simpa using hz)
theorem A7y{draw:Bool}{ops:Array Oper}{is0 is:List D0}{Q:Exit->Act->World->Prop}{K:D7->List AO->Prop}(hc:ops.toList.mapM (cOp P n draw ops.toList)=some is0)(hpl:is.length=is0.length/\∀(i:Nat) o0 o,is0[i]?=some o0->is[i]?=some o->A19 o0.op o.op/\o.guard=o0.guard/\o.dst=o0.dst)(hQ:∀a w,A10 n nb c K a w->Q .normal a w) :
  ∀(l:List Nat) {M:D6} {G:Gh} {os:List AO} {w:World} {ρ:D7} {a:Act},Z5 n nb c M G os w ρ a->n6 P is l ρ os K->wpOps P ops Q l a w
 |[],M,G,os,w,ρ,a,hR,h=>hQ a w ⟨M,G,os,ρ,hR,h⟩
 |i::l,M,G,os,w,ρ,a,hR,h=>by
  obtain⟨hlen,hget⟩:=A5M hc
  rw[wpOps_cons]
  simp only[n6] at h
  cases ho:ops[i]? with
  |none=>
   have:is[i]?=none:=by
    have:=Array.getElem?_eq_none_iff.1 ho
    rw[A1C]
    rw[hpl.1,hlen];simpa using this
   rw[this] at h
   unfold wpOp
   rw[ho]
   exact A7y hc hpl hQ l hR h
  |some o=>
   obtain⟨io0,hio0,hco⟩:=hget i o (by simpa using ho)
   have hil:i<is.length:=by rw[hpl.1];exact(B3.1 hio0).1
   obtain⟨io,hio⟩:∃io,is[i]?=some io:=⟨_,F1 hil⟩
   rw[hio] at h
   refine wpOp_mono ?_ (E10 ho hco (hpl.2 i _ _ hio0 hio) hR h)
   rintro a' w' ⟨M',G',os',ρ',hR',hk⟩
   exact A7y hc hpl hQ l hR' hk
theorem C4e(is:List D0)(K:D7->List AO->Prop):∀(l:List D0)(s:Nat)(ρ:D7)(os:List AO),(∀i,l[i]?=is[s+i]?)->n6 P is (List.range' s l.length) ρ os K=A2B P l ρ os K
 |[],s,ρ,os,hl=>rfl
 |o::l,s,ρ,os,hl=>by
  have h0:=hl 0
  simp only[A2V,A4t] at h0
  have ih:(λρ' os'=>n6 P is (List.range' (s+1) l.length) ρ' os' K)=λρ' os'=>A2B P l ρ' os' K:=by
   funext ρ' os'
   exact C4e is K l (s+1) ρ' os' (λi=>by have:=hl (i+1);simpa[Nat.add_assoc,Nat.add_comm 1] using this)
  simp only[H7,List.range'_succ,n6,<- h0,ih,A2B]
theorem E11{is:List D0}{K:D7->List AO->Prop}(h:A2B P is ρ os K):n6 P is (List.range is.length) ρ os K:=by
 rw[A8z,C4e is K is 0 ρ os (λi=>by simp)]
 exact h
theorem A9x{g:Option (Nat×Bool)}{y y' n n':Prop}(h1:y->y')(h2:n->n')(h:gI ρ g y n):gI ρ g y' n':=by
 unfold gI at *
 split
 ·exact h1 h
 ·rename_i t want
  dsimp only at h
  split at h
  ·exact⟨λe=>h1 (h.1 e),λe=>h2 (h.2 e)⟩
  ·exact h2 h
  ·exact h.elim
theorem A2l{x:Option C2}{d:Nat}{K:Int->Prop}(h:W4 ρ x d K):∃m,K m/\∀K':Int->Prop,K' m->W4 ρ x d K':=by
 unfold W4 at h
 split at h
 ·exact⟨_,h,λK' hk=>hk⟩
 ·split at h
  ·rename_i k m hm
   exact⟨m,h,λK' hk=>by unfold W4;simp only[hm];exact hk⟩
  ·exact h.elim
theorem A5B:∀{ps:List (Nat×Nat×C2)}{cs:List AV}{K:List AV->Prop},Q8 ρ ps cs K->∃r,K r/\∀K':List AV->Prop,K' r->Q8 ρ ps cs K'
 |[],cs,K,h=>⟨cs,h,λ_ h=>h⟩
 |(off,n,x)::ps,cs,K,h=>by
  simp only[Q8] at h ⊢
  split at h
  ·obtain⟨h1,h2,h3⟩:=h
   obtain⟨r,hr,hk⟩:=A5B h3
   exact⟨r,hr,λK' hk'=>⟨h1,h2,hk K' hk'⟩⟩
  ·exact h.elim
theorem A7r(mx:Bool)(k:IntKind):∀{xs:List AV}{m:Int}{K:AV->Prop},y7 mx k m xs K->∃r,K r/\∀K':AV->Prop,K' r->y7 mx k m xs K'
 |[],m,K,h=>⟨_,h,λ_ h=>h⟩
 |x::xs,m,K,h=>by
  unfold y7 at h
  split at h
  ·rename_i hc;cases hc
  ·rename_i k' b rest hc
   injection hc with hc1 hc2
   subst hc1;subst hc2
   cases mx with
   |true=>
    simp only[if_true] at h
    rcases Int.lt_or_le m b with hlt|hle
    ·obtain⟨r,hr,hk⟩:=A7r true k (h.2 hlt)
     exact⟨r,hr,λK' hk'=>by unfold y7;simp only[if_true];exact⟨λh=>by omega,λ_=>hk K' hk'⟩⟩
    ·obtain⟨r,hr,hk⟩:=A7r true k (h.1 hle)
     exact⟨r,hr,λK' hk'=>by unfold y7;simp only[if_true];exact⟨λ_=>hk K' hk',λh=>by omega⟩⟩
   |false=>
    simp only[N6,if_false] at h
    rcases Int.lt_or_le b m with hlt|hle
    ·obtain⟨r,hr,hk⟩:=A7r false k (h.2 hlt)
     exact⟨r,hr,λK' hk'=>by unfold y7;simp only[N6,if_false];exact⟨λh=>by omega,λ_=>hk K' hk'⟩⟩
    ·obtain⟨r,hr,hk⟩:=A7r false k (h.1 hle)
     exact⟨r,hr,λK' hk'=>by unfold y7;simp only[N6,if_false];exact⟨λ_=>hk K' hk',λh=>by omega⟩⟩
  ·exact h.elim
theorem E2j{op:UnOp}{x:D}{K:D->Prop}(h:unD op x K):∃r,K r/\∀K':D->Prop,K' r->unD op x K':=by
 unfold unD at h
 split at h<;>first|exact⟨_,h,λ_ h=>h⟩|exact h.elim
theorem D7b{op:BinOp}{k:IntKind}{x y:Int}{K:D->Prop}(h:A38 op k x y K):∃r,K r/\∀K':D->Prop,K' r->A38 op k x y K':=by
 cases op<;>simp only[A38] at h ⊢<;>first|exact⟨_,h,λ_ h=>h⟩|exact⟨_,h.2,λ_ h'=>⟨h.1,h'⟩⟩|exact h.elim
theorem D7d{op:BinOp}{x y:List UInt8}{K:D->Prop}(h:A3M op x y K):∃r,K r/\∀K':D->Prop,K' r->A3M op x y K':=by
 cases op<;>simp only[A3M] at h ⊢<;>first|exact⟨_,h,λ_ h=>h⟩|exact⟨_,h.2,λ_ h'=>⟨h.1,h'⟩⟩|exact h.elim
theorem D7a{op:BinOp}{x y:AV}{K:D->Prop}(h:A4y op x y K):∃r,K r/\∀K':D->Prop,K' r->A4y op x y K':=by
 unfold A4y at h
 split at h
 ·rename_i k m k' q
  split at h
  ·exact⟨_,h.2,λ_ h'=>⟨h.1,h'⟩⟩
  ·exact⟨_,h.2,λ_ h'=>⟨h.1,h'⟩⟩
  ·rename_i hs1 hs2
   obtain⟨h1,h2⟩:=h
   obtain⟨r,hr,hk⟩:=D7b h2
   refine⟨r,hr,λK' hk'=>?_⟩
   unfold A4y
   have:=hk K' hk'
   cases op<;>first|exact⟨h1,this⟩|exact absurd rfl hs1|exact absurd rfl hs2
 ·exact D7d h
 ·exact h.elim
theorem B3u{d:Nat}{x:AV}{K:AV->Prop}(h:p8 os d x K):∃r,K r/\∀K':AV->Prop,K' r->p8 os d x K':=by
 unfold p8 at h
 split at h
 ·exact⟨_,h,λ_ h=>h⟩
 ·split at h
  ·rename_i hid
   exact⟨_,h.2,λ_ h'=>by unfold p8;simp only[hid];exact⟨h.1,h'⟩⟩
  ·exact h.elim
 ·exact⟨_,h,λ_ h=>h⟩
 ·exact h.elim
theorem A9F{g:Bool}{m:Nat}{x:AV}{K:AV->Prop}(h:Z2 os g m x K):∃r,K r/\∀K':AV->Prop,K' r->Z2 os g m x K':=by
 unfold Z2 at h
 split at h
 ·split at h
  ·rename_i hid
   cases g with
   |true=>simp only[if_true] at h;exact⟨_,h.2,λ_ h'=>by unfold Z2;simp only[hid,if_true];exact⟨h.1,h'⟩⟩
   |false=>simp only[N6,if_false] at h;exact⟨_,h.2,λ_ h'=>by unfold Z2;simp only[hid,N6,if_false];exact⟨h.1,h'⟩⟩
  ·exact h.elim
 ·split at h
  ·rename_i hid
   obtain⟨h1,h2,h3,h⟩:=h
   cases g with
   |true=>simp only[if_true] at h;exact⟨_,h.2,λ_ h'=>by unfold Z2;simp only[hid,if_true];exact⟨h1,h2,h3,h.1,h'⟩⟩
   |false=>simp only[N6,if_false] at h;exact⟨_,h.2,λ_ h'=>by unfold Z2;simp only[hid,N6,if_false];exact⟨h1,h2,h3,h.1,h'⟩⟩
  ·exact h.elim
 ·split at h
  ·rename_i hid
   obtain⟨h1,h2,h3,h⟩:=h
   cases g with
   |true=>simp only[if_true] at h;exact⟨_,h.2,λ_ h'=>by unfold Z2;simp only[hid,if_true];exact⟨h1,h2,h3,h.1,h'⟩⟩
   |false=>simp only[N6,if_false] at h;exact⟨_,h.2,λ_ h'=>by unfold Z2;simp only[hid,N6,if_false];exact⟨h1,h2,h3,h.1,h'⟩⟩
  ·exact h.elim
 ·obtain⟨h1,h⟩:=h
  cases g with
  |true=>simp only[if_true] at h;exact⟨_,h.2,λ_ h'=>by unfold Z2;simp only[if_true];exact⟨h1,h.1,h'⟩⟩
  |false=>simp only[N6,if_false] at h;exact⟨_,h.2,λ_ h'=>by unfold Z2;simp only[N6,if_false];exact⟨h1,h.1,h'⟩⟩
 ·exact h.elim
theorem E24{m:Nat}{x v:AV}{K:List AO->Prop}(h:A27 os m x v K):∃r,K r/\∀K':List AO->Prop,K' r->A27 os m x v K':=by
 unfold A27 at h
 split at h
 ·exact h.elim
 rename_i vc hvc
 split at h
 ·split at h
  ·rename_i hid
   exact⟨_,h.2.2,λ_ h'=>by unfold A27;simp only[hvc,hid];exact⟨h.1,h.2.1,h'⟩⟩
  ·exact h.elim
 ·split at h
  ·rename_i hf
   split at h
   ·rename_i hid
    obtain⟨h1,h2,h3,h4,h5,h6,h7⟩:=h
    exact⟨_,h7,λ_ h'=>by unfold A27;simp only[hvc,hf,hid];exact⟨h1,h2,h3,h4,h5,h6,h'⟩⟩
   ·exact h.elim
  ·exact h.elim
 ·exact h.elim
theorem E07{x:AV}{K:List (List D)->Prop}(h:u6 os x K):∃r,K r/\∀K':List (List D)->Prop,K' r->u6 os x K':=by
 unfold u6 at h
 split at h
 ·exact⟨_,h,λ_ h=>h⟩
 ·exact⟨_,h,λ_ h=>h⟩
 ·split at h
  ·rename_i hid
   exact⟨_,h.2,λ_ h'=>by unfold u6;simp only[hid];exact⟨h.1,h'⟩⟩
  ·exact h.elim
 ·exact h.elim
theorem D75{sz by_:Nat}{s:AV}{ns:List (List D)}{K:AV->List AO->Prop}(h:A1a os sz by_ s ns K):∃r os',K r os'/\∀K':AV->List AO->Prop,K' r os'->A1a os sz by_ s ns K':=by
 unfold A1a at h
 split at h
 ·exact⟨_,_,h.2.2.2,λ_ h'=>⟨h.1,h.2.1,h.2.2.1,h'⟩⟩
 ·split at h
  ·rename_i hid
   obtain⟨h1,h2,h3,h4,h5,h6⟩:=h
   exact⟨_,_,h6,λ_ h'=>by unfold A1a;simp only[hid];exact⟨h1,h2,h3,h4,h5,h'⟩⟩
  ·exact h.elim
 ·exact h.elim
theorem D76{sz by_:Nat}{s:AV}{ns:List (List AV)}{K:AV->List AO->Prop}(h:A1J os sz by_ s ns K):∃r os',K r os'/\∀K':AV->List AO->Prop,K' r os'->A1J os sz by_ s ns K':=by
 unfold A1J at h
 split at h
 ·split at h
  ·rename_i hid
   obtain⟨h1,h2,h3,h4,h5,h6⟩:=h
   exact⟨_,_,h6,λ_ h'=>by unfold A1J;simp only[hid];exact⟨h1,h2,h3,h4,h5,h'⟩⟩
  ·exact h.elim
 ·exact h.elim
theorem E1V{sz:Nat}{x:AV}{lo hi:Option C2}{K:AV->List AO->Prop}(h:slI ρ os sz x lo hi K):∃r os',K r os'/\∀K':AV->List AO->Prop,K' r os'->slI ρ os sz x lo hi K':=by
 unfold slI at h
 split at h
 ·rename_i hf
  obtain⟨m,h,k1⟩:=A2l h
  obtain⟨l,h,k2⟩:=A2l h
  obtain⟨h1,h2,h3,h4,h5⟩:=h
  exact⟨_,_,h5,λK' h'=>by unfold slI;simp only[hf];exact k1 _ (k2 _ ⟨h1,h2,h3,h4,h'⟩)⟩
 ·rename_i hf
  obtain⟨m,h,k1⟩:=A2l h
  obtain⟨l,h,k2⟩:=A2l h
  obtain⟨h1,h2,h3⟩:=h
  exact⟨_,_,h3,λK' h'=>by unfold slI;simp only[hf];exact k1 _ (k2 _ ⟨h1,h2,h'⟩)⟩
 ·exact h.elim
theorem A7x{op:IK}(hd:op.det=true){K:AV->List AO->Prop}(h:A7 P ρ os K op):∃r os',K r os'/\∀K':AV->List AO->Prop,K' r os'->A7 P ρ os K' op:=by
 have one:∀{r:AV} {os':List AO},K r os'->(∀K':AV->List AO->Prop,K' r os'->A7 P ρ os K' op)->∃r os',K r os'/\∀K':AV->List AO->Prop,K' r os'->A7 P ρ os K' op:=λh1 h2=>⟨_,_,h1,h2⟩
 cases op with
 |call f args=>cases hd
 |mv x=>exact one h λ_ h=>h
 |pick c x y=>
  simp only[A7] at h ⊢
  split at h
  ·rename_i t hc
   cases t with
   |true=>exact⟨_,_,h.1 rfl,λK' h'=>⟨λ_=>h',λe=>by cases e⟩⟩
   |false=>exact⟨_,_,h.2 rfl,λK' h'=>⟨λe=>(by cases e),λ_=>h'⟩⟩
  ·exact h.elim
 |un u x=>
  simp only[A7] at h ⊢
  split at h
  ·obtain⟨r,hr,hk⟩:=E2j h;exact⟨_,_,hr,λK' h'=>hk (λr=>K' (.d r) os) h'⟩
  ·exact h.elim
 |bin u x y=>
  simp only[A7] at h ⊢
  obtain⟨r,hr,hk⟩:=D7a h
  exact⟨_,_,hr,λK' h'=>hk (λr=>K' (.d r) os) h'⟩
 |eqb neg x y=>simp only[A7] at h ⊢;split at h<;>first|exact⟨_,_,h,λ_ h=>h⟩|exact h.elim
 |eqs neg ks x y=>
  simp only[A7] at h ⊢
  split at h
  ·split at h
   ·exact⟨_,_,h,λ_ h=>h⟩
   ·exact h.elim
  ·exact h.elim
 |eqnil neg x=>
  simp only[A7] at h ⊢
  split at h
  ·exact⟨_,_,h,λ_ h=>h⟩
  ·exact⟨_,_,h,λ_ h=>h⟩
  ·split at h
   ·exact⟨_,_,h.2,λ_ h'=>⟨h.1,h'⟩⟩
   ·exact h.elim
  ·exact h.elim
 |conv k x=>simp only[A7] at h ⊢;split at h<;>first|exact⟨_,_,h,λ_ h=>h⟩|exact h.elim
 |cvs x=>simp only[A7] at h ⊢;split at h<;>first|exact⟨_,_,h,λ_ h=>h⟩|exact h.elim
 |faddr off x=>
  obtain⟨r,hr,hk⟩:=B3u (show p8 os off (C1 ρ x) λr=>K r os from h)
  exact⟨_,_,hr,λK' h'=>hk (λr=>K' r os) h'⟩
 |nilck x=>
  obtain⟨r,hr,hk⟩:=B3u (show p8 os 0 (C1 ρ x) λr=>K r os from h)
  exact⟨_,_,hr,λK' h'=>hk (λr=>K' r os) h'⟩
 |field off m g x=>
  simp only[A7] at h ⊢
  split at h
  ·cases g with
   |true=>simp only[if_true] at h ⊢;exact⟨_,_,h.2,λ_ h'=>⟨h.1,h'⟩⟩
   |false=>simp only[N6,if_false] at h ⊢;exact⟨_,_,h.2,λ_ h'=>⟨h.1,h'⟩⟩
  ·exact h.elim
 |ixarr l sz x i=>
  simp only[A7] at h ⊢
  split at h
  ·obtain⟨h1,h2,h3⟩:=h
   obtain⟨r,hr,hk⟩:=B3u h3
   exact⟨_,_,hr,λK' h'=>⟨h1,h2,hk (λr=>K' r os) h'⟩⟩
  ·exact h.elim
 |ixsl sz x i=>
  simp only[A7] at h ⊢
  split at h
  ·split at h
   ·obtain⟨h1,h2,h3,h4⟩:=h
    exact⟨_,_,h4,λK' h'=>⟨h1,h2,h3,h'⟩⟩
   ·split at h
    ·obtain⟨h1,h2,h3,h4,h5,h6⟩:=h
     exact⟨_,_,h6,λK' h'=>⟨h1,h2,h3,h4,h5,h'⟩⟩
    ·exact h.elim
   ·split at h
    ·obtain⟨h1,h2,h3,h4,h5,h6⟩:=h
     exact⟨_,_,h6,λK' h'=>⟨h1,h2,h3,h4,h5,h'⟩⟩
    ·exact h.elim
   ·exact h.elim
  ·exact h.elim
 |ixstr x i=>
  simp only[A7] at h ⊢
  split at h
  ·exact⟨_,_,h.2.2,λK' h'=>⟨h.1,h.2.1,h'⟩⟩
  ·exact h.elim
 |ixval l sz g x i=>
  simp only[A7] at h ⊢
  split at h
  ·obtain⟨h1,h2,h⟩:=h
   cases g with
   |true=>simp only[if_true] at h ⊢;exact⟨_,_,h.2,λ_ h'=>⟨h1,h2,h.1,h'⟩⟩
   |false=>simp only[N6,if_false] at h ⊢;exact⟨_,_,h.2.2,λ_ h'=>⟨h1,h2,h.1,h.2.1,h'⟩⟩
  ·exact h.elim
 |slstr x lo hi=>
  simp only[A7] at h ⊢
  split at h
  ·obtain⟨m,h,k1⟩:=A2l h
   obtain⟨l,h,k2⟩:=A2l h
   obtain⟨h1,h2,h3,h4⟩:=h
   exact⟨_,_,h4,λK' h'=>k1 _ (k2 _ ⟨h1,h2,h3,h'⟩)⟩
  ·exact h.elim
 |slsl sz x lo hi=>exact E1V h
 |stop=>exact h.elim
 |mkb f x=>
  simp only[A7] at h ⊢
  split at h
  ·rename_i cs e
   split at h
   ·rename_i vs e2
    exact⟨_,_,h,λK' h'=>h'⟩
   ·exact h.elim
  ·exact⟨_,_,h,λK' h'=>h'⟩
  ·exact h.elim
 |slsld sz x lo hi=>
  simp only[A7] at h ⊢
  unfold A3n at h
  split at h
  ·rename_i es e
   obtain⟨m,h,k1⟩:=A2l h
   obtain⟨l,h,k2⟩:=A2l h
   obtain⟨h1,h2,h3,h4,h5⟩:=h
   exact⟨_,_,h5,λK' h'=>by unfold A3n;rw[e];exact k1 _ (k2 _ ⟨h1,h2,h3,h4,h'⟩)⟩
  ·rename_i e
   obtain⟨m,h,k1⟩:=A2l h
   obtain⟨l,h,k2⟩:=A2l h
   obtain⟨h1,h2,h3⟩:=h
   exact⟨_,_,h3,λK' h'=>by unfold A3n;rw[e];exact k1 _ (k2 _ ⟨h1,h2,h'⟩)⟩
  ·exact h.elim
 |build zs ps=>
  simp only[A7] at h ⊢
  obtain⟨r,hr,hk⟩:=A5B h
  exact⟨_,_,hr,λK' h'=>hk _ h'⟩
 |bsl m sz zs ps=>
  simp only[A7] at h ⊢
  obtain⟨r,hr,hk⟩:=A5B h
  split at hr
  ·rename_i xs os1 hf
   rcases hr with hr|⟨he,hr⟩
   ·exact⟨_,_,hr,λK' h'=>hk _ (by simp only[hf];exact .inl h')⟩
   ·exact⟨_,_,hr,λK' h'=>hk _ (by simp only[hf];exact .inr ⟨he,h'⟩)⟩
  ·exact hr.elim
 |bsld m sz zs ps=>
  simp only[A7] at h ⊢
  obtain⟨r,hr,hk⟩:=A5B h
  split at hr
  ·rename_i xs os1 hf
   exact⟨_,_,hr.2,λK' h'=>hk _ (by simp only[hf];exact⟨hr.1,h'⟩)⟩
  ·exact hr.elim
 |clo f caps=>
  simp only[A7] at h ⊢
  split at h
  ·exact⟨_,_,h,λ_ h=>h⟩
  ·split at h
   ·exact⟨_,_,h,λ_ h=>h⟩
   ·exact h.elim
 |ext i x=>
  simp only[A7] at h ⊢
  split at h
  ·exact⟨_,_,h.2,λ_ h'=>⟨h.1,h'⟩⟩
  ·exact h.elim
 |len x=>
  simp only[A7] at h ⊢
  split at h
  ·exact⟨_,_,h,λ_ h=>h⟩
  ·exact⟨_,_,h,λ_ h=>h⟩
  ·split at h
   ·exact⟨_,_,h.2,λ_ h'=>⟨h.1,h'⟩⟩
   ·exact h.elim
  ·split at h
   ·exact⟨_,_,h.2,λ_ h'=>⟨h.1,h'⟩⟩
   ·exact h.elim
  ·exact h.elim
 |lens x=>simp only[A7] at h ⊢;split at h<;>first|exact⟨_,_,h,λ_ h=>h⟩|exact h.elim
 |lenk m=>exact one h λ_ h=>h
 |minmax mx x xs=>
  simp only[A7] at h ⊢
  split at h
  ·obtain⟨r,hr,hk⟩:=A7r mx _ h
   exact⟨_,_,hr,λK' h'=>hk (λr=>K' r os) h'⟩
  ·exact h.elim
 |load g m x=>
  obtain⟨r,hr,hk⟩:=A9F (show Z2 os g m (C1 ρ x) λr=>K r os from h)
  exact⟨_,_,hr,λK' h'=>hk (λr=>K' r os) h'⟩
 |store m x v=>
  obtain⟨r,hr,hk⟩:=E24 (show A27 os m (C1 ρ x) (C1 ρ v) λos'=>K .junk os' from h)
  exact⟨_,_,hr,λK' h'=>hk (λos'=>K' .junk os') h'⟩
 |alloc zs=>exact one h λ_ h=>h
 |box m x=>
  simp only[A7] at h ⊢
  split at h
  ·exact⟨_,_,h.2,λ_ h'=>⟨h.1,h'⟩⟩
  ·exact h.elim
 |mksl sz by_ zs l c=>
  simp only[A7] at h ⊢
  split at h
  ·obtain⟨h1,h2,h3,h4,h5⟩:=h
   exact⟨_,_,h5,λ_ h'=>⟨h1,h2,h3,h4,h'⟩⟩
  ·exact h.elim
 |app sz by_ s x=>
  simp only[A7] at h ⊢
  split at h
  ·split at h
   ·obtain⟨h1,h2,h⟩:=h
    obtain⟨r,os',hr,k2⟩:=D76 h
    exact⟨r,os',hr,λK' h'=>⟨h1,h2,k2 K' h'⟩⟩
   ·exact h.elim
  ·obtain⟨ns,h,k1⟩:=E07 h
   obtain⟨r,os',hr,k2⟩:=D75 h
   exact⟨r,os',hr,λK' h'=>k1 (λns=>A1a os sz by_ (C1 ρ s) ns K') (k2 K' h')⟩
 |calld f args=>
  simp only[A7] at h ⊢
  split at h
  ·rcases h with h|h
   ·split at h
    ·rename_i e
     obtain⟨h1,r,h2,h3⟩:=h
     exact⟨r,_,h3,λK' h'=>.inl ⟨h1,r,h2,h'⟩⟩
    ·exact h.elim
   ·split at h
    ·rename_i e
     obtain⟨h1,r,h2,h3⟩:=h
     exact⟨r,_,h3,λK' h'=>.inr ⟨h1,r,h2,h'⟩⟩
    ·exact h.elim
  ·split at h
   ·obtain⟨h1,r,h2,h3⟩:=h
    exact⟨r,_,h3,λK' h'=>⟨h1,r,h2,h'⟩⟩
   ·exact h.elim
  ·exact h.elim
 |rstr x=>simp only[A7] at h ⊢;split at h<;>first|exact⟨_,_,h,λ_ h=>h⟩|exact h.elim
 |nstr x=>
  simp only[A7] at h ⊢
  split at h
  ·split at h
   ·rename_i s p hid
    by_cases hp:p<s.length
    ·exact⟨_,_,h.1 hp,λK' h'=>⟨λ_=>h',λhn=>by omega⟩⟩
    ·exact⟨_,_,h.2 (by omega),λK' h'=>⟨λhn=>absurd hn hp,λ_=>h'⟩⟩
   ·exact h.elim
  ·exact h.elim
 |nmap x=>cases hd
 |callp f args=>
  simp only[A7] at h ⊢
  split at h
  ·rcases h with h|h
   ·split at h
    ·obtain⟨h1,r,h2,h3⟩:=h
     exact⟨r,_,h3,λK' h'=>.inl ⟨h1,r,h2,h'⟩⟩
    ·exact h.elim
   ·split at h
    ·split at h
     ·obtain⟨h1,r,h2,h3⟩:=h
      exact⟨r,_,h3,λK' h'=>.inr ⟨h1,r,h2,h'⟩⟩
     ·exact h.elim
    ·exact h.elim
  ·exact h.elim
 |calln id f args=>
  simp only[A7] at h ⊢
  split at h
  ·split at h
   ·obtain⟨h1,h0,h⟩:=h
    rcases h with ⟨es,sz,nl,h2,h3⟩|⟨r,h2,h3⟩
    ·exact⟨_,_,h3,λK' h'=>⟨h1,h0,.inl ⟨es,sz,nl,h2,h'⟩⟩⟩
    ·exact⟨_,_,h3,λK' h'=>⟨h1,h0,.inr ⟨r,h2,h'⟩⟩⟩
   ·exact h.elim
  ·exact h.elim
 |callo f args=>
  simp only[A7] at h ⊢
  split at h
  ·split at h
   ·split at h
    ·obtain⟨h0,es,nl,h2,h3⟩:=h
     exact⟨_,_,h3,λK' h'=>⟨h0,es,nl,h2,h'⟩⟩
    ·exact h.elim
   ·split at h
    ·obtain⟨h1,r,h2,h3⟩:=h
     exact⟨r,_,h3,λK' h'=>⟨h1,r,h2,h'⟩⟩
    ·exact h.elim
  ·exact h.elim
 |bslr id m sz zs ps=>
  simp only[A7] at h ⊢
  obtain⟨r,hr,hk⟩:=A5B h
  split at hr
  ·rename_i hid
   exact⟨_,_,hr,λK' h'=>hk _ h'⟩
  ·exact hr.elim
 |alloca id zs=>
  simp only[A7] at h ⊢
  split at h
  ·exact⟨_,_,h,λ_ h=>h⟩
  ·exact h.elim
 |boxa id m x=>
  simp only[A7] at h ⊢
  split at h
  ·exact⟨_,_,h.2,λ_ h'=>⟨h.1,h'⟩⟩
  ·exact h.elim
 |mkmap=>exact one h λ_ h=>h
 |lkup sk ok g zs m k=>
  simp only[A7] at h ⊢
  split at h
  ·split at h
   ·obtain⟨h0,h|⟨e,sz,frz,ho,h⟩⟩:=h
    ·exact⟨_,_,h,λ_ h'=>⟨h0,.inl h'⟩⟩
    ·exact⟨_,_,h,λ_ h'=>⟨h0,.inr ⟨e,sz,frz,ho,h'⟩⟩⟩
   ·exact h.elim
  ·exact h.elim
 |mupd sk m k v=>
  simp only[A7] at h ⊢
  split at h
  ·split at h
   ·exact⟨_,_,h.2.2,λ_ h'=>⟨h.1,h.2.1,h'⟩⟩
   ·exact h.elim
  ·exact h.elim
 |rmap x=>
  simp only[A7] at h ⊢
  split at h
  ·split at h
   ·exact⟨_,_,h,λ_ h=>h⟩
   ·exact h.elim
  ·exact h.elim
 |entry x=>
  simp only[A7] at h ⊢
  split at h
  ·split at h
   ·split at h
    ·obtain⟨h1,h⟩:=h
     split at h
     ·split at h
      ·exact⟨_,_,h,λ_ h=>⟨h1,h⟩⟩
      ·exact h.elim
     ·exact h.elim
    ·exact h.elim
   ·exact h.elim
  ·exact h.elim
end
end Go.Bi
