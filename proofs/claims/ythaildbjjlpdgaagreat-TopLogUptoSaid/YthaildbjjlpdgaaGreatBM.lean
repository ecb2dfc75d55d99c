/- Soundness of the operations of a region, in the order of the text and in any other. No condition. -/
import Derived.Test.YthaildbjjlpdgaaGreatBL
set_option linter.unusedVariables false
namespace Go.Bi
set_option linter.unusedSectionVars false
variable [Globs]
structure Ctx where
 M:Mem
 G:Gh
 os:List AO
 w:World
structure Rel(n nb:Nat)(c:Ctx)(M:Mem)(G:Gh)(os:List AO)(w:World)(ρ:Rho)(a:Act):Prop where
 env:Env M G os w
 since:Since c.M c.G c.os c.w M G os w
 tmps:Tmps M G os ρ a
 size:a.tmps.size=n
 defers:a.defers=[]
 base:c.os.length=nb
section
variable {P:Program}{n nb:Nat}{c:Ctx}{M:Mem}{G:Gh}{os:List AO}{w:World}{ρ:Rho}{a:Act}
theorem put_tmps{M':Mem}{G':Gh}{os':List AO}{w':World}(ht:Tmps M G os ρ a)(hs:Since M G os w M' G' os' w'){d:Option Nat}(hd:∀t,d=some t->t<a.tmps.size){r:AV}{v:Value}(hv:VA M' G' os' r v) :
  Tmps M' G' os' (updo d r ρ) (a.put d v):=by
 intro t
 cases d with
 |none=>exact(ht t).since hs
 |some d=>
  have hlt:=hd d rfl
  simp only[updo,upd,Act.put]
  by_cases htd:t=d
  ·subst htd
   rw[if_pos rfl]
   have:(a.tmps.setIfInBounds t v).getD t undef=v:=by simp[hlt]
   rw[this]
   exact hv
  ·rw[if_neg htd]
   have:(a.tmps.setIfInBounds d v).getD t undef=a.tmps.getD t undef:=by
    simp[Array.getElem?_setIfInBounds_ne (Ne.symm htd)]
   rw[this]
   exact(ht t).since hs
theorem put_size(a:Act)(d:Option Nat)(v:Value):(a.put d v).tmps.size=a.tmps.size:=by cases d<;>simp[Act.put]
theorem put_defers(a:Act)(d:Option Nat)(v:Value):(a.put d v).defers=a.defers:=by cases d<;>rfl
theorem Rel.put{M':Mem}{G':Gh}{os':List AO}{w':World}(h:Rel n nb c M G os w ρ a)(he:Env M' G' os' w')(hs:Since M G os w M' G' os' w'){d:Option Nat}(hd:∀t,d=some t->t<n){r:AV}{v:Value}(hv:VA M' G' os' r v) :
  Rel n nb c M' G' os' w' (updo d r ρ) (a.put d v) where
 env:=he
 since:=h.since.trans hs
 tmps:=put_tmps h.tmps hs (λt ht=>by rw[h.size];exact hd t ht) hv
 size:=by rw[put_size];exact h.size
 defers:=by rw[put_defers];exact h.defers
 base:=h.base
def Fits(n nb:Nat)(c:Ctx)(K:Rho->List AO->Prop)(a:Act)(w:World):Prop:=∃M G os ρ,Rel n nb c M G os w ρ a/\K ρ os
theorem undef_va:VA M G os (.tup []) undef:=⟨#[],rfl,rfl,λj c u h=>by simp at h⟩
theorem cOp_some{draw:Bool}{ops:List Oper}{o:Oper}{io:IOp}(h:cOp P n draw ops o=some io):cIK P draw o.op=some io.op/\cGuard ops o.guard=some io.guard/\io.dst=o.dst/\∀t,o.dst=some t->t<n:=by
 unfold cOp at h
 split at h
 ·rename_i k g h1 h2
  by_cases hd:dstOK n o.dst=true
  ·rw[if_pos hd] at h
   cases h
   exact⟨h1,h2,rfl,λt ht=>by rw[ht] at hd;simpa[dstOK] using hd⟩
  ·rw[if_neg hd] at h
   cases h
 ·cases h
def boolAt(x:Option Value):Option Bool:=match x with|some (.bool b)=>some b|_=>none
inductive Placed:IK->IK->Prop where
 |refl (k:IK):Placed k k
 |alloc (zs:List D) (id:Nat):Placed (.alloc zs) (.alloca id zs)
 |box (n:Nat) (x:Opd) (id:Nat):Placed (.box n x) (.boxa id n x)
 |callp (f:Opd) (args:List Opd):Placed (.calld f args) (.callp f args)
 |calln (f:Opd) (args:List Opd) (id:Nat):Placed (.calld f args) (.calln id f args)
 |bslr (n sz:Nat) (zs:List D) (ps:List (Nat×Nat×Opd)) (id:Nat):Placed (.bsld n sz zs ps) (.bslr id n sz zs ps)
 |call (f:Opd) (args:List Opd):Placed (.calld f args) (.call f args)
 |appn (sz b:Nat) (s x:Opd) (id:Nat):Placed (.app sz b s x) (.appn id sz b s x)
 |appd (sz b:Nat) (s x:Opd):Placed (.app sz b s x) (.ex (.appd sz b) [s,x])
def IK.tag:IK->Nat
 |.alloc _=>1
 |.box ..=>2
 |.calld ..=>3
 |.bsld ..=>4
 |.alloca ..=>5
 |.boxa ..=>6
 |.calln ..=>7
 |.bslr ..=>8
 |.callo ..=>9
 |.appn ..=>10
 |_=>0
def IK.tagA:IK->Nat
 |.app ..=>1
 |_=>0
theorem cBin_tagA{op:BinOp}{t:TypeId}{x y:Operand}{k:IK}(h:cBin P op t x y=some k):k.tagA=0:=by
 unfold cBin cEqs at h
 repeat' (first|(cases h;done)|(injection h with h;subst h;rfl)|(obtain⟨_,_,rfl⟩:=Option.map_eq_some_iff.1 h;rfl)|split at h)
theorem cBuiltin_app{b:Builtin}{as:List Operand}{ts:List TypeId}{sz bytes:Nat}{s' x':Opd}(h:cBuiltin P b as ts=some (.app sz bytes s' x')) :
  b=.append/\∃s x t e zs,as=[s,x]/\ts=[t,t]/\cO s=some s'/\cO x=some x'/\P.underlying t=some (.slice e)/\tsz P e=some sz/\tby P e=some bytes/\tz P e=some zs/\0<sz/\zs.length=sz:=by
 unfold cBuiltin at h
 repeat' (first|(cases h;done)|(obtain⟨_,_,e⟩:=Option.map_eq_some_iff.1 h;cases e;done)|(cases h;subst_vars;exact⟨rfl,_,_,_,_,_,rfl,rfl,by assumption,by assumption,by assumption,by assumption,by assumption,by assumption,by assumption⟩)|split at h)
theorem cBin_tag{op:BinOp}{t:TypeId}{x y:Operand}{k:IK}(h:cBin P op t x y=some k):k.tag=0:=by
 unfold cBin cEqs at h
 repeat' (first|(cases h;done)|(injection h with h;subst h;rfl)|(obtain⟨_,_,rfl⟩:=Option.map_eq_some_iff.1 h;rfl)|split at h)
theorem cBuiltin_tag{b:Builtin}{as:List Operand}{ts:List TypeId}{k:IK}(h:cBuiltin P b as ts=some k):k.tag=0:=by
 unfold cBuiltin at h
 repeat' (first|(cases h;done)|(injection h with h;subst h;rfl)|(obtain⟨_,_,rfl⟩:=Option.map_eq_some_iff.1 h;rfl)|split at h)
theorem cIK0_alloc{draw:Bool}{op:Op}{zs:List D}(h:cIK0 P draw op=some (.alloc zs)):∃t,op=.alloc t/\tz P t=some zs:=by
 unfold cIK0 at h
 split at h
 all_goals first
  |exact absurd (cBin_tag h) (by simp[IK.tag])
  |(obtain⟨x,hx,e⟩:=Option.map_eq_some_iff.1 h;cases e;exact⟨_,rfl,hx⟩)
  |skip
 all_goals repeat' (first|(cases h;done)|exact absurd (cBuiltin_tag h) (by simp[IK.tag])|(obtain⟨_,_,e⟩:=Option.map_eq_some_iff.1 h;cases e;done)|(obtain⟨_,_,e⟩:=Option.map_eq_some_iff.1 h;split at e<;>(cases e;done))|(injection h with h;split at h<;>(cases h;done))|split at h)
theorem cIK0_box{draw:Bool}{op:Op}{m:Nat}{x':Opd}(h:cIK0 P draw op=some (.box m x')):∃t x,op=.box t x/\cO x=some x':=by
 unfold cIK0 at h
 split at h
 all_goals first
  |exact absurd (cBin_tag h) (by simp[IK.tag])
  |skip
 all_goals repeat' (first|(cases h;done)|exact absurd (cBuiltin_tag h) (by simp[IK.tag])|(obtain⟨_,_,e⟩:=Option.map_eq_some_iff.1 h;cases e;done)|(injection h with h;injection h with h3 h4;subst h4;exact⟨_,_,rfl,by assumption⟩)|(obtain⟨_,_,e⟩:=Option.map_eq_some_iff.1 h;split at e<;>(cases e;done))|(injection h with h;split at h<;>(cases h;done))|split at h)
theorem cIK0_calld{draw:Bool}{op:Op}{f':Opd}{args':List Opd}(h:cIK0 P draw op=some (.calld f' args')):∃c f,op=.call c/\c.callee=.value f/\cO f=some f'/\c.args.toList.mapM cO=some args':=by
 unfold cIK0 at h
 split at h
 all_goals first
  |exact absurd (cBin_tag h) (by simp[IK.tag])
  |skip
 all_goals repeat' (first|(cases h;done)|exact absurd (cBuiltin_tag h) (by simp[IK.tag])|(obtain⟨_,_,e⟩:=Option.map_eq_some_iff.1 h;cases e;done)|(injection h with h;split at h<;>first|(cases h;done)|(injection h with h1 h2;subst h1;subst h2;exact⟨_,_,rfl,by assumption,by assumption,by assumption⟩))|(obtain⟨_,_,e⟩:=Option.map_eq_some_iff.1 h;split at e<;>(cases e;done))|split at h)
theorem cIK0_app{draw:Bool}{op:Op}{sz bytes:Nat}{s' x':Opd}(h:cIK0 P draw op=some (.app sz bytes s' x')):∃c s x t e zs,op=.call c/\c.callee=.builtin .append/\c.args=#[s,x]/\c.argTypes=#[t,t]/\cO s=some s'/\cO x=some x'/\P.underlying t=some (.slice e)/\tsz P e=some sz/\tby P e=some bytes/\tz P e=some zs/\0<sz/\zs.length=sz:=by
 unfold cIK0 at h
 split at h
 all_goals first
  |exact absurd (cBin_tagA h) (by simp[IK.tagA])
  |skip
 all_goals repeat' (first|(cases h;done)|(obtain⟨rfl,s,x,t,e,zs,h1,h2,h3⟩:=cBuiltin_app h;exact⟨_,s,x,t,e,zs,rfl,by assumption,arr_two h1,arr_two h2,h3⟩)|(obtain⟨_,_,e⟩:=Option.map_eq_some_iff.1 h;cases e;done)|(obtain⟨_,_,e⟩:=Option.map_eq_some_iff.1 h;split at e<;>(cases e;done))|(injection h with h;split at h<;>(cases h;done))|split at h)
theorem cIK0_bsld{draw:Bool}{op:Op}{n sz:Nat}{zs:List D}{ps:List (Nat×Nat×Opd)}(h:cIK0 P draw op=some (.bsld n sz zs ps)):∃t parts e,op=.buildSlice t n parts/\P.underlying t=some (.slice e)/\tsz P e=some sz/\tz P e=some zs/\0<sz/\zs.length=sz/\n*sz<=16777216/\cParts (λi=>some (i*sz,sz)) parts.toList=some ps:=by
 unfold cIK0 at h
 split at h
 all_goals first
  |exact absurd (cBin_tag h) (by simp[IK.tag])
  |skip
 all_goals repeat' (first|(cases h;done)|exact absurd (cBuiltin_tag h) (by simp[IK.tag])|(obtain⟨_,_,e⟩:=Option.map_eq_some_iff.1 h;cases e;done)|(injection h with h;split at h<;>(cases h;done))|(obtain⟨w,hq,e⟩:=Option.map_eq_some_iff.1 h;split at e<;>first|(cases e;done)|(injection e with h1 h2 h3 h4;subst h1;subst h2;subst h3;subst h4;rename_i hc _;exact⟨_,_,_,rfl,by assumption,by assumption,by assumption,hc.1,hc.2.1,hc.2.2,hq⟩))|split at h)
theorem cIK0_noplace{draw:Bool}{op:Op}{k:IK}(h:cIK0 P draw op=some k):k.tag<=4:=by
 unfold cIK0 at h
 split at h
 all_goals first
  |exact Nat.le_trans (Nat.le_of_eq (cBin_tag h)) (by decide)
  |skip
 all_goals repeat' (first|(cases h;done)|exact Nat.le_trans (Nat.le_of_eq (cBuiltin_tag h)) (by decide)|(obtain⟨_,_,rfl⟩:=Option.map_eq_some_iff.1 h;first|(simp only[IK.tag];omega)|(split<;>(simp only[IK.tag];omega)))|(injection h with h;subst h;first|(simp only[IK.tag];omega)|(split<;>(simp only[IK.tag];omega)))|split at h)
theorem cIK_noplace{draw:Bool}{op:Op}{k:IK}(h:cIK P draw op=some k):k.tag<=4:=by
 by_cases hs:k=.stop
 ·subst hs;simp[IK.tag]
 ·exact cIK0_noplace (cIK_of h hs)
theorem op_okP(he:Env M G os w)(ht:Tmps M G os ρ a){o:Oper}{draw:Bool}{k k':IK}(hk:cIK P draw o.op=some k)(hp:Placed k k'){K:AV->List AO->Prop}(h:opI P ρ os K k'):OpOK P M G os w K (execOp a.eval o):=by
 cases hp with
 |refl=>exact op_ok he ht hk h
 |alloc zs id=>
  obtain⟨t,h1,h2⟩:=cIK0_alloc (cIK_of hk (by simp))
  exact ok_alloca he h1 h2 h
 |box m x id=>
  obtain⟨t,x0,h1,h2⟩:=cIK0_box (cIK_of hk (by simp))
  exact ok_boxa he ht h1 h2 h
 |callp f args=>
  simp only[opI] at h
  split at h
  ·rename_i g e
   rcases h with h|h
   ·refine op_ok he ht hk ?_
    simp only[opI]
    rw[e]
    exact Or.inl h
   ·obtain⟨c,f0,h1,h2,h3,h4⟩:=cIK0_calld (cIK_of hk (by simp))
    refine ok_call he ht h1 h2 h3 h4 (f':=f) (args':=args) ?_
    simp only[opI]
    refine Or.inr ?_
    rw[e]
    split at h
    ·rename_i id off as0 hv
     split at h
     ·rename_i ob hob
      obtain⟨h1,r,ob',h2,h3⟩:=h
      rw[hv]
      refine⟨?_,?_⟩
      ·rw[List.all_cons]
       refine Bool.and_eq_true_iff.2 ⟨rfl,List.all_eq_true.2 λx hx=>?_⟩
       have:=List.all_eq_true.1 h1 x hx
       cases x<;>first|rfl|cases this
      ·have:=h2 os hob
       refine⟨this.1,λM G w vs he hl hv=>(this.2 M G w vs he hl hv).mono ?_⟩
       rintro e w' ⟨v,rfl,M',G',r',os',q1,q2,q3,q4,q5⟩
       subst q4
       subst q5
       exact⟨v,rfl,M',G',_,_,q1,q2,q3,h3⟩
     ·exact h.elim
    ·exact h.elim
  ·exact h.elim
 |calln f args id=>
  obtain⟨c,f0,h1,h2,h3,h4⟩:=cIK0_calld (cIK_of hk (by simp))
  exact ok_calln he ht h1 h2 h3 h4 h
 |bslr m sz zs ps id=>
  obtain⟨t,parts,e,h1,h2,h3,h4,h5,h6,h7,h8⟩:=cIK0_bsld (cIK_of hk (by simp))
  exact ok_bslr he ht h1 h2 h3 h4 h5 h6 h7 h8 h
 |call f args=>
  obtain⟨c,f0,h1,h2,h3,h4⟩:=cIK0_calld (cIK_of hk (by simp))
  exact ok_call he ht h1 h2 h3 h4 h
 |appn sz b s x id=>
  obtain⟨c,s0,x0,t,e,zs,h1,h2,h3,h4,h5,h6,h7,h8,h9,h10,h11,h12⟩:=cIK0_app (cIK_of hk (by simp))
  exact ok_appn he ht h1 h2 h3 h4 h5 h6 h7 h8 h9 h10 h11 h12 h
 |appd sz b s x=>
  obtain⟨c,s0,x0,t,e,zs,h1,h2,h3,h4,h5,h6,h7,h8,h9,h10,h11,h12⟩:=cIK0_app (cIK_of hk (by simp))
  exact ok_appd he ht h1 h2 h3 h4 h5 h6 h7 h8 h9 h10 h11 h12 h
theorem op_wp{draw:Bool}{ops:Array Oper}{o:Oper}{io0 io:IOp}{Q:Exit->Act->World->Prop}{i:Nat}(hi:ops[i]?=some o)(hc:cOp P n draw ops.toList o=some io0)(hpl:Placed io0.op io.op/\io.guard=io0.guard/\io.dst=io0.dst)(hR:Rel n nb c M G os w ρ a){K:Rho->List AO->Prop}(h:stepI P io ρ os K) :
  wpOp P ops Q i (Fits n nb c K) a w:=by
 obtain⟨h1,h2,h3,h4⟩:=cOp_some hc
 rw[<- hpl.2.1] at h2
 rw[<- hpl.2.2] at h3
 unfold stepI at h
 rw[h3] at h
 unfold wpOp
 rw[hi]
 dsimp only
 have yes:Region.wanted o (yielded ops a.tmps)=true->opI P ρ os (λr os'=>K (updo o.dst r ρ) os') io.op->(if Region.wanted o (yielded ops a.tmps)=true then o.wp P a w (Fits n nb c K) Q\/(o.asks P a w/\LetsOut Q) else Fits n nb c K (a.put o.dst undef) w):=by
  intro hw hop
  rw[if_pos hw]
  refine .inl ?_
  have hok:=op_okP hR.env hR.tmps h1 hpl.1 hop
  unfold OpOK at hok
  unfold Oper.wp
  generalize (execOp a.eval o).run P w=res at hok
  cases res with
  |halt x w'=>exact hok.elim
  |ok nx w'=>
   cases nx with
   |value v=>
    obtain⟨M',G',r,os',q1,q2,q3,q4⟩:=hok
    exact⟨M',G',os',_,hR.put q1 q2 h4 q3,q4⟩
   |skip=>
    obtain⟨M',G',os',q1,q2,q3⟩:=hok
    exact⟨M',G',os',_,hR.put q1 q2 h4 (r:=.junk) trivial,q3⟩
   |enter f args=>
    obtain⟨rfl,hcall⟩:=hok
    refine Calls.mono hcall ?_
    rintro e w'' ⟨v,rfl,M',G',r,os',q1,q2,q3,q4⟩
    exact⟨M',G',os',_,hR.put q1 q2 h4 q3,q4⟩
   |_=>exact hok.elim
 have no:Region.wanted o (yielded ops a.tmps)=false->K (updo o.dst (.tup []) ρ) os->(if Region.wanted o (yielded ops a.tmps)=true then o.wp P a w (Fits n nb c K) Q\/(o.asks P a w/\LetsOut Q) else Fits n nb c K (a.put o.dst undef) w):=by
  intro hw hk
  rw[if_neg (by rw[hw];simp)]
  exact⟨M,G,os,_,hR.put hR.env (Since.refl ..) h4 undef_va,hk⟩
 cases hg:o.guard with
 |none=>
  rw[hg] at h2
  simp only[cGuard] at h2
  cases h2':io.guard with
  |some _=>rw[h2'] at h2;cases h2
  |none=>
   rw[h2'] at h
   exact yes (by simp[Region.wanted,hg]) h
 |some jw=>
  obtain⟨j,want⟩:=jw
  rw[hg] at h2
  simp only[cGuard] at h2
  split at h2
  ·rename_i o' ho'
   obtain⟨t,ht,hgd⟩:=Option.map_eq_some_iff.1 h2
   rw[<- hgd] at h
   simp only[gI] at h
   have hy:yielded ops a.tmps j=boolAt (a.tmps[t]?):=by
    have:ops[j]?=some o':=by simpa using ho'
    unfold yielded
    rw[this]
    simp only[Option.bind_some,ht]
    cases hq:a.tmps[t]? with
    |none=>rfl
    |some v=>cases v<;>rfl
   have hget:∀v,a.tmps.getD t undef=v->v≠undef->a.tmps[t]?=some v:=λv hv hne=>by
    cases hq:a.tmps[t]? with
    |none=>simp[hq] at hv;exact absurd hv.symm hne
    |some u=>simp[hq] at hv;rw[hv]
   split at h
   ·rename_i b hb
    have hv:=hR.tmps t
    rw[hb] at hv
    have hv:=hget _ (va_bool hv) (by simp[undef])
    rw[hv] at hy
    by_cases hbw:b=want
    ·exact yes (by simp[Region.wanted,hg,hy,hbw,boolAt]) (h.1 hbw)
    ·have hbn:b=!want:=by cases b<;>cases want<;>simp_all
     exact no (by simp[Region.wanted,hg,hy,hbw,boolAt]) (h.2 hbn)
   ·rename_i hb
    have hv:=hR.tmps t
    rw[hb] at hv
    obtain⟨vs,hvs,hl,_⟩:=hv
    have hvs':vs=#[]:=Array.size_eq_zero_iff.1 hl
    subst hvs'
    have:yielded ops a.tmps j=none:=by
     rw[hy]
     cases hq:a.tmps[t]? with
     |none=>rfl
     |some u=>
      simp[hq] at hvs
      rw[hvs]
      rfl
    exact no (by simp[Region.wanted,hg,this]) h
   ·exact h.elim
  ·cases h2
def opsIx(P:Program)(is:List IOp):List Nat->Rho->List AO->(Rho->List AO->Prop)->Prop
 |[],ρ,os,K=>K ρ os
 |i::l,ρ,os,K=>match is[i]? with
  |some o=>stepI P o ρ os λρ' os'=>opsIx P is l ρ' os' K
  |none=>opsIx P is l ρ os K
theorem mapM_get{α β:Type}{f:α->Option β}:∀{l:List α} {r:List β},l.mapM f=some r->r.length=l.length/\∀(i:Nat) x,l[i]?=some x->∃y,r[i]?=some y/\f x=some y
 |[],r,h=>by simp at h;subst h;simp
 |x::l,r,h=>by
  simp only[List.mapM_cons,Option.bind_eq_bind,Option.bind_eq_some_iff] at h
  obtain⟨y,hy,ys,hys,hp⟩:=h
  simp at hp
  subst hp
  obtain⟨i1,i2⟩:=mapM_get hys
  refine⟨by simp[i1],λi z hz=>?_⟩
  cases i with
  |zero=>simp at hz;subst hz;exact⟨y,rfl,hy⟩
  |succ i=>exact i2 i z (by simpa using hz)
theorem ops_wp{draw:Bool}{ops:Array Oper}{is0 is:List IOp}{Q:Exit->Act->World->Prop}{K:Rho->List AO->Prop}(hc:ops.toList.mapM (cOp P n draw ops.toList)=some is0)(hpl:is.length=is0.length/\∀(i:Nat) o0 o,is0[i]?=some o0->is[i]?=some o->Placed o0.op o.op/\o.guard=o0.guard/\o.dst=o0.dst)(hQ:∀a w,Fits n nb c K a w->Q .normal a w) :
  ∀(l:List Nat) {M:Mem} {G:Gh} {os:List AO} {w:World} {ρ:Rho} {a:Act},Rel n nb c M G os w ρ a->opsIx P is l ρ os K->wpOps P ops Q l a w
 |[],M,G,os,w,ρ,a,hR,h=>hQ a w ⟨M,G,os,ρ,hR,h⟩
 |i::l,M,G,os,w,ρ,a,hR,h=>by
  obtain⟨hlen,hget⟩:=mapM_get hc
  rw[wpOps_cons]
  simp only[opsIx] at h
  cases ho:ops[i]? with
  |none=>
   have:is[i]?=none:=by
    have:=Array.getElem?_eq_none_iff.1 ho
    rw[List.getElem?_eq_none]
    rw[hpl.1,hlen];simpa using this
   rw[this] at h
   unfold wpOp
   rw[ho]
   exact ops_wp hc hpl hQ l hR h
  |some o=>
   obtain⟨io0,hio0,hco⟩:=hget i o (by simpa using ho)
   have hil:i<is.length:=by rw[hpl.1];exact(List.getElem?_eq_some_iff.1 hio0).1
   obtain⟨io,hio⟩:∃io,is[i]?=some io:=⟨_,List.getElem?_eq_getElem hil⟩
   rw[hio] at h
   refine wpOp_mono ?_ (op_wp ho hco (hpl.2 i _ _ hio0 hio) hR h)
   rintro a' w' ⟨M',G',os',ρ',hR',hk⟩
   exact ops_wp hc hpl hQ l hR' hk
theorem opsIx_range(is:List IOp)(K:Rho->List AO->Prop):∀(l:List IOp) (s:Nat) (ρ:Rho) (os:List AO),(∀i,l[i]?=is[s+i]?)->opsIx P is (List.range' s l.length) ρ os K=opsI P l ρ os K
 |[],s,ρ,os,hl=>rfl
 |o::l,s,ρ,os,hl=>by
  have h0:=hl 0
  simp only[List.getElem?_cons_zero,Nat.add_zero] at h0
  have ih:(λρ' os'=>opsIx P is (List.range' (s+1) l.length) ρ' os' K)=λρ' os'=>opsI P l ρ' os' K:=by
   funext ρ' os'
   exact opsIx_range is K l (s+1) ρ' os' (λi=>by have:=hl (i+1);simpa[Nat.add_assoc,Nat.add_comm 1] using this)
  simp only[List.length_cons,List.range'_succ,opsIx,<- h0,ih,opsI]
theorem opsIx_all{is:List IOp}{K:Rho->List AO->Prop}(h:opsI P is ρ os K):opsIx P is (List.range is.length) ρ os K:=by
 rw[List.range_eq_range',opsIx_range is K is 0 ρ os (λi=>by simp)]
 exact h
theorem gI_mono{g:Option (Nat×Bool)}{y y' n n':Prop}(h1:y->y')(h2:n->n')(h:gI ρ g y n):gI ρ g y' n':=by
 unfold gI at *
 split
 ·exact h1 h
 ·rename_i t want
  dsimp only at h
  split at h
  ·exact⟨λe=>h1 (h.1 e),λe=>h2 (h.2 e)⟩
  ·exact h2 h
  ·exact h.elim
theorem bndI_iff{x:Option Opd}{d:Nat}{K:Int->Prop}(h:bndI ρ x d K):∃m,K m/\∀K':Int->Prop,K' m->bndI ρ x d K':=by
 unfold bndI at h
 split at h
 ·exact⟨_,h,λK' hk=>hk⟩
 ·split at h
  ·rename_i k m hm
   exact⟨m,h,λK' hk=>by unfold bndI;simp only[hm];exact hk⟩
  ·exact h.elim
theorem fillA_iff:∀{ps:List (Nat×Nat×Opd)} {cs:List AV} {K:List AV->Prop},fillA ρ ps cs K->∃r,K r/\∀K':List AV->Prop,K' r->fillA ρ ps cs K'
 |[],cs,K,h=>⟨cs,h,λ_ h=>h⟩
 |(off,n,x)::ps,cs,K,h=>by
  simp only[fillA] at h ⊢
  split at h
  ·obtain⟨h1,h2,h3⟩:=h
   obtain⟨r,hr,hk⟩:=fillA_iff h3
   exact⟨r,hr,λK' hk'=>⟨h1,h2,hk K' hk'⟩⟩
  ·exact h.elim
theorem minmaxI_iff(mx:Bool)(k:IntKind):∀{xs:List AV} {m:Int} {K:AV->Prop},minmaxI mx k m xs K->∃r,K r/\∀K':AV->Prop,K' r->minmaxI mx k m xs K'
 |[],m,K,h=>⟨_,h,λ_ h=>h⟩
 |x::xs,m,K,h=>by
  unfold minmaxI at h
  split at h
  ·rename_i hc;cases hc
  ·rename_i k' b rest hc
   injection hc with hc1 hc2
   subst hc1;subst hc2
   cases mx with
   |true=>
    simp only[if_true] at h
    rcases Int.lt_or_le m b with hlt|hle
    ·obtain⟨r,hr,hk⟩:=minmaxI_iff true k (h.2 hlt)
     exact⟨r,hr,λK' hk'=>by unfold minmaxI;simp only[if_true];exact⟨λh=>by omega,λ_=>hk K' hk'⟩⟩
    ·obtain⟨r,hr,hk⟩:=minmaxI_iff true k (h.1 hle)
     exact⟨r,hr,λK' hk'=>by unfold minmaxI;simp only[if_true];exact⟨λ_=>hk K' hk',λh=>by omega⟩⟩
   |false=>
    simp only[Bool.false_eq_true,if_false] at h
    rcases Int.lt_or_le b m with hlt|hle
    ·obtain⟨r,hr,hk⟩:=minmaxI_iff false k (h.2 hlt)
     exact⟨r,hr,λK' hk'=>by unfold minmaxI;simp only[Bool.false_eq_true,if_false];exact⟨λh=>by omega,λ_=>hk K' hk'⟩⟩
    ·obtain⟨r,hr,hk⟩:=minmaxI_iff false k (h.1 hle)
     exact⟨r,hr,λK' hk'=>by unfold minmaxI;simp only[Bool.false_eq_true,if_false];exact⟨λ_=>hk K' hk',λh=>by omega⟩⟩
  ·exact h.elim
theorem unD_iff{op:UnOp}{x:D}{K:D->Prop}(h:unD op x K):∃r,K r/\∀K':D->Prop,K' r->unD op x K':=by
 unfold unD at h
 split at h<;>first|exact⟨_,h,λ_ h=>h⟩|exact h.elim
theorem binI_iff{op:BinOp}{k:IntKind}{x y:Int}{K:D->Prop}(h:binI op k x y K):∃r,K r/\∀K':D->Prop,K' r->binI op k x y K':=by
 cases op<;>simp only[binI] at h ⊢<;>first|exact⟨_,h,λ_ h=>h⟩|exact⟨_,h.2,λ_ h'=>⟨h.1,h'⟩⟩|exact h.elim
theorem binS_iff{op:BinOp}{x y:List UInt8}{K:D->Prop}(h:binS op x y K):∃r,K r/\∀K':D->Prop,K' r->binS op x y K':=by
 cases op<;>simp only[binS] at h ⊢<;>first|exact⟨_,h,λ_ h=>h⟩|exact⟨_,h.2,λ_ h'=>⟨h.1,h'⟩⟩|exact h.elim
theorem binD_iff{op:BinOp}{x y:AV}{K:D->Prop}(h:binD op x y K):∃r,K r/\∀K':D->Prop,K' r->binD op x y K':=by
 unfold binD at h
 split at h
 ·rename_i k m k' q
  split at h
  ·exact⟨_,h.2,λ_ h'=>⟨h.1,h'⟩⟩
  ·exact⟨_,h.2,λ_ h'=>⟨h.1,h'⟩⟩
  ·rename_i hs1 hs2
   obtain⟨h1,h2⟩:=h
   obtain⟨r,hr,hk⟩:=binI_iff h2
   refine⟨r,hr,λK' hk'=>?_⟩
   unfold binD
   have:=hk K' hk'
   cases op<;>first|exact⟨h1,this⟩|exact absurd rfl hs1|exact absurd rfl hs2
 ·exact binS_iff h
 ·exact h.elim
theorem shI_iff{d:Nat}{x:AV}{K:AV->Prop}(h:shI os d x K):∃r,K r/\∀K':AV->Prop,K' r->shI os d x K':=by
 unfold shI at h
 split at h
 ·exact⟨_,h,λ_ h=>h⟩
 ·split at h
  ·rename_i hid
   exact⟨_,h.2,λ_ h'=>by unfold shI;simp only[hid];exact⟨h.1,h'⟩⟩
  ·exact h.elim
 ·exact⟨_,h,λ_ h=>h⟩
 ·exact h.elim
theorem loadI_iff{g:Bool}{m:Nat}{x:AV}{K:AV->Prop}(h:loadI os g m x K):∃r,K r/\∀K':AV->Prop,K' r->loadI os g m x K':=by
 unfold loadI at h
 split at h
 ·split at h
  ·rename_i hid
   cases g with
   |true=>simp only[if_true] at h;exact⟨_,h.2,λ_ h'=>by unfold loadI;simp only[hid,if_true];exact⟨h.1,h'⟩⟩
   |false=>simp only[Bool.false_eq_true,if_false] at h;exact⟨_,h.2,λ_ h'=>by unfold loadI;simp only[hid,Bool.false_eq_true,if_false];exact⟨h.1,h'⟩⟩
  ·exact h.elim
 ·split at h
  ·rename_i hid
   obtain⟨h1,h2,h3,h⟩:=h
   cases g with
   |true=>simp only[if_true] at h;exact⟨_,h.2,λ_ h'=>by unfold loadI;simp only[hid,if_true];exact⟨h1,h2,h3,h.1,h'⟩⟩
   |false=>simp only[Bool.false_eq_true,if_false] at h;exact⟨_,h.2,λ_ h'=>by unfold loadI;simp only[hid,Bool.false_eq_true,if_false];exact⟨h1,h2,h3,h.1,h'⟩⟩
  ·exact h.elim
 ·split at h
  ·rename_i hid
   obtain⟨h1,h2,h3,h⟩:=h
   cases g with
   |true=>simp only[if_true] at h;exact⟨_,h.2,λ_ h'=>by unfold loadI;simp only[hid,if_true];exact⟨h1,h2,h3,h.1,h'⟩⟩
   |false=>simp only[Bool.false_eq_true,if_false] at h;exact⟨_,h.2,λ_ h'=>by unfold loadI;simp only[hid,Bool.false_eq_true,if_false];exact⟨h1,h2,h3,h.1,h'⟩⟩
  ·exact h.elim
 ·obtain⟨h1,h⟩:=h
  cases g with
  |true=>simp only[if_true] at h;exact⟨_,h.2,λ_ h'=>by unfold loadI;simp only[if_true];exact⟨h1,h.1,h'⟩⟩
  |false=>simp only[Bool.false_eq_true,if_false] at h;exact⟨_,h.2,λ_ h'=>by unfold loadI;simp only[Bool.false_eq_true,if_false];exact⟨h1,h.1,h'⟩⟩
 ·exact h.elim
theorem storeI_iff{m:Nat}{x v:AV}{K:List AO->Prop}(h:storeI os m x v K):∃r,K r/\∀K':List AO->Prop,K' r->storeI os m x v K':=by
 unfold storeI at h
 split at h
 ·exact h.elim
 rename_i vc hvc
 split at h
 ·split at h
  ·rename_i hid
   exact⟨_,h.2.2,λ_ h'=>by unfold storeI;simp only[hvc,hid];exact⟨h.1,h.2.1,h'⟩⟩
  ·exact h.elim
 ·split at h
  ·rename_i hf
   split at h
   ·rename_i hid
    obtain⟨h1,h2,h3,h4,h5,h6,h7⟩:=h
    exact⟨_,h7,λ_ h'=>by unfold storeI;simp only[hvc,hf,hid];exact⟨h1,h2,h3,h4,h5,h6,h'⟩⟩
   ·exact h.elim
  ·exact h.elim
 ·exact h.elim
theorem newsI_iff{x:AV}{K:List (List D)->Prop}(h:newsI os x K):∃r,K r/\∀K':List (List D)->Prop,K' r->newsI os x K':=by
 unfold newsI at h
 split at h
 ·exact⟨_,h,λ_ h=>h⟩
 ·exact⟨_,h,λ_ h=>h⟩
 ·exact⟨_,h,λ_ h=>h⟩
 ·split at h
  ·rename_i hid
   exact⟨_,h.2,λ_ h'=>by unfold newsI;simp only[hid];exact⟨h.1,h'⟩⟩
  ·exact h.elim
 ·exact h.elim
theorem appI_iff{sz by_:Nat}{s:AV}{ns:List (List D)}{K:AV->List AO->Prop}(h:appI os sz by_ s ns K):∃r os',K r os'/\∀K':AV->List AO->Prop,K' r os'->appI os sz by_ s ns K':=by
 unfold appI at h
 split at h
 ·exact⟨_,_,h.2.2.2,λ_ h'=>⟨h.1,h.2.1,h.2.2.1,h'⟩⟩
 ·split at h
  ·rename_i hid
   obtain⟨h1,h2,h3,h4,h5,h6⟩:=h
   exact⟨_,_,h6,λ_ h'=>by unfold appI;simp only[hid];exact⟨h1,h2,h3,h4,h5,h'⟩⟩
  ·exact h.elim
 ·exact h.elim
theorem appXI_iff{sz by_:Nat}{s:AV}{ns:List (List D)}{K:AV->List AO->Prop}(h:appXI os sz by_ s ns K):∃r os',K r os'/\∀K':AV->List AO->Prop,K' r os'->appXI os sz by_ s ns K':=by
 unfold appXI at h
 split at h
 ·obtain⟨h1,h2,h3,h4,h5,h6⟩:=h
  exact⟨_,_,h6,λ_ h'=>⟨h1,h2,h3,h4,h5,h'⟩⟩
 ·obtain⟨r,os',hr,hk⟩:=appI_iff h
  exact⟨r,os',hr,λK' h'=>hk K' h'⟩
 ·rename_i hn1 hn2
  obtain⟨r,os',hr,hk⟩:=appI_iff h
  exact⟨r,os',hr,λK' h'=>by unfold appXI;split<;>first|exact hk K' h'|(exact absurd rfl (hn1 _))|(exact absurd rfl hn2)⟩
theorem appNI_iff{id sz by_:Nat}{s:AV}{ns:List (List D)}{K:AV->List AO->Prop}(h:appNI os id sz by_ s ns K):∃r os',K r os'/\∀K':AV->List AO->Prop,K' r os'->appNI os id sz by_ s ns K':=by
 unfold appNI at h
 split at h
 ·obtain⟨h0,h1,h2,h3,h4,h5,h6⟩:=h
  exact⟨_,_,h6,λ_ h'=>⟨h0,h1,h2,h3,h4,h5,h'⟩⟩
 ·obtain⟨h0,h1,h3,h4,h5,h6⟩:=h
  exact⟨_,_,h6,λ_ h'=>⟨h0,h1,h3,h4,h5,h'⟩⟩
 ·obtain⟨h0,h1,h3,h4,h5,h6⟩:=h
  exact⟨_,_,h6,λ_ h'=>⟨h0,h1,h3,h4,h5,h'⟩⟩
 ·obtain⟨r,os',hr,hk⟩:=appI_iff h
  exact⟨r,os',hr,λK' h'=>hk K' h'⟩
 ·exact h.elim
theorem appDI_iff{sz by_:Nat}{s:AV}{ns:List (List D)}{K:AV->Prop}(h:appDI os sz by_ s ns K):∃r,K r/\∀K':AV->Prop,K' r->appDI os sz by_ s ns K':=by
 unfold appDI at h
 split at h
 ·obtain⟨h1,h2,h3,h4,h5⟩:=h
  exact⟨_,h5,λ_ h'=>⟨h1,h2,h3,h4,h'⟩⟩
 ·obtain⟨h1,h2,h3,h4⟩:=h
  exact⟨_,h4,λ_ h'=>⟨h1,h2,h3,h'⟩⟩
 ·exact h.elim
theorem partI_iff{x:AV}{K:(id lo n:Nat)->List (List D)->(sz frz:Nat)->Bool->Prop}(h:partI os x K):∃id lo n es sz frz nl,K id lo n es sz frz nl/\∀K':(id lo n:Nat)->List (List D)->(sz frz:Nat)->Bool->Prop,K' id lo n es sz frz nl->partI os x K':=by
 unfold partI at h
 split at h
 ·split at h
  ·rename_i hid
   exact⟨_,_,_,_,_,_,_,h.2,λK' h'=>by simp only[partI,hid];exact⟨h.1,h'⟩⟩
  ·exact h.elim
 ·split at h
  ·rename_i hid
   exact⟨_,_,_,_,_,_,_,h.2,λK' h'=>by simp only[partI,hid];exact⟨h.1,h'⟩⟩
  ·exact h.elim
 ·exact h.elim
theorem bndV_iff{b:Bool}{d:Int}{vs:List AV}{K:Int->List AV->Prop}(h:bndV b d vs K):∃n r,K n r/\∀K':Int->List AV->Prop,K' n r->bndV b d vs K':=by
 unfold bndV at h
 split at h
 ·rename_i hb
  split at h
  ·exact⟨_,_,h,λK' h'=>by simp only[bndV,hb,if_true];exact h'⟩
  ·exact h.elim
 ·rename_i hb
  exact⟨_,_,h,λK' h'=>by simp only[bndV,if_neg hb];exact h'⟩
theorem sluI_iff{l h:Bool}{x:AV}{vs:List AV}{K:AV->Prop}(hh:sluI os l h x vs K):∃r,K r/\∀K':AV->Prop,K' r->sluI os l h x vs K':=by
 unfold sluI at hh
 split at hh
 ·obtain⟨lo,r1,hh,k1⟩:=bndV_iff hh
  obtain⟨hi,r2,hh,k2⟩:=bndV_iff hh
  exact⟨_,hh.2.2,λK' h'=>k1 _ (k2 _ ⟨hh.1,hh.2.1,h'⟩)⟩
 ·obtain⟨lo,r1,hh,k1⟩:=bndV_iff hh
  obtain⟨hi,r2,hh,k2⟩:=bndV_iff hh
  exact⟨_,hh.2.2.2.2,λK' h'=>k1 _ (k2 _ ⟨hh.1,hh.2.1,hh.2.2.1,hh.2.2.2.1,h'⟩)⟩
 ·obtain⟨id,lo0,n,es,sz,frz,nl,hh,k0⟩:=partI_iff hh
  obtain⟨lo,r1,hh,k1⟩:=bndV_iff hh
  obtain⟨hi,r2,hh,k2⟩:=bndV_iff hh
  exact⟨_,hh.2.2.2.2,λK' h'=>by unfold sluI;refine k0 _ ?_;refine k1 _ ?_;refine k2 _ ?_;exact⟨hh.1,hh.2.1,hh.2.2.1,hh.2.2.2.1,h'⟩⟩
 ·obtain⟨id,lo0,n,es,sz,frz,nl,hh,k0⟩:=partI_iff hh
  obtain⟨lo,r1,hh,k1⟩:=bndV_iff hh
  obtain⟨hi,r2,hh,k2⟩:=bndV_iff hh
  exact⟨_,hh.2.2.2.2,λK' h'=>by unfold sluI;refine k0 _ ?_;refine k1 _ ?_;refine k2 _ ?_;exact⟨hh.1,hh.2.1,hh.2.2.1,hh.2.2.2.1,h'⟩⟩
 ·exact hh.elim
theorem exI_iff{e:XO}{vs:List AV}{K:AV->List AO->Prop}(h:exI os K e vs):∃r os',K r os'/\∀K':AV->List AO->Prop,K' r os'->exI os K' e vs:=by
 unfold exI at h
 split at h
 ·exact⟨_,_,h,λ_ h=>h⟩
 ·exact⟨_,_,h,λ_ h=>h⟩
 ·obtain⟨ns,h,k1⟩:=newsI_iff h
  split at h
  ·rename_i s hs
   exact⟨_,_,h,λK' h'=>k1 (λns=>match unbyte ns with
    |some s=>K' (.d (.str s)) os
    |none=>False) (by simp only[hs];exact h')⟩
  ·exact h.elim
 ·rename_i sz dst src
  obtain⟨ns,h,k1⟩:=newsI_iff h
  obtain⟨id,lo,n,es,sz',frz,nl,h,k0⟩:=partI_iff h
  obtain⟨h1,h2,h3,h4⟩:=h
  exact⟨_,_,h4,λK' h'=>by unfold exI;refine k1 _ ?_;refine k0 _ ?_;exact⟨h1,h2,h3,h'⟩⟩
 ·exact⟨_,_,h.2.2,λ_ h'=>⟨h.1,h.2.1,h'⟩⟩
 ·exact⟨_,_,h.2.2,λ_ h'=>⟨h.1,h.2.1,h'⟩⟩
 ·obtain⟨r,os',hr,hk⟩:=appI_iff h
  exact⟨r,os',hr,hk⟩
 ·obtain⟨ns,h,k1⟩:=newsI_iff h
  obtain⟨r,hr,hk⟩:=appDI_iff h
  exact⟨r,_,hr,λK' h'=>k1 (λns=>appDI os _ _ _ ns λr=>K' r os) (hk (λr=>K' r os) h')⟩
 ·split at h
  ·rename_i hid
   exact⟨_,_,h.2,λK' h'=>by simp only[exI,hid];exact⟨h.1,h'⟩⟩
  ·exact h.elim
 ·obtain⟨r,hr,hk⟩:=sluI_iff h
  exact⟨r,_,hr,λK' h'=>hk (λr=>K' r os) h'⟩
 ·exact h.elim
theorem apprI_iff{sz by_:Nat}{s:AV}{ns:List (List AV)}{K:AV->List AO->Prop}(h:apprI os sz by_ s ns K):∃r os',K r os'/\∀K':AV->List AO->Prop,K' r os'->apprI os sz by_ s ns K':=by
 unfold apprI at h
 split at h
 ·split at h
  ·rename_i hid
   obtain⟨h1,h2,h3,h4,h5,h6⟩:=h
   exact⟨_,_,h6,λ_ h'=>by unfold apprI;simp only[hid];exact⟨h1,h2,h3,h4,h5,h'⟩⟩
  ·exact h.elim
 ·exact h.elim
theorem slI_iff{sz:Nat}{x:AV}{lo hi:Option Opd}{K:AV->List AO->Prop}(h:slI ρ os sz x lo hi K):∃r os',K r os'/\∀K':AV->List AO->Prop,K' r os'->slI ρ os sz x lo hi K':=by
 unfold slI at h
 split at h
 ·rename_i hf
  obtain⟨m,h,k1⟩:=bndI_iff h
  obtain⟨l,h,k2⟩:=bndI_iff h
  obtain⟨h1,h2,h3,h4,h5⟩:=h
  exact⟨_,_,h5,λK' h'=>by unfold slI;simp only[hf];exact k1 _ (k2 _ ⟨h1,h2,h3,h4,h'⟩)⟩
 ·rename_i hf
  obtain⟨m,h,k1⟩:=bndI_iff h
  obtain⟨l,h,k2⟩:=bndI_iff h
  obtain⟨h1,h2,h3⟩:=h
  exact⟨_,_,h3,λK' h'=>by unfold slI;simp only[hf];exact k1 _ (k2 _ ⟨h1,h2,h'⟩)⟩
 ·exact h.elim
theorem opI_iff{op:IK}(hd:op.det=true){K:AV->List AO->Prop}(h:opI P ρ os K op):∃r os',K r os'/\∀K':AV->List AO->Prop,K' r os'->opI P ρ os K' op:=by
 have one:∀{r:AV} {os':List AO},K r os'->(∀K':AV->List AO->Prop,K' r os'->opI P ρ os K' op)->∃r os',K r os'/\∀K':AV->List AO->Prop,K' r os'->opI P ρ os K' op:=λh1 h2=>⟨_,_,h1,h2⟩
 cases op with
 |call f args=>cases hd
 |mv x=>exact one h λ_ h=>h
 |pick c x y=>
  simp only[opI] at h ⊢
  split at h
  ·rename_i t hc
   cases t with
   |true=>exact⟨_,_,h.1 rfl,λK' h'=>⟨λ_=>h',λe=>by cases e⟩⟩
   |false=>exact⟨_,_,h.2 rfl,λK' h'=>⟨λe=>(by cases e),λ_=>h'⟩⟩
  ·exact h.elim
 |un u x=>
  simp only[opI] at h ⊢
  split at h
  ·obtain⟨r,hr,hk⟩:=unD_iff h;exact⟨_,_,hr,λK' h'=>hk (λr=>K' (.d r) os) h'⟩
  ·exact h.elim
 |bin u x y=>
  simp only[opI] at h ⊢
  obtain⟨r,hr,hk⟩:=binD_iff h
  exact⟨_,_,hr,λK' h'=>hk (λr=>K' (.d r) os) h'⟩
 |eqb neg x y=>simp only[opI] at h ⊢;split at h<;>first|exact⟨_,_,h,λ_ h=>h⟩|exact h.elim
 |eqs neg ks x y=>
  simp only[opI] at h ⊢
  split at h
  ·split at h
   ·exact⟨_,_,h,λ_ h=>h⟩
   ·exact h.elim
  ·exact h.elim
 |eqnil neg x=>
  simp only[opI] at h ⊢
  split at h
  ·exact⟨_,_,h,λ_ h=>h⟩
  ·exact⟨_,_,h,λ_ h=>h⟩
  ·split at h
   ·exact⟨_,_,h.2,λ_ h'=>⟨h.1,h'⟩⟩
   ·exact h.elim
  ·exact h.elim
 |conv k x=>simp only[opI] at h ⊢;split at h<;>first|exact⟨_,_,h,λ_ h=>h⟩|exact h.elim
 |cvs x=>simp only[opI] at h ⊢;split at h<;>first|exact⟨_,_,h,λ_ h=>h⟩|exact h.elim
 |faddr off x=>
  obtain⟨r,hr,hk⟩:=shI_iff (show shI os off (evO ρ x) λr=>K r os from h)
  exact⟨_,_,hr,λK' h'=>hk (λr=>K' r os) h'⟩
 |nilck x=>
  obtain⟨r,hr,hk⟩:=shI_iff (show shI os 0 (evO ρ x) λr=>K r os from h)
  exact⟨_,_,hr,λK' h'=>hk (λr=>K' r os) h'⟩
 |field off m g x=>
  simp only[opI] at h ⊢
  split at h
  ·cases g with
   |true=>simp only[if_true] at h ⊢;exact⟨_,_,h.2,λ_ h'=>⟨h.1,h'⟩⟩
   |false=>simp only[Bool.false_eq_true,if_false] at h ⊢;exact⟨_,_,h.2,λ_ h'=>⟨h.1,h'⟩⟩
  ·exact h.elim
 |ixarr l sz x i=>
  simp only[opI] at h ⊢
  split at h
  ·obtain⟨h1,h2,h3⟩:=h
   obtain⟨r,hr,hk⟩:=shI_iff h3
   exact⟨_,_,hr,λK' h'=>⟨h1,h2,hk (λr=>K' r os) h'⟩⟩
  ·exact h.elim
 |ixsl sz x i=>
  simp only[opI] at h ⊢
  split at h
  ·split at h
   ·obtain⟨h1,h2,h3,h4⟩:=h
    exact⟨_,_,h4,λK' h'=>⟨h1,h2,h3,h'⟩⟩
   ·split at h
    ·obtain⟨h1,h2,h3,h4,h5,h6⟩:=h
     exact⟨_,_,h6,λK' h'=>⟨h1,h2,h3,h4,h5,h'⟩⟩
    ·exact h.elim
   ·split at h
    ·obtain⟨h1,h2,h3,h4,h5,h6⟩:=h
     exact⟨_,_,h6,λK' h'=>⟨h1,h2,h3,h4,h5,h'⟩⟩
    ·exact h.elim
   ·split at h
    ·obtain⟨h1,h2,h3,h4,h5,h6⟩:=h
     exact⟨_,_,h6,λK' h'=>⟨h1,h2,h3,h4,h5,h'⟩⟩
    ·exact h.elim
   ·exact h.elim
  ·exact h.elim
 |ixstr x i=>
  simp only[opI] at h ⊢
  split at h
  ·exact⟨_,_,h.2.2,λK' h'=>⟨h.1,h.2.1,h'⟩⟩
  ·exact h.elim
 |ixval l sz g x i=>
  simp only[opI] at h ⊢
  split at h
  ·obtain⟨h1,h2,h⟩:=h
   cases g with
   |true=>simp only[if_true] at h ⊢;exact⟨_,_,h.2,λ_ h'=>⟨h1,h2,h.1,h'⟩⟩
   |false=>simp only[Bool.false_eq_true,if_false] at h ⊢;exact⟨_,_,h.2.2,λ_ h'=>⟨h1,h2,h.1,h.2.1,h'⟩⟩
  ·exact h.elim
 |slstr x lo hi=>
  simp only[opI] at h ⊢
  split at h
  ·obtain⟨m,h,k1⟩:=bndI_iff h
   obtain⟨l,h,k2⟩:=bndI_iff h
   obtain⟨h1,h2,h3,h4⟩:=h
   exact⟨_,_,h4,λK' h'=>k1 _ (k2 _ ⟨h1,h2,h3,h'⟩)⟩
  ·exact h.elim
 |slsl sz x lo hi=>exact slI_iff h
 |stop=>exact h.elim
 |mkb f x=>
  simp only[opI] at h ⊢
  split at h
  ·rename_i cs e
   split at h
   ·rename_i vs e2
    exact⟨_,_,h,λK' h'=>h'⟩
   ·exact h.elim
  ·exact⟨_,_,h,λK' h'=>h'⟩
  ·exact h.elim
 |slsld sz x lo hi=>
  simp only[opI] at h ⊢
  unfold slDI at h
  split at h
  ·rename_i es e
   obtain⟨m,h,k1⟩:=bndI_iff h
   obtain⟨l,h,k2⟩:=bndI_iff h
   obtain⟨h1,h2,h3,h4,h5⟩:=h
   exact⟨_,_,h5,λK' h'=>by unfold slDI;rw[e];exact k1 _ (k2 _ ⟨h1,h2,h3,h4,h'⟩)⟩
  ·rename_i e
   obtain⟨m,h,k1⟩:=bndI_iff h
   obtain⟨l,h,k2⟩:=bndI_iff h
   obtain⟨h1,h2,h3⟩:=h
   exact⟨_,_,h3,λK' h'=>by unfold slDI;rw[e];exact k1 _ (k2 _ ⟨h1,h2,h'⟩)⟩
  ·exact h.elim
 |build zs ps=>
  simp only[opI] at h ⊢
  obtain⟨r,hr,hk⟩:=fillA_iff h
  exact⟨_,_,hr,λK' h'=>hk _ h'⟩
 |bsl m sz zs ps=>
  simp only[opI] at h ⊢
  obtain⟨r,hr,hk⟩:=fillA_iff h
  split at hr
  ·rename_i xs os1 hf
   rcases hr with hr|⟨he,hr⟩
   ·exact⟨_,_,hr,λK' h'=>hk _ (by simp only[hf];exact .inl h')⟩
   ·exact⟨_,_,hr,λK' h'=>hk _ (by simp only[hf];exact .inr ⟨he,h'⟩)⟩
  ·exact hr.elim
 |bsld m sz zs ps=>
  simp only[opI] at h ⊢
  obtain⟨r,hr,hk⟩:=fillA_iff h
  split at hr
  ·rename_i xs os1 hf
   exact⟨_,_,hr.2,λK' h'=>hk _ (by simp only[hf];exact⟨hr.1,h'⟩)⟩
  ·exact hr.elim
 |clo f caps=>
  simp only[opI] at h ⊢
  split at h
  ·exact⟨_,_,h,λ_ h=>h⟩
  ·split at h
   ·exact⟨_,_,h,λ_ h=>h⟩
   ·exact h.elim
 |ext i x=>
  simp only[opI] at h ⊢
  split at h
  ·exact⟨_,_,h.2,λ_ h'=>⟨h.1,h'⟩⟩
  ·exact h.elim
 |len x=>
  simp only[opI] at h ⊢
  split at h
  ·exact⟨_,_,h,λ_ h=>h⟩
  ·exact⟨_,_,h,λ_ h=>h⟩
  ·split at h
   ·exact⟨_,_,h.2,λ_ h'=>⟨h.1,h'⟩⟩
   ·exact h.elim
  ·split at h
   ·exact⟨_,_,h.2,λ_ h'=>⟨h.1,h'⟩⟩
   ·exact h.elim
  ·split at h
   ·exact⟨_,_,h.2.2,λ_ h'=>⟨h.1,h.2.1,h'⟩⟩
   ·exact h.elim
  ·exact⟨_,_,h,λ_ h=>h⟩
  ·exact h.elim
 |lens x=>simp only[opI] at h ⊢;split at h<;>first|exact⟨_,_,h,λ_ h=>h⟩|exact h.elim
 |lenk m=>exact one h λ_ h=>h
 |minmax mx x xs=>
  simp only[opI] at h ⊢
  split at h
  ·obtain⟨r,hr,hk⟩:=minmaxI_iff mx _ h
   exact⟨_,_,hr,λK' h'=>hk (λr=>K' r os) h'⟩
  ·exact h.elim
 |load g m x=>
  obtain⟨r,hr,hk⟩:=loadI_iff (show loadI os g m (evO ρ x) λr=>K r os from h)
  exact⟨_,_,hr,λK' h'=>hk (λr=>K' r os) h'⟩
 |store m x v=>
  obtain⟨r,hr,hk⟩:=storeI_iff (show storeI os m (evO ρ x) (evO ρ v) λos'=>K .junk os' from h)
  exact⟨_,_,hr,λK' h'=>hk (λos'=>K' .junk os') h'⟩
 |alloc zs=>exact one h λ_ h=>h
 |box m x=>
  simp only[opI] at h ⊢
  split at h
  ·exact⟨_,_,h.2,λ_ h'=>⟨h.1,h'⟩⟩
  ·exact h.elim
 |mksl sz by_ zs l c=>
  simp only[opI] at h ⊢
  split at h
  ·obtain⟨h1,h2,h3,h4,h5⟩:=h
   exact⟨_,_,h5,λ_ h'=>⟨h1,h2,h3,h4,h'⟩⟩
  ·exact h.elim
 |app sz by_ s x=>
  simp only[opI] at h ⊢
  split at h
  ·split at h
   ·obtain⟨h1,h2,h⟩:=h
    obtain⟨r,os',hr,k2⟩:=apprI_iff h
    exact⟨r,os',hr,λK' h'=>⟨h1,h2,k2 K' h'⟩⟩
   ·exact h.elim
  ·obtain⟨ns,h,k1⟩:=newsI_iff h
   obtain⟨r,os',hr,k2⟩:=appXI_iff h
   exact⟨r,os',hr,λK' h'=>k1 (λns=>appXI os sz by_ (evO ρ s) ns K') (k2 K' h')⟩
 |appn id sz by_ s x=>
  obtain⟨ns,h,k1⟩:=newsI_iff (show newsI os (evO ρ x) (λns=>appNI os id sz by_ (evO ρ s) ns K) from h)
  obtain⟨r,os',hr,k2⟩:=appNI_iff h
  exact⟨r,os',hr,λK' h'=>k1 (λns=>appNI os id sz by_ (evO ρ s) ns K') (k2 K' h')⟩
 |calld f args=>
  simp only[opI] at h ⊢
  split at h
  ·rcases h with h|h
   ·split at h
    ·rename_i e
     obtain⟨h1,r,h2,h3⟩:=h
     exact⟨r,_,h3,λK' h'=>.inl ⟨h1,r,h2,h'⟩⟩
    ·exact h.elim
   ·split at h
    ·rename_i e
     obtain⟨h1,r,h2,h3⟩:=h
     exact⟨r,_,h3,λK' h'=>.inr ⟨h1,r,h2,h'⟩⟩
    ·exact h.elim
  ·split at h
   ·obtain⟨h1,r,h2,h3⟩:=h
    exact⟨r,_,h3,λK' h'=>⟨h1,r,h2,h'⟩⟩
   ·exact h.elim
  ·exact h.elim
 |rstr x=>simp only[opI] at h ⊢;split at h<;>first|exact⟨_,_,h,λ_ h=>h⟩|exact h.elim
 |nstr x=>
  simp only[opI] at h ⊢
  split at h
  ·split at h
   ·rename_i s p hid
    by_cases hp:p<s.length
    ·exact⟨_,_,h.1 hp,λK' h'=>⟨λ_=>h',λhn=>by omega⟩⟩
    ·exact⟨_,_,h.2 (by omega),λK' h'=>⟨λhn=>absurd hn hp,λ_=>h'⟩⟩
   ·exact h.elim
  ·exact h.elim
 |nmap x=>cases hd
 |callp f args=>
  simp only[opI] at h ⊢
  split at h
  ·rcases h with h|h
   ·split at h
    ·obtain⟨h1,r,h2,h3⟩:=h
     exact⟨r,_,h3,λK' h'=>.inl ⟨h1,r,h2,h'⟩⟩
    ·exact h.elim
   ·split at h
    ·split at h
     ·obtain⟨h1,r,ob',h2,h3⟩:=h
      exact⟨r,_,h3,λK' h'=>.inr ⟨h1,r,ob',h2,h'⟩⟩
     ·exact h.elim
    ·exact h.elim
  ·exact h.elim
 |calln id f args=>
  simp only[opI] at h ⊢
  split at h
  ·split at h
   ·split at h
    ·obtain⟨h0,es,nl,h2,h3⟩:=h
     exact⟨_,_,h3,λK' h'=>⟨h0,es,nl,h2,h'⟩⟩
    ·exact h.elim
   ·obtain⟨h1,h0,h⟩:=h
    rcases h with ⟨es,sz,nl,h2,h3⟩|⟨r,h2,h3⟩
    ·exact⟨_,_,h3,λK' h'=>⟨h1,h0,.inl ⟨es,sz,nl,h2,h'⟩⟩⟩
    ·exact⟨_,_,h3,λK' h'=>⟨h1,h0,.inr ⟨r,h2,h'⟩⟩⟩
  ·exact h.elim
 |callo f args=>
  simp only[opI] at h ⊢
  split at h
  ·split at h
   ·split at h
    ·obtain⟨h0,es,nl,h2,h3⟩:=h
     exact⟨_,_,h3,λK' h'=>⟨h0,es,nl,h2,h'⟩⟩
    ·exact h.elim
   ·split at h
    ·obtain⟨h1,r,h2,h3⟩:=h
     exact⟨r,_,h3,λK' h'=>⟨h1,r,h2,h'⟩⟩
    ·exact h.elim
  ·exact h.elim
 |bslr id m sz zs ps=>
  simp only[opI] at h ⊢
  obtain⟨r,hr,hk⟩:=fillA_iff h
  split at hr
  ·rename_i hid
   exact⟨_,_,hr,λK' h'=>hk _ h'⟩
  ·exact hr.elim
 |alloca id zs=>
  simp only[opI] at h ⊢
  split at h
  ·exact⟨_,_,h,λ_ h=>h⟩
  ·exact h.elim
 |boxa id m x=>
  simp only[opI] at h ⊢
  split at h
  ·exact⟨_,_,h.2,λ_ h'=>⟨h.1,h'⟩⟩
  ·exact h.elim
 |mkmap=>exact one h λ_ h=>h
 |lkup sk ok g zs m k=>
  simp only[opI] at h ⊢
  split at h
  ·split at h
   ·obtain⟨h0,h|⟨e,sz,frz,ho,h⟩⟩:=h
    ·exact⟨_,_,h,λ_ h'=>⟨h0,.inl h'⟩⟩
    ·exact⟨_,_,h,λ_ h'=>⟨h0,.inr ⟨e,sz,frz,ho,h'⟩⟩⟩
   ·exact h.elim
  ·exact h.elim
 |mupd sk m k v=>
  simp only[opI] at h ⊢
  split at h
  ·split at h
   ·exact⟨_,_,h.2.2,λ_ h'=>⟨h.1,h.2.1,h'⟩⟩
   ·exact h.elim
  ·exact h.elim
 |rmap x=>exact h.elim
 |entry x=>exact h.elim
 |ex e xs=>exact exI_iff (show exI os K e (xs.map (evO ρ)) from h)
end
end Go.Bi
