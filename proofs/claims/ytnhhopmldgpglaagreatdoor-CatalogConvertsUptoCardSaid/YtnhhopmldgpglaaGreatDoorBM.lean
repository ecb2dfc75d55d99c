/- Soundness of the operations of a region, in the order of the text and in any other. No condition. -/
import Derived.Test.YtnhhopmldgpglaaGreatDoorBL
set_option linter.unusedVariables false
namespace Go.Bi
set_option linter.unusedSectionVars false
variable [J9]
structure u5 where
 M:C2
 G:Gh
 os:List AO
 w:World
structure X0(n nb:Nat)(c:u5)(M:C2)(G:Gh)(os:List AO)(w:World)(ρ:C5)(a:Act):Prop where
 env:C0 M G os w
 since:D6 c.M c.G c.os c.w M G os w
 tmps:G6 M G os ρ a
 size:a.tmps.size=n
 defers:a.defers=[]
 base:c.os.length=nb
section
variable {P:Program}{n nb:Nat}{c:u5}{M:C2}{G:Gh}{os:List AO}{w:World}{ρ:C5}{a:Act}
theorem D6M{M':C2}{G':Gh}{os':List AO}{w':World}(ht:G6 M G os ρ a)(hs:D6 M G os w M' G' os' w'){d:Option Nat}(hd:∀t,d=some t->t<a.tmps.size){r:AV}{v:Value}(hv:VA M' G' os' r v) :
  G6 M' G' os' (updo d r ρ) (a.put d v):=by
 intro t
 cases d with
 |none=>exact(ht t).since hs
 |some d=>
  have hlt:=hd d rfl
  simp only[updo,upd,Act.put]
  by_cases htd:t=d
  ·subst htd
   rw[if_pos rfl]
   have:(a.tmps.setIfInBounds t v).getD t undef=v:=by simp[hlt]
   rw[this]
   exact hv
  ·rw[if_neg htd]
   have:(a.tmps.setIfInBounds d v).getD t undef=a.tmps.getD t undef:=by
    simp[A0T (o5 htd)]
   rw[this]
   exact(ht t).since hs
theorem D6L(a:Act)(d:Option Nat)(v:Value):(a.put d v).tmps.size=a.tmps.size:=by cases d<;>simp[Act.put]
theorem D6K(a:Act)(d:Option Nat)(v:Value):(a.put d v).defers=a.defers:=by cases d<;>rfl
theorem X0.put{M':C2}{G':Gh}{os':List AO}{w':World}(h:X0 n nb c M G os w ρ a)(he:C0 M' G' os' w')(hs:D6 M G os w M' G' os' w'){d:Option Nat}(hd:∀t,d=some t->t<n){r:AV}{v:Value}(hv:VA M' G' os' r v) :
  X0 n nb c M' G' os' w' (updo d r ρ) (a.put d v) where
 env:=he
 since:=h.since.trans hs
 tmps:=D6M h.tmps hs (λt ht=>by rw[h.size];exact hd t ht) hv
 size:=by rw[D6L];exact h.size
 defers:=by rw[D6K];exact h.defers
 base:=h.base
def A0o(n nb:Nat)(c:u5)(K:C5->List AO->Prop)(a:Act)(w:World):Prop:=∃M G os ρ,X0 n nb c M G os w ρ a/\K ρ os
theorem D7J:VA M G os (.tup []) undef:=⟨#[],rfl,rfl,λj c u h=>by simp at h⟩
theorem B8C{draw:Bool}{ops:List Oper}{o:Oper}{io:D0}(h:cOp P n draw ops o=some io):cIK P draw o.op=some io.op/\A8d ops o.guard=some io.guard/\io.dst=o.dst/\∀t,o.dst=some t->t<n:=by
 unfold cOp at h
 split at h
 ·rename_i k g h1 h2
  by_cases hd:B18 n o.dst=true
  ·rw[if_pos hd] at h
   cases h
   exact⟨h1,h2,rfl,λt ht=>by rw[ht] at hd;simpa[B18] using hd⟩
  ·rw[if_neg hd] at h
   cases h
 ·cases h
def B0R(x:Option Value):Option Bool:=match x with|some (.bool b)=>some b|_=>none
def A2e(k k':IK):Prop:=k'=k\/(∃zs id,k=.alloc zs/\k'=.alloca id zs)\/(∃n x id,k=.box n x/\k'=.boxa id n x)\/(∃f args,k=.calld f args/\k'=.callp f args)\/
 (∃f args id,k=.calld f args/\k'=.calln id f args)\/∃n sz zs ps id,k=.bsld n sz zs ps/\k'=.bslr id n sz zs ps
def IK.tag:IK->Nat
 |.alloc _=>1
 |.box ..=>2
 |.calld ..=>3
 |.bsld ..=>4
 |.alloca ..=>5
 |.boxa ..=>6
 |.calln ..=>7
 |.bslr ..=>8
 |_=>0
theorem A5W{op:BinOp}{t:TypeId}{x y:Operand}{k:IK}(h:A5V P op t x y=some k):k.tag=0:=by
 unfold A5V A5Z at h
 repeat' (first|(cases h;done)|(injection h with h;subst h;rfl)|(obtain⟨_,_,rfl⟩:=F7.1 h;rfl)|split at h)
theorem A5Y{b:Builtin}{as:List Operand}{ts:List TypeId}{k:IK}(h:A5X P b as ts=some k):k.tag=0:=by
 unfold A5X at h
 repeat' (first|(cases h;done)|(injection h with h;subst h;rfl)|(obtain⟨_,_,rfl⟩:=F7.1 h;rfl)|split at h)
theorem D2Q{draw:Bool}{op:Op}{zs:List D}(h:w5 P draw op=some (.alloc zs)):∃t,op=.alloc t/\tz P t=some zs:=by
 unfold w5 at h
 split at h
 all_goals first
  |exact absurd (A5W h) (by simp[IK.tag])
  |(obtain⟨x,hx,e⟩:=F7.1 h;cases e;exact⟨_,rfl,hx⟩)
  |skip
 all_goals repeat' (first|(cases h;done)|exact absurd (A5Y h) (by simp[IK.tag])|(obtain⟨_,_,e⟩:=F7.1 h;cases e;done)|(obtain⟨_,_,e⟩:=F7.1 h;split at e<;>(cases e;done))|(injection h with h;split at h<;>(cases h;done))|split at h)
theorem D2R{draw:Bool}{op:Op}{m:Nat}{x':B6}(h:w5 P draw op=some (.box m x')):∃t x,op=.box t x/\cO x=some x':=by
 unfold w5 at h
 split at h
 all_goals first
  |exact absurd (A5W h) (by simp[IK.tag])
  |skip
 all_goals repeat' (first|(cases h;done)|exact absurd (A5Y h) (by simp[IK.tag])|(obtain⟨_,_,e⟩:=F7.1 h;cases e;done)|(injection h with h;injection h with h3 h4;subst h4;exact⟨_,_,rfl,by assumption⟩)|(obtain⟨_,_,e⟩:=F7.1 h;split at e<;>(cases e;done))|(injection h with h;split at h<;>(cases h;done))|split at h)
theorem D2T{draw:Bool}{op:Op}{f':B6}{args':List B6}(h:w5 P draw op=some (.calld f' args')):∃c f,op=.call c/\c.callee=.value f/\cO f=some f'/\c.args.toList.mapM cO=some args':=by
 unfold w5 at h
 split at h
 all_goals first
  |exact absurd (A5W h) (by simp[IK.tag])
  |skip
 all_goals repeat' (first|(cases h;done)|exact absurd (A5Y h) (by simp[IK.tag])|(obtain⟨_,_,e⟩:=F7.1 h;cases e;done)|(injection h with h;split at h<;>first|(cases h;done)|(injection h with h1 h2;subst h1;subst h2;exact⟨_,_,rfl,by assumption,by assumption,by assumption⟩))|(obtain⟨_,_,e⟩:=F7.1 h;split at e<;>(cases e;done))|split at h)
theorem D2S{draw:Bool}{op:Op}{n sz:Nat}{zs:List D}{ps:List (Nat×Nat×B6)}(h:w5 P draw op=some (.bsld n sz zs ps)):∃t parts e,op=.buildSlice t n parts/\P.underlying t=some (.slice e)/\J8 P e=some sz/\tz P e=some zs/\0<sz/\zs.length=sz/\n*sz<=16777216/\A18 (λi=>some (i*sz,sz)) parts.toList=some ps:=by
 unfold w5 at h
 split at h
 all_goals first
  |exact absurd (A5W h) (by simp[IK.tag])
  |skip
 all_goals repeat' (first|(cases h;done)|exact absurd (A5Y h) (by simp[IK.tag])|(obtain⟨_,_,e⟩:=F7.1 h;cases e;done)|(injection h with h;split at h<;>(cases h;done))|(obtain⟨w,hq,e⟩:=F7.1 h;split at e<;>first|(cases e;done)|(injection e with h1 h2 h3 h4;subst h1;subst h2;subst h3;subst h4;rename_i hc _;exact⟨_,_,_,rfl,by assumption,by assumption,by assumption,hc.1,hc.2.1,hc.2.2,hq⟩))|split at h)
theorem D2U{draw:Bool}{op:Op}{k:IK}(h:w5 P draw op=some k):k.tag<=4:=by
 unfold w5 at h
 split at h
 all_goals first
  |exact O4 (Nat.le_of_eq (A5W h)) (by decide)
  |skip
 all_goals repeat' (first|(cases h;done)|exact O4 (Nat.le_of_eq (A5Y h)) (by decide)|(obtain⟨_,_,rfl⟩:=F7.1 h;first|(simp only[IK.tag];omega)|(split<;>(simp only[IK.tag];omega)))|(injection h with h;subst h;first|(simp only[IK.tag];omega)|(split<;>(simp only[IK.tag];omega)))|split at h)
theorem D2V{draw:Bool}{op:Op}{k:IK}(h:cIK P draw op=some k):k.tag<=4:=by
 by_cases hs:k=.stop
 ·subst hs;simp[IK.tag]
 ·exact D2U (A4v h hs)
theorem D6t(he:C0 M G os w)(ht:G6 M G os ρ a){o:Oper}{draw:Bool}{k k':IK}(hk:cIK P draw o.op=some k)(hp:A2e k k'){K:AV->List AO->Prop}(h:A8 P ρ os K k'):E6 P M G os w K (execOp a.eval o):=by
 rcases hp with rfl|⟨zs,id,rfl,rfl⟩|⟨m,x,id,rfl,rfl⟩|⟨f,args,rfl,rfl⟩|⟨f,args,id,rfl,rfl⟩|⟨m,sz,zs,ps,id,rfl,rfl⟩
 ·exact C11 he ht hk h
 ·obtain⟨t,h1,h2⟩:=D2Q (A4v hk (by simp))
  exact D5I he h1 h2 h
 ·obtain⟨t,x0,h1,h2⟩:=D2R (A4v hk (by simp))
  exact D5M he ht h1 h2 h
 ·refine C11 he ht hk ?_
  simp only[A8] at h ⊢
  split at h
  ·exact .inl h
  ·exact h.elim
 ·obtain⟨c,f0,h1,h2,h3,h4⟩:=D2T (A4v hk (by simp))
  exact D5S he ht h1 h2 h3 h4 h
 ·obtain⟨t,parts,e,h1,h2,h3,h4,h5,h6,h7,h8⟩:=D2S (A4v hk (by simp))
  exact D5O he ht h1 h2 h3 h4 h5 h6 h7 h8 h
theorem D6u{draw:Bool}{ops:Array Oper}{o:Oper}{io0 io:D0}{Q:Exit->Act->World->Prop}{i:Nat}(hi:ops[i]?=some o)(hc:cOp P n draw ops.toList o=some io0)(hpl:A2e io0.op io.op/\io.guard=io0.guard/\io.dst=io0.dst)(hR:X0 n nb c M G os w ρ a){K:C5->List AO->Prop}(h:n9 P io ρ os K) :
  wpOp P ops Q i (A0o n nb c K) a w:=by
 obtain⟨h1,h2,h3,h4⟩:=B8C hc
 rw[<- hpl.2.1] at h2
 rw[<- hpl.2.2] at h3
 unfold n9 at h
 rw[h3] at h
 unfold wpOp
 rw[hi]
 dsimp only
 have yes:Region.wanted o (yielded ops a.tmps)=true->A8 P ρ os (λr os'=>K (updo o.dst r ρ) os') io.op->(if Region.wanted o (yielded ops a.tmps)=true then o.wp P a w (A0o n nb c K) Q\/(o.asks P a w/\LetsOut Q) else A0o n nb c K (a.put o.dst undef) w):=by
  intro hw hop
  rw[if_pos hw]
  refine .inl ?_
  have hok:=D6t hR.env hR.tmps h1 hpl.1 hop
  unfold E6 at hok
  unfold Oper.wp
  generalize (execOp a.eval o).run P w=s8 at hok
  cases s8 with
  |halt x w'=>exact hok.elim
  |ok nx w'=>
   cases nx with
   |value v=>
    obtain⟨M',G',r,os',q1,q2,q3,q4⟩:=hok
    exact⟨M',G',os',_,hR.put q1 q2 h4 q3,q4⟩
   |skip=>
    obtain⟨M',G',os',q1,q2,q3⟩:=hok
    exact⟨M',G',os',_,hR.put q1 q2 h4 (r:=.junk) trivial,q3⟩
   |enter f args=>
    obtain⟨rfl,hcall⟩:=hok
    refine Calls.mono hcall ?_
    rintro e w'' ⟨v,rfl,M',G',r,os',q1,q2,q3,q4⟩
    exact⟨M',G',os',_,hR.put q1 q2 h4 q3,q4⟩
   |_=>exact hok.elim
 have no:Region.wanted o (yielded ops a.tmps)=false->K (updo o.dst (.tup []) ρ) os->(if Region.wanted o (yielded ops a.tmps)=true then o.wp P a w (A0o n nb c K) Q\/(o.asks P a w/\LetsOut Q) else A0o n nb c K (a.put o.dst undef) w):=by
  intro hw hk
  rw[if_neg (by rw[hw];simp)]
  exact⟨M,G,os,_,hR.put hR.env (D6.refl ..) h4 D7J,hk⟩
 cases hg:o.guard with
 |none=>
  rw[hg] at h2
  simp only[A8d] at h2
  cases h2':io.guard with
  |some _=>rw[h2'] at h2;cases h2
  |none=>
   rw[h2'] at h
   exact yes (by simp[Region.wanted,hg]) h
 |some jw=>
  obtain⟨j,want⟩:=jw
  rw[hg] at h2
  simp only[A8d] at h2
  split at h2
  ·rename_i o' ho'
   obtain⟨t,ht,hgd⟩:=F7.1 h2
   rw[<- hgd] at h
   simp only[gI] at h
   have hy:yielded ops a.tmps j=B0R (a.tmps[t]?):=by
    have:ops[j]?=some o':=by simpa using ho'
    unfold yielded
    rw[this]
    simp only[Option.bind_some,ht]
    cases hq:a.tmps[t]? with
    |none=>rfl
    |some v=>cases v<;>rfl
   have hget:∀v,a.tmps.getD t undef=v->v≠undef->a.tmps[t]?=some v:=λv hv hne=>by
    cases hq:a.tmps[t]? with
    |none=>simp[hq] at hv;exact absurd hv.symm hne
    |some u=>simp[hq] at hv;rw[hv]
   split at h
   ·rename_i b hb
    have hv:=hR.tmps t
    rw[hb] at hv
    have hv:=hget _ (A43 hv) (by simp[undef])
    rw[hv] at hy
    by_cases hbw:b=want
    ·exact yes (by simp[Region.wanted,hg,hy,hbw,B0R]) (h.1 hbw)
    ·have hbn:b=!want:=by cases b<;>cases want<;>simp_all
     exact no (by simp[Region.wanted,hg,hy,hbw,B0R]) (h.2 hbn)
   ·rename_i hb
    have hv:=hR.tmps t
    rw[hb] at hv
    obtain⟨vs,hvs,hl,_⟩:=hv
    have hvs':vs=#[]:=Array.size_eq_zero_iff.1 hl
    subst hvs'
    have:yielded ops a.tmps j=none:=by
     rw[hy]
     cases hq:a.tmps[t]? with
     |none=>rfl
     |some u=>
      simp[hq] at hvs
      rw[hvs]
      rfl
    exact no (by simp[Region.wanted,hg,this]) h
   ·exact h.elim
  ·cases h2
def Z8(P:Program)(is:List D0):List Nat->C5->List AO->(C5->List AO->Prop)->Prop
 |[],ρ,os,K=>K ρ os
 |i::l,ρ,os,K=>match is[i]? with
  |some o=>n9 P o ρ os λρ' os'=>Z8 P is l ρ' os' K
  |none=>Z8 P is l ρ os K
theorem A4P{α β:Type}{f:α->Option β}:∀{l:List α}{r:List β},l.mapM f=some r->r.length=l.length/\∀(i:Nat) x,l[i]?=some x->∃y,r[i]?=some y/\f x=some y
 |[],r,h=>by simp at h;subst h;simp
 |x::l,r,h=>by
  simp only[A0r,A2N,Z2] at h
  obtain⟨y,hy,ys,hys,hp⟩:=h
  simp at hp
  subst hp
  obtain⟨i1,i2⟩:=A4P hys
  refine⟨by simp[i1],λi z hz=>?_⟩
  cases i with
  |zero=>simp at hz;subst hz;exact⟨y,rfl,hy⟩
  |succ i=>exact i2 i z (by simpa using hz)
theorem A6L{draw:Bool}{ops:Array Oper}{is0 is:List D0}{Q:Exit->Act->World->Prop}{K:C5->List AO->Prop}(hc:ops.toList.mapM (cOp P n draw ops.toList)=some is0)(hpl:is.length=is0.length/\∀(i:Nat) o0 o,is0[i]?=some o0->is[i]?=some o->A2e o0.op o.op/\o.guard=o0.guard/\o.dst=o0.dst)(hQ:∀a w,A0o n nb c K a w->Q .normal a w) :
  ∀(l:List Nat) {M:C2} {G:Gh} {os:List AO} {w:World} {ρ:C5} {a:Act},X0 n nb c M G os w ρ a->Z8 P is l ρ os K->wpOps P ops Q l a w
 |[],M,G,os,w,ρ,a,hR,h=>hQ a w ⟨M,G,os,ρ,hR,h⟩
 |i::l,M,G,os,w,ρ,a,hR,h=>by
  obtain⟨hlen,hget⟩:=A4P hc
  rw[wpOps_cons]
  simp only[Z8] at h
  cases ho:ops[i]? with
  |none=>
   have:is[i]?=none:=by
    have:=Array.getElem?_eq_none_iff.1 ho
    rw[A0p]
    rw[hpl.1,hlen];simpa using this
   rw[this] at h
   unfold wpOp
   rw[ho]
   exact A6L hc hpl hQ l hR h
  |some o=>
   obtain⟨io0,hio0,hco⟩:=hget i o (by simpa using ho)
   have hil:i<is.length:=by rw[hpl.1];exact(A7.1 hio0).1
   obtain⟨io,hio⟩:∃io,is[i]?=some io:=⟨_,C3 hil⟩
   rw[hio] at h
   refine wpOp_mono ?_ (D6u ho hco (hpl.2 i _ _ hio0 hio) hR h)
   rintro a' w' ⟨M',G',os',ρ',hR',hk⟩
   exact A6L hc hpl hQ l hR' hk
theorem C13(is:List D0)(K:C5->List AO->Prop):∀(l:List D0)(s:Nat)(ρ:C5)(os:List AO),(∀i,l[i]?=is[s+i]?)->Z8 P is (List.range' s l.length) ρ os K=A2p P l ρ os K
 |[],s,ρ,os,hl=>rfl
 |o::l,s,ρ,os,hl=>by
  have h0:=hl 0
  simp only[A29,A1y] at h0
  have ih:(λρ' os'=>Z8 P is (List.range' (s+1) l.length) ρ' os' K)=λρ' os'=>A2p P l ρ' os' K:=by
   funext ρ' os'
   exact C13 is K l (s+1) ρ' os' (λi=>by have:=hl (i+1);simpa[Nat.add_assoc,Nat.add_comm 1] using this)
  simp only[H7,List.range'_succ,Z8,<- h0,ih,A2p]
theorem D6v{is:List D0}{K:C5->List AO->Prop}(h:A2p P is ρ os K):Z8 P is (List.range is.length) ρ os K:=by
 rw[A7K,C13 is K is 0 ρ os (λi=>by simp)]
 exact h
theorem B9V{g:Option (Nat×Bool)}{y y' n n':Prop}(h1:y->y')(h2:n->n')(h:gI ρ g y n):gI ρ g y' n':=by
 unfold gI at *
 split
 ·exact h1 h
 ·rename_i t want
  dsimp only at h
  split at h
  ·exact⟨λe=>h1 (h.1 e),λe=>h2 (h.2 e)⟩
  ·exact h2 h
  ·exact h.elim
theorem A1E{x:Option B6}{d:Nat}{K:Int->Prop}(h:S2 ρ x d K):∃m,K m/\∀K':Int->Prop,K' m->S2 ρ x d K':=by
 unfold S2 at h
 split at h
 ·exact⟨_,h,λK' hk=>hk⟩
 ·split at h
  ·rename_i k m hm
   exact⟨m,h,λK' hk=>by unfold S2;simp only[hm];exact hk⟩
  ·exact h.elim
theorem A4G:∀{ps:List (Nat×Nat×B6)}{cs:List AV}{K:List AV->Prop},O9 ρ ps cs K->∃r,K r/\∀K':List AV->Prop,K' r->O9 ρ ps cs K'
 |[],cs,K,h=>⟨cs,h,λ_ h=>h⟩
 |(off,n,x)::ps,cs,K,h=>by
  simp only[O9] at h ⊢
  split at h
  ·obtain⟨h1,h2,h3⟩:=h
   obtain⟨r,hr,hk⟩:=A4G h3
   exact⟨r,hr,λK' hk'=>⟨h1,h2,hk K' hk'⟩⟩
  ·exact h.elim
theorem A6y(mx:Bool)(k:IntKind):∀{xs:List AV}{m:Int}{K:AV->Prop},m9 mx k m xs K->∃r,K r/\∀K':AV->Prop,K' r->m9 mx k m xs K'
 |[],m,K,h=>⟨_,h,λ_ h=>h⟩
 |x::xs,m,K,h=>by
  unfold m9 at h
  split at h
  ·rename_i hc;cases hc
  ·rename_i k' b rest hc
   injection hc with hc1 hc2
   subst hc1;subst hc2
   cases mx with
   |true=>
    simp only[if_true] at h
    rcases Int.lt_or_le m b with hlt|hle
    ·obtain⟨r,hr,hk⟩:=A6y true k (h.2 hlt)
     exact⟨r,hr,λK' hk'=>by unfold m9;simp only[if_true];exact⟨λh=>by omega,λ_=>hk K' hk'⟩⟩
    ·obtain⟨r,hr,hk⟩:=A6y true k (h.1 hle)
     exact⟨r,hr,λK' hk'=>by unfold m9;simp only[if_true];exact⟨λ_=>hk K' hk',λh=>by omega⟩⟩
   |false=>
    simp only[L8,if_false] at h
    rcases Int.lt_or_le b m with hlt|hle
    ·obtain⟨r,hr,hk⟩:=A6y false k (h.2 hlt)
     exact⟨r,hr,λK' hk'=>by unfold m9;simp only[L8,if_false];exact⟨λh=>by omega,λ_=>hk K' hk'⟩⟩
    ·obtain⟨r,hr,hk⟩:=A6y false k (h.1 hle)
     exact⟨r,hr,λK' hk'=>by unfold m9;simp only[L8,if_false];exact⟨λ_=>hk K' hk',λh=>by omega⟩⟩
  ·exact h.elim
theorem D7H{op:UnOp}{x:D}{K:D->Prop}(h:unD op x K):∃r,K r/\∀K':D->Prop,K' r->unD op x K':=by
 unfold unD at h
 split at h<;>first|exact⟨_,h,λ_ h=>h⟩|exact h.elim
theorem D2y{op:BinOp}{k:IntKind}{x y:Int}{K:D->Prop}(h:A2f op k x y K):∃r,K r/\∀K':D->Prop,K' r->A2f op k x y K':=by
 cases op<;>simp only[A2f] at h ⊢<;>first|exact⟨_,h,λ_ h=>h⟩|exact⟨_,h.2,λ_ h'=>⟨h.1,h'⟩⟩|exact h.elim
theorem D2A{op:BinOp}{x y:List UInt8}{K:D->Prop}(h:A2P op x y K):∃r,K r/\∀K':D->Prop,K' r->A2P op x y K':=by
 cases op<;>simp only[A2P] at h ⊢<;>first|exact⟨_,h,λ_ h=>h⟩|exact⟨_,h.2,λ_ h'=>⟨h.1,h'⟩⟩|exact h.elim
theorem D2x{op:BinOp}{x y:AV}{K:D->Prop}(h:A3A op x y K):∃r,K r/\∀K':D->Prop,K' r->A3A op x y K':=by
 unfold A3A at h
 split at h
 ·rename_i k m k' q
  split at h
  ·exact⟨_,h.2,λ_ h'=>⟨h.1,h'⟩⟩
  ·exact⟨_,h.2,λ_ h'=>⟨h.1,h'⟩⟩
  ·rename_i T5 hs2
   obtain⟨h1,h2⟩:=h
   obtain⟨r,hr,hk⟩:=D2y h2
   refine⟨r,hr,λK' hk'=>?_⟩
   unfold A3A
   have:=hk K' hk'
   cases op<;>first|exact⟨h1,this⟩|exact absurd rfl T5|exact absurd rfl hs2
 ·exact D2A h
 ·exact h.elim
theorem B2b{d:Nat}{x:AV}{K:AV->Prop}(h:b9 os d x K):∃r,K r/\∀K':AV->Prop,K' r->b9 os d x K':=by
 unfold b9 at h
 split at h
 ·exact⟨_,h,λ_ h=>h⟩
 ·split at h
  ·rename_i hid
   exact⟨_,h.2,λ_ h'=>by unfold b9;simp only[hid];exact⟨h.1,h'⟩⟩
  ·exact h.elim
 ·exact⟨_,h,λ_ h=>h⟩
 ·exact h.elim
theorem A8I{g:Bool}{m:Nat}{x:AV}{K:AV->Prop}(h:V1 os g m x K):∃r,K r/\∀K':AV->Prop,K' r->V1 os g m x K':=by
 unfold V1 at h
 split at h
 ·split at h
  ·rename_i hid
   cases g with
   |true=>simp only[if_true] at h;exact⟨_,h.2,λ_ h'=>by unfold V1;simp only[hid,if_true];exact⟨h.1,h'⟩⟩
   |false=>simp only[L8,if_false] at h;exact⟨_,h.2,λ_ h'=>by unfold V1;simp only[hid,L8,if_false];exact⟨h.1,h'⟩⟩
  ·exact h.elim
 ·split at h
  ·rename_i hid
   obtain⟨h1,h2,h3,h⟩:=h
   cases g with
   |true=>simp only[if_true] at h;exact⟨_,h.2,λ_ h'=>by unfold V1;simp only[hid,if_true];exact⟨h1,h2,h3,h.1,h'⟩⟩
   |false=>simp only[L8,if_false] at h;exact⟨_,h.2,λ_ h'=>by unfold V1;simp only[hid,L8,if_false];exact⟨h1,h2,h3,h.1,h'⟩⟩
  ·exact h.elim
 ·split at h
  ·rename_i hid
   obtain⟨h1,h2,h3,h⟩:=h
   cases g with
   |true=>simp only[if_true] at h;exact⟨_,h.2,λ_ h'=>by unfold V1;simp only[hid,if_true];exact⟨h1,h2,h3,h.1,h'⟩⟩
   |false=>simp only[L8,if_false] at h;exact⟨_,h.2,λ_ h'=>by unfold V1;simp only[hid,L8,if_false];exact⟨h1,h2,h3,h.1,h'⟩⟩
  ·exact h.elim
 ·obtain⟨h1,h⟩:=h
  cases g with
  |true=>simp only[if_true] at h;exact⟨_,h.2,λ_ h'=>by unfold V1;simp only[if_true];exact⟨h1,h.1,h'⟩⟩
  |false=>simp only[L8,if_false] at h;exact⟨_,h.2,λ_ h'=>by unfold V1;simp only[L8,if_false];exact⟨h1,h.1,h'⟩⟩
 ·exact h.elim
theorem D7r{m:Nat}{x v:AV}{K:List AO->Prop}(h:A1p os m x v K):∃r,K r/\∀K':List AO->Prop,K' r->A1p os m x v K':=by
 unfold A1p at h
 split at h
 ·exact h.elim
 rename_i vc hvc
 split at h
 ·split at h
  ·rename_i hid
   exact⟨_,h.2.2,λ_ h'=>by unfold A1p;simp only[hvc,hid];exact⟨h.1,h.2.1,h'⟩⟩
  ·exact h.elim
 ·split at h
  ·rename_i hf
   split at h
   ·rename_i hid
    obtain⟨h1,h2,h3,h4,h5,h6,h7⟩:=h
    exact⟨_,h7,λ_ h'=>by unfold A1p;simp only[hvc,hf,hid];exact⟨h1,h2,h3,h4,h5,h6,h'⟩⟩
   ·exact h.elim
  ·exact h.elim
 ·exact h.elim
theorem D5B{x:AV}{K:List (List D)->Prop}(h:j9 os x K):∃r,K r/\∀K':List (List D)->Prop,K' r->j9 os x K':=by
 unfold j9 at h
 split at h
 ·exact⟨_,h,λ_ h=>h⟩
 ·exact⟨_,h,λ_ h=>h⟩
 ·split at h
  ·rename_i hid
   exact⟨_,h.2,λ_ h'=>by unfold j9;simp only[hid];exact⟨h.1,h'⟩⟩
  ·exact h.elim
 ·exact h.elim
theorem D2k{sz by_:Nat}{s:AV}{ns:List (List D)}{K:AV->List AO->Prop}(h:A0u os sz by_ s ns K):∃r os',K r os'/\∀K':AV->List AO->Prop,K' r os'->A0u os sz by_ s ns K':=by
 unfold A0u at h
 split at h
 ·exact⟨_,_,h.2.2.2,λ_ h'=>⟨h.1,h.2.1,h.2.2.1,h'⟩⟩
 ·split at h
  ·rename_i hid
   obtain⟨h1,h2,h3,h4,h5,h6⟩:=h
   exact⟨_,_,h6,λ_ h'=>by unfold A0u;simp only[hid];exact⟨h1,h2,h3,h4,h5,h'⟩⟩
  ·exact h.elim
 ·exact h.elim
theorem D2l{sz by_:Nat}{s:AV}{ns:List (List AV)}{K:AV->List AO->Prop}(h:A14 os sz by_ s ns K):∃r os',K r os'/\∀K':AV->List AO->Prop,K' r os'->A14 os sz by_ s ns K':=by
 unfold A14 at h
 split at h
 ·split at h
  ·rename_i hid
   obtain⟨h1,h2,h3,h4,h5,h6⟩:=h
   exact⟨_,_,h6,λ_ h'=>by unfold A14;simp only[hid];exact⟨h1,h2,h3,h4,h5,h'⟩⟩
  ·exact h.elim
 ·exact h.elim
theorem D7i{sz:Nat}{x:AV}{lo hi:Option B6}{K:AV->List AO->Prop}(h:slI ρ os sz x lo hi K):∃r os',K r os'/\∀K':AV->List AO->Prop,K' r os'->slI ρ os sz x lo hi K':=by
 unfold slI at h
 split at h
 ·rename_i hf
  obtain⟨m,h,k1⟩:=A1E h
  obtain⟨l,h,k2⟩:=A1E h
  obtain⟨h1,h2,h3,h4,h5⟩:=h
  exact⟨_,_,h5,λK' h'=>by unfold slI;simp only[hf];exact k1 _ (k2 _ ⟨h1,h2,h3,h4,h'⟩)⟩
 ·rename_i hf
  obtain⟨m,h,k1⟩:=A1E h
  obtain⟨l,h,k2⟩:=A1E h
  obtain⟨h1,h2,h3⟩:=h
  exact⟨_,_,h3,λK' h'=>by unfold slI;simp only[hf];exact k1 _ (k2 _ ⟨h1,h2,h'⟩)⟩
 ·exact h.elim
theorem A6K{op:IK}(hd:op.det=true){K:AV->List AO->Prop}(h:A8 P ρ os K op):∃r os',K r os'/\∀K':AV->List AO->Prop,K' r os'->A8 P ρ os K' op:=by
 have one:∀{r:AV} {os':List AO},K r os'->(∀K':AV->List AO->Prop,K' r os'->A8 P ρ os K' op)->∃r os',K r os'/\∀K':AV->List AO->Prop,K' r os'->A8 P ρ os K' op:=λh1 h2=>⟨_,_,h1,h2⟩
 cases op with
 |call f args=>cases hd
 |mv x=>exact one h λ_ h=>h
 |pick c x y=>
  simp only[A8] at h ⊢
  split at h
  ·rename_i t hc
   cases t with
   |true=>exact⟨_,_,h.1 rfl,λK' h'=>⟨λ_=>h',λe=>by cases e⟩⟩
   |false=>exact⟨_,_,h.2 rfl,λK' h'=>⟨λe=>(by cases e),λ_=>h'⟩⟩
  ·exact h.elim
 |un u x=>
  simp only[A8] at h ⊢
  split at h
  ·obtain⟨r,hr,hk⟩:=D7H h;exact⟨_,_,hr,λK' h'=>hk (λr=>K' (.d r) os) h'⟩
  ·exact h.elim
 |bin u x y=>
  simp only[A8] at h ⊢
  obtain⟨r,hr,hk⟩:=D2x h
  exact⟨_,_,hr,λK' h'=>hk (λr=>K' (.d r) os) h'⟩
 |eqb neg x y=>simp only[A8] at h ⊢;split at h<;>first|exact⟨_,_,h,λ_ h=>h⟩|exact h.elim
 |eqs neg ks x y=>
  simp only[A8] at h ⊢
  split at h
  ·split at h
   ·exact⟨_,_,h,λ_ h=>h⟩
   ·exact h.elim
  ·exact h.elim
 |eqnil neg x=>
  simp only[A8] at h ⊢
  split at h
  ·exact⟨_,_,h,λ_ h=>h⟩
  ·exact⟨_,_,h,λ_ h=>h⟩
  ·split at h
   ·exact⟨_,_,h.2,λ_ h'=>⟨h.1,h'⟩⟩
   ·exact h.elim
  ·exact h.elim
 |conv k x=>simp only[A8] at h ⊢;split at h<;>first|exact⟨_,_,h,λ_ h=>h⟩|exact h.elim
 |cvs x=>simp only[A8] at h ⊢;split at h<;>first|exact⟨_,_,h,λ_ h=>h⟩|exact h.elim
 |faddr off x=>
  obtain⟨r,hr,hk⟩:=B2b (show b9 os off (B8 ρ x) λr=>K r os from h)
  exact⟨_,_,hr,λK' h'=>hk (λr=>K' r os) h'⟩
 |nilck x=>
  obtain⟨r,hr,hk⟩:=B2b (show b9 os 0 (B8 ρ x) λr=>K r os from h)
  exact⟨_,_,hr,λK' h'=>hk (λr=>K' r os) h'⟩
 |field off m g x=>
  simp only[A8] at h ⊢
  split at h
  ·cases g with
   |true=>simp only[if_true] at h ⊢;exact⟨_,_,h.2,λ_ h'=>⟨h.1,h'⟩⟩
   |false=>simp only[L8,if_false] at h ⊢;exact⟨_,_,h.2,λ_ h'=>⟨h.1,h'⟩⟩
  ·exact h.elim
 |ixarr l sz x i=>
  simp only[A8] at h ⊢
  split at h
  ·obtain⟨h1,h2,h3⟩:=h
   obtain⟨r,hr,hk⟩:=B2b h3
   exact⟨_,_,hr,λK' h'=>⟨h1,h2,hk (λr=>K' r os) h'⟩⟩
  ·exact h.elim
 |ixsl sz x i=>
  simp only[A8] at h ⊢
  split at h
  ·split at h
   ·obtain⟨h1,h2,h3,h4⟩:=h
    exact⟨_,_,h4,λK' h'=>⟨h1,h2,h3,h'⟩⟩
   ·split at h
    ·obtain⟨h1,h2,h3,h4,h5,h6⟩:=h
     exact⟨_,_,h6,λK' h'=>⟨h1,h2,h3,h4,h5,h'⟩⟩
    ·exact h.elim
   ·split at h
    ·obtain⟨h1,h2,h3,h4,h5,h6⟩:=h
     exact⟨_,_,h6,λK' h'=>⟨h1,h2,h3,h4,h5,h'⟩⟩
    ·exact h.elim
   ·exact h.elim
  ·exact h.elim
 |ixstr x i=>
  simp only[A8] at h ⊢
  split at h
  ·exact⟨_,_,h.2.2,λK' h'=>⟨h.1,h.2.1,h'⟩⟩
  ·exact h.elim
 |ixval l sz g x i=>
  simp only[A8] at h ⊢
  split at h
  ·obtain⟨h1,h2,h⟩:=h
   cases g with
   |true=>simp only[if_true] at h ⊢;exact⟨_,_,h.2,λ_ h'=>⟨h1,h2,h.1,h'⟩⟩
   |false=>simp only[L8,if_false] at h ⊢;exact⟨_,_,h.2.2,λ_ h'=>⟨h1,h2,h.1,h.2.1,h'⟩⟩
  ·exact h.elim
 |slstr x lo hi=>
  simp only[A8] at h ⊢
  split at h
  ·obtain⟨m,h,k1⟩:=A1E h
   obtain⟨l,h,k2⟩:=A1E h
   obtain⟨h1,h2,h3,h4⟩:=h
   exact⟨_,_,h4,λK' h'=>k1 _ (k2 _ ⟨h1,h2,h3,h'⟩)⟩
  ·exact h.elim
 |slsl sz x lo hi=>exact D7i h
 |stop=>exact h.elim
 |mkb f x=>
  simp only[A8] at h ⊢
  split at h
  ·rename_i cs e
   split at h
   ·rename_i vs e2
    exact⟨_,_,h,λK' h'=>h'⟩
   ·exact h.elim
  ·exact h.elim
 |slsld sz x lo hi=>
  simp only[A8] at h ⊢
  unfold A2w at h
  split at h
  ·rename_i es e
   obtain⟨m,h,k1⟩:=A1E h
   obtain⟨l,h,k2⟩:=A1E h
   obtain⟨h1,h2,h3,h4,h5⟩:=h
   exact⟨_,_,h5,λK' h'=>by unfold A2w;rw[e];exact k1 _ (k2 _ ⟨h1,h2,h3,h4,h'⟩)⟩
  ·rename_i e
   obtain⟨m,h,k1⟩:=A1E h
   obtain⟨l,h,k2⟩:=A1E h
   obtain⟨h1,h2,h3⟩:=h
   exact⟨_,_,h3,λK' h'=>by unfold A2w;rw[e];exact k1 _ (k2 _ ⟨h1,h2,h'⟩)⟩
  ·exact h.elim
 |build zs ps=>
  simp only[A8] at h ⊢
  obtain⟨r,hr,hk⟩:=A4G h
  exact⟨_,_,hr,λK' h'=>hk _ h'⟩
 |bsl m sz zs ps=>
  simp only[A8] at h ⊢
  obtain⟨r,hr,hk⟩:=A4G h
  split at hr
  ·rename_i xs os1 hf
   rcases hr with hr|⟨he,hr⟩
   ·exact⟨_,_,hr,λK' h'=>hk _ (by simp only[hf];exact .inl h')⟩
   ·exact⟨_,_,hr,λK' h'=>hk _ (by simp only[hf];exact .inr ⟨he,h'⟩)⟩
  ·exact hr.elim
 |bsld m sz zs ps=>
  simp only[A8] at h ⊢
  obtain⟨r,hr,hk⟩:=A4G h
  split at hr
  ·rename_i xs os1 hf
   exact⟨_,_,hr.2,λK' h'=>hk _ (by simp only[hf];exact⟨hr.1,h'⟩)⟩
  ·exact hr.elim
 |clo f caps=>
  simp only[A8] at h ⊢
  split at h
  ·exact⟨_,_,h,λ_ h=>h⟩
  ·split at h
   ·exact⟨_,_,h,λ_ h=>h⟩
   ·exact h.elim
 |ext i x=>
  simp only[A8] at h ⊢
  split at h
  ·exact⟨_,_,h.2,λ_ h'=>⟨h.1,h'⟩⟩
  ·exact h.elim
 |len x=>
  simp only[A8] at h ⊢
  split at h
  ·exact⟨_,_,h,λ_ h=>h⟩
  ·exact⟨_,_,h,λ_ h=>h⟩
  ·split at h
   ·exact⟨_,_,h.2,λ_ h'=>⟨h.1,h'⟩⟩
   ·exact h.elim
  ·split at h
   ·exact⟨_,_,h.2,λ_ h'=>⟨h.1,h'⟩⟩
   ·exact h.elim
  ·exact h.elim
 |lens x=>simp only[A8] at h ⊢;split at h<;>first|exact⟨_,_,h,λ_ h=>h⟩|exact h.elim
 |lenk m=>exact one h λ_ h=>h
 |minmax mx x xs=>
  simp only[A8] at h ⊢
  split at h
  ·obtain⟨r,hr,hk⟩:=A6y mx _ h
   exact⟨_,_,hr,λK' h'=>hk (λr=>K' r os) h'⟩
  ·exact h.elim
 |load g m x=>
  obtain⟨r,hr,hk⟩:=A8I (show V1 os g m (B8 ρ x) λr=>K r os from h)
  exact⟨_,_,hr,λK' h'=>hk (λr=>K' r os) h'⟩
 |store m x v=>
  obtain⟨r,hr,hk⟩:=D7r (show A1p os m (B8 ρ x) (B8 ρ v) λos'=>K .junk os' from h)
  exact⟨_,_,hr,λK' h'=>hk (λos'=>K' .junk os') h'⟩
 |alloc zs=>exact one h λ_ h=>h
 |box m x=>
  simp only[A8] at h ⊢
  split at h
  ·exact⟨_,_,h.2,λ_ h'=>⟨h.1,h'⟩⟩
  ·exact h.elim
 |mksl sz by_ zs l c=>
  simp only[A8] at h ⊢
  split at h
  ·obtain⟨h1,h2,h3,h4,h5⟩:=h
   exact⟨_,_,h5,λ_ h'=>⟨h1,h2,h3,h4,h'⟩⟩
  ·exact h.elim
 |app sz by_ s x=>
  simp only[A8] at h ⊢
  split at h
  ·split at h
   ·obtain⟨h1,h2,h⟩:=h
    obtain⟨r,os',hr,k2⟩:=D2l h
    exact⟨r,os',hr,λK' h'=>⟨h1,h2,k2 K' h'⟩⟩
   ·exact h.elim
  ·obtain⟨ns,h,k1⟩:=D5B h
   obtain⟨r,os',hr,k2⟩:=D2k h
   exact⟨r,os',hr,λK' h'=>k1 (λns=>A0u os sz by_ (B8 ρ s) ns K') (k2 K' h')⟩
 |calld f args=>
  simp only[A8] at h ⊢
  split at h
  ·rcases h with h|h
   ·split at h
    ·rename_i e
     obtain⟨h1,r,h2,h3⟩:=h
     exact⟨r,_,h3,λK' h'=>.inl ⟨h1,r,h2,h'⟩⟩
    ·exact h.elim
   ·split at h
    ·rename_i e
     obtain⟨h1,r,h2,h3⟩:=h
     exact⟨r,_,h3,λK' h'=>.inr ⟨h1,r,h2,h'⟩⟩
    ·exact h.elim
  ·exact h.elim
 |rstr x=>simp only[A8] at h ⊢;split at h<;>first|exact⟨_,_,h,λ_ h=>h⟩|exact h.elim
 |nstr x=>
  simp only[A8] at h ⊢
  split at h
  ·split at h
   ·rename_i s p hid
    by_cases hp:p<s.length
    ·exact⟨_,_,h.1 hp,λK' h'=>⟨λ_=>h',λhn=>by omega⟩⟩
    ·exact⟨_,_,h.2 (by omega),λK' h'=>⟨λhn=>absurd hn hp,λ_=>h'⟩⟩
   ·exact h.elim
  ·exact h.elim
 |nmap x=>cases hd
 |callp f args=>
  simp only[A8] at h ⊢
  split at h
  ·split at h
   ·obtain⟨h1,r,h2,h3⟩:=h
    exact⟨r,_,h3,λK' h'=>⟨h1,r,h2,h'⟩⟩
   ·exact h.elim
  ·exact h.elim
 |calln id f args=>
  simp only[A8] at h ⊢
  split at h
  ·split at h
   ·obtain⟨h1,h0,es,sz,nl,h2,h3⟩:=h
    exact⟨_,_,h3,λK' h'=>⟨h1,h0,es,sz,nl,h2,h'⟩⟩
   ·exact h.elim
  ·exact h.elim
 |bslr id m sz zs ps=>
  simp only[A8] at h ⊢
  obtain⟨r,hr,hk⟩:=A4G h
  split at hr
  ·rename_i hid
   exact⟨_,_,hr,λK' h'=>hk _ h'⟩
  ·exact hr.elim
 |alloca id zs=>
  simp only[A8] at h ⊢
  split at h
  ·exact⟨_,_,h,λ_ h=>h⟩
  ·exact h.elim
 |boxa id m x=>
  simp only[A8] at h ⊢
  split at h
  ·exact⟨_,_,h.2,λ_ h'=>⟨h.1,h'⟩⟩
  ·exact h.elim
 |mkmap=>exact one h λ_ h=>h
 |lkup sk ok g zs m k=>
  simp only[A8] at h ⊢
  split at h
  ·split at h
   ·obtain⟨h0,h|⟨e,sz,frz,ho,h⟩⟩:=h
    ·exact⟨_,_,h,λ_ h'=>⟨h0,.inl h'⟩⟩
    ·exact⟨_,_,h,λ_ h'=>⟨h0,.inr ⟨e,sz,frz,ho,h'⟩⟩⟩
   ·exact h.elim
  ·exact h.elim
 |mupd sk m k v=>
  simp only[A8] at h ⊢
  split at h
  ·split at h
   ·exact⟨_,_,h.2.2,λ_ h'=>⟨h.1,h.2.1,h'⟩⟩
   ·exact h.elim
  ·exact h.elim
 |rmap x=>
  simp only[A8] at h ⊢
  split at h
  ·split at h
   ·exact⟨_,_,h,λ_ h=>h⟩
   ·exact h.elim
  ·exact h.elim
 |entry x=>
  simp only[A8] at h ⊢
  split at h
  ·split at h
   ·split at h
    ·obtain⟨h1,h⟩:=h
     split at h
     ·split at h
      ·exact⟨_,_,h,λ_ h=>⟨h1,h⟩⟩
      ·exact h.elim
     ·exact h.elim
    ·exact h.elim
   ·exact h.elim
  ·exact h.elim
end
end Go.Bi
