/- Soundness of every operation; of the operations of a region in the order of the text and in any other; of the code. No condition. -/
import Derived.Test.YtfnaleemmeejcaaGreatBK2
set_option linter.unusedVariables false
namespace Go.Bi
set_option linter.unusedSectionVars false
variable [M6]
section
variable {P:Program}{M:D6}{G:Gh}{os:List AO}{w:World}{ρ:D7}{a:Act}{K:AV->List AO->Prop}
theorem U1{α β:Type}{f:α->β}{x:Option α}{y:β}(h:x.map f=some y):∃z,x=some z/\f z=y:=J3.1 h
theorem D7f(he:C8 M G os w)(ht:J0 M G os ρ a){o:Oper}{op:BinOp}{t t':TypeId}{x y:Operand}{k:IK}(ho:o.op=.binOp op t x y t')(hk:A6F P op t x y=some k)(h:A7 P ρ os K k):G3 P M G os w K (execOp a.eval o):=by
 unfold A6F at hk
 split at hk
 ·rename_i x' y' hx hy
  have heqs:∀{k},O8 P t=some true->A6J P op t x' y'=some k->A7 P ρ os K k->G3 P M G os w K (execOp a.eval o):=by
   intro k ha hk h
   unfold A6J at hk
   split at hk
   ·rename_i ks hf
    split at hk
    ·rename_i hg
     obtain⟨n,hn,rfl⟩:=U1 hk
     exact E0x he ht ho hx hy hn hf ha hg h
    ·cases hk
   ·cases hk
  split at hk
  ·cases hk;exact C44 he ht ho hx hy h
  ·cases hk;exact C44 he ht ho hx hy h
  ·rename_i hu
   obtain⟨n,hn,rfl⟩:=U1 hk
   exact E0v he ht ho hx hy hn hu h
  ·rename_i hu;exact heqs (by simp[O8,hu]) hk h
  ·rename_i hu;exact heqs (by simp[O8,hu]) hk h
  ·rename_i hu
   split at hk
   ·obtain⟨n,hn,rfl⟩:=U1 hk
    exact E0w he ht ho hx hy hn hu h
   ·cases hk
  ·cases hk
 ·cases hk
theorem A5j{α:Type}{xs:Array α}{x:α}(h:xs.toList=[x]):xs=#[x]:=by apply A2P;simpa using h
theorem C1n{α:Type}{xs:Array α}{x y:α}(h:xs.toList=[x,y]):xs=#[x,y]:=by apply A2P;simpa using h
theorem D7k(he:C8 M G os w)(ht:J0 M G os ρ a){o:Oper}{c:Call}{b:Builtin}{k:IK}(ho:o.op=.call c)(hb:c.callee=.builtin b)(hk:A6H P b c.args.toList c.argTypes.toList=some k)(h:A7 P ρ os K k):G3 P M G os w K (execOp a.eval o):=by
 unfold A6H at hk
 split at hk
 ·rename_i x t hargs hts
  split at hk
  ·rename_i hu
   obtain⟨x',hx,rfl⟩:=U1 hk
   exact E0H he ht ho hb (A5j hargs) (A5j hts) hx hu h
  ·rename_i hu
   obtain⟨x',hx,rfl⟩:=U1 hk
   exact E0F he ht ho hb (A5j hargs) (A5j hts) hx hu h
  ·rename_i hu
   cases hk
   exact E0G he ho hb (A5j hargs) (A5j hts) hu h
  ·cases hk
 ·rename_i s x t t' hargs hts
  split at hk
  ·rename_i e hu
   split at hk
   ·rename_i htt
    subst htt
    split at hk
    ·rename_i s' x' sz by_ zs h1 h2 h3 h4 h5
     split at hk
     ·rename_i hc
      cases hk
      exact E0i he ht ho hb (C1n hargs) (C1n hts) h1 h2 hu h3 h4 h5 hc.1 hc.2 h
     ·cases hk
    ·cases hk
   ·cases hk
  ·cases hk
 ·rename_i x xs hargs
  split at hk
  ·rename_i x' xs' h1 h2
   cases hk
   exact C48 (mx:=false) he ht ho (by simpa using hb) hargs h1 h2 h
  ·cases hk
 ·rename_i x xs hargs
  split at hk
  ·rename_i x' xs' h1 h2
   cases hk
   exact C48 (mx:=true) he ht ho (by simpa using hb) hargs h1 h2 h
  ·cases hk
 ·cases hk
theorem E0Y(he:C8 M G os w)(ht:J0 M G os ρ a){o:Oper}{draw:Bool}{k:IK}(hk:A0o P draw o.op=some k)(h:A7 P ρ os K k):G3 P M G os w K (execOp a.eval o):=by
 generalize ho:o.op=op at hk
 unfold A0o at hk
 split at hk
 ·obtain⟨x',hx,rfl⟩:=U1 hk
  exact C49 he ht (.inl ho) hx h
 ·obtain⟨x',hx,rfl⟩:=U1 hk
  exact C49 he ht (.inr ho) hx h
 ·split at hk
  ·rename_i h1 h2 h3;cases hk;exact E0R he ht ho h1 h2 h3 h
  ·cases hk
 ·obtain⟨zs,hz,rfl⟩:=U1 hk
  exact E0g he ho hz h
 ·split at hk
  ·rename_i h1 h2;cases hk;exact E0k he ht ho h2 h
  ·cases hk
 ·split at hk
  ·rename_i h1 h2
   obtain⟨ps,hps,rfl⟩:=U1 hk
   exact E0o he ht ho h1 h2 hps h
  ·cases hk
 ·split at hk
  ·rename_i e hu
   split at hk
   ·rename_i sz zs h1 h2
    split at hk
    ·rename_i hc
     obtain⟨ps,hps,rfl⟩:=U1 hk
     cases draw with
     |true=>exact C45 he ht ho hu h1 h2 hc.1 hc.2.1 hc.2.2 hps h
     |false=>
      rcases D7j h with h|h
      ·exact E0m he ht ho hu h1 h2 hc.1 hc.2.1 hc.2.2 hps h
      ·exact C45 he ht ho hu h1 h2 hc.1 hc.2.1 hc.2.2 hps h
    ·cases hk
   ·cases hk
  ·cases hk
 ·split at hk
  ·rename_i h1 h2 h3;cases hk;exact E0J he ht h1 h2 ho h3 h
  ·cases hk
 ·split at hk
  ·rename_i h1 h2 h3;cases hk;exact E0W he ht h1 ho h2 h3 h
  ·cases hk
 ·exact D7f he ht ho hk h
 ·obtain⟨x',hx,rfl⟩:=U1 hk
  exact E0X he ht ho hx h
 ·split at hk
  ·rename_i h1 h2
   obtain⟨x',hx,rfl⟩:=U1 hk
   exact E0s he ht ho hx h1 h2 h
  ·rename_i h1 h2
   obtain⟨x',hx,rfl⟩:=U1 hk
   exact E0t he ht ho hx h1 h2 h
  ·cases hk
 ·split at hk
  ·rename_i hu
   split at hk
   ·rename_i h1 h2 h3;cases hk;exact E0V he ht ho h1 h2 h3 hu h
   ·cases hk
  ·rename_i hu
   split at hk
   ·rename_i h1 h2 h3 h4;cases hk
    refine E0U he ht ho h1 h2 h3 hu h4 ?_
    cases draw with
    |false=>exact h
    |true=>exact E1U h
   ·cases hk
  ·cases hk
 ·split at hk
  ·rename_i hu
   split at hk
   ·rename_i h1 h2
    split at hk
    ·rename_i h3;cases hk;exact E0z he ht ho h2 hu h1 h3 h
    ·cases hk
   ·cases hk
  ·cases hk
 ·split at hk
  ·rename_i hu
   split at hk
   ·rename_i h1 h2
    split at hk
    ·rename_i h3 h4;cases hk;exact E0A he ht ho h2 hu h1 h3 h4 h
    ·cases hk
   ·cases hk
  ·cases hk
 ·split at hk
  ·rename_i hu
   split at hk
   ·rename_i h1 h2 h3;cases hk;exact E0B he ht ho h2 h3 hu h1 h
   ·cases hk
  ·rename_i hu
   split at hk
   ·rename_i h1 h2 h3;cases hk;exact E0C he ht ho h2 h3 hu h1 h
   ·cases hk
  ·cases hk
 ·split at hk
  ·rename_i hu
   split at hk
   ·rename_i h1 h2 h3 h4;cases hk;exact E0E he ht ho h3 h4 hu h1 h2 h
   ·cases hk
  ·rename_i hu
   split at hk
   ·rename_i h1 h2;cases hk;exact E0D he ht ho h1 h2 hu h
   ·cases hk
  ·cases hk
 ·split at hk
  ·rename_i hf
   obtain⟨cs,hc,rfl⟩:=U1 hk
   exact E0r he ht ho hf hc h
  ·split at hk
   ·rename_i x hf hc
    obtain⟨x',hx,rfl⟩:=U1 hk
    exact E0K he ht ho hf hc hx h
   ·cases hk
 ·obtain⟨x',hx,rfl⟩:=U1 hk
  exact E0y he ht ho hx h
 ·obtain⟨x',hx,rfl⟩:=U1 hk
  exact E0O he ht ho hx h
 ·split at hk
  ·rename_i hu
   split at hk
   ·rename_i h1 h2 h3 h4 h5
    split at hk
    ·rename_i hc;cases hk;exact E0M he ht ho h4 h5 hu h1 h2 h3 hc.1 hc.2 h
    ·cases hk
   ·cases hk
  ·cases hk
 ·split at hk
  ·rename_i hcal
   split at hk
   ·rename_i h1 h2
    cases hk
    cases draw with
    |true=>exact C47 he ht ho hcal h1 h2 h
    |false=>exact C46 he ht ho hcal h1 h2 h
   ·cases hk
  ·rename_i hcal
   exact D7k he ht ho hcal hk h
  ·cases hk
 ·split at hk
  ·rename_i hu
   obtain⟨x',hx,rfl⟩:=U1 hk
   exact E0T he ht ho hx hu h
  ·rename_i hu
   obtain⟨x',hx,rfl⟩:=U1 hk
   exact E0S he ht ho hx hu h
  ·cases hk
 ·obtain⟨x',hx,rfl⟩:=U1 hk
  exact E0P he ht ho hx h
 ·obtain⟨x',hx,rfl⟩:=U1 hk
  exact E0u he ht ho hx h
 ·cases hk
  exact E0L he ho h
 ·split at hk
  ·rename_i hu
   split at hk
   ·rename_i h1 h2 h3 h4;cases hk;exact E0I he ht ho hu h1 h2 h3 h4 h
   ·cases hk
  ·cases hk
 ·split at hk
  ·rename_i hu
   split at hk
   ·rename_i h1 h2 h3 h4;cases hk;exact E0N he ht ho hu h1 h2 h3 h4 h
   ·cases hk
  ·cases hk
 ·obtain⟨x',hx,rfl⟩:=U1 hk
  exact E0Q he ht ho hx h
 ·cases hk
theorem B34(he:C8 M G os w)(ht:J0 M G os ρ a){o:Oper}{draw:Bool}{k:IK}(hk:cIK P draw o.op=some k)(h:A7 P ρ os K k):G3 P M G os w K (execOp a.eval o):=by
 by_cases hs:k=.stop
 ·subst hs;exact h.elim
 ·exact E0Y he ht (A3O hk hs) h
end
end Go.Bi
