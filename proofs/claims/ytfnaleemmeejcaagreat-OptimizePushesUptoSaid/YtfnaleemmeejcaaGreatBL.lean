/- Soundness of every operation; of the operations of a region in the order of the text and in any other; of the code. No condition. -/
import Derived.Test.YtfnaleemmeejcaaGreatBK2
set_option linter.unusedVariables false
namespace Go.Bi
set_option linter.unusedSectionVars false
variable [N0]
section
variable {P:Program}{M:D4}{G:Gh}{os:List AO}{w:World}{ρ:D5}{a:Act}{K:AV->List AO->Prop}
theorem T9{α β:Type}{f:α->β}{x:Option α}{y:β}(h:x.map f=some y):∃z,x=some z/\f z=y:=J7.1 h
theorem D4N(he:C9 M G os w)(ht:J3 M G os ρ a){o:Oper}{op:BinOp}{t t':TypeId}{x y:Operand}{k:IK}(ho:o.op=.binOp op t x y t')(hk:A6o P op t x y=some k)(h:A7 P ρ os K k):G6 P M G os w K (execOp a.eval o):=by
 unfold A6o at hk
 split at hk
 ·rename_i x' y' hx hy
  have heqs:∀{k},P1 P t=some true->A6s P op t x' y'=some k->A7 P ρ os K k->G6 P M G os w K (execOp a.eval o):=by
   intro k ha hk h
   unfold A6s at hk
   split at hk
   ·rename_i ks hf
    split at hk
    ·rename_i hg
     obtain⟨n,hn,rfl⟩:=T9 hk
     exact D80 he ht ho hx hy hn hf ha hg h
    ·cases hk
   ·cases hk
  split at hk
  ·cases hk;exact C2N he ht ho hx hy h
  ·cases hk;exact C2N he ht ho hx hy h
  ·rename_i hu
   obtain⟨n,hn,rfl⟩:=T9 hk
   exact D7Y he ht ho hx hy hn hu h
  ·rename_i hu;exact heqs (by simp[P1,hu]) hk h
  ·rename_i hu;exact heqs (by simp[P1,hu]) hk h
  ·rename_i hu
   split at hk
   ·obtain⟨n,hn,rfl⟩:=T9 hk
    exact D7Z he ht ho hx hy hn hu h
   ·cases hk
  ·cases hk
 ·cases hk
theorem A51{α:Type}{xs:Array α}{x:α}(h:xs.toList=[x]):xs=#[x]:=by apply A2s;simpa using h
theorem C0b{α:Type}{xs:Array α}{x y:α}(h:xs.toList=[x,y]):xs=#[x,y]:=by apply A2s;simpa using h
theorem D4S(he:C9 M G os w)(ht:J3 M G os ρ a){o:Oper}{c:Call}{b:Builtin}{k:IK}(ho:o.op=.call c)(hb:c.callee=.builtin b)(hk:A6q P b c.args.toList c.argTypes.toList=some k)(h:A7 P ρ os K k):G6 P M G os w K (execOp a.eval o):=by
 unfold A6q at hk
 split at hk
 ·rename_i x t hargs hts
  split at hk
  ·rename_i hu
   obtain⟨x',hx,rfl⟩:=T9 hk
   exact D8a he ht ho hb (A51 hargs) (A51 hts) hx hu h
  ·rename_i hu
   obtain⟨x',hx,rfl⟩:=T9 hk
   exact D88 he ht ho hb (A51 hargs) (A51 hts) hx hu h
  ·rename_i hu
   cases hk
   exact D89 he ho hb (A51 hargs) (A51 hts) hu h
  ·cases hk
 ·rename_i s x t t' hargs hts
  split at hk
  ·rename_i e hu
   split at hk
   ·rename_i htt
    subst htt
    split at hk
    ·rename_i s' x' sz by_ zs h1 h2 h3 h4 h5
     split at hk
     ·rename_i hc
      cases hk
      exact D7L he ht ho hb (C0b hargs) (C0b hts) h1 h2 hu h3 h4 h5 hc.1 hc.2 h
     ·cases hk
    ·cases hk
   ·cases hk
  ·cases hk
 ·rename_i x xs hargs
  split at hk
  ·rename_i x' xs' h1 h2
   cases hk
   exact C2R (mx:=false) he ht ho (by simpa using hb) hargs h1 h2 h
  ·cases hk
 ·rename_i x xs hargs
  split at hk
  ·rename_i x' xs' h1 h2
   cases hk
   exact C2R (mx:=true) he ht ho (by simpa using hb) hargs h1 h2 h
  ·cases hk
 ·cases hk
theorem D8r(he:C9 M G os w)(ht:J3 M G os ρ a){o:Oper}{draw:Bool}{k:IK}(hk:A09 P draw o.op=some k)(h:A7 P ρ os K k):G6 P M G os w K (execOp a.eval o):=by
 generalize ho:o.op=op at hk
 unfold A09 at hk
 split at hk
 ·obtain⟨x',hx,rfl⟩:=T9 hk
  exact C2S he ht (.inl ho) hx h
 ·obtain⟨x',hx,rfl⟩:=T9 hk
  exact C2S he ht (.inr ho) hx h
 ·split at hk
  ·rename_i h1 h2 h3;cases hk;exact D8k he ht ho h1 h2 h3 h
  ·cases hk
 ·obtain⟨zs,hz,rfl⟩:=T9 hk
  exact D7J he ho hz h
 ·split at hk
  ·rename_i h1 h2;cases hk;exact D7N he ht ho h2 h
  ·cases hk
 ·split at hk
  ·rename_i h1 h2
   obtain⟨ps,hps,rfl⟩:=T9 hk
   exact D7R he ht ho h1 h2 hps h
  ·cases hk
 ·split at hk
  ·rename_i e hu
   split at hk
   ·rename_i sz zs h1 h2
    split at hk
    ·rename_i hc
     obtain⟨ps,hps,rfl⟩:=T9 hk
     cases draw with
     |true=>exact C2O he ht ho hu h1 h2 hc.1 hc.2.1 hc.2.2 hps h
     |false=>
      rcases D4R h with h|h
      ·exact D7P he ht ho hu h1 h2 hc.1 hc.2.1 hc.2.2 hps h
      ·exact C2O he ht ho hu h1 h2 hc.1 hc.2.1 hc.2.2 hps h
    ·cases hk
   ·cases hk
  ·cases hk
 ·split at hk
  ·rename_i h1 h2 h3;cases hk;exact D8c he ht h1 h2 ho h3 h
  ·cases hk
 ·split at hk
  ·rename_i h1 h2 h3;cases hk;exact D8p he ht h1 ho h2 h3 h
  ·cases hk
 ·exact D4N he ht ho hk h
 ·obtain⟨x',hx,rfl⟩:=T9 hk
  exact D8q he ht ho hx h
 ·split at hk
  ·rename_i h1 h2
   obtain⟨x',hx,rfl⟩:=T9 hk
   exact D7V he ht ho hx h1 h2 h
  ·rename_i h1 h2
   obtain⟨x',hx,rfl⟩:=T9 hk
   exact D7W he ht ho hx h1 h2 h
  ·cases hk
 ·split at hk
  ·rename_i hu
   split at hk
   ·rename_i h1 h2 h3;cases hk;exact D8o he ht ho h1 h2 h3 hu h
   ·cases hk
  ·rename_i hu
   split at hk
   ·rename_i h1 h2 h3 h4;cases hk
    refine D8n he ht ho h1 h2 h3 hu h4 ?_
    cases draw with
    |false=>exact h
    |true=>exact D9s h
   ·cases hk
  ·cases hk
 ·split at hk
  ·rename_i hu
   split at hk
   ·rename_i h1 h2
    split at hk
    ·rename_i h3;cases hk;exact D82 he ht ho h2 hu h1 h3 h
    ·cases hk
   ·cases hk
  ·cases hk
 ·split at hk
  ·rename_i hu
   split at hk
   ·rename_i h1 h2
    split at hk
    ·rename_i h3 h4;cases hk;exact D83 he ht ho h2 hu h1 h3 h4 h
    ·cases hk
   ·cases hk
  ·cases hk
 ·split at hk
  ·rename_i hu
   split at hk
   ·rename_i h1 h2 h3;cases hk;exact D84 he ht ho h2 h3 hu h1 h
   ·cases hk
  ·rename_i hu
   split at hk
   ·rename_i h1 h2 h3;cases hk;exact D85 he ht ho h2 h3 hu h1 h
   ·cases hk
  ·cases hk
 ·split at hk
  ·rename_i hu
   split at hk
   ·rename_i h1 h2 h3 h4;cases hk;exact D87 he ht ho h3 h4 hu h1 h2 h
   ·cases hk
  ·rename_i hu
   split at hk
   ·rename_i h1 h2;cases hk;exact D86 he ht ho h1 h2 hu h
   ·cases hk
  ·cases hk
 ·split at hk
  ·rename_i hf
   obtain⟨cs,hc,rfl⟩:=T9 hk
   exact D7U he ht ho hf hc h
  ·split at hk
   ·rename_i x hf hc
    obtain⟨x',hx,rfl⟩:=T9 hk
    exact D8d he ht ho hf hc hx h
   ·cases hk
 ·obtain⟨x',hx,rfl⟩:=T9 hk
  exact D81 he ht ho hx h
 ·obtain⟨x',hx,rfl⟩:=T9 hk
  exact D8h he ht ho hx h
 ·split at hk
  ·rename_i hu
   split at hk
   ·rename_i h1 h2 h3 h4 h5
    split at hk
    ·rename_i hc;cases hk;exact D8f he ht ho h4 h5 hu h1 h2 h3 hc.1 hc.2 h
    ·cases hk
   ·cases hk
  ·cases hk
 ·split at hk
  ·rename_i hcal
   split at hk
   ·rename_i h1 h2
    cases hk
    cases draw with
    |true=>exact C2Q he ht ho hcal h1 h2 h
    |false=>exact C2P he ht ho hcal h1 h2 h
   ·cases hk
  ·rename_i hcal
   exact D4S he ht ho hcal hk h
  ·cases hk
 ·split at hk
  ·rename_i hu
   obtain⟨x',hx,rfl⟩:=T9 hk
   exact D8m he ht ho hx hu h
  ·rename_i hu
   obtain⟨x',hx,rfl⟩:=T9 hk
   exact D8l he ht ho hx hu h
  ·cases hk
 ·obtain⟨x',hx,rfl⟩:=T9 hk
  exact D8i he ht ho hx h
 ·obtain⟨x',hx,rfl⟩:=T9 hk
  exact D7X he ht ho hx h
 ·cases hk
  exact D8e he ho h
 ·split at hk
  ·rename_i hu
   split at hk
   ·rename_i h1 h2 h3 h4;cases hk;exact D8b he ht ho hu h1 h2 h3 h4 h
   ·cases hk
  ·cases hk
 ·split at hk
  ·rename_i hu
   split at hk
   ·rename_i h1 h2 h3 h4;cases hk;exact D8g he ht ho hu h1 h2 h3 h4 h
   ·cases hk
  ·cases hk
 ·obtain⟨x',hx,rfl⟩:=T9 hk
  exact D8j he ht ho hx h
 ·cases hk
theorem B2E(he:C9 M G os w)(ht:J3 M G os ρ a){o:Oper}{draw:Bool}{k:IK}(hk:cIK P draw o.op=some k)(h:A7 P ρ os K k):G6 P M G os w K (execOp a.eval o):=by
 by_cases hs:k=.stop
 ·subst hs;exact h.elim
 ·exact D8r he ht (A3k hk hs) h
end
end Go.Bi
