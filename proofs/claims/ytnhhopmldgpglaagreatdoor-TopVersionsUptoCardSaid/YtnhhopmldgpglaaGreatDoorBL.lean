/- Soundness of every operation; of the operations of a region in the order of the text and in any other; of the code. No condition. -/
import Derived.Test.YtnhhopmldgpglaaGreatDoorBK2
set_option linter.unusedVariables false
namespace Go.Bi
set_option linter.unusedSectionVars false
variable [J4]
section
variable {P:Program}{M:C4}{G:Gh}{os:List AO}{w:World}{ρ:C6}{a:Act}{K:AV->List AO->Prop}
theorem Q9{α β:Type}{f:α->β}{x:Option α}{y:β}(h:x.map f=some y):∃z,x=some z/\f z=y:=G4.1 h
theorem C7y(he:C1 M G os w)(ht:G9 M G os ρ a){o:Oper}{op:BinOp}{t t':TypeId}{x y:Operand}{k:IK}(ho:o.op=.binOp op t x y t')(hk:A5b P op t x y=some k)(h:B1 P ρ os K k):E7 P M G os w K (execOp a.eval o):=by
 unfold A5b at hk
 split at hk
 ·rename_i x' y' hx hy
  have heqs:∀{k},N5 P t=some true->A5f P op t x' y'=some k->B1 P ρ os K k->E7 P M G os w K (execOp a.eval o):=by
   intro k ha hk h
   unfold A5f at hk
   split at hk
   ·rename_i ks hf
    split at hk
    ·rename_i hg
     obtain⟨n,hn,rfl⟩:=Q9 hk
     exact D0E he ht ho hx hy hn hf ha hg h
    ·cases hk
   ·cases hk
  split at hk
  ·cases hk;exact B7U he ht ho hx hy h
  ·cases hk;exact B7U he ht ho hx hy h
  ·rename_i hu
   obtain⟨n,hn,rfl⟩:=Q9 hk
   exact D0C he ht ho hx hy hn hu h
  ·rename_i hu;exact heqs (by simp[N5,hu]) hk h
  ·rename_i hu;exact heqs (by simp[N5,hu]) hk h
  ·rename_i hu
   split at hk
   ·obtain⟨n,hn,rfl⟩:=Q9 hk
    exact D0D he ht ho hx hy hn hu h
   ·cases hk
  ·cases hk
 ·cases hk
theorem A3H{α:Type}{xs:Array α}{x:α}(h:xs.toList=[x]):xs=#[x]:=by apply Array.ext';simpa using h
theorem B5p{α:Type}{xs:Array α}{x y:α}(h:xs.toList=[x,y]):xs=#[x,y]:=by apply Array.ext';simpa using h
theorem C7E(he:C1 M G os w)(ht:G9 M G os ρ a){o:Oper}{c:Call}{b:Builtin}{k:IK}(ho:o.op=.call c)(hb:c.callee=.builtin b)(hk:A5d P b c.args.toList c.argTypes.toList=some k)(h:B1 P ρ os K k):E7 P M G os w K (execOp a.eval o):=by
 unfold A5d at hk
 split at hk
 ·rename_i x t hargs hts
  split at hk
  ·rename_i hu
   obtain⟨x',hx,rfl⟩:=Q9 hk
   exact D0O he ht ho hb (A3H hargs) (A3H hts) hx hu h
  ·rename_i hu
   obtain⟨x',hx,rfl⟩:=Q9 hk
   exact D0M he ht ho hb (A3H hargs) (A3H hts) hx hu h
  ·rename_i hu
   cases hk
   exact D0N he ho hb (A3H hargs) (A3H hts) hu h
  ·cases hk
 ·rename_i s x t t' hargs hts
  split at hk
  ·rename_i e hu
   split at hk
   ·rename_i htt
    subst htt
    split at hk
    ·rename_i s' x' sz by_ zs h1 h2 h3 h4 h5
     split at hk
     ·rename_i hc
      cases hk
      exact D0o he ht ho hb (B5p hargs) (B5p hts) h1 h2 hu h3 h4 h5 hc.1 hc.2 h
     ·cases hk
    ·cases hk
   ·cases hk
  ·cases hk
 ·rename_i x xs hargs
  split at hk
  ·rename_i x' xs' h1 h2
   cases hk
   exact B7W (mx:=false) he ht ho (by simpa using hb) hargs h1 h2 h
  ·cases hk
 ·rename_i x xs hargs
  split at hk
  ·rename_i x' xs' h1 h2
   cases hk
   exact B7W (mx:=true) he ht ho (by simpa using hb) hargs h1 h2 h
  ·cases hk
 ·cases hk
theorem D17(he:C1 M G os w)(ht:G9 M G os ρ a){o:Oper}{draw:Bool}{k:IK}(hk:s9 P draw o.op=some k)(h:B1 P ρ os K k):E7 P M G os w K (execOp a.eval o):=by
 generalize ho:o.op=op at hk
 unfold s9 at hk
 split at hk
 ·obtain⟨x',hx,rfl⟩:=Q9 hk
  exact B7X he ht (.inl ho) hx h
 ·obtain⟨x',hx,rfl⟩:=Q9 hk
  exact B7X he ht (.inr ho) hx h
 ·split at hk
  ·rename_i h1 h2 h3;cases hk;exact D0Y he ht ho h1 h2 h3 h
  ·cases hk
 ·obtain⟨zs,hz,rfl⟩:=Q9 hk
  exact D0m he ho hz h
 ·split at hk
  ·rename_i h1 h2;cases hk;exact D0q he ht ho h2 h
  ·cases hk
 ·split at hk
  ·rename_i h1 h2
   obtain⟨ps,hps,rfl⟩:=Q9 hk
   exact D0u he ht ho h1 h2 hps h
  ·cases hk
 ·split at hk
  ·rename_i e hu
   split at hk
   ·rename_i sz zs h1 h2
    split at hk
    ·rename_i hc
     obtain⟨ps,hps,rfl⟩:=Q9 hk
     cases draw with
     |true=>exact B7V he ht ho hu h1 h2 hc.1 hc.2.1 hc.2.2 hps h
     |false=>
      rcases C7D h with h|h
      ·exact D0s he ht ho hu h1 h2 hc.1 hc.2.1 hc.2.2 hps h
      ·exact B7V he ht ho hu h1 h2 hc.1 hc.2.1 hc.2.2 hps h
    ·cases hk
   ·cases hk
  ·cases hk
 ·split at hk
  ·rename_i h1 h2 h3;cases hk;exact D0Q he ht h1 h2 ho h3 h
  ·cases hk
 ·split at hk
  ·rename_i h1 h2 h3;cases hk;exact D13 he ht h1 ho h2 h3 h
  ·cases hk
 ·exact C7y he ht ho hk h
 ·obtain⟨x',hx,rfl⟩:=Q9 hk
  exact D14 he ht ho hx h
 ·split at hk
  ·rename_i h1 h2
   obtain⟨x',hx,rfl⟩:=Q9 hk
   exact D0z he ht ho hx h1 h2 h
  ·rename_i h1 h2
   obtain⟨x',hx,rfl⟩:=Q9 hk
   exact D0A he ht ho hx h1 h2 h
  ·cases hk
 ·split at hk
  ·rename_i hu
   split at hk
   ·rename_i h1 h2 h3;cases hk;exact D12 he ht ho h1 h2 h3 hu h
   ·cases hk
  ·rename_i hu
   split at hk
   ·rename_i h1 h2 h3 h4;cases hk
    refine D11 he ht ho h1 h2 h3 hu h4 ?_
    cases draw with
    |false=>exact h
    |true=>exact D20 h
   ·cases hk
  ·cases hk
 ·split at hk
  ·rename_i hu
   split at hk
   ·rename_i h1 h2
    split at hk
    ·rename_i h3;cases hk;exact D0G he ht ho h2 hu h1 h3 h
    ·cases hk
   ·cases hk
  ·cases hk
 ·split at hk
  ·rename_i hu
   split at hk
   ·rename_i h1 h2
    split at hk
    ·rename_i h3 h4;cases hk;exact D0H he ht ho h2 hu h1 h3 h4 h
    ·cases hk
   ·cases hk
  ·cases hk
 ·split at hk
  ·rename_i hu
   split at hk
   ·rename_i h1 h2 h3;cases hk;exact D0I he ht ho h2 h3 hu h1 h
   ·cases hk
  ·rename_i hu
   split at hk
   ·rename_i h1 h2 h3;cases hk;exact D0J he ht ho h2 h3 hu h1 h
   ·cases hk
  ·cases hk
 ·split at hk
  ·rename_i hu
   split at hk
   ·rename_i h1 h2 h3 h4;cases hk;exact D0L he ht ho h3 h4 hu h1 h2 h
   ·cases hk
  ·rename_i hu
   split at hk
   ·rename_i h1 h2;cases hk;exact D0K he ht ho h1 h2 hu h
   ·cases hk
  ·cases hk
 ·split at hk
  ·rename_i hf
   obtain⟨cs,hc,rfl⟩:=Q9 hk
   exact D0y he ht ho hf hc h
  ·split at hk
   ·rename_i x hf hc
    obtain⟨x',hx,rfl⟩:=Q9 hk
    exact D0R he ht ho hf hc hx h
   ·cases hk
 ·obtain⟨x',hx,rfl⟩:=Q9 hk
  exact D0F he ht ho hx h
 ·obtain⟨x',hx,rfl⟩:=Q9 hk
  exact D0V he ht ho hx h
 ·split at hk
  ·rename_i hu
   split at hk
   ·rename_i h1 h2 h3 h4 h5
    split at hk
    ·rename_i hc;cases hk;exact D0T he ht ho h4 h5 hu h1 h2 h3 hc.1 hc.2 h
    ·cases hk
   ·cases hk
  ·cases hk
 ·split at hk
  ·rename_i hcal
   split at hk
   ·rename_i h1 h2
    cases hk
    cases draw with
    |true=>exact D0w he ht ho hcal h1 h2 h
    |false=>exact D0v he ht ho hcal h1 h2 h
   ·cases hk
  ·rename_i hcal
   exact C7E he ht ho hcal hk h
  ·cases hk
 ·split at hk
  ·rename_i hu
   obtain⟨x',hx,rfl⟩:=Q9 hk
   exact D10 he ht ho hx hu h
  ·rename_i hu
   obtain⟨x',hx,rfl⟩:=Q9 hk
   exact D0Z he ht ho hx hu h
  ·cases hk
 ·obtain⟨x',hx,rfl⟩:=Q9 hk
  exact D0W he ht ho hx h
 ·obtain⟨x',hx,rfl⟩:=Q9 hk
  exact D0B he ht ho hx h
 ·cases hk
  exact D0S he ho h
 ·split at hk
  ·rename_i hu
   split at hk
   ·rename_i h1 h2 h3 h4;cases hk;exact D0P he ht ho hu h1 h2 h3 h4 h
   ·cases hk
  ·cases hk
 ·split at hk
  ·rename_i hu
   split at hk
   ·rename_i h1 h2 h3 h4;cases hk;exact D0U he ht ho hu h1 h2 h3 h4 h
   ·cases hk
  ·cases hk
 ·obtain⟨x',hx,rfl⟩:=Q9 hk
  exact D0X he ht ho hx h
 ·cases hk
theorem B7Z(he:C1 M G os w)(ht:G9 M G os ρ a){o:Oper}{draw:Bool}{k:IK}(hk:cIK P draw o.op=some k)(h:B1 P ρ os K k):E7 P M G os w K (execOp a.eval o):=by
 by_cases hs:k=.stop
 ·subst hs;exact h.elim
 ·exact D17 he ht (A3L hk hs) h
end
end Go.Bi
