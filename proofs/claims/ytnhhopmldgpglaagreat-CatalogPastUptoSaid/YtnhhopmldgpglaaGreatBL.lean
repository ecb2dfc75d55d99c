/- Soundness of every operation; of the operations of a region in the order of the text and in any other; of the code. No condition. -/
import Derived.Test.YtnhhopmldgpglaaGreatBK2
set_option linter.unusedVariables false
namespace Go.Bi
set_option linter.unusedSectionVars false
variable [K6]
section
variable {P:Program}{M:C5}{G:Gh}{os:List AO}{w:World}{ρ:C7}{a:Act}{K:AV->List AO->Prop}
theorem Q8{α β:Type}{f:α->β}{x:Option α}{y:β}(h:x.map f=some y):∃z,x=some z/\f z=y:=H6.1 h
theorem C8Q(he:C3 M G os w)(ht:H7 M G os ρ a){o:Oper}{op:BinOp}{t t':TypeId}{x y:Operand}{k:IK}(ho:o.op=.binOp op t x y t')(hk:A5b P op t x y=some k)(h:B1 P ρ os K k):F4 P M G os w K (execOp a.eval o):=by
 unfold A5b at hk
 split at hk
 ·rename_i x' y' hx hy
  have heqs:∀{k},O1 P t=some true->A5f P op t x' y'=some k->B1 P ρ os K k->F4 P M G os w K (execOp a.eval o):=by
   intro k ha hk h
   unfold A5f at hk
   split at hk
   ·rename_i ks hf
    split at hk
    ·rename_i hg
     obtain⟨n,hn,rfl⟩:=Q8 hk
     exact D1L he ht ho hx hy hn hf ha hg h
    ·cases hk
   ·cases hk
  split at hk
  ·cases hk;exact B8q he ht ho hx hy h
  ·cases hk;exact B8q he ht ho hx hy h
  ·rename_i hu
   obtain⟨n,hn,rfl⟩:=Q8 hk
   exact D1J he ht ho hx hy hn hu h
  ·rename_i hu;exact heqs (by simp[O1,hu]) hk h
  ·rename_i hu;exact heqs (by simp[O1,hu]) hk h
  ·rename_i hu
   split at hk
   ·obtain⟨n,hn,rfl⟩:=Q8 hk
    exact D1K he ht ho hx hy hn hu h
   ·cases hk
  ·cases hk
 ·cases hk
theorem A3C{α:Type}{xs:Array α}{x:α}(h:xs.toList=[x]):xs=#[x]:=by apply Array.ext';simpa using h
theorem B5V{α:Type}{xs:Array α}{x y:α}(h:xs.toList=[x,y]):xs=#[x,y]:=by apply Array.ext';simpa using h
theorem C8V(he:C3 M G os w)(ht:H7 M G os ρ a){o:Oper}{c:Call}{b:Builtin}{k:IK}(ho:o.op=.call c)(hb:c.callee=.builtin b)(hk:A5d P b c.args.toList c.argTypes.toList=some k)(h:B1 P ρ os K k):F4 P M G os w K (execOp a.eval o):=by
 unfold A5d at hk
 split at hk
 ·rename_i x t hargs hts
  split at hk
  ·rename_i hu
   obtain⟨x',hx,rfl⟩:=Q8 hk
   exact D1V he ht ho hb (A3C hargs) (A3C hts) hx hu h
  ·rename_i hu
   obtain⟨x',hx,rfl⟩:=Q8 hk
   exact D1T he ht ho hb (A3C hargs) (A3C hts) hx hu h
  ·rename_i hu
   cases hk
   exact D1U he ho hb (A3C hargs) (A3C hts) hu h
  ·cases hk
 ·rename_i s x t t' hargs hts
  split at hk
  ·rename_i e hu
   split at hk
   ·rename_i htt
    subst htt
    split at hk
    ·rename_i s' x' sz by_ zs h1 h2 h3 h4 h5
     split at hk
     ·rename_i hc
      cases hk
      exact D1v he ht ho hb (B5V hargs) (B5V hts) h1 h2 hu h3 h4 h5 hc.1 hc.2 h
     ·cases hk
    ·cases hk
   ·cases hk
  ·cases hk
 ·rename_i x xs hargs
  split at hk
  ·rename_i x' xs' h1 h2
   cases hk
   exact B8s (mx:=false) he ht ho (by simpa using hb) hargs h1 h2 h
  ·cases hk
 ·rename_i x xs hargs
  split at hk
  ·rename_i x' xs' h1 h2
   cases hk
   exact B8s (mx:=true) he ht ho (by simpa using hb) hargs h1 h2 h
  ·cases hk
 ·cases hk
theorem D2e(he:C3 M G os w)(ht:H7 M G os ρ a){o:Oper}{draw:Bool}{k:IK}(hk:t7 P draw o.op=some k)(h:B1 P ρ os K k):F4 P M G os w K (execOp a.eval o):=by
 generalize ho:o.op=op at hk
 unfold t7 at hk
 split at hk
 ·obtain⟨x',hx,rfl⟩:=Q8 hk
  exact B8t he ht (.inl ho) hx h
 ·obtain⟨x',hx,rfl⟩:=Q8 hk
  exact B8t he ht (.inr ho) hx h
 ·split at hk
  ·rename_i h1 h2 h3;cases hk;exact D25 he ht ho h1 h2 h3 h
  ·cases hk
 ·obtain⟨zs,hz,rfl⟩:=Q8 hk
  exact D1t he ho hz h
 ·split at hk
  ·rename_i h1 h2;cases hk;exact D1x he ht ho h2 h
  ·cases hk
 ·split at hk
  ·rename_i h1 h2
   obtain⟨ps,hps,rfl⟩:=Q8 hk
   exact D1B he ht ho h1 h2 hps h
  ·cases hk
 ·split at hk
  ·rename_i e hu
   split at hk
   ·rename_i sz zs h1 h2
    split at hk
    ·rename_i hc
     obtain⟨ps,hps,rfl⟩:=Q8 hk
     cases draw with
     |true=>exact B8r he ht ho hu h1 h2 hc.1 hc.2.1 hc.2.2 hps h
     |false=>
      rcases C8U h with h|h
      ·exact D1z he ht ho hu h1 h2 hc.1 hc.2.1 hc.2.2 hps h
      ·exact B8r he ht ho hu h1 h2 hc.1 hc.2.1 hc.2.2 hps h
    ·cases hk
   ·cases hk
  ·cases hk
 ·split at hk
  ·rename_i h1 h2 h3;cases hk;exact D1X he ht h1 h2 ho h3 h
  ·cases hk
 ·split at hk
  ·rename_i h1 h2 h3;cases hk;exact D2a he ht h1 ho h2 h3 h
  ·cases hk
 ·exact C8Q he ht ho hk h
 ·obtain⟨x',hx,rfl⟩:=Q8 hk
  exact D2b he ht ho hx h
 ·split at hk
  ·rename_i h1 h2
   obtain⟨x',hx,rfl⟩:=Q8 hk
   exact D1G he ht ho hx h1 h2 h
  ·rename_i h1 h2
   obtain⟨x',hx,rfl⟩:=Q8 hk
   exact D1H he ht ho hx h1 h2 h
  ·cases hk
 ·split at hk
  ·rename_i hu
   split at hk
   ·rename_i h1 h2 h3;cases hk;exact D29 he ht ho h1 h2 h3 hu h
   ·cases hk
  ·rename_i hu
   split at hk
   ·rename_i h1 h2 h3 h4;cases hk
    refine D28 he ht ho h1 h2 h3 hu h4 ?_
    cases draw with
    |false=>exact h
    |true=>exact D31 h
   ·cases hk
  ·cases hk
 ·split at hk
  ·rename_i hu
   split at hk
   ·rename_i h1 h2
    split at hk
    ·rename_i h3;cases hk;exact D1N he ht ho h2 hu h1 h3 h
    ·cases hk
   ·cases hk
  ·cases hk
 ·split at hk
  ·rename_i hu
   split at hk
   ·rename_i h1 h2
    split at hk
    ·rename_i h3 h4;cases hk;exact D1O he ht ho h2 hu h1 h3 h4 h
    ·cases hk
   ·cases hk
  ·cases hk
 ·split at hk
  ·rename_i hu
   split at hk
   ·rename_i h1 h2 h3;cases hk;exact D1P he ht ho h2 h3 hu h1 h
   ·cases hk
  ·rename_i hu
   split at hk
   ·rename_i h1 h2 h3;cases hk;exact D1Q he ht ho h2 h3 hu h1 h
   ·cases hk
  ·cases hk
 ·split at hk
  ·rename_i hu
   split at hk
   ·rename_i h1 h2 h3 h4;cases hk;exact D1S he ht ho h3 h4 hu h1 h2 h
   ·cases hk
  ·rename_i hu
   split at hk
   ·rename_i h1 h2;cases hk;exact D1R he ht ho h1 h2 hu h
   ·cases hk
  ·cases hk
 ·split at hk
  ·rename_i hf
   obtain⟨cs,hc,rfl⟩:=Q8 hk
   exact D1F he ht ho hf hc h
  ·split at hk
   ·rename_i x hf hc
    obtain⟨x',hx,rfl⟩:=Q8 hk
    exact D1Y he ht ho hf hc hx h
   ·cases hk
 ·obtain⟨x',hx,rfl⟩:=Q8 hk
  exact D1M he ht ho hx h
 ·obtain⟨x',hx,rfl⟩:=Q8 hk
  exact D22 he ht ho hx h
 ·split at hk
  ·rename_i hu
   split at hk
   ·rename_i h1 h2 h3 h4 h5
    split at hk
    ·rename_i hc;cases hk;exact D20 he ht ho h4 h5 hu h1 h2 h3 hc.1 hc.2 h
    ·cases hk
   ·cases hk
  ·cases hk
 ·split at hk
  ·rename_i hcal
   split at hk
   ·rename_i h1 h2
    cases hk
    cases draw with
    |true=>exact D1D he ht ho hcal h1 h2 h
    |false=>exact D1C he ht ho hcal h1 h2 h
   ·cases hk
  ·rename_i hcal
   exact C8V he ht ho hcal hk h
  ·cases hk
 ·split at hk
  ·rename_i hu
   obtain⟨x',hx,rfl⟩:=Q8 hk
   exact D27 he ht ho hx hu h
  ·rename_i hu
   obtain⟨x',hx,rfl⟩:=Q8 hk
   exact D26 he ht ho hx hu h
  ·cases hk
 ·obtain⟨x',hx,rfl⟩:=Q8 hk
  exact D23 he ht ho hx h
 ·obtain⟨x',hx,rfl⟩:=Q8 hk
  exact D1I he ht ho hx h
 ·cases hk
  exact D1Z he ho h
 ·split at hk
  ·rename_i hu
   split at hk
   ·rename_i h1 h2 h3 h4;cases hk;exact D1W he ht ho hu h1 h2 h3 h4 h
   ·cases hk
  ·cases hk
 ·split at hk
  ·rename_i hu
   split at hk
   ·rename_i h1 h2 h3 h4;cases hk;exact D21 he ht ho hu h1 h2 h3 h4 h
   ·cases hk
  ·cases hk
 ·obtain⟨x',hx,rfl⟩:=Q8 hk
  exact D24 he ht ho hx h
 ·cases hk
theorem B8v(he:C3 M G os w)(ht:H7 M G os ρ a){o:Oper}{draw:Bool}{k:IK}(hk:cIK P draw o.op=some k)(h:B1 P ρ os K k):F4 P M G os w K (execOp a.eval o):=by
 by_cases hs:k=.stop
 ·subst hs;exact h.elim
 ·exact D2e he ht (A3F hk hs) h
end
end Go.Bi
