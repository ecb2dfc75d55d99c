/- Soundness of every operation; of the operations of a region in the order of the text and in any other; of the code. No condition. -/
import Derived.Test.YtnhhopmldgpglaaGreatDoorBK2
set_option linter.unusedVariables false
namespace Go.Bi
set_option linter.unusedSectionVars false
variable [J9]
section
variable {P:Program}{M:C2}{G:Gh}{os:List AO}{w:World}{ρ:C5}{a:Act}{K:AV->List AO->Prop}
theorem R2{α β:Type}{f:α->β}{x:Option α}{y:β}(h:x.map f=some y):∃z,x=some z/\f z=y:=F7.1 h
theorem D2C(he:C0 M G os w)(ht:G6 M G os ρ a){o:Oper}{op:BinOp}{t t':TypeId}{x y:Operand}{k:IK}(ho:o.op=.binOp op t x y t')(hk:A5V P op t x y=some k)(h:A8 P ρ os K k):E6 P M G os w K (execOp a.eval o):=by
 unfold A5V at hk
 split at hk
 ·rename_i x' y' hx hy
  have heqs:∀{k},N9 P t=some true->A5Z P op t x' y'=some k->A8 P ρ os K k->E6 P M G os w K (execOp a.eval o):=by
   intro k ha hk h
   unfold A5Z at hk
   split at hk
   ·rename_i ks hf
    split at hk
    ·rename_i hg
     obtain⟨n,hn,rfl⟩:=R2 hk
     exact D5Z he ht ho hx hy hn hf ha hg h
    ·cases hk
   ·cases hk
  split at hk
  ·cases hk;exact C0V he ht ho hx hy h
  ·cases hk;exact C0V he ht ho hx hy h
  ·rename_i hu
   obtain⟨n,hn,rfl⟩:=R2 hk
   exact D5X he ht ho hx hy hn hu h
  ·rename_i hu;exact heqs (by simp[N9,hu]) hk h
  ·rename_i hu;exact heqs (by simp[N9,hu]) hk h
  ·rename_i hu
   split at hk
   ·obtain⟨n,hn,rfl⟩:=R2 hk
    exact D5Y he ht ho hx hy hn hu h
   ·cases hk
  ·cases hk
 ·cases hk
theorem A4r{α:Type}{xs:Array α}{x:α}(h:xs.toList=[x]):xs=#[x]:=by apply Array.ext';simpa using h
theorem B8n{α:Type}{xs:Array α}{x y:α}(h:xs.toList=[x,y]):xs=#[x,y]:=by apply Array.ext';simpa using h
theorem D2I(he:C0 M G os w)(ht:G6 M G os ρ a){o:Oper}{c:Call}{b:Builtin}{k:IK}(ho:o.op=.call c)(hb:c.callee=.builtin b)(hk:A5X P b c.args.toList c.argTypes.toList=some k)(h:A8 P ρ os K k):E6 P M G os w K (execOp a.eval o):=by
 unfold A5X at hk
 split at hk
 ·rename_i x t hargs hts
  split at hk
  ·rename_i hu
   obtain⟨x',hx,rfl⟩:=R2 hk
   exact D69 he ht ho hb (A4r hargs) (A4r hts) hx hu h
  ·rename_i hu
   obtain⟨x',hx,rfl⟩:=R2 hk
   exact D67 he ht ho hb (A4r hargs) (A4r hts) hx hu h
  ·rename_i hu
   cases hk
   exact D68 he ho hb (A4r hargs) (A4r hts) hu h
  ·cases hk
 ·rename_i s x t t' hargs hts
  split at hk
  ·rename_i e hu
   split at hk
   ·rename_i htt
    subst htt
    split at hk
    ·rename_i s' x' sz by_ zs h1 h2 h3 h4 h5
     split at hk
     ·rename_i hc
      cases hk
      exact D5J he ht ho hb (B8n hargs) (B8n hts) h1 h2 hu h3 h4 h5 hc.1 hc.2 h
     ·cases hk
    ·cases hk
   ·cases hk
  ·cases hk
 ·rename_i x xs hargs
  split at hk
  ·rename_i x' xs' h1 h2
   cases hk
   exact C0X (mx:=false) he ht ho (by simpa using hb) hargs h1 h2 h
  ·cases hk
 ·rename_i x xs hargs
  split at hk
  ·rename_i x' xs' h1 h2
   cases hk
   exact C0X (mx:=true) he ht ho (by simpa using hb) hargs h1 h2 h
  ·cases hk
 ·cases hk
theorem D6s(he:C0 M G os w)(ht:G6 M G os ρ a){o:Oper}{draw:Bool}{k:IK}(hk:w5 P draw o.op=some k)(h:A8 P ρ os K k):E6 P M G os w K (execOp a.eval o):=by
 generalize ho:o.op=op at hk
 unfold w5 at hk
 split at hk
 ·obtain⟨x',hx,rfl⟩:=R2 hk
  exact C0Y he ht (.inl ho) hx h
 ·obtain⟨x',hx,rfl⟩:=R2 hk
  exact C0Y he ht (.inr ho) hx h
 ·split at hk
  ·rename_i h1 h2 h3;cases hk;exact D6j he ht ho h1 h2 h3 h
  ·cases hk
 ·obtain⟨zs,hz,rfl⟩:=R2 hk
  exact D5H he ho hz h
 ·split at hk
  ·rename_i h1 h2;cases hk;exact D5L he ht ho h2 h
  ·cases hk
 ·split at hk
  ·rename_i h1 h2
   obtain⟨ps,hps,rfl⟩:=R2 hk
   exact D5P he ht ho h1 h2 hps h
  ·cases hk
 ·split at hk
  ·rename_i e hu
   split at hk
   ·rename_i sz zs h1 h2
    split at hk
    ·rename_i hc
     obtain⟨ps,hps,rfl⟩:=R2 hk
     cases draw with
     |true=>exact C0W he ht ho hu h1 h2 hc.1 hc.2.1 hc.2.2 hps h
     |false=>
      rcases D2H h with h|h
      ·exact D5N he ht ho hu h1 h2 hc.1 hc.2.1 hc.2.2 hps h
      ·exact C0W he ht ho hu h1 h2 hc.1 hc.2.1 hc.2.2 hps h
    ·cases hk
   ·cases hk
  ·cases hk
 ·split at hk
  ·rename_i h1 h2 h3;cases hk;exact D6b he ht h1 h2 ho h3 h
  ·cases hk
 ·split at hk
  ·rename_i h1 h2 h3;cases hk;exact D6o he ht h1 ho h2 h3 h
  ·cases hk
 ·exact D2C he ht ho hk h
 ·obtain⟨x',hx,rfl⟩:=R2 hk
  exact D6p he ht ho hx h
 ·split at hk
  ·rename_i h1 h2
   obtain⟨x',hx,rfl⟩:=R2 hk
   exact D5U he ht ho hx h1 h2 h
  ·rename_i h1 h2
   obtain⟨x',hx,rfl⟩:=R2 hk
   exact D5V he ht ho hx h1 h2 h
  ·cases hk
 ·split at hk
  ·rename_i hu
   split at hk
   ·rename_i h1 h2 h3;cases hk;exact D6n he ht ho h1 h2 h3 hu h
   ·cases hk
  ·rename_i hu
   split at hk
   ·rename_i h1 h2 h3 h4;cases hk
    refine D6m he ht ho h1 h2 h3 hu h4 ?_
    cases draw with
    |false=>exact h
    |true=>exact D7h h
   ·cases hk
  ·cases hk
 ·split at hk
  ·rename_i hu
   split at hk
   ·rename_i h1 h2
    split at hk
    ·rename_i h3;cases hk;exact D61 he ht ho h2 hu h1 h3 h
    ·cases hk
   ·cases hk
  ·cases hk
 ·split at hk
  ·rename_i hu
   split at hk
   ·rename_i h1 h2
    split at hk
    ·rename_i h3 h4;cases hk;exact D62 he ht ho h2 hu h1 h3 h4 h
    ·cases hk
   ·cases hk
  ·cases hk
 ·split at hk
  ·rename_i hu
   split at hk
   ·rename_i h1 h2 h3;cases hk;exact D63 he ht ho h2 h3 hu h1 h
   ·cases hk
  ·rename_i hu
   split at hk
   ·rename_i h1 h2 h3;cases hk;exact D64 he ht ho h2 h3 hu h1 h
   ·cases hk
  ·cases hk
 ·split at hk
  ·rename_i hu
   split at hk
   ·rename_i h1 h2 h3 h4;cases hk;exact D66 he ht ho h3 h4 hu h1 h2 h
   ·cases hk
  ·rename_i hu
   split at hk
   ·rename_i h1 h2;cases hk;exact D65 he ht ho h1 h2 hu h
   ·cases hk
  ·cases hk
 ·split at hk
  ·rename_i hf
   obtain⟨cs,hc,rfl⟩:=R2 hk
   exact D5T he ht ho hf hc h
  ·split at hk
   ·rename_i x hf hc
    obtain⟨x',hx,rfl⟩:=R2 hk
    exact D6c he ht ho hf hc hx h
   ·cases hk
 ·obtain⟨x',hx,rfl⟩:=R2 hk
  exact D60 he ht ho hx h
 ·obtain⟨x',hx,rfl⟩:=R2 hk
  exact D6g he ht ho hx h
 ·split at hk
  ·rename_i hu
   split at hk
   ·rename_i h1 h2 h3 h4 h5
    split at hk
    ·rename_i hc;cases hk;exact D6e he ht ho h4 h5 hu h1 h2 h3 hc.1 hc.2 h
    ·cases hk
   ·cases hk
  ·cases hk
 ·split at hk
  ·rename_i hcal
   split at hk
   ·rename_i h1 h2
    cases hk
    cases draw with
    |true=>exact D5R he ht ho hcal h1 h2 h
    |false=>exact D5Q he ht ho hcal h1 h2 h
   ·cases hk
  ·rename_i hcal
   exact D2I he ht ho hcal hk h
  ·cases hk
 ·split at hk
  ·rename_i hu
   obtain⟨x',hx,rfl⟩:=R2 hk
   exact D6l he ht ho hx hu h
  ·rename_i hu
   obtain⟨x',hx,rfl⟩:=R2 hk
   exact D6k he ht ho hx hu h
  ·cases hk
 ·obtain⟨x',hx,rfl⟩:=R2 hk
  exact D6h he ht ho hx h
 ·obtain⟨x',hx,rfl⟩:=R2 hk
  exact D5W he ht ho hx h
 ·cases hk
  exact D6d he ho h
 ·split at hk
  ·rename_i hu
   split at hk
   ·rename_i h1 h2 h3 h4;cases hk;exact D6a he ht ho hu h1 h2 h3 h4 h
   ·cases hk
  ·cases hk
 ·split at hk
  ·rename_i hu
   split at hk
   ·rename_i h1 h2 h3 h4;cases hk;exact D6f he ht ho hu h1 h2 h3 h4 h
   ·cases hk
  ·cases hk
 ·obtain⟨x',hx,rfl⟩:=R2 hk
  exact D6i he ht ho hx h
 ·cases hk
theorem C11(he:C0 M G os w)(ht:G6 M G os ρ a){o:Oper}{draw:Bool}{k:IK}(hk:cIK P draw o.op=some k)(h:A8 P ρ os K k):E6 P M G os w K (execOp a.eval o):=by
 by_cases hs:k=.stop
 ·subst hs;exact h.elim
 ·exact D6s he ht (A4v hk hs) h
end
end Go.Bi
