/- Soundness of every operation; of the operations of a region in the order of the text and in any other; of the code. No condition. -/
import Derived.Test.YthaildbjjlpdgaaGreatBK4
set_option linter.unusedVariables false
namespace Go.Bi
set_option linter.unusedSectionVars false
variable [Globs]
section
variable {P:Program}{M:Mem}{G:Gh}{os:List AO}{w:World}{ρ:Rho}{a:Act}{K:AV->List AO->Prop}
theorem opt_map{α β:Type}{f:α->β}{x:Option α}{y:β}(h:x.map f=some y):∃z,x=some z/\f z=y:=Option.map_eq_some_iff.1 h
theorem bin_ok(he:Env M G os w)(ht:Tmps M G os ρ a){o:Oper}{op:BinOp}{t t':TypeId}{x y:Operand}{k:IK}(ho:o.op=.binOp op t x y t')(hk:cBin P op t x y=some k)(h:opI P ρ os K k):OpOK P M G os w K (execOp a.eval o):=by
 unfold cBin at hk
 split at hk
 ·rename_i x' y' hx hy
  have heqs:∀{k},tagg P t=some true->cEqs P op t x' y'=some k->opI P ρ os K k->OpOK P M G os w K (execOp a.eval o):=by
   intro k ha hk h
   unfold cEqs at hk
   split at hk
   ·rename_i ks hf
    split at hk
    ·rename_i hg
     obtain⟨n,hn,rfl⟩:=opt_map hk
     exact ok_eqs he ht ho hx hy hn hf ha hg h
    ·cases hk
   ·cases hk
  split at hk
  ·cases hk;exact ok_bin he ht ho hx hy h
  ·cases hk;exact ok_bin he ht ho hx hy h
  ·rename_i hu
   obtain⟨n,hn,rfl⟩:=opt_map hk
   exact ok_eqb he ht ho hx hy hn hu h
  ·rename_i hu;exact heqs (by simp[tagg,hu]) hk h
  ·rename_i hu;exact heqs (by simp[tagg,hu]) hk h
  ·rename_i hu
   split at hk
   ·obtain⟨n,hn,rfl⟩:=opt_map hk
    exact ok_eqnil he ht ho hx hy hn hu h
   ·cases hk
  ·rename_i hu
   split at hk
   ·obtain⟨n,hn,rfl⟩:=opt_map hk
    exact ok_eqp he ht ho hx hy hn hu h
   ·cases hk
  ·cases hk
 ·cases hk
theorem arr_one{α:Type}{xs:Array α}{x:α}(h:xs.toList=[x]):xs=#[x]:=by apply Array.ext';simpa using h
theorem arr_two{α:Type}{xs:Array α}{x y:α}(h:xs.toList=[x,y]):xs=#[x,y]:=by apply Array.ext';simpa using h
theorem builtin_ok(he:Env M G os w)(ht:Tmps M G os ρ a){o:Oper}{c:Call}{b:Builtin}{k:IK}(ho:o.op=.call c)(hb:c.callee=.builtin b)(hk:cBuiltin P b c.args.toList c.argTypes.toList=some k)(h:opI P ρ os K k):OpOK P M G os w K (execOp a.eval o):=by
 unfold cBuiltin at hk
 split at hk
 ·rename_i x t hargs hts
  split at hk
  ·rename_i hu
   obtain⟨x',hx,rfl⟩:=opt_map hk
   exact ok_lens he ht ho hb (arr_one hargs) (arr_one hts) hx hu h
  ·rename_i hu
   obtain⟨x',hx,rfl⟩:=opt_map hk
   exact ok_len he ht ho hb (arr_one hargs) (arr_one hts) hx hu h
  ·rename_i hu
   cases hk
   exact ok_lenk he ho hb (arr_one hargs) (arr_one hts) hu h
  ·cases hk
 ·rename_i s x t t' hargs hts
  split at hk
  ·rename_i e hu
   split at hk
   ·rename_i htt
    subst htt
    split at hk
    ·rename_i s' x' sz by_ zs h1 h2 h3 h4 h5
     split at hk
     ·rename_i hc
      cases hk
      exact ok_app he ht ho hb (arr_two hargs) (arr_two hts) h1 h2 hu h3 h4 h5 hc.1 hc.2 h
     ·cases hk
    ·cases hk
   ·split at hk
    ·rename_i hstr
     split at hk
     ·rename_i s' x' sz by_ zs h1 h2 h3 h4 h5
      split at hk
      ·rename_i hc
       cases hk
       exact ok_apps he ht ho hb (arr_two hargs) (arr_two hts) h1 h2 hu (isStrT_eq hstr) h3 h4 h5 hc.1 hc.2 h
      ·cases hk
     ·cases hk
    ·cases hk
  ·cases hk
 ·rename_i d s t t' hargs hts
  split at hk
  ·rename_i e hu
   split at hk
   ·rename_i h1 h2 h3
    split at hk
    ·rename_i hc
     cases hk
     exact ok_cpy he ht ho hb (arr_two hargs) (arr_two hts) hu h3 hc h1 h2 h
    ·cases hk
   ·cases hk
  ·cases hk
 ·rename_i m k t t' hargs hts
  split at hk
  ·rename_i hu
   split at hk
   ·rename_i h1 h2 h3
    cases hk
    exact ok_mdel he ht ho hb (arr_two hargs) (arr_two hts) hu h1 h2 h3 h
   ·cases hk
  ·cases hk
 ·rename_i x xs hargs
  split at hk
  ·rename_i x' xs' h1 h2
   cases hk
   exact ok_minmax (mx:=false) he ht ho (by simpa using hb) hargs h1 h2 h
  ·cases hk
 ·rename_i x xs hargs
  split at hk
  ·rename_i x' xs' h1 h2
   cases hk
   exact ok_minmax (mx:=true) he ht ho (by simpa using hb) hargs h1 h2 h
  ·cases hk
 ·cases hk
theorem op_ok0(he:Env M G os w)(ht:Tmps M G os ρ a){o:Oper}{draw:Bool}{k:IK}(hk:cIK0 P draw o.op=some k)(h:opI P ρ os K k):OpOK P M G os w K (execOp a.eval o):=by
 generalize ho:o.op=op at hk
 unfold cIK0 at hk
 split at hk
 ·obtain⟨x',hx,rfl⟩:=opt_map hk
  exact ok_mv he ht (.inl ho) hx h
 ·obtain⟨x',hx,rfl⟩:=opt_map hk
  exact ok_mv he ht (.inr ho) hx h
 ·split at hk
  ·rename_i h1 h2 h3;cases hk;exact ok_pick he ht ho h1 h2 h3 h
  ·cases hk
 ·obtain⟨zs,hz,rfl⟩:=opt_map hk
  exact ok_alloc he ho hz h
 ·split at hk
  ·rename_i h1 h2;cases hk;exact ok_box he ht ho h2 h
  ·cases hk
 ·split at hk
  ·rename_i h1 h2
   obtain⟨ps,hps,rfl⟩:=opt_map hk
   exact ok_build he ht ho h1 h2 hps h
  ·cases hk
 ·split at hk
  ·rename_i e hu
   split at hk
   ·rename_i sz zs h1 h2
    split at hk
    ·rename_i hc
     obtain⟨ps,hps,rfl⟩:=opt_map hk
     cases draw with
     |true=>exact ok_bsld he ht ho hu h1 h2 hc.1 hc.2.1 hc.2.2 hps h
     |false=>
      rcases bsl_or h with h|h
      ·exact ok_bsl0 he ht ho hu h1 h2 hc.1 hc.2.1 hc.2.2 hps h
      ·exact ok_bsld he ht ho hu h1 h2 hc.1 hc.2.1 hc.2.2 hps h
    ·cases hk
   ·cases hk
  ·cases hk
 ·split at hk
  ·rename_i h1 h2 h3;cases hk;exact ok_load he ht h1 h2 ho h3 h
  ·cases hk
 ·split at hk
  ·rename_i h1 h2 h3;cases hk;exact ok_store he ht h1 ho h2 h3 h
  ·cases hk
 ·exact bin_ok he ht ho hk h
 ·obtain⟨x',hx,rfl⟩:=opt_map hk
  exact ok_un he ht ho hx h
 ·split at hk
  ·rename_i h1 h2
   obtain⟨x',hx,rfl⟩:=opt_map hk
   exact ok_conv he ht ho hx h1 h2 h
  ·rename_i h1 h2
   obtain⟨x',hx,rfl⟩:=opt_map hk
   exact ok_convs he ht ho hx h1 h2 h
  ·rename_i h1 h2
   split at hk
   ·rename_i h3
    obtain⟨x',hx,rfl⟩:=opt_map hk
    exact ok_s2b he ht ho hx h1 h2 (isU8_eq h3.1) h
   ·cases hk
  ·rename_i h1 h2
   split at hk
   ·rename_i h3
    obtain⟨x',hx,rfl⟩:=opt_map hk
    exact ok_b2s he ht ho hx h1 h2 (isU8_eq h3.1) h
   ·cases hk
  ·cases hk
 ·split at hk
  ·rename_i hu
   split at hk
   ·rename_i h1 h2 h3 h4;cases hk;exact ok_sl3 he ht ho h1 h2 h3 hu h4 h
   ·cases hk
  ·cases hk
 ·split at hk
  ·rename_i hu
   split at hk
   ·rename_i h1 h2 h3;cases hk;exact ok_slstr he ht ho h1 h2 h3 hu h
   ·cases hk
  ·rename_i hu
   split at hk
   ·rename_i h1 h2 h3 h4;cases hk
    split at h
    ·rename_i hc
     exact ok_slu he ht ho h1 h2 h3 hu (by rw[h4,hc.2]) h
    ·refine ok_slsl he ht ho h1 h2 h3 hu h4 ?_
     cases draw with
     |false=>exact h
     |true=>exact slDI_sl h
   ·cases hk
  ·cases hk
 ·split at hk
  ·rename_i hu
   split at hk
   ·rename_i h1 h2
    split at hk
    ·rename_i h3;cases hk;exact ok_faddr he ht ho h2 hu h1 h3 h
    ·cases hk
   ·cases hk
  ·cases hk
 ·split at hk
  ·rename_i hu
   split at hk
   ·rename_i h1 h2
    split at hk
    ·rename_i h3 h4;cases hk;exact ok_field he ht ho h2 hu h1 h3 h4 h
    ·cases hk
   ·cases hk
  ·cases hk
 ·split at hk
  ·rename_i hu
   split at hk
   ·rename_i h1 h2 h3;cases hk;exact ok_ixarr he ht ho h2 h3 hu h1 h
   ·cases hk
  ·rename_i hu
   split at hk
   ·rename_i h1 h2 h3;cases hk;exact ok_ixsl he ht ho h2 h3 hu h1 h
   ·cases hk
  ·cases hk
 ·split at hk
  ·rename_i hu
   split at hk
   ·rename_i h1 h2 h3 h4;cases hk;exact ok_ixval he ht ho h3 h4 hu h1 h2 h
   ·cases hk
  ·rename_i hu
   split at hk
   ·rename_i h1 h2;cases hk;exact ok_ixstr he ht ho h1 h2 hu h
   ·cases hk
  ·cases hk
 ·split at hk
  ·rename_i hf
   obtain⟨cs,hc,rfl⟩:=opt_map hk
   exact ok_clo he ht ho hf hc h
  ·split at hk
   ·rename_i x hf hc
    obtain⟨x',hx,rfl⟩:=opt_map hk
    exact ok_mkb he ht ho hf hc hx h
   ·cases hk
 ·obtain⟨x',hx,rfl⟩:=opt_map hk
  exact ok_ext he ht ho hx h
 ·obtain⟨x',hx,rfl⟩:=opt_map hk
  exact ok_nilck he ht ho hx h
 ·split at hk
  ·rename_i hu
   split at hk
   ·rename_i h1 h2 h3 h4 h5
    split at hk
    ·rename_i hc;cases hk;exact ok_mksl he ht ho h4 h5 hu h1 h2 h3 hc.1 hc.2 h
    ·cases hk
   ·cases hk
  ·cases hk
 ·split at hk
  ·rename_i hcal
   split at hk
   ·rename_i h1 h2
    cases hk
    cases draw with
    |true=>exact ok_calld he ht ho hcal h1 h2 h
    |false=>exact ok_call he ht ho hcal h1 h2 h
   ·cases hk
  ·rename_i hcal
   exact builtin_ok he ht ho hcal hk h
  ·cases hk
 ·split at hk
  ·rename_i hu
   obtain⟨x',hx,rfl⟩:=opt_map hk
   exact ok_rstr he ht ho hx hu h
  ·rename_i hu
   obtain⟨x',hx,rfl⟩:=opt_map hk
   exact ok_rmap he ht ho hx hu h
  ·cases hk
 ·obtain⟨x',hx,rfl⟩:=opt_map hk
  exact ok_nmap he ht ho hx h
 ·obtain⟨x',hx,rfl⟩:=opt_map hk
  exact ok_entry he ht ho hx h
 ·cases hk
  exact ok_mkmap he ho h
 ·split at hk
  ·rename_i hu
   split at hk
   ·rename_i h1 h2 h3 h4;cases hk;exact ok_lkup he ht ho hu h1 h2 h3 h4 h
   ·cases hk
  ·cases hk
 ·split at hk
  ·rename_i hu
   split at hk
   ·rename_i h1 h2 h3 h4;cases hk;exact ok_mupd he ht ho hu h1 h2 h3 h4 h
   ·cases hk
  ·cases hk
 ·obtain⟨x',hx,rfl⟩:=opt_map hk
  exact ok_nstr he ht ho hx h
 ·cases hk
theorem op_ok(he:Env M G os w)(ht:Tmps M G os ρ a){o:Oper}{draw:Bool}{k:IK}(hk:cIK P draw o.op=some k)(h:opI P ρ os K k):OpOK P M G os w K (execOp a.eval o):=by
 by_cases hs:k=.stop
 ·subst hs;exact h.elim
 ·exact op_ok0 he ht (cIK_of hk hs) h
end
end Go.Bi
