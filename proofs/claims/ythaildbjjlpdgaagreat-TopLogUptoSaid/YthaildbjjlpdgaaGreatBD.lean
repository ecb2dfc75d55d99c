/- Soundness of the single operations, first part: values. No condition. -/
import Derived.Test.YthaildbjjlpdgaaGreatBC
set_option linter.unusedVariables false
namespace Go.Bi
set_option linter.unusedSectionVars false
variable [Globs]
def OpOK(P:Program)(M:Mem)(G:Gh)(os:List AO)(w:World)(K:AV->List AO->Prop)(s:Sem Next):Prop:=
 match s.run P w with
 |.ok (.value v) w'=>∃M' G' r os',Env M' G' os' w'/\Since M G os w M' G' os' w'/\VA M' G' os' r v/\K r os'
 |.ok .skip w'=>∃M' G' os',Env M' G' os' w'/\Since M G os w M' G' os' w'/\K .junk os'
 |.ok (.enter f args) w'=>w'=w/\Calls P f args w λe w''=>∃v,e=.returned v/\∃M' G' r os',Env M' G' os' w''/\Since M G os w M' G' os' w''/\VA M' G' os' r v/\K r os'
 |_=>False
section
variable {P:Program}{M:Mem}{G:Gh}{os:List AO}{w:World}{ρ:Rho}{a:Act}{K:AV->List AO->Prop}
def Tmps(M:Mem)(G:Gh)(os:List AO)(ρ:Rho)(a:Act):Prop:=∀t,VA M G os (ρ t) (a.tmps.getD t undef)
theorem ok_value{s:Sem Next}{v:Value}{r:AV}(he:Env M G os w)(hr:s.run P w=.ok (.value v) w)(hv:VA M G os r v)(hk:K r os):OpOK P M G os w K s:=by
 unfold OpOK
 rw[hr]
 exact⟨M,G,r,os,he,Since.refl ..,hv,hk⟩
theorem ok_next{s:Sem Next}{v:Value}{r:AV}{M':Mem}{G':Gh}{os':List AO}{w':World}(hr:s.run P w=.ok (.value v) w')(he:Env M' G' os' w')(hs:Since M G os w M' G' os' w')(hv:VA M' G' os' r v)(hk:K r os'):OpOK P M G os w K s:=by
 unfold OpOK
 rw[hr]
 exact⟨M',G',r,os',he,hs,hv,hk⟩
theorem ok_skip{s:Sem Next}{M':Mem}{G':Gh}{os':List AO}{w':World}(hr:s.run P w=.ok .skip w')(he:Env M' G' os' w')(hs:Since M G os w M' G' os' w')(hk:K .junk os'):OpOK P M G os w K s:=by
 unfold OpOK
 rw[hr]
 exact⟨M',G',os',he,hs,hk⟩
theorem toD_rd{v:Value}{x:D}(h:toD v=some x):Rd M x v:=by
 unfold toD at h
 split at h
 ·cases h;exact .int ..
 ·cases h;exact .bool ..
 ·rename_i s
  cases h
  obtain⟨⟨l⟩⟩:=s
  exact .str l
 ·cases h;exact .nil
 ·split at h
  ·rename_i f a b hab
   cases h
   obtain⟨ha,hb⟩:=hab
   rw[Array.size_eq_zero_iff.1 ha,Array.size_eq_zero_iff.1 hb]
   exact .fn f
  ·cases h
 ·cases h;exact .lit _ rfl
 ·cases h;exact .lit _ rfl
 ·cases h;exact .lit _ rfl
 ·cases h;exact .lit _ rfl
 ·cases h
theorem mapM_toD{l:List Value}{xs:List D}(h:l.mapM toD=some xs):xs.length=l.length/\∀(j:Nat) x v,xs[j]?=some x->l[j]?=some v->Rd M x v:=by
 induction l generalizing xs with
 |nil=>simp at h;subst h;simp
 |cons v l ih=>
  simp only[List.mapM_cons,Option.bind_eq_bind,Option.bind_eq_some_iff] at h
  obtain⟨x,hx,xs',hxs,hp⟩:=h
  simp at hp
  subst hp
  obtain⟨i1,i2⟩:=ih hxs
  refine⟨by simp[i1],λj x' v' hj hv=>?_⟩
  cases j with
  |zero=>simp at hj hv;subst hj;subst hv;exact toD_rd hx
  |succ j=>exact i2 j x' v' (by simpa using hj) (by simpa using hv)
theorem VA_agg_mk{cs:List AV}{vs:Array Value}(h1:vs.size=cs.length)(h2:∀(j:Nat) c u,cs[j]?=some c->vs[j]?=some u->VC M G os c u):VA M G os (.agg cs) (.agg vs):=
 ⟨vs,rfl,h1,h2⟩
theorem cO_ev(ht:Tmps M G os ρ a){x:Operand}{y:Opd}(h:cO x=some y):VA M G os (evO ρ y) (a.eval x):=by
 unfold cO at h
 split at h
 ·cases h;exact ht _
 ·rename_i cs
  obtain⟨xs,hxs,hy⟩:=Option.map_eq_some_iff.1 h
  subst hy
  obtain⟨h1,h2⟩:=mapM_toD (M:=M) hxs
  refine VA_agg_mk (by simp[h1]) λj c u hc hu=>?_
  rw[List.getElem?_map] at hc
  obtain⟨x,hx,rfl⟩:=Option.map_eq_some_iff.1 hc
  exact h2 j x u hx (by simpa using hu)
 ·obtain⟨x,hx,hy⟩:=Option.map_eq_some_iff.1 h
  subst hy
  exact toD_rd (M:=M) hx
 ·cases h;exact Rd.fn _
 ·cases h
theorem va_d{x:D}{v:Value}(h:VA M G os (.d x) v):Rd M x v:=h
theorem va_int{k:IntKind}{n:Int}{v:Value}(h:VA M G os (.d (.int k n)) v):v=.int k n:=by cases va_d h;rfl
theorem va_bool{b:Bool}{v:Value}(h:VA M G os (.d (.bool b)) v):v=.bool b:=by cases va_d h;rfl
theorem va_str{s:List UInt8}{v:Value}(h:VA M G os (.d (.str s)) v):v=.string ⟨⟨s⟩⟩:=by cases va_d h;rfl
theorem va_nil{v:Value}(h:VA M G os (.d .nil) v):v=.slice none 0 0:=by cases va_d h;rfl
theorem va_sl{es:List (List D)}{v:Value}(h:VA M G os (.d (.sl es)) v):∃sa cap,v=.slice (some sa) es.length cap:=by cases va_d h<;>exact⟨_,_,rfl⟩
theorem va_fn{f:FuncId}{v:Value}(h:VA M G os (.d (.fn f)) v):v=.func (.func f) #[] #[]:=by cases va_d h;rfl
theorem va_agg{cs:List AV}{v:Value}(h:VA M G os (.agg cs) v):∃vs:Array Value,v=.agg vs/\vs.size=cs.length/\∀(j:Nat) c u,cs[j]?=some c->vs[j]?=some u->VC M G os c u:=h
theorem va_tup{cs:List AV}{v:Value}(h:VA M G os (.tup cs) v):∃vs:Array Value,v=.tuple vs/\vs.size=cs.length/\∀(j:Nat) c u,cs[j]?=some c->vs[j]?=some u->VG M G os c u:=h
theorem va_ptr{id off:Nat}{v:Value}(h:VA M G os (.ptr id off) v):v=.pointer (some ⟨G.blk id,off,none⟩)/\∃cs,os[id]?=some (.cells cs):=h
theorem Rd.int'(k:IntKind)(n:Int):VA M G os (.d (.int k n)) (.int k n):=Rd.int k n
theorem Rd.bool'(b:Bool):VA M G os (.d (.bool b)) (.bool b):=Rd.bool b
theorem Rd.str'(s:List UInt8):VA M G os (.d (.str s)) (.string ⟨⟨s⟩⟩):=Rd.str s
theorem size_mk(s:List UInt8):(ByteArray.mk ⟨s⟩).size=s.length:=rfl
theorem toList_mk(s:List UInt8):(ByteArray.mk ⟨s⟩).toList=s:=by rw[ByteArray.toList_eq]
theorem ok_mv(he:Env M G os w)(ht:Tmps M G os ρ a){o:Oper}{x:Operand}{y:Opd}(ho:o.op=.move x\/o.op=.assign x)(hx:cO x=some y)(h:opI P ρ os K (.mv y)) :
  OpOK P M G os w K (execOp a.eval o):=by
 refine ok_value he (v:=a.eval x) ?_ (cO_ev ht hx) h
 rcases ho with ho|ho<;>simp[execOp,ho]
theorem ok_pick(he:Env M G os w)(ht:Tmps M G os ρ a){o:Oper}{c x y:Operand}{c' x' y':Opd}(ho:o.op=.pick c x y)(hc:cO c=some c')(hx:cO x=some x')(hy:cO y=some y')
  (h:opI P ρ os K (.pick c' x' y')):OpOK P M G os w K (execOp a.eval o):=by
 simp only[opI] at h
 split at h
 ·rename_i t hev
  have e1:=cO_ev ht hc
  rw[hev] at e1
  have e1:=va_bool e1
  cases t with
  |true=>exact ok_value he (v:=a.eval x) (by simp[execOp,ho,e1,asBool]) (cO_ev ht hx) (h.1 rfl)
  |false=>exact ok_value he (v:=a.eval y) (by simp[execOp,ho,e1,asBool]) (cO_ev ht hy) (h.2 rfl)
 ·exact h.elim
theorem ok_un(he:Env M G os w)(ht:Tmps M G os ρ a){o:Oper}{op:UnOp}{t:TypeId}{x:Operand}{x':Opd}(ho:o.op=.unOp op t x)(hx:cO x=some x')
  (h:opI P ρ os K (.un op x')):OpOK P M G os w K (execOp a.eval o):=by
 simp only[opI] at h
 split at h
 ·rename_i d hev
  have e1:=cO_ev ht hx
  rw[hev] at e1
  unfold unD at h
  split at h
  ·exact ok_value he (v:=.int _ _) (by simp[execOp,ho,va_int e1,Op.unary,Op.intArith]) (Rd.int' ..) h
  ·exact ok_value he (v:=.int _ _) (by simp[execOp,ho,va_int e1,Op.unary,Op.intBits]) (Rd.int' ..) h
  ·exact ok_value he (v:=.bool _) (by simp[execOp,ho,va_bool e1,Op.unary]) (Rd.bool' ..) h
  ·exact h.elim
 ·exact h.elim
theorem binI_ok{op:BinOp}{k:IntKind}{x y:Int}{K:D->Prop}(h:binI op k x y K)(hs:op≠.shl)(hs':op≠.shr)(t:TypeId) :
  ∃r v,K r/\(∀w,(binOp op t (.int k x) (.int k y)).run P w=.ok v w)/\Rd M r v:=by
 cases op<;>simp only[binI] at h
 case quo=>exact⟨_,.int k (k.wrap (x.tdiv y)),h.2,λw=>by simp[binOp,Op.intDiv,h.1],Rd.int ..⟩
 case rem=>exact⟨_,.int k (x.tmod y),h.2,λw=>by simp[binOp,Op.intDiv,h.1],Rd.int ..⟩
 case add=>exact⟨_,.int k (k.wrap (x+y)),h,λw=>by simp[binOp,Op.intArith],Rd.int ..⟩
 case sub=>exact⟨_,.int k (k.wrap (x-y)),h,λw=>by simp[binOp,Op.intArith],Rd.int ..⟩
 case mul=>exact⟨_,.int k (k.wrap (x*y)),h,λw=>by simp[binOp,Op.intArith],Rd.int ..⟩
 case and=>exact⟨_,.int k _,h,λw=>by simp[binOp,Op.intBits],Rd.int ..⟩
 case or=>exact⟨_,.int k _,h,λw=>by simp[binOp,Op.intBits],Rd.int ..⟩
 case xor=>exact⟨_,.int k _,h,λw=>by simp[binOp,Op.intBits],Rd.int ..⟩
 case andNot=>exact⟨_,.int k _,h,λw=>by simp[binOp,Op.intBits],Rd.int ..⟩
 all_goals exact⟨_,.bool _,h,λw=>by simp[binOp,Op.intCmp],Rd.bool ..⟩
theorem binS_ok{op:BinOp}{x y:List UInt8}{K:D->Prop}(h:binS op x y K)(t:TypeId) :
  ∃r v,K r/\(∀w,(binOp op t (.string ⟨⟨x⟩⟩) (.string ⟨⟨y⟩⟩)).run P w=.ok v w)/\Rd M r v:=by
 cases op<;>simp only[binS] at h
 case add=>
  obtain⟨h1,h2⟩:=h
  refine⟨_,.string ⟨⟨x++y⟩⟩,h2,λw=>?_,Rd.str _⟩
  have h3:¬(IntKind.i64.max<((x.length:Int)+(y.length:Int))):=by simp[IntKind.max,IntKind.signed,IntKind.bits];omega
  have h4:(ByteArray.mk ⟨x⟩++ByteArray.mk ⟨y⟩)=ByteArray.mk ⟨x++y⟩:=by
   apply ByteArray.ext
   simp[ByteArray.data_append]
  simp only[binOp,Op.stringOp]
  rw[if_neg (by simpa[size_mk] using h3),h4]
  rfl
 all_goals first
  |exact h.elim
  |exact⟨_,.bool _,h,λw=>by simp only[binOp,Op.stringOp,toList_mk];rfl,Rd.bool ..⟩
theorem eqGuard_plain{op:BinOp}{t:TypeId}{x y:Operand}{u v:Value}(h:∀cs,u≠.agg cs)(h':u≠.nilIface)(w:World):(eqGuard op t x y u v).run P w=.ok () w:=by
 cases op<;>simp[eqGuard]<;>(cases u<;>simp_all)
theorem ok_bin(he:Env M G os w)(ht:Tmps M G os ρ a){o:Oper}{op:BinOp}{t t':TypeId}{x y:Operand}{x' y':Opd}(ho:o.op=.binOp op t x y t')(hx:cO x=some x')(hy:cO y=some y')
  (h:opI P ρ os K (.bin op x' y')):OpOK P M G os w K (execOp a.eval o):=by
 have e1:=cO_ev ht hx
 have e2:=cO_ev ht hy
 simp only[opI,binD] at h
 split at h
 ·rename_i k m k' n h1 h2
  rw[h1] at e1
  rw[h2] at e2
  have e1:=va_int e1
  have e2:=va_int e2
  have hg:=λw=>eqGuard_plain (P:=P) (op:=op) (t:=t) (x:=x) (y:=y) (u:=.int k m) (v:=.int k' n) (λ_ h=>by cases h) (λh=>by cases h) w
  split at h
  ·refine ok_value he (v:=.int k _) ?_ (Rd.int' ..) h.2
   have:¬(n<0):=by omega
   simp[execOp,ho,e1,e2,hg,binOp,Op.shift,this]
  ·refine ok_value he (v:=.int k _) ?_ (Rd.int' ..) h.2
   have:¬(n<0):=by omega
   simp[execOp,ho,e1,e2,hg,binOp,Op.shift,this]
  ·rename_i hs hs'
   obtain⟨rfl,h⟩:=h
   obtain⟨r,v,hk,hr,hv⟩:=binI_ok (P:=P) (M:=M) h (λe=>hs e) (λe=>hs' e) t
   exact ok_value he (v:=v) (by simp[execOp,ho,e1,e2,hg,hr]) (show VA M G os (.d r) v from hv) hk
 ·rename_i s u h1 h2
  rw[h1] at e1
  rw[h2] at e2
  have hg:=λw=>eqGuard_plain (P:=P) (op:=op) (t:=t) (x:=x) (y:=y) (u:=.string ⟨⟨s⟩⟩) (v:=.string ⟨⟨u⟩⟩) (λ_ h=>by cases h) (λh=>by cases h) w
  obtain⟨r,v,hk,hr,hv⟩:=binS_ok (P:=P) (M:=M) h t
  exact ok_value he (v:=v) (by simp[execOp,ho,va_str e1,va_str e2,hg,hr]) (show VA M G os (.d r) v from hv) hk
 ·exact h.elim
theorem isNeg_some{op:BinOp}{n:Bool}(h:isNeg op=some n):(op=.eql/\n=false)\/(op=.neq/\n=true):=by
 unfold isNeg at h
 split at h<;>simp_all
theorem ok_eqb(he:Env M G os w)(ht:Tmps M G os ρ a){o:Oper}{op:BinOp}{t t':TypeId}{x y:Operand}{x' y':Opd}{neg:Bool}(ho:o.op=.binOp op t x y t')(hx:cO x=some x')(hy:cO y=some y')
  (hn:isNeg op=some neg) (hu:P.underlying t=some .bool) (h:opI P ρ os K (.eqb neg x' y')):OpOK P M G os w K (execOp a.eval o):=by
 have e1:=cO_ev ht hx
 have e2:=cO_ev ht hy
 simp only[opI] at h
 split at h
 ·rename_i m n h1 h2
  rw[h1] at e1
  rw[h2] at e2
  have e1:=va_bool e1
  have e2:=va_bool e2
  have hg:=λw=>eqGuard_plain (P:=P) (op:=op) (t:=t) (x:=x) (y:=y) (u:=.bool m) (v:=.bool n) (λ_ h=>by cases h) (λh=>by cases h) w
  have hq:=λw=>run_equalIn_bool' (P:=P) w 9999 t m n hu
  rcases isNeg_some hn with ⟨rfl,rfl⟩|⟨rfl,rfl⟩
  ·exact ok_value he (v:=.bool (m==n)) (by simp[execOp,ho,e1,e2,hg,binOp,Op.equal,Op.maxDepth,hq]) (Rd.bool' ..) h
  ·exact ok_value he (v:=.bool (!(m==n))) (by simp[execOp,ho,e1,e2,hg,binOp,Op.equal,Op.maxDepth,hq]) (Rd.bool' ..) h
 ·exact h.elim
theorem run_eqnil(t:TypeId)(e:TypeId)(hu:P.underlying t=some (.slice e))(s:Option Addr)(n c:Nat)(w:World) :
  (Op.equal t (.slice s n c) (.slice none 0 0)).run P w=.ok s.isNone w:=by
 show(Op.equalIn (9999+1) t _ _).run P w=_
 generalize 9999=d
 cases s<;>simp[Op.equalIn,run_underlying hu]
theorem ok_eqnil(he:Env M G os w)(ht:Tmps M G os ρ a){o:Oper}{op:BinOp}{t t' e:TypeId}{x y:Operand}{x':Opd}{neg:Bool}(ho:o.op=.binOp op t x y t')(hx:cO x=some x')(hy:cO y=some (.c .nil))
  (hn:isNeg op=some neg) (hu:P.underlying t=some (.slice e)) (h:opI P ρ os K (.eqnil neg x')):OpOK P M G os w K (execOp a.eval o):=by
 have e1:=cO_ev ht hx
 have e2:=va_nil (cO_ev ht hy)
 have key:∀(s:Option Addr) (n c:Nat) (r:Bool),a.eval x=.slice s n c->r=s.isNone->K (.d (.bool (if neg then !r else r))) os->OpOK P M G os w K (execOp a.eval o):=by
  intro s n c r hv hr hk
  have hg:=λw=>eqGuard_plain (P:=P) (op:=op) (t:=t) (x:=x) (y:=y) (u:=.slice s n c) (v:=.slice none 0 0) (λ_ h=>by cases h) (λh=>by cases h) w
  have hq:=run_eqnil (P:=P) t e hu s n c
  rcases isNeg_some hn with ⟨rfl,rfl⟩|⟨rfl,rfl⟩
  ·exact ok_value he (v:=.bool s.isNone) (by simp[execOp,ho,hv,e2,hg,binOp,hq]) (Rd.bool' ..) (by simpa[hr] using hk)
  ·exact ok_value he (v:=.bool (!s.isNone)) (by simp[execOp,ho,hv,e2,hg,binOp,hq]) (Rd.bool' ..) (by simpa[hr] using hk)
 simp only[opI] at h
 split at h
 ·rename_i h1
  rw[h1] at e1
  exact key none 0 0 true (va_nil e1) rfl (by cases neg<;>exact h)
 ·rename_i es h1
  rw[h1] at e1
  obtain⟨sa,cap,he⟩:=va_sl e1
  exact key _ _ _ false he rfl (by cases neg<;>exact h)
 ·rename_i id len h1
  rw[h1] at e1
  split at h
  ·rename_i es sz frz nl h2
   obtain⟨_,es',sz',frz',nl',h3,h4,h5⟩:=e1
   rw[h2] at h3
   cases h3
   have h6:=h5 h.1
   unfold Gh.slv at h6
   cases nl with
   |true=>exact key none 0 0 true (by simpa using h6) rfl h.2
   |false=>exact key _ _ _ false (by simpa using h6) rfl h.2
  ·exact h.elim
 ·exact h.elim
theorem ok_conv(he:Env M G os w)(ht:Tmps M G os ρ a){o:Oper}{s d:TypeId}{x:Operand}{x':Opd}{k k0:IntKind}(ho:o.op=.convert s d x)(hx:cO x=some x')
  (hs:P.underlying s=some (.int k0)) (hd:P.underlying d=some (.int k)) (h:opI P ρ os K (.conv k x')):OpOK P M G os w K (execOp a.eval o):=by
 have e1:=cO_ev ht hx
 simp only[opI] at h
 split at h
 ·rename_i k1 n h1
  rw[h1] at e1
  exact ok_value he (v:=.int k (k.wrap n)) (by simp[execOp,ho,va_int e1,convert,run_underlying hs,run_underlying hd,Conv.intToInt]) (Rd.int' ..) h
 ·exact h.elim
theorem ok_convs(he:Env M G os w)(ht:Tmps M G os ρ a){o:Oper}{s d:TypeId}{x:Operand}{x':Opd}(ho:o.op=.convert s d x)(hx:cO x=some x')
  (hs:P.underlying s=some .string) (hd:P.underlying d=some .string) (h:opI P ρ os K (.cvs x')):OpOK P M G os w K (execOp a.eval o):=by
 have e1:=cO_ev ht hx
 simp only[opI] at h
 split at h
 ·rename_i b h1
  rw[h1] at e1
  exact ok_value he (v:=.string ⟨⟨b⟩⟩) (by simp[execOp,ho,va_str e1,convert,run_underlying hs,run_underlying hd]) (Rd.str' _) h
 ·exact h.elim
end
end Go.Bi
