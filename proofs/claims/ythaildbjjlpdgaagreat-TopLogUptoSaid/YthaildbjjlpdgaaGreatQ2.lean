/- Texts of this claim, joined. No condition. -/
import Derived.Test.YthaildbjjlpdgaaGreatQ1
set_option linter.unusedSimpArgs false
set_option linter.unusedVariables false
set_option maxRecDepth 10000
set_option maxHeartbeats 4000000
section
namespace Go.Proofs
open Go.Bi
abbrev WS(s:List UInt8):List AO:=[.cells [.arr 1 (byteL s).length],.arr (byteL s) 1 0 s.isEmpty]
abbrev Wr(f:FuncId)(xs:List AV)(s t:List UInt8):Prop:=CallSpec Tryz.prog f (.ptr 0 0::xs) (WS s) (λr os=>r=.tup []/\os=WS (s++t))
theorem mG_data{f:Nat->Nat}:∀{a:AV},a.isDB=true->mG f a=a
 |.d _,_=>rfl
 |.agg cs,h=>by
  have h:cs.all AV.isd=true:=h
  simp only[mG]
  congr 1
  conv=>rhs;rw[<- List.map_id cs]
  refine List.map_congr_left λc hc=>?_
  have:=List.all_eq_true.1 h c hc
  cases c with
  |d x=>rfl
  |_=>cases this
theorem bnd_data{m:Nat}:∀{a:AV},a.isDB=true->a.bnd2 m
 |.d _,_=>trivial
 |.agg cs,h=>λc hc=>by
  have:=List.all_eq_true.1 (show cs.all AV.isd=true from h) c hc
  cases c with
  |d x=>trivial
  |_=>cases this
theorem Wr.ext{f:FuncId}{xs:List AV}{s t:List UInt8}(h:Wr f xs s t)(has:xs.all AV.isDB=true)(rest:List AO):CallSpec Tryz.prog f (.ptr 0 0::xs) (WS s++rest) (λr os=>r=.tup []/\os=WS (s++t)++rest):=by
 have h2:=CallSpec.frame (K:=λr os=>r=.tup []/\os=WS (s++t)++rest) h [0,1] (WS s++rest) rfl (by decide) (λi o ho=>by
   match i with
   |0=>simp at ho;subst ho;rfl
   |1=>simp at ho;subst ho;rfl
   |i+2=>simp at ho) (λa ha=>by
   rcases List.mem_cons.1 ha with rfl|ha
   ·exact Nat.zero_lt_succ 1
   ·exact bnd_data (List.all_eq_true.1 has a ha)) (λo ho=>by
   rcases List.mem_cons.1 ho with rfl|ho
   ·intro c hc;cases List.mem_singleton.1 hc;exact Nat.lt_succ_self 1
   ·cases List.mem_singleton.1 ho;trivial) (λr bs' hq=>by
   obtain⟨rfl,rfl⟩:=hq
   refine⟨rfl,?_⟩
   show(WS (s++t)++rest)++[]=_
   rw[List.append_nil])
 have e:(AV.ptr 0 0::xs).map (mG (rn [0,1] (WS s++rest).length))=.ptr 0 0::xs:=by
  rw[List.map_cons]
  congr 1
  conv=>rhs;rw[<- List.map_id xs]
  exact List.map_congr_left λa ha=>mG_data (List.all_eq_true.1 has a ha)
 rw[e] at h2
 exact h2
theorem isE_app{s t:List UInt8}(h:t≠[]):(s++t).isEmpty=false:=by cases s<;>cases t<;>first|rfl|exact absurd rfl h
theorem encT_ne(t:List UInt8):encT t≠[]:=by
 unfold encT
 intro h
 exact encI_pos _ (List.append_eq_nil_iff.1 h).1
theorem encV_ne(v:Vl):encV v≠[]:=by
 unfold encV
 split
 ·simp
 ·split
  ·simp
  ·split<;>simp
theorem encR_ne(l:List Vl):encR l≠[]:=by
 unfold encR
 intro h
 exact encI_pos _ (List.append_eq_nil_iff.1 h).1
theorem encP_ne(a b:Int):encP a b≠[]:=by
 unfold encP
 intro h
 exact encI_pos _ (List.append_eq_nil_iff.1 h).1
theorem C.buffer_int(s:List UInt8)(hs:s.length<=536870912)(n:Int)(h:I64 n):Wr N.precord_buffer_int [.d (eI n)] s (encI n):=by
 have hP:=C.PutInt n h
 have hn:encI n≠[]:=encI_pos n
 have hl:(encI n).length<=268435456:=Nat.le_trans (encI_len h) (by decide)
 unfold Wr WS
 rw[byteL_app,isE_app hn]
 have h1:=byteL_l s
 have h2:=byteL_l (encI n)
 have h3:=byteL_1 (encI n)
 have h4:(byteL (encI n)).isEmpty=false:=by cases he:encI n with|nil=>exact absurd he hn|cons=>rfl
 have hbd:((byteL s).length+(byteL (encI n)).length)*1<=140737488355328/\(byteL s).length+(byteL (encI n)).length<=9223372036854775807:=by omega
 obtain⟨z,hz⟩:∃z,z=byteL (encI n):=⟨_,rfl⟩
 obtain⟨y,hy⟩:∃y,y=byteL s:=⟨_,rfl⟩
 rw[<- hz] at hP h2 h3 h4 hbd ⊢
 rw[<- hy] at h1 hbd ⊢
 obtain⟨e,he⟩:∃e,e=s.isEmpty:=⟨_,rfl⟩
 rw[<- he]
 refine F.precord_buffer_int.goX mixed rfl ?_
 repeat' first|refine st ?_|refine⟨λ_=>?_,λ_=>?_⟩|fail
 all_goals (rw[h4];exact⟨rfl,rfl⟩)
theorem C.buffer_text(s:List UInt8)(hs:s.length<=536870912)(t:List UInt8)(h:t.length<=1048576):Wr N.precord_buffer_text [.d (.str t)] s (encT t):=by
 have hP:=C.PutText t (by omega)
 have hn:encT t≠[]:=encT_ne t
 have hl:(encT t).length<=268435456:=by
  have:=encI_len (n:=t.length) ⟨by omega,by omega⟩
  rw[encT,List.length_append];omega
 unfold Wr WS
 rw[byteL_app,isE_app hn]
 have h1:=byteL_l s
 have h2:=byteL_l (encT t)
 have h3:=byteL_1 (encT t)
 have h4:(byteL (encT t)).isEmpty=false:=by cases he:encT t with|nil=>exact absurd he hn|cons=>rfl
 have hbd:((byteL s).length+(byteL (encT t)).length)*1<=140737488355328/\(byteL s).length+(byteL (encT t)).length<=9223372036854775807:=by omega
 obtain⟨z,hz⟩:∃z,z=byteL (encT t):=⟨_,rfl⟩
 obtain⟨y,hy⟩:∃y,y=byteL s:=⟨_,rfl⟩
 rw[<- hz] at hP h2 h3 h4 hbd ⊢
 rw[<- hy] at h1 hbd ⊢
 obtain⟨e,he⟩:∃e,e=s.isEmpty:=⟨_,rfl⟩
 rw[<- he]
 refine F.precord_buffer_text.goX mixed rfl ?_
 repeat' first|refine st ?_|refine⟨λ_=>?_,λ_=>?_⟩|fail
 all_goals (rw[h4];exact⟨rfl,rfl⟩)
theorem C.buffer_value(s:List UInt8)(hs:s.length<=536870912)(v:Vl)(h:vValid v=true):Wr N.precord_buffer_value [eV v] s (encV v):=by
 have hP:=C.PutValue_nil v h
 have hn:encV v≠[]:=encV_ne v
 have hl:(encV v).length<=268435456:=Nat.le_trans (encV_len h) (by decide)
 unfold Wr WS
 rw[byteL_app,isE_app hn]
 have h1:=byteL_l s
 have h2:=byteL_l (encV v)
 have h3:=byteL_1 (encV v)
 have h4:(byteL (encV v)).isEmpty=false:=by cases he:encV v with|nil=>exact absurd he hn|cons=>rfl
 have hbd:((byteL s).length+(byteL (encV v)).length)*1<=140737488355328/\(byteL s).length+(byteL (encV v)).length<=9223372036854775807:=by omega
 obtain⟨z,hz⟩:∃z,z=byteL (encV v):=⟨_,rfl⟩
 obtain⟨y,hy⟩:∃y,y=byteL s:=⟨_,rfl⟩
 rw[<- hz] at hP h2 h3 h4 hbd ⊢
 rw[<- hy] at h1 hbd ⊢
 obtain⟨e,he⟩:∃e,e=s.isEmpty:=⟨_,rfl⟩
 rw[<- he]
 refine F.precord_buffer_value.goX mixed rfl ?_
 repeat' first|refine st ?_|refine⟨λ_=>?_,λ_=>?_⟩|fail
 all_goals (rw[h4];exact⟨rfl,rfl⟩)
theorem C.buffer_row(s:List UInt8)(hs:s.length<=536870912)(l:List Vl)(hl0:l.length<=1048576)(h:∀v∈l,vValid v=true)(d:D)(hd:SlD d (eVs l)):Wr N.precord_buffer_row [.d d] s (encR l):=by
 have hP:=C.PutRow l hl0 h d hd
 have hn:encR l≠[]:=encR_ne l
 have hl:(encR l).length<=268435456:=by
  have h1:=encI_len (n:=l.length) ⟨by omega,by omega⟩
  have h2:=encVs_len h
  rw[encR,List.length_append];omega
 unfold Wr WS
 rw[byteL_app,isE_app hn]
 have h1:=byteL_l s
 have h2:=byteL_l (encR l)
 have h3:=byteL_1 (encR l)
 have h4:(byteL (encR l)).isEmpty=false:=by cases he:encR l with|nil=>exact absurd he hn|cons=>rfl
 have hbd:((byteL s).length+(byteL (encR l)).length)*1<=140737488355328/\(byteL s).length+(byteL (encR l)).length<=9223372036854775807:=by omega
 obtain⟨z,hz⟩:∃z,z=byteL (encR l):=⟨_,rfl⟩
 obtain⟨y,hy⟩:∃y,y=byteL s:=⟨_,rfl⟩
 rw[<- hz] at hP h2 h3 h4 hbd ⊢
 rw[<- hy] at h1 hbd ⊢
 obtain⟨e,he⟩:∃e,e=s.isEmpty:=⟨_,rfl⟩
 rw[<- he]
 refine F.precord_buffer_row.goX mixed rfl ?_
 repeat' first|refine st ?_|refine⟨λ_=>?_,λ_=>?_⟩|fail
 all_goals (rw[h4];exact⟨rfl,rfl⟩)
theorem C.buffer_period(s:List UInt8)(hs:s.length<=536870912)(a b:Int)(ha:I64 a)(hb:I64 b):Wr N.precord_buffer_period [eP a b] s (encP a b):=by
 have hP:=C.PutPeriod a b ha hb
 have hn:encP a b≠[]:=encP_ne a b
 have hl:(encP a b).length<=268435456:=by
  have h1:=encI_len ha
  have h2:=encI_len hb
  rw[encP,List.length_append];omega
 unfold Wr WS
 rw[byteL_app,isE_app hn]
 have h1:=byteL_l s
 have h2:=byteL_l (encP a b)
 have h3:=byteL_1 (encP a b)
 have h4:(byteL (encP a b)).isEmpty=false:=by cases he:encP a b with|nil=>exact absurd he hn|cons=>rfl
 have hbd:((byteL s).length+(byteL (encP a b)).length)*1<=140737488355328/\(byteL s).length+(byteL (encP a b)).length<=9223372036854775807:=by omega
 obtain⟨z,hz⟩:∃z,z=byteL (encP a b):=⟨_,rfl⟩
 obtain⟨y,hy⟩:∃y,y=byteL s:=⟨_,rfl⟩
 rw[<- hz] at hP h2 h3 h4 hbd ⊢
 rw[<- hy] at h1 hbd ⊢
 obtain⟨e,he⟩:∃e,e=s.isEmpty:=⟨_,rfl⟩
 rw[<- he]
 refine F.precord_buffer_period.goX mixed rfl ?_
 repeat' first|refine st ?_|refine⟨λ_=>?_,λ_=>?_⟩|fail
 all_goals (rw[h4];exact⟨rfl,rfl⟩)
def b2i(b:Bool):Int:=if b then 1 else 0
theorem b2i_I(b:Bool):I64 (b2i b):=by cases b<;>exact⟨by decide,by decide⟩
theorem C.buffer_bool(s:List UInt8)(hs:s.length<=536870912)(b:Bool):Wr N.precord_buffer_bool [.d (.bool b)] s (encI (b2i b)):=by
 have h:=C.buffer_int s hs (b2i b) (b2i_I b)
 cases b with
 |true=>
  rw[show b2i true=1 from rfl] at h ⊢
  refine F.precord_buffer_bool.goX mixed rfl ?_
  repeat' first|refine st ?_|((with_reducible first|apply k_nc|apply k_cs);(·exact h);(try rintro _ _ ⟨rfl,rfl⟩))|((with_reducible apply k_pr);(·exact h))|refine⟨λ_=>?_,λ_=>?_⟩|fail
  all_goals exact⟨rfl,rfl⟩
 |false=>
  rw[show b2i false=0 from rfl] at h ⊢
  refine F.precord_buffer_bool.goX mixed rfl ?_
  repeat' first|refine st ?_|((with_reducible first|apply k_nc|apply k_cs);(·exact h);(try rintro _ _ ⟨rfl,rfl⟩))|((with_reducible apply k_pr);(·exact h))|refine⟨λ_=>?_,λ_=>?_⟩|fail
  all_goals exact⟨rfl,rfl⟩
end Go.Proofs
end
section
namespace Go.Proofs
open Go.Bi
attribute [local irreducible] Go.Utf8.decode
end Go.Proofs
end
section
namespace Go.Proofs
open Go.Bi
structure Co where
 nm:List UInt8
 k:Int
 nl:Bool
abbrev Co.ds(c:Co):List D:=[.str c.nm,eI c.k,.bool c.nl]
def eCs(l:List Co):List (List D):=l.map Co.ds
theorem eCs_len(l:List Co):(eCs l).length=l.length:=by simp[eCs]
theorem eCs_get{l:List Co}{i:Nat}{c:Co}(h:l[i]?=some c):(eCs l)[i]?=some c.ds:=by simp[eCs,h]
theorem eCs_mem(l:List Co):∀e∈eCs l,e.length=3:=by
 intro e he
 obtain⟨x,_,rfl⟩:=List.mem_map.1 he
 rfl
def kd(l:List Co):List Int:=l.map Co.k
def Kt(l:List Co)(i:Nat):List (List D):=eIs (kd (l.take i))
end Go.Proofs
end
section
namespace Go.Proofs
open Go.Bi
structure Fk where
 nl:Bool
 cs:List Int
 tb:List UInt8
abbrev Fk.ds(x:Fk):List D:=[ng x.nl (eIs x.cs),.str x.tb]
def eFk(l:List Fk):List (List D):=l.map Fk.ds
structure Ta where
 nm:List UInt8
 n1:Bool
 cs:List Co
 n2:Bool
 ks:List Int
 n3:Bool
 fs:List Fk
 n4:Bool
 xs:List Ex
abbrev Ta.ds(x:Ta):List D:=[.str x.nm,ng x.n1 (eCs x.cs),ng x.n2 (eIs x.ks),ng x.n3 (eFk x.fs),ng x.n4 (xL x.xs)]
structure Cg where
 k:Int
 nm:List UInt8
 to:List UInt8
 co:Co
 df:Vl
abbrev Cg.ds(x:Cg):List D:=[eI x.k,.str x.nm,.str x.to,.str x.co.nm,eI x.co.k,.bool x.co.nl,eI x.df.k,eI x.df.n,.str x.df.s]
structure Ey where
 tm:Int
 tb:List UInt8
 cr:Ta
 ch:Cg
abbrev Ey.ds(x:Ey):List D:=[eI x.tm,.str x.tb,.str x.cr.nm,ng x.cr.n1 (eCs x.cr.cs),ng x.cr.n2 (eIs x.cr.ks),ng x.cr.n3 (eFk x.cr.fs),ng x.cr.n4 (xL x.cr.xs),eI x.ch.k,.str x.ch.nm,.str x.ch.to,.str x.ch.co.nm,eI x.ch.co.k,.bool x.ch.co.nl,eI x.ch.df.k,eI x.ch.df.n,.str x.ch.df.s]
def eEy(l:List Ey):List (List D):=l.map Ey.ds
structure Fa where
 nl:Bool
 r:List Vl
 a:Int
 b:Int
abbrev Fa.ds(x:Fa):List D:=[ng x.nl (eVs x.r),eI x.a,eI x.b]
def eFa(l:List Fa):List (List D):=l.map Fa.ds
structure De where
 tb:List UInt8
 n1:Bool
 cl:List Int
 n2:Bool
 op:List Fa
abbrev De.ds(x:De):List D:=[.str x.tb,ng x.n1 (eIs x.cl),ng x.n2 (eFa x.op)]
def eDe(l:List De):List (List D):=l.map De.ds
structure Ho where
 nm:List UInt8
 tb:List UInt8
 va:Int
 vb:Int
 sa:Int
 sb:Int
abbrev Ho.ds(x:Ho):List D:=[.str x.nm,.str x.tb,eI x.va,eI x.vb,eI x.sa,eI x.sb]
def eHo(l:List Ho):List (List D):=l.map Ho.ds
structure Pk where
 tb:List UInt8
 n:Int
abbrev Pk.ds(x:Pk):List D:=[.str x.tb,eI x.n]
def ePk(l:List Pk):List (List D):=l.map Pk.ds
def eSt(l:List (List UInt8)):List (List D):=l.map λs=>[.str s]
abbrev av(l:List D):AV:=.agg (l.map .d)
theorem flat_take{α:Type}{f:α->List UInt8}{l:List α}{i:Nat}{x:α}(h:l[i]?=some x):(l.take (i+1)).flatMap f=(l.take i).flatMap f++f x:=by
 simp[List.take_add_one,h]
theorem flat_le{α:Type}(f:α->List UInt8)(l:List α)(i:Nat):((l.take i).flatMap f).length<=(l.flatMap f).length:=by
 conv=>rhs;rw[<- List.take_append_drop i l,List.flatMap_append,List.length_append]
 omega
def encL{α:Type}(f:α->List UInt8)(l:List α):List UInt8:=encI l.length++l.flatMap f
theorem eFk_len(l:List Fk):(eFk l).length=l.length:=by simp[eFk]
theorem eFk_get{l:List Fk}{i:Nat}{x:Fk}(h:l[i]?=some x):(eFk l)[i]?=some (x.ds):=by simp[eFk,h]
theorem eFk_mem(l:List Fk):∀e∈eFk l,e.length=2:=by
 intro e he
 obtain⟨x,_,rfl⟩:=List.mem_map.1 he
 rfl
theorem eEy_len(l:List Ey):(eEy l).length=l.length:=by simp[eEy]
theorem eEy_get{l:List Ey}{i:Nat}{x:Ey}(h:l[i]?=some x):(eEy l)[i]?=some (x.ds):=by simp[eEy,h]
theorem eEy_mem(l:List Ey):∀e∈eEy l,e.length=16:=by
 intro e he
 obtain⟨x,_,rfl⟩:=List.mem_map.1 he
 rfl
theorem eFa_len(l:List Fa):(eFa l).length=l.length:=by simp[eFa]
theorem eFa_get{l:List Fa}{i:Nat}{x:Fa}(h:l[i]?=some x):(eFa l)[i]?=some (x.ds):=by simp[eFa,h]
theorem eFa_mem(l:List Fa):∀e∈eFa l,e.length=3:=by
 intro e he
 obtain⟨x,_,rfl⟩:=List.mem_map.1 he
 rfl
theorem eDe_len(l:List De):(eDe l).length=l.length:=by simp[eDe]
theorem eDe_get{l:List De}{i:Nat}{x:De}(h:l[i]?=some x):(eDe l)[i]?=some (x.ds):=by simp[eDe,h]
theorem eDe_mem(l:List De):∀e∈eDe l,e.length=3:=by
 intro e he
 obtain⟨x,_,rfl⟩:=List.mem_map.1 he
 rfl
theorem eHo_len(l:List Ho):(eHo l).length=l.length:=by simp[eHo]
theorem eHo_get{l:List Ho}{i:Nat}{x:Ho}(h:l[i]?=some x):(eHo l)[i]?=some (x.ds):=by simp[eHo,h]
theorem eHo_mem(l:List Ho):∀e∈eHo l,e.length=6:=by
 intro e he
 obtain⟨x,_,rfl⟩:=List.mem_map.1 he
 rfl
theorem ePk_len(l:List Pk):(ePk l).length=l.length:=by simp[ePk]
theorem ePk_get{l:List Pk}{i:Nat}{x:Pk}(h:l[i]?=some x):(ePk l)[i]?=some (x.ds):=by simp[ePk,h]
theorem ePk_mem(l:List Pk):∀e∈ePk l,e.length=2:=by
 intro e he
 obtain⟨x,_,rfl⟩:=List.mem_map.1 he
 rfl
theorem eSt_len(l:List (List UInt8)):(eSt l).length=l.length:=by simp[eSt]
theorem eSt_get{l:List (List UInt8)}{i:Nat}{x:(List UInt8)}(h:l[i]?=some x):(eSt l)[i]?=some ([.str x]):=by simp[eSt,h]
theorem eSt_mem(l:List (List UInt8)):∀e∈eSt l,e.length=1:=by
 intro e he
 obtain⟨x,_,rfl⟩:=List.mem_map.1 he
 rfl
theorem C.put_int(l:List Int)(enc:Int->List UInt8)(f:FuncId)(d:D)(hd:SlD d (eIs l))(hl:l.length<=1048576)(s:List UInt8)(hs:s.length+(encL enc l).length<=536870912)
  (hone:∀x∈l,∀s:List UInt8,s.length+(enc x).length<=536870912->Wr f [.d (eI x)] s (enc x)):Wr N.record_put_int [.d d,.d (.fn f)] s (encL enc l):=by
 rw[encL,List.length_append] at hs
 have h0:=C.buffer_int s (by omega) l.length ⟨by omega,by omega⟩
 have e1:=eIs_len l
 have e2:=eIs_mem l
 have e3:=λi x=>@eIs_get l i x
 obtain⟨es,hes⟩:∃z,z=eIs l:=⟨_,rfl⟩
 rw[<- hes] at hd e1 e2 e3
 clear hes
 rw[<- e1] at h0
 unfold encL
 rw[<- e1] at hs ⊢
 obtain⟨q,hq⟩:∃q,q=encI es.length:=⟨_,rfl⟩
 rw[<- hq] at h0 hs ⊢
 clear hq
 refine F.record_put_int.goX mixed rfl ?_
 repeat' first|refine st ?_|((with_reducible apply go_i);conv=>whnf)|((with_reducible first|apply k_nc|apply k_cs);(·exact h0);(try rintro _ _ ⟨rfl,rfl⟩))|((with_reducible apply k_pr);(·exact h0))|refine⟨λ_=>?_,λ_=>?_⟩|fail
 refine x_loop2 mixed Lt.record_put_int_l0 Lk.record_put_int_l0 (λ(i:Nat) (w:List UInt8)=>[.d (eI i)]) (λi w=>WS w) (λi w=>i<=l.length/\w=s++q++(l.take i).flatMap enc) (λi w=>l.length-i) 0 (s++q) rfl rfl rfl rfl (λ_ _ _=>⟨rfl,rfl⟩) rfl ⟨by omega,by simp⟩ ?_
 repeat' first|refine st ?_|((with_reducible apply go_i);conv=>whnf)|refine⟨λ_=>?_,λ_=>?_⟩|fail
 intro i w ⟨i1,i2⟩
 by_cases hi:i<l.length
 ·obtain⟨x,hx⟩:∃x,l[i]?=some x:=⟨_,List.getElem?_eq_getElem hi⟩
  have htk:=flat_take (f:=enc) hx
  have hw:w.length+(enc x).length<=536870912:=by
   have:=flat_le enc l (i+1)
   rw[htk,List.length_append] at this
   rw[i2,List.length_append,List.length_append]
   omega
  have hget:=e3 i x hx
  have hc:=hone x (List.mem_of_getElem? hx) w hw
  repeat' first|refine st ?_|((with_reducible apply go_i);conv=>whnf)|((with_reducible first|apply k_nc|apply k_cs);(·exact hc);(try rintro _ _ ⟨rfl,rfl⟩))|((with_reducible apply k_pr);(·exact hc))|refine⟨λ_=>?_,λ_=>?_⟩|fail
  all_goals exact⟨i+1,w++enc x,rfl,rfl,rfl,by omega,by omega,by rw[htk,i2,List.append_assoc (s++q)]⟩
 ·have hi:i=l.length:=by omega
  subst hi
  rw[List.take_length] at i2
  rw[<- List.append_assoc,<- i2]
  repeat' first|refine st ?_|((with_reducible apply go_i);conv=>whnf)|refine⟨λ_=>?_,λ_=>?_⟩|fail
  all_goals exact⟨rfl,rfl⟩
theorem C.put_string(l:List (List UInt8))(enc:(List UInt8)->List UInt8)(f:FuncId)(d:D)(hd:SlD d (eSt l))(hl:l.length<=1048576)(s:List UInt8)(hs:s.length+(encL enc l).length<=536870912)
  (hone:∀x∈l,∀s:List UInt8,s.length+(enc x).length<=536870912->Wr f [.d (.str x)] s (enc x)):Wr N.record_put_string [.d d,.d (.fn f)] s (encL enc l):=by
 rw[encL,List.length_append] at hs
 have h0:=C.buffer_int s (by omega) l.length ⟨by omega,by omega⟩
 have e1:=eSt_len l
 have e2:=eSt_mem l
 have e3:=λi x=>@eSt_get l i x
 obtain⟨es,hes⟩:∃z,z=eSt l:=⟨_,rfl⟩
 rw[<- hes] at hd e1 e2 e3
 clear hes
 rw[<- e1] at h0
 unfold encL
 rw[<- e1] at hs ⊢
 obtain⟨q,hq⟩:∃q,q=encI es.length:=⟨_,rfl⟩
 rw[<- hq] at h0 hs ⊢
 clear hq
 refine F.record_put_string.goX mixed rfl ?_
 repeat' first|refine st ?_|((with_reducible apply go_i);conv=>whnf)|((with_reducible first|apply k_nc|apply k_cs);(·exact h0);(try rintro _ _ ⟨rfl,rfl⟩))|((with_reducible apply k_pr);(·exact h0))|refine⟨λ_=>?_,λ_=>?_⟩|fail
 refine x_loop2 mixed Lt.record_put_string_l0 Lk.record_put_string_l0 (λ(i:Nat) (w:List UInt8)=>[.d (eI i)]) (λi w=>WS w) (λi w=>i<=l.length/\w=s++q++(l.take i).flatMap enc) (λi w=>l.length-i) 0 (s++q) rfl rfl rfl rfl (λ_ _ _=>⟨rfl,rfl⟩) rfl ⟨by omega,by simp⟩ ?_
 repeat' first|refine st ?_|((with_reducible apply go_i);conv=>whnf)|refine⟨λ_=>?_,λ_=>?_⟩|fail
 intro i w ⟨i1,i2⟩
 by_cases hi:i<l.length
 ·obtain⟨x,hx⟩:∃x,l[i]?=some x:=⟨_,List.getElem?_eq_getElem hi⟩
  have htk:=flat_take (f:=enc) hx
  have hw:w.length+(enc x).length<=536870912:=by
   have:=flat_le enc l (i+1)
   rw[htk,List.length_append] at this
   rw[i2,List.length_append,List.length_append]
   omega
  have hget:=e3 i x hx
  have hc:=hone x (List.mem_of_getElem? hx) w hw
  repeat' first|refine st ?_|((with_reducible apply go_i);conv=>whnf)|((with_reducible first|apply k_nc|apply k_cs);(·exact hc);(try rintro _ _ ⟨rfl,rfl⟩))|((with_reducible apply k_pr);(·exact hc))|refine⟨λ_=>?_,λ_=>?_⟩|fail
  all_goals exact⟨i+1,w++enc x,rfl,rfl,rfl,by omega,by omega,by rw[htk,i2,List.append_assoc (s++q)]⟩
 ·have hi:i=l.length:=by omega
  subst hi
  rw[List.take_length] at i2
  rw[<- List.append_assoc,<- i2]
  repeat' first|refine st ?_|((with_reducible apply go_i);conv=>whnf)|refine⟨λ_=>?_,λ_=>?_⟩|fail
  all_goals exact⟨rfl,rfl⟩
theorem C.put_Column(l:List Co)(enc:Co->List UInt8)(f:FuncId)(d:D)(hd:SlD d (eCs l))(hl:l.length<=1048576)(s:List UInt8)(hs:s.length+(encL enc l).length<=536870912)
  (hone:∀x∈l,∀s:List UInt8,s.length+(enc x).length<=536870912->Wr f [av x.ds] s (enc x)):Wr N.record_put_api_Column [.d d,.d (.fn f)] s (encL enc l):=by
 rw[encL,List.length_append] at hs
 have h0:=C.buffer_int s (by omega) l.length ⟨by omega,by omega⟩
 have e1:=eCs_len l
 have e2:=eCs_mem l
 have e3:=λi x=>@eCs_get l i x
 obtain⟨es,hes⟩:∃z,z=eCs l:=⟨_,rfl⟩
 rw[<- hes] at hd e1 e2 e3
 clear hes
 rw[<- e1] at h0
 unfold encL
 rw[<- e1] at hs ⊢
 obtain⟨q,hq⟩:∃q,q=encI es.length:=⟨_,rfl⟩
 rw[<- hq] at h0 hs ⊢
 clear hq
 refine F.record_put_api_Column.goX mixed rfl ?_
 repeat' first|refine st ?_|((with_reducible apply go_i);conv=>whnf)|((with_reducible first|apply k_nc|apply k_cs);(·exact h0);(try rintro _ _ ⟨rfl,rfl⟩))|((with_reducible apply k_pr);(·exact h0))|refine⟨λ_=>?_,λ_=>?_⟩|fail
 refine x_loop2 mixed Lt.record_put_api_Column_l0 Lk.record_put_api_Column_l0 (λ(i:Nat) (w:List UInt8)=>[.d (eI i)]) (λi w=>WS w) (λi w=>i<=l.length/\w=s++q++(l.take i).flatMap enc) (λi w=>l.length-i) 0 (s++q) rfl rfl rfl rfl (λ_ _ _=>⟨rfl,rfl⟩) rfl ⟨by omega,by simp⟩ ?_
 repeat' first|refine st ?_|((with_reducible apply go_i);conv=>whnf)|refine⟨λ_=>?_,λ_=>?_⟩|fail
 intro i w ⟨i1,i2⟩
 by_cases hi:i<l.length
 ·obtain⟨x,hx⟩:∃x,l[i]?=some x:=⟨_,List.getElem?_eq_getElem hi⟩
  have htk:=flat_take (f:=enc) hx
  have hw:w.length+(enc x).length<=536870912:=by
   have:=flat_le enc l (i+1)
   rw[htk,List.length_append] at this
   rw[i2,List.length_append,List.length_append]
   omega
  have hget:=e3 i x hx
  have hc:=hone x (List.mem_of_getElem? hx) w hw
  repeat' first|refine st ?_|((with_reducible apply go_i);conv=>whnf)|((with_reducible first|apply k_nc|apply k_cs);(·exact Wr.ext hc rfl _);(try rintro _ _ ⟨rfl,rfl⟩))|((with_reducible apply k_pr);(·exact Wr.ext hc rfl _))|refine⟨λ_=>?_,λ_=>?_⟩|fail
  all_goals exact⟨i+1,w++enc x,rfl,rfl,rfl,by omega,by omega,by rw[htk,i2,List.append_assoc (s++q)]⟩
 ·have hi:i=l.length:=by omega
  subst hi
  rw[List.take_length] at i2
  rw[<- List.append_assoc,<- i2]
  repeat' first|refine st ?_|((with_reducible apply go_i);conv=>whnf)|refine⟨λ_=>?_,λ_=>?_⟩|fail
  all_goals exact⟨rfl,rfl⟩
theorem C.put_Foreign(l:List Fk)(enc:Fk->List UInt8)(f:FuncId)(d:D)(hd:SlD d (eFk l))(hl:l.length<=1048576)(s:List UInt8)(hs:s.length+(encL enc l).length<=536870912)
  (hone:∀x∈l,∀s:List UInt8,s.length+(enc x).length<=536870912->Wr f [av x.ds] s (enc x)):Wr N.record_put_api_Foreign [.d d,.d (.fn f)] s (encL enc l):=by
 rw[encL,List.length_append] at hs
 have h0:=C.buffer_int s (by omega) l.length ⟨by omega,by omega⟩
 have e1:=eFk_len l
 have e2:=eFk_mem l
 have e3:=λi x=>@eFk_get l i x
 obtain⟨es,hes⟩:∃z,z=eFk l:=⟨_,rfl⟩
 rw[<- hes] at hd e1 e2 e3
 clear hes
 rw[<- e1] at h0
 unfold encL
 rw[<- e1] at hs ⊢
 obtain⟨q,hq⟩:∃q,q=encI es.length:=⟨_,rfl⟩
 rw[<- hq] at h0 hs ⊢
 clear hq
 refine F.record_put_api_Foreign.goX mixed rfl ?_
 repeat' first|refine st ?_|((with_reducible apply go_i);conv=>whnf)|((with_reducible first|apply k_nc|apply k_cs);(·exact h0);(try rintro _ _ ⟨rfl,rfl⟩))|((with_reducible apply k_pr);(·exact h0))|refine⟨λ_=>?_,λ_=>?_⟩|fail
 refine x_loop2 mixed Lt.record_put_api_Foreign_l0 Lk.record_put_api_Foreign_l0 (λ(i:Nat) (w:List UInt8)=>[.d (eI i)]) (λi w=>WS w) (λi w=>i<=l.length/\w=s++q++(l.take i).flatMap enc) (λi w=>l.length-i) 0 (s++q) rfl rfl rfl rfl (λ_ _ _=>⟨rfl,rfl⟩) rfl ⟨by omega,by simp⟩ ?_
 repeat' first|refine st ?_|((with_reducible apply go_i);conv=>whnf)|refine⟨λ_=>?_,λ_=>?_⟩|fail
 intro i w ⟨i1,i2⟩
 by_cases hi:i<l.length
 ·obtain⟨x,hx⟩:∃x,l[i]?=some x:=⟨_,List.getElem?_eq_getElem hi⟩
  have htk:=flat_take (f:=enc) hx
  have hw:w.length+(enc x).length<=536870912:=by
   have:=flat_le enc l (i+1)
   rw[htk,List.length_append] at this
   rw[i2,List.length_append,List.length_append]
   omega
  have hget:=e3 i x hx
  have hc:=hone x (List.mem_of_getElem? hx) w hw
  repeat' first|refine st ?_|((with_reducible apply go_i);conv=>whnf)|((with_reducible first|apply k_nc|apply k_cs);(·exact Wr.ext hc rfl _);(try rintro _ _ ⟨rfl,rfl⟩))|((with_reducible apply k_pr);(·exact Wr.ext hc rfl _))|refine⟨λ_=>?_,λ_=>?_⟩|fail
  all_goals exact⟨i+1,w++enc x,rfl,rfl,rfl,by omega,by omega,by rw[htk,i2,List.append_assoc (s++q)]⟩
 ·have hi:i=l.length:=by omega
  subst hi
  rw[List.take_length] at i2
  rw[<- List.append_assoc,<- i2]
  repeat' first|refine st ?_|((with_reducible apply go_i);conv=>whnf)|refine⟨λ_=>?_,λ_=>?_⟩|fail
  all_goals exact⟨rfl,rfl⟩
theorem C.put_Fact(l:List Fa)(enc:Fa->List UInt8)(f:FuncId)(d:D)(hd:SlD d (eFa l))(hl:l.length<=1048576)(s:List UInt8)(hs:s.length+(encL enc l).length<=536870912)
  (hone:∀x∈l,∀s:List UInt8,s.length+(enc x).length<=536870912->Wr f [av x.ds] s (enc x)):Wr N.record_put_api_Fact [.d d,.d (.fn f)] s (encL enc l):=by
 rw[encL,List.length_append] at hs
 have h0:=C.buffer_int s (by omega) l.length ⟨by omega,by omega⟩
 have e1:=eFa_len l
 have e2:=eFa_mem l
 have e3:=λi x=>@eFa_get l i x
 obtain⟨es,hes⟩:∃z,z=eFa l:=⟨_,rfl⟩
 rw[<- hes] at hd e1 e2 e3
 clear hes
 rw[<- e1] at h0
 unfold encL
 rw[<- e1] at hs ⊢
 obtain⟨q,hq⟩:∃q,q=encI es.length:=⟨_,rfl⟩
 rw[<- hq] at h0 hs ⊢
 clear hq
 refine F.record_put_api_Fact.goX mixed rfl ?_
 repeat' first|refine st ?_|((with_reducible apply go_i);conv=>whnf)|((with_reducible first|apply k_nc|apply k_cs);(·exact h0);(try rintro _ _ ⟨rfl,rfl⟩))|((with_reducible apply k_pr);(·exact h0))|refine⟨λ_=>?_,λ_=>?_⟩|fail
 refine x_loop2 mixed Lt.record_put_api_Fact_l0 Lk.record_put_api_Fact_l0 (λ(i:Nat) (w:List UInt8)=>[.d (eI i)]) (λi w=>WS w) (λi w=>i<=l.length/\w=s++q++(l.take i).flatMap enc) (λi w=>l.length-i) 0 (s++q) rfl rfl rfl rfl (λ_ _ _=>⟨rfl,rfl⟩) rfl ⟨by omega,by simp⟩ ?_
 repeat' first|refine st ?_|((with_reducible apply go_i);conv=>whnf)|refine⟨λ_=>?_,λ_=>?_⟩|fail
 intro i w ⟨i1,i2⟩
 by_cases hi:i<l.length
 ·obtain⟨x,hx⟩:∃x,l[i]?=some x:=⟨_,List.getElem?_eq_getElem hi⟩
  have htk:=flat_take (f:=enc) hx
  have hw:w.length+(enc x).length<=536870912:=by
   have:=flat_le enc l (i+1)
   rw[htk,List.length_append] at this
   rw[i2,List.length_append,List.length_append]
   omega
  have hget:=e3 i x hx
  have hc:=hone x (List.mem_of_getElem? hx) w hw
  repeat' first|refine st ?_|((with_reducible apply go_i);conv=>whnf)|((with_reducible first|apply k_nc|apply k_cs);(·exact Wr.ext hc rfl _);(try rintro _ _ ⟨rfl,rfl⟩))|((with_reducible apply k_pr);(·exact Wr.ext hc rfl _))|refine⟨λ_=>?_,λ_=>?_⟩|fail
  all_goals exact⟨i+1,w++enc x,rfl,rfl,rfl,by omega,by omega,by rw[htk,i2,List.append_assoc (s++q)]⟩
 ·have hi:i=l.length:=by omega
  subst hi
  rw[List.take_length] at i2
  rw[<- List.append_assoc,<- i2]
  repeat' first|refine st ?_|((with_reducible apply go_i);conv=>whnf)|refine⟨λ_=>?_,λ_=>?_⟩|fail
  all_goals exact⟨rfl,rfl⟩
theorem C.put_Delta(l:List De)(enc:De->List UInt8)(f:FuncId)(d:D)(hd:SlD d (eDe l))(hl:l.length<=1048576)(s:List UInt8)(hs:s.length+(encL enc l).length<=536870912)
  (hone:∀x∈l,∀s:List UInt8,s.length+(enc x).length<=536870912->Wr f [av x.ds] s (enc x)):Wr N.record_put_api_Delta [.d d,.d (.fn f)] s (encL enc l):=by
 rw[encL,List.length_append] at hs
 have h0:=C.buffer_int s (by omega) l.length ⟨by omega,by omega⟩
 have e1:=eDe_len l
 have e2:=eDe_mem l
 have e3:=λi x=>@eDe_get l i x
 obtain⟨es,hes⟩:∃z,z=eDe l:=⟨_,rfl⟩
 rw[<- hes] at hd e1 e2 e3
 clear hes
 rw[<- e1] at h0
 unfold encL
 rw[<- e1] at hs ⊢
 obtain⟨q,hq⟩:∃q,q=encI es.length:=⟨_,rfl⟩
 rw[<- hq] at h0 hs ⊢
 clear hq
 refine F.record_put_api_Delta.goX mixed rfl ?_
 repeat' first|refine st ?_|((with_reducible apply go_i);conv=>whnf)|((with_reducible first|apply k_nc|apply k_cs);(·exact h0);(try rintro _ _ ⟨rfl,rfl⟩))|((with_reducible apply k_pr);(·exact h0))|refine⟨λ_=>?_,λ_=>?_⟩|fail
 refine x_loop2 mixed Lt.record_put_api_Delta_l0 Lk.record_put_api_Delta_l0 (λ(i:Nat) (w:List UInt8)=>[.d (eI i)]) (λi w=>WS w) (λi w=>i<=l.length/\w=s++q++(l.take i).flatMap enc) (λi w=>l.length-i) 0 (s++q) rfl rfl rfl rfl (λ_ _ _=>⟨rfl,rfl⟩) rfl ⟨by omega,by simp⟩ ?_
 repeat' first|refine st ?_|((with_reducible apply go_i);conv=>whnf)|refine⟨λ_=>?_,λ_=>?_⟩|fail
 intro i w ⟨i1,i2⟩
 by_cases hi:i<l.length
 ·obtain⟨x,hx⟩:∃x,l[i]?=some x:=⟨_,List.getElem?_eq_getElem hi⟩
  have htk:=flat_take (f:=enc) hx
  have hw:w.length+(enc x).length<=536870912:=by
   have:=flat_le enc l (i+1)
   rw[htk,List.length_append] at this
   rw[i2,List.length_append,List.length_append]
   omega
  have hget:=e3 i x hx
  have hc:=hone x (List.mem_of_getElem? hx) w hw
  repeat' first|refine st ?_|((with_reducible apply go_i);conv=>whnf)|((with_reducible first|apply k_nc|apply k_cs);(·exact Wr.ext hc rfl _);(try rintro _ _ ⟨rfl,rfl⟩))|((with_reducible apply k_pr);(·exact Wr.ext hc rfl _))|refine⟨λ_=>?_,λ_=>?_⟩|fail
  all_goals exact⟨i+1,w++enc x,rfl,rfl,rfl,by omega,by omega,by rw[htk,i2,List.append_assoc (s++q)]⟩
 ·have hi:i=l.length:=by omega
  subst hi
  rw[List.take_length] at i2
  rw[<- List.append_assoc,<- i2]
  repeat' first|refine st ?_|((with_reducible apply go_i);conv=>whnf)|refine⟨λ_=>?_,λ_=>?_⟩|fail
  all_goals exact⟨rfl,rfl⟩
theorem C.put_Hold(l:List Ho)(enc:Ho->List UInt8)(f:FuncId)(d:D)(hd:SlD d (eHo l))(hl:l.length<=1048576)(s:List UInt8)(hs:s.length+(encL enc l).length<=536870912)
  (hone:∀x∈l,∀s:List UInt8,s.length+(enc x).length<=536870912->Wr f [av x.ds] s (enc x)):Wr N.record_put_api_Hold [.d d,.d (.fn f)] s (encL enc l):=by
 rw[encL,List.length_append] at hs
 have h0:=C.buffer_int s (by omega) l.length ⟨by omega,by omega⟩
 have e1:=eHo_len l
 have e2:=eHo_mem l
 have e3:=λi x=>@eHo_get l i x
 obtain⟨es,hes⟩:∃z,z=eHo l:=⟨_,rfl⟩
 rw[<- hes] at hd e1 e2 e3
 clear hes
 rw[<- e1] at h0
 unfold encL
 rw[<- e1] at hs ⊢
 obtain⟨q,hq⟩:∃q,q=encI es.length:=⟨_,rfl⟩
 rw[<- hq] at h0 hs ⊢
 clear hq
 refine F.record_put_api_Hold.goX mixed rfl ?_
 repeat' first|refine st ?_|((with_reducible apply go_i);conv=>whnf)|((with_reducible first|apply k_nc|apply k_cs);(·exact h0);(try rintro _ _ ⟨rfl,rfl⟩))|((with_reducible apply k_pr);(·exact h0))|refine⟨λ_=>?_,λ_=>?_⟩|fail
 refine x_loop2 mixed Lt.record_put_api_Hold_l0 Lk.record_put_api_Hold_l0 (λ(i:Nat) (w:List UInt8)=>[.d (eI i)]) (λi w=>WS w) (λi w=>i<=l.length/\w=s++q++(l.take i).flatMap enc) (λi w=>l.length-i) 0 (s++q) rfl rfl rfl rfl (λ_ _ _=>⟨rfl,rfl⟩) rfl ⟨by omega,by simp⟩ ?_
 repeat' first|refine st ?_|((with_reducible apply go_i);conv=>whnf)|refine⟨λ_=>?_,λ_=>?_⟩|fail
 intro i w ⟨i1,i2⟩
 by_cases hi:i<l.length
 ·obtain⟨x,hx⟩:∃x,l[i]?=some x:=⟨_,List.getElem?_eq_getElem hi⟩
  have htk:=flat_take (f:=enc) hx
  have hw:w.length+(enc x).length<=536870912:=by
   have:=flat_le enc l (i+1)
   rw[htk,List.length_append] at this
   rw[i2,List.length_append,List.length_append]
   omega
  have hget:=e3 i x hx
  have hc:=hone x (List.mem_of_getElem? hx) w hw
  repeat' first|refine st ?_|((with_reducible apply go_i);conv=>whnf)|((with_reducible first|apply k_nc|apply k_cs);(·exact Wr.ext hc rfl _);(try rintro _ _ ⟨rfl,rfl⟩))|((with_reducible apply k_pr);(·exact Wr.ext hc rfl _))|refine⟨λ_=>?_,λ_=>?_⟩|fail
  all_goals exact⟨i+1,w++enc x,rfl,rfl,rfl,by omega,by omega,by rw[htk,i2,List.append_assoc (s++q)]⟩
 ·have hi:i=l.length:=by omega
  subst hi
  rw[List.take_length] at i2
  rw[<- List.append_assoc,<- i2]
  repeat' first|refine st ?_|((with_reducible apply go_i);conv=>whnf)|refine⟨λ_=>?_,λ_=>?_⟩|fail
  all_goals exact⟨rfl,rfl⟩
theorem C.put_Policy(l:List Pk)(enc:Pk->List UInt8)(f:FuncId)(d:D)(hd:SlD d (ePk l))(hl:l.length<=1048576)(s:List UInt8)(hs:s.length+(encL enc l).length<=536870912)
  (hone:∀x∈l,∀s:List UInt8,s.length+(enc x).length<=536870912->Wr f [av x.ds] s (enc x)):Wr N.record_put_api_Policy [.d d,.d (.fn f)] s (encL enc l):=by
 rw[encL,List.length_append] at hs
 have h0:=C.buffer_int s (by omega) l.length ⟨by omega,by omega⟩
 have e1:=ePk_len l
 have e2:=ePk_mem l
 have e3:=λi x=>@ePk_get l i x
 obtain⟨es,hes⟩:∃z,z=ePk l:=⟨_,rfl⟩
 rw[<- hes] at hd e1 e2 e3
 clear hes
 rw[<- e1] at h0
 unfold encL
 rw[<- e1] at hs ⊢
 obtain⟨q,hq⟩:∃q,q=encI es.length:=⟨_,rfl⟩
 rw[<- hq] at h0 hs ⊢
 clear hq
 refine F.record_put_api_Policy.goX mixed rfl ?_
 repeat' first|refine st ?_|((with_reducible apply go_i);conv=>whnf)|((with_reducible first|apply k_nc|apply k_cs);(·exact h0);(try rintro _ _ ⟨rfl,rfl⟩))|((with_reducible apply k_pr);(·exact h0))|refine⟨λ_=>?_,λ_=>?_⟩|fail
 refine x_loop2 mixed Lt.record_put_api_Policy_l0 Lk.record_put_api_Policy_l0 (λ(i:Nat) (w:List UInt8)=>[.d (eI i)]) (λi w=>WS w) (λi w=>i<=l.length/\w=s++q++(l.take i).flatMap enc) (λi w=>l.length-i) 0 (s++q) rfl rfl rfl rfl (λ_ _ _=>⟨rfl,rfl⟩) rfl ⟨by omega,by simp⟩ ?_
 repeat' first|refine st ?_|((with_reducible apply go_i);conv=>whnf)|refine⟨λ_=>?_,λ_=>?_⟩|fail
 intro i w ⟨i1,i2⟩
 by_cases hi:i<l.length
 ·obtain⟨x,hx⟩:∃x,l[i]?=some x:=⟨_,List.getElem?_eq_getElem hi⟩
  have htk:=flat_take (f:=enc) hx
  have hw:w.length+(enc x).length<=536870912:=by
   have:=flat_le enc l (i+1)
   rw[htk,List.length_append] at this
   rw[i2,List.length_append,List.length_append]
   omega
  have hget:=e3 i x hx
  have hc:=hone x (List.mem_of_getElem? hx) w hw
  repeat' first|refine st ?_|((with_reducible apply go_i);conv=>whnf)|((with_reducible first|apply k_nc|apply k_cs);(·exact Wr.ext hc rfl _);(try rintro _ _ ⟨rfl,rfl⟩))|((with_reducible apply k_pr);(·exact Wr.ext hc rfl _))|refine⟨λ_=>?_,λ_=>?_⟩|fail
  all_goals exact⟨i+1,w++enc x,rfl,rfl,rfl,by omega,by omega,by rw[htk,i2,List.append_assoc (s++q)]⟩
 ·have hi:i=l.length:=by omega
  subst hi
  rw[List.take_length] at i2
  rw[<- List.append_assoc,<- i2]
  repeat' first|refine st ?_|((with_reducible apply go_i);conv=>whnf)|refine⟨λ_=>?_,λ_=>?_⟩|fail
  all_goals exact⟨rfl,rfl⟩
theorem C.put_Horizon(l:List Pk)(enc:Pk->List UInt8)(f:FuncId)(d:D)(hd:SlD d (ePk l))(hl:l.length<=1048576)(s:List UInt8)(hs:s.length+(encL enc l).length<=536870912)
  (hone:∀x∈l,∀s:List UInt8,s.length+(enc x).length<=536870912->Wr f [av x.ds] s (enc x)):Wr N.record_put_api_Horizon [.d d,.d (.fn f)] s (encL enc l):=by
 rw[encL,List.length_append] at hs
 have h0:=C.buffer_int s (by omega) l.length ⟨by omega,by omega⟩
 have e1:=ePk_len l
 have e2:=ePk_mem l
 have e3:=λi x=>@ePk_get l i x
 obtain⟨es,hes⟩:∃z,z=ePk l:=⟨_,rfl⟩
 rw[<- hes] at hd e1 e2 e3
 clear hes
 rw[<- e1] at h0
 unfold encL
 rw[<- e1] at hs ⊢
 obtain⟨q,hq⟩:∃q,q=encI es.length:=⟨_,rfl⟩
 rw[<- hq] at h0 hs ⊢
 clear hq
 refine F.record_put_api_Horizon.goX mixed rfl ?_
 repeat' first|refine st ?_|((with_reducible apply go_i);conv=>whnf)|((with_reducible first|apply k_nc|apply k_cs);(·exact h0);(try rintro _ _ ⟨rfl,rfl⟩))|((with_reducible apply k_pr);(·exact h0))|refine⟨λ_=>?_,λ_=>?_⟩|fail
 refine x_loop2 mixed Lt.record_put_api_Horizon_l0 Lk.record_put_api_Horizon_l0 (λ(i:Nat) (w:List UInt8)=>[.d (eI i)]) (λi w=>WS w) (λi w=>i<=l.length/\w=s++q++(l.take i).flatMap enc) (λi w=>l.length-i) 0 (s++q) rfl rfl rfl rfl (λ_ _ _=>⟨rfl,rfl⟩) rfl ⟨by omega,by simp⟩ ?_
 repeat' first|refine st ?_|((with_reducible apply go_i);conv=>whnf)|refine⟨λ_=>?_,λ_=>?_⟩|fail
 intro i w ⟨i1,i2⟩
 by_cases hi:i<l.length
 ·obtain⟨x,hx⟩:∃x,l[i]?=some x:=⟨_,List.getElem?_eq_getElem hi⟩
  have htk:=flat_take (f:=enc) hx
  have hw:w.length+(enc x).length<=536870912:=by
   have:=flat_le enc l (i+1)
   rw[htk,List.length_append] at this
   rw[i2,List.length_append,List.length_append]
   omega
  have hget:=e3 i x hx
  have hc:=hone x (List.mem_of_getElem? hx) w hw
  repeat' first|refine st ?_|((with_reducible apply go_i);conv=>whnf)|((with_reducible first|apply k_nc|apply k_cs);(·exact Wr.ext hc rfl _);(try rintro _ _ ⟨rfl,rfl⟩))|((with_reducible apply k_pr);(·exact Wr.ext hc rfl _))|refine⟨λ_=>?_,λ_=>?_⟩|fail
  all_goals exact⟨i+1,w++enc x,rfl,rfl,rfl,by omega,by omega,by rw[htk,i2,List.append_assoc (s++q)]⟩
 ·have hi:i=l.length:=by omega
  subst hi
  rw[List.take_length] at i2
  rw[<- List.append_assoc,<- i2]
  repeat' first|refine st ?_|((with_reducible apply go_i);conv=>whnf)|refine⟨λ_=>?_,λ_=>?_⟩|fail
  all_goals exact⟨rfl,rfl⟩
theorem C.put_Entry(l:List Ey)(enc:Ey->List UInt8)(f:FuncId)(d:D)(hd:SlD d (eEy l))(hl:l.length<=1048576)(s:List UInt8)(hs:s.length+(encL enc l).length<=536870912)
  (hone:∀x∈l,∀s:List UInt8,s.length+(enc x).length<=536870912->Wr f [av x.ds] s (enc x)):Wr N.record_put_api_Entry [.d d,.d (.fn f)] s (encL enc l):=by
 rw[encL,List.length_append] at hs
 have h0:=C.buffer_int s (by omega) l.length ⟨by omega,by omega⟩
 have e1:=eEy_len l
 have e2:=eEy_mem l
 have e3:=λi x=>@eEy_get l i x
 obtain⟨es,hes⟩:∃z,z=eEy l:=⟨_,rfl⟩
 rw[<- hes] at hd e1 e2 e3
 clear hes
 rw[<- e1] at h0
 unfold encL
 rw[<- e1] at hs ⊢
 obtain⟨q,hq⟩:∃q,q=encI es.length:=⟨_,rfl⟩
 rw[<- hq] at h0 hs ⊢
 clear hq
 refine F.record_put_api_Entry.goX mixed rfl ?_
 repeat' first|refine st ?_|((with_reducible apply go_i);conv=>whnf)|((with_reducible first|apply k_nc|apply k_cs);(·exact h0);(try rintro _ _ ⟨rfl,rfl⟩))|((with_reducible apply k_pr);(·exact h0))|refine⟨λ_=>?_,λ_=>?_⟩|fail
 refine x_loop2 mixed Lt.record_put_api_Entry_l0 Lk.record_put_api_Entry_l0 (λ(i:Nat) (w:List UInt8)=>[.d (eI i)]) (λi w=>WS w) (λi w=>i<=l.length/\w=s++q++(l.take i).flatMap enc) (λi w=>l.length-i) 0 (s++q) rfl rfl rfl rfl (λ_ _ _=>⟨rfl,rfl⟩) rfl ⟨by omega,by simp⟩ ?_
 repeat' first|refine st ?_|((with_reducible apply go_i);conv=>whnf)|refine⟨λ_=>?_,λ_=>?_⟩|fail
 intro i w ⟨i1,i2⟩
 by_cases hi:i<l.length
 ·obtain⟨x,hx⟩:∃x,l[i]?=some x:=⟨_,List.getElem?_eq_getElem hi⟩
  have htk:=flat_take (f:=enc) hx
  have hw:w.length+(enc x).length<=536870912:=by
   have:=flat_le enc l (i+1)
   rw[htk,List.length_append] at this
   rw[i2,List.length_append,List.length_append]
   omega
  have hget:=e3 i x hx
  have hc:=hone x (List.mem_of_getElem? hx) w hw
  repeat' first|refine st ?_|((with_reducible apply go_i);conv=>whnf)|((with_reducible first|apply k_nc|apply k_cs);(·exact Wr.ext hc rfl _);(try rintro _ _ ⟨rfl,rfl⟩))|((with_reducible apply k_pr);(·exact Wr.ext hc rfl _))|refine⟨λ_=>?_,λ_=>?_⟩|fail
  all_goals exact⟨i+1,w++enc x,rfl,rfl,rfl,by omega,by omega,by rw[htk,i2,List.append_assoc (s++q)]⟩
 ·have hi:i=l.length:=by omega
  subst hi
  rw[List.take_length] at i2
  rw[<- List.append_assoc,<- i2]
  repeat' first|refine st ?_|((with_reducible apply go_i);conv=>whnf)|refine⟨λ_=>?_,λ_=>?_⟩|fail
  all_goals exact⟨rfl,rfl⟩
end Go.Proofs
end
section
namespace Go.Proofs
open Go.Bi
def TK(s:List UInt8):Prop:=s.length<=200
def encCo(c:Co):List UInt8:=encT c.nm++encI c.k++encI (b2i c.nl)
def CoK(c:Co):Prop:=TK c.nm/\I64 c.k
def encFk(x:Fk):List UInt8:=encL encI x.cs++encT x.tb
def FkK(x:Fk):Prop:=(x.cs.length<=1048576/\∀n∈x.cs,I64 n)/\TK x.tb
def encFa(x:Fa):List UInt8:=encR x.r++encP x.a x.b
def FaK(x:Fa):Prop:=(x.r.length<=12/\∀v∈x.r,vValid v=true)/\valid x.a x.b=true
def encDe(x:De):List UInt8:=encT x.tb++encL encI x.cl++encL encFa x.op
def DeK(x:De):Prop:=TK x.tb/\(x.cl.length<=1048576/\∀n∈x.cl,I64 n)/\x.op.length<=1048576/\∀f∈x.op,FaK f
def encHo(x:Ho):List UInt8:=encT x.nm++encT x.tb++encP x.va x.vb++encP x.sa x.sb
def HoK(x:Ho):Prop:=TK x.nm/\TK x.tb/\valid x.va x.vb=true/\valid x.sa x.sb=true
def encPk(x:Pk):List UInt8:=encT x.tb++encI x.n
def PkK(x:Pk):Prop:=TK x.tb/\I64 x.n
theorem TK.m{s:List UInt8}(h:TK s):s.length<=1048576:=Nat.le_trans h (by decide)
theorem C.writer_number(s:List UInt8)(n:Int)(h:I64 n)(hs:s.length+(encI n).length<=536870912):Wr N.precord_writer_number [.d (eI n)] s (encI n):=by
 have h1:=C.buffer_int s (by omega) n h
 refine F.precord_writer_number.goX mixed rfl ?_
 repeat' first|refine st ?_|((with_reducible apply go_i);conv=>whnf)|((with_reducible first|apply k_nc|apply k_cs);(·exact h1);(try rintro _ _ ⟨rfl,rfl⟩))|((with_reducible apply k_pr);(·exact h1))|refine⟨λ_=>?_,λ_=>?_⟩|fail
 all_goals exact⟨rfl,rfl⟩
theorem C.writer_name(s:List UInt8)(t:List UInt8)(h:TK t)(hs:s.length+(encT t).length<=536870912):Wr N.precord_writer_name [.d (.str t)] s (encT t):=by
 have h1:=C.buffer_text s (by omega) t h.m
 refine F.precord_writer_name.goX mixed rfl ?_
 repeat' first|refine st ?_|((with_reducible apply go_i);conv=>whnf)|((with_reducible first|apply k_nc|apply k_cs);(·exact h1);(try rintro _ _ ⟨rfl,rfl⟩))|((with_reducible apply k_pr);(·exact h1))|refine⟨λ_=>?_,λ_=>?_⟩|fail
 all_goals exact⟨rfl,rfl⟩
theorem C.writer_column(s:List UInt8)(x:Co)(h:CoK x)(hs:s.length+(encCo x).length<=536870912):Wr N.precord_writer_column [av x.ds] s (encCo x):=by
 obtain⟨nm,k,nl⟩:=x
 unfold encCo at hs ⊢
 simp only[List.length_append] at hs
 have w0:=C.buffer_text s (by(try simp only[List.length_append]);omega) nm h.1.m
 have w1:=C.buffer_int (s++encT nm) (by(try simp only[List.length_append]);omega) k h.2
 have w2:=C.buffer_bool ((s++encT nm)++encI k) (by(try simp only[List.length_append]);omega) nl
 show CallSpec Tryz.prog _ _ (WS s) (λr os=>r=.tup []/\os=WS _)
 rw[show s++((encT nm++encI k)++encI (b2i nl))=(((s++encT nm)++encI k)++encI (b2i nl)) by simp only[List.append_assoc]]
 refine F.precord_writer_column.goX mixed rfl ?_
 repeat' first|refine st ?_|((with_reducible apply go_i);conv=>whnf)|((with_reducible first|apply k_nc|apply k_cs);(·first|exact Wr.ext w0 rfl _|exact Wr.ext w1 rfl _|exact Wr.ext w2 rfl _);(try rintro _ _ ⟨rfl,rfl⟩))|((with_reducible apply k_pr);(·first|exact Wr.ext w0 rfl _|exact Wr.ext w1 rfl _|exact Wr.ext w2 rfl _))|refine⟨λ_=>?_,λ_=>?_⟩|fail
 all_goals exact⟨rfl,rfl⟩
theorem C.writer_fact(s:List UInt8)(x:Fa)(h:FaK x)(hs:s.length+(encFa x).length<=536870912):Wr N.precord_writer_fact [av x.ds] s (encFa x):=by
 obtain⟨nl,r,a,b⟩:=x
 unfold encFa at hs ⊢
 simp only[List.length_append] at hs
 have w0:=C.buffer_row s (by(try simp only[List.length_append]);omega) r (Nat.le_trans h.1.1 (by decide)) h.1.2 _ (sld_ng (nl:=nl))
 have w1:=C.buffer_period (s++encR r) (by(try simp only[List.length_append]);omega) a b (valid_I64 h.2).1 (valid_I64 h.2).2
 show CallSpec Tryz.prog _ _ (WS s) (λr os=>r=.tup []/\os=WS _)
 rw[show s++(encR r++encP a b)=((s++encR r)++encP a b) by simp only[List.append_assoc]]
 refine F.precord_writer_fact.goX mixed rfl ?_
 repeat' first|refine st ?_|((with_reducible apply go_i);conv=>whnf)|((with_reducible first|apply k_nc|apply k_cs);(·first|exact Wr.ext w0 rfl _|exact Wr.ext w1 rfl _);(try rintro _ _ ⟨rfl,rfl⟩))|((with_reducible apply k_pr);(·first|exact Wr.ext w0 rfl _|exact Wr.ext w1 rfl _))|refine⟨λ_=>?_,λ_=>?_⟩|fail
 all_goals exact⟨rfl,rfl⟩
theorem C.writer_hold(s:List UInt8)(x:Ho)(h:HoK x)(hs:s.length+(encHo x).length<=536870912):Wr N.precord_writer_hold [av x.ds] s (encHo x):=by
 obtain⟨nm,tb,va,vb,sa,sb⟩:=x
 unfold encHo at hs ⊢
 simp only[List.length_append] at hs
 have w0:=C.buffer_text s (by(try simp only[List.length_append]);omega) nm h.1.m
 have w1:=C.buffer_text (s++encT nm) (by(try simp only[List.length_append]);omega) tb h.2.1.m
 have w2:=C.buffer_period ((s++encT nm)++encT tb) (by(try simp only[List.length_append]);omega) va vb (valid_I64 h.2.2.1).1 (valid_I64 h.2.2.1).2
 have w3:=C.buffer_period (((s++encT nm)++encT tb)++encP va vb) (by(try simp only[List.length_append]);omega) sa sb (valid_I64 h.2.2.2).1 (valid_I64 h.2.2.2).2
 show CallSpec Tryz.prog _ _ (WS s) (λr os=>r=.tup []/\os=WS _)
 rw[show s++(((encT nm++encT tb)++encP va vb)++encP sa sb)=((((s++encT nm)++encT tb)++encP va vb)++encP sa sb) by simp only[List.append_assoc]]
 refine F.precord_writer_hold.goX mixed rfl ?_
 repeat' first|refine st ?_|((with_reducible apply go_i);conv=>whnf)|((with_reducible first|apply k_nc|apply k_cs);(·first|exact Wr.ext w0 rfl _|exact Wr.ext w1 rfl _|exact Wr.ext w2 rfl _|exact Wr.ext w3 rfl _);(try rintro _ _ ⟨rfl,rfl⟩))|((with_reducible apply k_pr);(·first|exact Wr.ext w0 rfl _|exact Wr.ext w1 rfl _|exact Wr.ext w2 rfl _|exact Wr.ext w3 rfl _))|refine⟨λ_=>?_,λ_=>?_⟩|fail
 all_goals exact⟨rfl,rfl⟩
theorem C.writer_policy(s:List UInt8)(x:Pk)(h:PkK x)(hs:s.length+(encPk x).length<=536870912):Wr N.precord_writer_policy [av x.ds] s (encPk x):=by
 obtain⟨tb,n⟩:=x
 unfold encPk at hs ⊢
 simp only[List.length_append] at hs
 have w0:=C.buffer_text s (by(try simp only[List.length_append]);omega) tb h.1.m
 have w1:=C.buffer_int (s++encT tb) (by(try simp only[List.length_append]);omega) n h.2
 show CallSpec Tryz.prog _ _ (WS s) (λr os=>r=.tup []/\os=WS _)
 rw[show s++(encT tb++encI n)=((s++encT tb)++encI n) by simp only[List.append_assoc]]
 refine F.precord_writer_policy.goX mixed rfl ?_
 repeat' first|refine st ?_|((with_reducible apply go_i);conv=>whnf)|((with_reducible first|apply k_nc|apply k_cs);(·first|exact Wr.ext w0 rfl _|exact Wr.ext w1 rfl _);(try rintro _ _ ⟨rfl,rfl⟩))|((with_reducible apply k_pr);(·first|exact Wr.ext w0 rfl _|exact Wr.ext w1 rfl _))|refine⟨λ_=>?_,λ_=>?_⟩|fail
 all_goals exact⟨rfl,rfl⟩
theorem C.writer_horizon(s:List UInt8)(x:Pk)(h:PkK x)(hs:s.length+(encPk x).length<=536870912):Wr N.precord_writer_horizon [av x.ds] s (encPk x):=by
 obtain⟨tb,n⟩:=x
 unfold encPk at hs ⊢
 simp only[List.length_append] at hs
 have w0:=C.buffer_text s (by(try simp only[List.length_append]);omega) tb h.1.m
 have w1:=C.buffer_int (s++encT tb) (by(try simp only[List.length_append]);omega) n h.2
 show CallSpec Tryz.prog _ _ (WS s) (λr os=>r=.tup []/\os=WS _)
 rw[show s++(encT tb++encI n)=((s++encT tb)++encI n) by simp only[List.append_assoc]]
 refine F.precord_writer_horizon.goX mixed rfl ?_
 repeat' first|refine st ?_|((with_reducible apply go_i);conv=>whnf)|((with_reducible first|apply k_nc|apply k_cs);(·first|exact Wr.ext w0 rfl _|exact Wr.ext w1 rfl _);(try rintro _ _ ⟨rfl,rfl⟩))|((with_reducible apply k_pr);(·first|exact Wr.ext w0 rfl _|exact Wr.ext w1 rfl _))|refine⟨λ_=>?_,λ_=>?_⟩|fail
 all_goals exact⟨rfl,rfl⟩
theorem C.writer_delta(s:List UInt8)(x:De)(h:DeK x)(hs:s.length+(encDe x).length<=536870912):Wr N.precord_writer_delta [av x.ds] s (encDe x):=by
 obtain⟨tb,n1,cl,n2,op⟩:=x
 unfold encDe at hs ⊢
 simp only[List.length_append] at hs
 have w0:=C.buffer_text s (by(try simp only[List.length_append]);omega) tb h.1.m
 have w1:=C.put_int cl encI N.precord_writer_number _ (sld_ng (nl:=n1)) h.2.1.1 (s++encT tb) (by(try simp only[List.length_append]);omega) (λx hx s hs=>C.writer_number s x (h.2.1.2 x hx) hs)
 have w2:=C.put_Fact op encFa N.precord_writer_fact _ (sld_ng (nl:=n2)) h.2.2.1 ((s++encT tb)++encL encI cl) (by(try simp only[List.length_append]);omega) (λx hx s hs=>C.writer_fact s x (h.2.2.2 x hx) hs)
 show CallSpec Tryz.prog _ _ (WS s) (λr os=>r=.tup []/\os=WS _)
 rw[show s++((encT tb++encL encI cl)++encL encFa op)=(((s++encT tb)++encL encI cl)++encL encFa op) by simp only[List.append_assoc]]
 refine F.precord_writer_delta.goX mixed rfl ?_
 repeat' first|refine st ?_|((with_reducible apply go_i);conv=>whnf)|((with_reducible first|apply k_nc|apply k_cs);(·first|exact Wr.ext w0 rfl _|exact Wr.ext w1 rfl _|exact Wr.ext w2 rfl _);(try rintro _ _ ⟨rfl,rfl⟩))|((with_reducible apply k_pr);(·first|exact Wr.ext w0 rfl _|exact Wr.ext w1 rfl _|exact Wr.ext w2 rfl _))|refine⟨λ_=>?_,λ_=>?_⟩|fail
 all_goals exact⟨rfl,rfl⟩
end Go.Proofs
end
section
namespace Go.Proofs
open Go.Bi
mutual
def encX:Ex->List UInt8
 |.mk op n v nm _ args=>encI op++encI n++encV v++encT nm++(encI args.length++encXs args)
def encXs:List Ex->List UInt8
 |[]=>[]
 |e::es=>encX e++encXs es
end
theorem encXs_eq:∀l,encXs l=l.flatMap encX
 |[]=>by simp[encXs]
 |e::es=>by simp[encXs,encXs_eq es]
theorem encX_mk(op n:Int)(v:Vl)(nm:List UInt8)(nl:Bool)(args:List Ex):encX (.mk op n v nm nl args)=encI op++encI n++encV v++encT nm++encL encX args:=by
 rw[encX,encXs_eq];rfl
mutual
def XK:Ex->Prop
 |.mk op n v nm _ args=>(I64 op/\I64 n/\vValid v=true/\TK nm/\args.length<=1048576)/\XKs args
def XKs:List Ex->Prop
 |[]=>True
 |e::es=>XK e/\XKs es
end
theorem XKs_mem:∀{l:List Ex},XKs l->∀e∈l,XK e
 |[],_=>by simp
 |a::l,h=>by
  rw[XKs] at h
  intro e he
  rcases List.mem_cons.1 he with rfl|he
  ·exact h.1
  ·exact XKs_mem h.2 e he
theorem C.put_Expr(l:List Ex)(enc:Ex->List UInt8)(f:FuncId)(d:D)(hd:SlD d (xL l))(hl:l.length<=1048576)(s:List UInt8)(hs:s.length+(encL enc l).length<=536870912)
  (hone:∀x∈l,∀s:List UInt8,s.length+(enc x).length<=536870912->Wr f [av x.ds] s (enc x)):Wr N.record_put_api_Expr [.d d,.d (.fn f)] s (encL enc l):=by
 rw[encL,List.length_append] at hs
 have h0:=C.buffer_int s (by omega) l.length ⟨by omega,by omega⟩
 have e1:=xL_len l
 have e2:=xL_mem l
 have e3:=λi x=>@xL_get l i x
 obtain⟨es,hes⟩:∃z,z=xL l:=⟨_,rfl⟩
 rw[<- hes] at hd e1 e2 e3
 clear hes
 rw[<- e1] at h0
 unfold encL
 rw[<- e1] at hs ⊢
 obtain⟨q,hq⟩:∃q,q=encI es.length:=⟨_,rfl⟩
 rw[<- hq] at h0 hs ⊢
 clear hq
 refine F.record_put_api_Expr.goX mixed rfl ?_
 repeat' first|refine st ?_|((with_reducible apply go_i);conv=>whnf)|((with_reducible first|apply k_nc|apply k_cs);(·exact h0);(try rintro _ _ ⟨rfl,rfl⟩))|((with_reducible apply k_pr);(·exact h0))|refine⟨λ_=>?_,λ_=>?_⟩|fail
 refine x_loop2 mixed Lt.record_put_api_Expr_l0 Lk.record_put_api_Expr_l0 (λ(i:Nat) (w:List UInt8)=>[.d (eI i)]) (λi w=>WS w) (λi w=>i<=l.length/\w=s++q++(l.take i).flatMap enc) (λi w=>l.length-i) 0 (s++q) rfl rfl rfl rfl (λ_ _ _=>⟨rfl,rfl⟩) rfl ⟨by omega,by simp⟩ ?_
 repeat' first|refine st ?_|((with_reducible apply go_i);conv=>whnf)|refine⟨λ_=>?_,λ_=>?_⟩|fail
 intro i w ⟨i1,i2⟩
 by_cases hi:i<l.length
 ·obtain⟨x,hx⟩:∃x,l[i]?=some x:=⟨_,List.getElem?_eq_getElem hi⟩
  have htk:=flat_take (f:=enc) hx
  have hw:w.length+(enc x).length<=536870912:=by
   have:=flat_le enc l (i+1)
   rw[htk,List.length_append] at this
   rw[i2,List.length_append,List.length_append]
   omega
  have hget:=e3 i x hx
  have hc:=hone x (List.mem_of_getElem? hx) w hw
  obtain⟨ex,hex⟩:∃z,z=enc x:=⟨_,rfl⟩
  rw[<- hex] at htk hw hc
  clear hex
  obtain⟨xop,xn,xv,xnm,xnl,xas⟩:=x
  rw[Ex.ds_mk] at hget hc
  obtain⟨xd,hxd⟩:∃z,z=ng xnl (xL xas):=⟨_,rfl⟩
  rw[<- hxd] at hget hc
  clear hxd
  repeat' first|refine st ?_|((with_reducible apply go_i);conv=>whnf)|((with_reducible first|apply k_nc|apply k_cs);(·exact Wr.ext hc rfl _);(try rintro _ _ ⟨rfl,rfl⟩))|((with_reducible apply k_pr);(·exact Wr.ext hc rfl _))|refine⟨λ_=>?_,λ_=>?_⟩|fail
  all_goals exact⟨i+1,w++ex,rfl,rfl,rfl,by omega,by omega,by rw[htk,i2,List.append_assoc (s++q)]⟩
 ·have hi:i=l.length:=by omega
  subst hi
  rw[List.take_length] at i2
  rw[<- List.append_assoc,<- i2]
  repeat' first|refine st ?_|((with_reducible apply go_i);conv=>whnf)|refine⟨λ_=>?_,λ_=>?_⟩|fail
  all_goals exact⟨rfl,rfl⟩
theorem C.writer_expr:∀x:Ex,XK x->∀s:List UInt8,s.length+(encX x).length<=536870912->Wr N.precord_writer_expr [av x.ds] s (encX x):=by
 refine Ex.ind λop n v nm nl args ih h s hs=>?_
 rw[XK] at h
 obtain⟨⟨h1,h2,h3,h4,h5⟩,h6⟩:=h
 rw[encX_mk] at hs ⊢
 rw[Ex.ds_mk]
 simp only[List.length_append] at hs
 have w0:=C.buffer_int s (by(try simp only[List.length_append]);omega) op h1
 have w1:=C.buffer_int (s++encI op) (by(try simp only[List.length_append]);omega) n h2
 have w2:=C.buffer_value ((s++encI op)++encI n) (by(try simp only[List.length_append]);omega) v h3
 have w3:=C.buffer_text (((s++encI op)++encI n)++encV v) (by(try simp only[List.length_append]);omega) nm h4.m
 have w4:=C.put_Expr args encX N.precord_writer_expr _ (sld_ng (nl:=nl)) h5 ((((s++encI op)++encI n)++encV v)++encT nm) (by(try simp only[List.length_append]);omega) (λx hx s hs=>ih x hx (XKs_mem h6 x hx) s hs)
 obtain⟨xd,hxd⟩:∃z,z=ng nl (xL args):=⟨_,rfl⟩
 rw[<- hxd] at w4 ⊢
 clear hxd ih
 show CallSpec Tryz.prog _ _ (WS s) (λr os=>r=.tup []/\os=WS _)
 rw[show s++((((encI op++encI n)++encV v)++encT nm)++encL encX args)=(((((s++encI op)++encI n)++encV v)++encT nm)++encL encX args) by simp only[List.append_assoc]]
 refine F.precord_writer_expr.goX mixed rfl ?_
 repeat' first|refine st ?_|((with_reducible apply go_i);conv=>whnf)|((with_reducible first|apply k_nc|apply k_cs);(·first|exact Wr.ext w0 rfl _|exact Wr.ext w1 rfl _|exact Wr.ext w2 rfl _|exact Wr.ext w3 rfl _|exact Wr.ext w4 rfl _);(try rintro _ _ ⟨rfl,rfl⟩))|((with_reducible apply k_pr);(·first|exact Wr.ext w0 rfl _|exact Wr.ext w1 rfl _|exact Wr.ext w2 rfl _|exact Wr.ext w3 rfl _|exact Wr.ext w4 rfl _))|refine⟨λ_=>?_,λ_=>?_⟩|fail
 all_goals exact⟨rfl,rfl⟩
def encTa(t:Ta):List UInt8:=encT t.nm++encL encCo t.cs++encL encI t.ks++encL encFk t.fs++encL encX t.xs
def TaK(t:Ta):Prop:=TK t.nm/\(t.cs.length<=1048576/\∀c∈t.cs,CoK c)/\(t.ks.length<=1048576/\∀n∈t.ks,I64 n)/\(t.fs.length<=1048576/\∀f∈t.fs,FkK f)/\t.xs.length<=1048576/\∀x∈t.xs,XK x
def encEy(e:Ey):List UInt8:=encI e.tm++encT e.tb++encI e.ch.k++(if e.ch.k=0 then encTa e.cr else encT e.ch.nm++encT e.ch.to++encCo e.ch.co++encV e.ch.df)
def EyK(e:Ey):Prop:=I64 e.tm/\TK e.tb/\I64 e.ch.k/\(if e.ch.k=0 then TaK e.cr else TK e.ch.nm/\TK e.ch.to/\CoK e.ch.co/\vValid e.ch.df=true)
theorem C.writer_table_c1(s:List UInt8)(x:Fk)(h:FkK x)(hs:s.length+(encFk x).length<=536870912):Wr N.precord_writer_table_c1 [av x.ds] s (encFk x):=by
 obtain⟨nl,cs,tb⟩:=x
 unfold encFk at hs ⊢
 simp only[List.length_append] at hs
 have w0:=C.put_int cs encI N.precord_writer_number _ (sld_ng (nl:=nl)) h.1.1 s (by(try simp only[List.length_append]);omega) (λx hx s hs=>C.writer_number s x (h.1.2 x hx) hs)
 have w1:=C.buffer_text (s++encL encI cs) (by(try simp only[List.length_append]);omega) tb h.2.m
 show CallSpec Tryz.prog _ _ (WS s) (λr os=>r=.tup []/\os=WS _)
 rw[show s++(encL encI cs++encT tb)=((s++encL encI cs)++encT tb) by simp only[List.append_assoc]]
 refine F.precord_writer_table_c1.goX mixed rfl ?_
 repeat' first|refine st ?_|((with_reducible apply go_i);conv=>whnf)|((with_reducible first|apply k_nc|apply k_cs);(·first|exact Wr.ext w0 rfl _|exact Wr.ext w1 rfl _);(try rintro _ _ ⟨rfl,rfl⟩))|((with_reducible apply k_pr);(·first|exact Wr.ext w0 rfl _|exact Wr.ext w1 rfl _))|refine⟨λ_=>?_,λ_=>?_⟩|fail
 all_goals exact⟨rfl,rfl⟩
theorem C.writer_table(s:List UInt8)(x:Ta)(h:TaK x)(hs:s.length+(encTa x).length<=536870912):Wr N.precord_writer_table [av x.ds] s (encTa x):=by
 obtain⟨nm,n1,cs,n2,ks,n3,fs,n4,xs⟩:=x
 unfold encTa at hs ⊢
 simp only[List.length_append] at hs
 have w0:=C.buffer_text s (by(try simp only[List.length_append]);omega) nm h.1.m
 have w1:=C.put_Column cs encCo N.precord_writer_column _ (sld_ng (nl:=n1)) h.2.1.1 (s++encT nm) (by(try simp only[List.length_append]);omega) (λx hx s hs=>C.writer_column s x (h.2.1.2 x hx) hs)
 have w2:=C.put_int ks encI N.precord_writer_number _ (sld_ng (nl:=n2)) h.2.2.1.1 ((s++encT nm)++encL encCo cs) (by(try simp only[List.length_append]);omega) (λx hx s hs=>C.writer_number s x (h.2.2.1.2 x hx) hs)
 have w3:=C.put_Foreign fs encFk N.precord_writer_table_c1 _ (sld_ng (nl:=n3)) h.2.2.2.1.1 (((s++encT nm)++encL encCo cs)++encL encI ks) (by(try simp only[List.length_append]);omega) (λx hx s hs=>C.writer_table_c1 s x (h.2.2.2.1.2 x hx) hs)
 have w4:=C.put_Expr xs encX N.precord_writer_expr _ (sld_ng (nl:=n4)) h.2.2.2.2.1 ((((s++encT nm)++encL encCo cs)++encL encI ks)++encL encFk fs) (by(try simp only[List.length_append]);omega) (λx hx s hs=>C.writer_expr x (h.2.2.2.2.2 x hx) s hs)
 show CallSpec Tryz.prog _ _ (WS s) (λr os=>r=.tup []/\os=WS _)
 rw[show s++((((encT nm++encL encCo cs)++encL encI ks)++encL encFk fs)++encL encX xs)=(((((s++encT nm)++encL encCo cs)++encL encI ks)++encL encFk fs)++encL encX xs) by simp only[List.append_assoc]]
 refine F.precord_writer_table.goX mixed rfl ?_
 repeat' first|refine st ?_|((with_reducible apply go_i);conv=>whnf)|((with_reducible first|apply k_nc|apply k_cs);(·first|exact Wr.ext w0 rfl _|exact Wr.ext w1 rfl _|exact Wr.ext w2 rfl _|exact Wr.ext w3 rfl _|exact Wr.ext w4 rfl _);(try rintro _ _ ⟨rfl,rfl⟩))|((with_reducible apply k_pr);(·first|exact Wr.ext w0 rfl _|exact Wr.ext w1 rfl _|exact Wr.ext w2 rfl _|exact Wr.ext w3 rfl _|exact Wr.ext w4 rfl _))|refine⟨λ_=>?_,λ_=>?_⟩|fail
 all_goals exact⟨rfl,rfl⟩
end Go.Proofs
end
section
namespace Go.Proofs
open Go.Bi
theorem C.writer_entry(s:List UInt8)(x:Ey)(h:EyK x)(hs:s.length+(encEy x).length<=536870912):Wr N.precord_writer_entry [av x.ds] s (encEy x):=by
 obtain⟨tm,tb,cr,⟨k,nm,to,co,df⟩⟩:=x
 unfold encEy at hs ⊢
 obtain⟨h1,h2,h3,h4⟩:=h
 simp only[List.length_append] at hs h4
 have w0:=C.buffer_int s (by omega) tm h1
 have w1:=C.buffer_text (s++encI tm) (by simp only[List.length_append];omega) tb h2.m
 have w2:=C.buffer_int ((s++encI tm)++encT tb) (by simp only[List.length_append];omega) k h3
 show CallSpec Tryz.prog _ _ (WS s) (λr os=>r=.tup []/\os=WS _)
 by_cases hk:k=0
 ·rw[if_pos hk] at h4 hs ⊢
  have w3:=C.writer_table (((s++encI tm)++encT tb)++encI k) cr h4 (by simp only[List.length_append];omega)
  subst hk
  obtain⟨a,n1,b,n2,c,n3,d,n4,e⟩:=cr
  rw[show s++(((encI tm++encT tb)++encI 0)++encTa ⟨a,n1,b,n2,c,n3,d,n4,e⟩)=((((s++encI tm)++encT tb)++encI 0)++encTa ⟨a,n1,b,n2,c,n3,d,n4,e⟩) by simp only[List.append_assoc]]
  refine F.precord_writer_entry.goX mixed rfl ?_
  repeat' first|refine st ?_|((with_reducible apply go_i);conv=>whnf)|((with_reducible first|apply k_nc|apply k_cs);(·first|exact Wr.ext w0 rfl _|exact Wr.ext w1 rfl _|exact Wr.ext w2 rfl _|exact Wr.ext w3 rfl _);(try rintro _ _ ⟨rfl,rfl⟩))|((with_reducible apply k_pr);(·first|exact Wr.ext w0 rfl _|exact Wr.ext w1 rfl _|exact Wr.ext w2 rfl _|exact Wr.ext w3 rfl _))|refine⟨λ_=>?_,λ_=>?_⟩|fail
  all_goals exact⟨rfl,rfl⟩
 ·rw[if_neg hk] at h4 hs ⊢
  simp only[List.length_append] at hs
  obtain⟨g1,g2,g3,g4⟩:=h4
  have w3:=C.buffer_text (((s++encI tm)++encT tb)++encI k) (by simp only[List.length_append];omega) nm g1.m
  have w4:=C.buffer_text ((((s++encI tm)++encT tb)++encI k)++encT nm) (by simp only[List.length_append];omega) to g2.m
  have w5:=C.writer_column (((((s++encI tm)++encT tb)++encI k)++encT nm)++encT to) co g3 (by simp only[List.length_append];omega)
  have w6:=C.buffer_value ((((((s++encI tm)++encT tb)++encI k)++encT nm)++encT to)++encCo co) (by simp only[List.length_append];omega) df g4
  obtain⟨a,n1,b,n2,c,n3,d,n4,e⟩:=cr
  rw[show s++(((encI tm++encT tb)++encI k)++(((encT nm++encT to)++encCo co)++encV df))=(((((((s++encI tm)++encT tb)++encI k)++encT nm)++encT to)++encCo co)++encV df) by simp only[List.append_assoc]]
  refine F.precord_writer_entry.goX mixed rfl ?_
  repeat' first|refine st ?_|((with_reducible apply go_i);conv=>whnf)|((with_reducible first|apply k_nc|apply k_cs);(·first|exact Wr.ext w0 rfl _|exact Wr.ext w1 rfl _|exact Wr.ext w2 rfl _|exact Wr.ext w3 rfl _|exact Wr.ext w4 rfl _|exact Wr.ext w5 rfl _|exact Wr.ext w6 rfl _);(try rintro _ _ ⟨rfl,rfl⟩))|((with_reducible apply k_pr);(·first|exact Wr.ext w0 rfl _|exact Wr.ext w1 rfl _|exact Wr.ext w2 rfl _|exact Wr.ext w3 rfl _|exact Wr.ext w4 rfl _|exact Wr.ext w5 rfl _|exact Wr.ext w6 rfl _))|refine⟨λ_=>?_,λ_=>?_⟩|fail
  all_goals exact⟨rfl,rfl⟩
end Go.Proofs
end
section
namespace Go.Proofs
open Go.Bi
abbrev SR(B:List UInt8)(a:Nat):AO:=.cells [.d (.sl (byteL B)),.d (eI a),.d (eI 0)]
abbrev Rd(f:FuncId)(xs:List AV)(B:List UInt8)(a:Nat)(v:AV)(b:Nat):Prop:=CallSpec Tryz.prog f (.ptr 0 0::xs) [SR B a] (λr os=>r=v/\os=[SR B b])
theorem mA_data{f:Nat->Nat}:∀{a:AV},a.isDB=true->mA f a=a
 |.d _,_=>rfl
 |.agg cs,h=>by
  simp only[mA]
  exact mG_data h
theorem Rd.at{f:FuncId}{xs:List AV}{B:List UInt8}{a b:Nat}{v:AV}(h:Rd f xs B a v b)(hx:xs.all AV.isDB=true)(hv:v.isDB=true)(id:Nat)(os:List AO)(ho:os[id]?=some (SR B a)) :
  CallSpec Tryz.prog f (.ptr id 0::xs) os (λr os'=>r=v/\os'=os.set id (SR B b)):=by
 have h2:=CallSpec.frame (K:=λr os'=>r=v/\os'=os.set id (SR B b)) h [id] os rfl (by simp) (λi o hx=>by
   match i with
   |0=>simp at hx;subst hx;exact ho
   |i+1=>simp at hx) (λa ha=>by
   rcases List.mem_cons.1 ha with rfl|ha
   ·exact Nat.zero_lt_succ 0
   ·exact bnd_data (List.all_eq_true.1 hx a ha)) (λo ho=>by
   cases List.mem_singleton.1 ho
   simp[AO.bnd,AV.bnd1]) (λr bs' hq=>by
   obtain⟨rfl,rfl⟩:=hq
   refine⟨mA_data hv,?_⟩
   show putA _ [id] [SR B b] os=_
   simp only[putA,mO,mC,List.map_cons,List.map_nil,List.append_nil])
 have e:(AV.ptr 0 0::xs).map (mG (rn [id] os.length))=.ptr id 0::xs:=by
  rw[List.map_cons]
  congr 1
  conv=>rhs;rw[<- List.map_id xs]
  exact List.map_congr_left λa ha=>mG_data (List.all_eq_true.1 hx a ha)
 rw[e] at h2
 exact h2
theorem C.source_step(B:List UInt8)(a b:Nat):Rd N.precord_source_step [.d (eI b),.d (eI 0)] B a (.d (.bool true)) b:=by
 unfold Rd SR
 obtain⟨z,hz⟩:∃z,z=byteL B:=⟨_,rfl⟩
 rw[<- hz]
 refine F.precord_source_step.goX mixed rfl ?_
 repeat' first|refine st ?_|((with_reducible apply go_i);conv=>whnf)|refine⟨λ_=>?_,λ_=>?_⟩|fail
 all_goals exact⟨rfl,rfl⟩
theorem C.source_int(B:List UInt8)(hB:B.length<=1073741824)(a:Nat)(n:Int)(h:I64 n)(post:List UInt8)(hd:B.drop a=encI n++post):Rd N.precord_source_int [] B a (.d (eI n)) (a+(encI n).length):=by
 have hP:=C.codec_Int B hB a n h post hd
 have hS:=C.source_step B a (a+(encI n).length)
 unfold Rd SR at hS ⊢
 obtain⟨z,hz⟩:∃z,z=byteL B:=⟨_,rfl⟩
 obtain⟨b,hb⟩:∃b,b=a+(encI n).length:=⟨_,rfl⟩
 rw[<- hz,<- hb] at hP hS ⊢
 clear hz hb hd
 refine F.precord_source_int.goX mixed rfl ?_
 repeat' first|refine st ?_|((with_reducible apply go_i);conv=>whnf)|((with_reducible first|apply k_nc|apply k_cs);(·exact hS);(try rintro _ _ ⟨rfl,rfl⟩))|((with_reducible apply k_pr);(·exact hS))|refine⟨λ_=>?_,λ_=>?_⟩|fail
 all_goals exact⟨rfl,rfl⟩
theorem C.source_text(B:List UInt8)(hB:B.length<=1073741824)(a:Nat)(s:List UInt8)(h:TK s)(post:List UInt8)(hd:B.drop a=encT s++post):Rd N.precord_source_text [] B a (.d (.str s)) (a+(encT s).length):=by
 have hP:=C.codec_Text B hB a s 200 (by have:s.length<=200:=h;omega) (by decide) post hd
 have hS:=C.source_step B a (a+(encT s).length)
 unfold Rd SR at hS ⊢
 obtain⟨z,hz⟩:∃z,z=byteL B:=⟨_,rfl⟩
 obtain⟨b,hb⟩:∃b,b=a+(encT s).length:=⟨_,rfl⟩
 rw[<- hz,<- hb] at hP hS ⊢
 clear hz hb hd
 refine F.precord_source_text.goX mixed rfl ?_
 repeat' first|refine st ?_|((with_reducible apply go_i);conv=>whnf)|((with_reducible first|apply k_nc|apply k_cs);(·exact hS);(try rintro _ _ ⟨rfl,rfl⟩))|((with_reducible apply k_pr);(·exact hS))|refine⟨λ_=>?_,λ_=>?_⟩|fail
 all_goals exact⟨rfl,rfl⟩
theorem C.source_value(B:List UInt8)(hB:B.length<=1073741824)(a:Nat)(v:Vl)(h:vValid v=true)(post:List UInt8)(hd:B.drop a=encV v++post):Rd N.precord_source_value [] B a (eV v) (a+(encV v).length):=by
 have hP:=C.codec_Value B hB a v h post hd
 have hS:=λos=>Rd.at (C.source_step B a (a+(encV v).length)) rfl rfl 0 os
 unfold Rd SR at hS ⊢
 obtain⟨z,hz⟩:∃z,z=byteL B:=⟨_,rfl⟩
 obtain⟨b,hb⟩:∃b,b=a+(encV v).length:=⟨_,rfl⟩
 rw[<- hz,<- hb] at hP hS ⊢
 clear hz hb hd
 refine CallSpec.drop 1 rfl (Q:=λr os=>r=eV v/\os.take 1=[.cells [.d (.sl z),.d (eI b),.d (eI 0)]]) ?_ (λr os hq=>by obtain⟨rfl,hq⟩:=hq;rw[hq];exact⟨rfl,rfl,rfl,rfl⟩)
 refine F.precord_source_value.goX mixed rfl ?_
 repeat' first|refine st ?_|((with_reducible apply go_i);conv=>whnf)|((with_reducible first|apply k_nc|apply k_cs);(·exact hS _ rfl);(try rintro _ _ ⟨rfl,rfl⟩))|((with_reducible apply k_pr);(·exact hS _ rfl))|refine⟨λ_=>?_,λ_=>?_⟩|fail
 all_goals exact⟨rfl,rfl⟩
theorem C.source_period(B:List UInt8)(hB:B.length<=1073741824)(a:Nat)(x y:Int)(h:valid x y=true)(post:List UInt8)(hd:B.drop a=encP x y++post):Rd N.precord_source_period [] B a (eP x y) (a+(encP x y).length):=by
 have hP:=C.codec_Period B hB a x y h post hd
 have hS:=λos=>Rd.at (C.source_step B a (a+(encP x y).length)) rfl rfl 0 os
 unfold Rd SR at hS ⊢
 obtain⟨z,hz⟩:∃z,z=byteL B:=⟨_,rfl⟩
 obtain⟨b,hb⟩:∃b,b=a+(encP x y).length:=⟨_,rfl⟩
 rw[<- hz,<- hb] at hP hS ⊢
 clear hz hb hd
 refine CallSpec.drop 1 rfl (Q:=λr os=>r=eP x y/\os.take 1=[.cells [.d (.sl z),.d (eI b),.d (eI 0)]]) ?_ (λr os hq=>by obtain⟨rfl,hq⟩:=hq;rw[hq];exact⟨rfl,rfl,rfl,rfl⟩)
 refine F.precord_source_period.goX mixed rfl ?_
 repeat' first|refine st ?_|((with_reducible apply go_i);conv=>whnf)|((with_reducible first|apply k_nc|apply k_cs);(·exact hS _ rfl);(try rintro _ _ ⟨rfl,rfl⟩))|((with_reducible apply k_pr);(·exact hS _ rfl))|refine⟨λ_=>?_,λ_=>?_⟩|fail
 all_goals exact⟨rfl,rfl⟩
theorem C.source_row(B:List UInt8)(hB:B.length<=1073741824)(a:Nat)(l:List Vl)(hl:l.length<=12)(h:∀v∈l,vValid v=true)(post:List UInt8)(hd:B.drop a=encR l++post):Rd N.precord_source_row [] B a (.d (.sl (eVs l))) (a+(encR l).length):=by
 have hP:=C.codec_Row B hB a l hl h post hd
 have hS:=C.source_step B a (a+(encR l).length)
 unfold Rd SR at hS ⊢
 obtain⟨z,hz⟩:∃z,z=byteL B:=⟨_,rfl⟩
 obtain⟨b,hb⟩:∃b,b=a+(encR l).length:=⟨_,rfl⟩
 rw[<- hz,<- hb] at hP hS ⊢
 clear hz hb hd
 refine F.precord_source_row.goX mixed rfl ?_
 repeat' first|refine st ?_|((with_reducible apply go_i);conv=>whnf)|((with_reducible first|apply k_nc|apply k_cs);(·exact hS);(try rintro _ _ ⟨rfl,rfl⟩))|((with_reducible apply k_pr);(·exact hS))|refine⟨λ_=>?_,λ_=>?_⟩|fail
 all_goals exact⟨rfl,rfl⟩
theorem C.source_bool(B:List UInt8)(hB:B.length<=1073741824)(a:Nat)(x:Bool)(post:List UInt8)(hd:B.drop a=encI (b2i x)++post):Rd N.precord_source_bool [] B a (.d (.bool x)) (a+(encI (b2i x)).length):=by
 have hS:=C.source_int B hB a (b2i x) (b2i_I x) post hd
 unfold Rd SR at hS ⊢
 obtain⟨z,hz⟩:∃z,z=byteL B:=⟨_,rfl⟩
 obtain⟨b,hb⟩:∃b,b=a+(encI (b2i x)).length:=⟨_,rfl⟩
 rw[<- hz,<- hb] at hS ⊢
 clear hz hb hd
 cases x
 ·refine F.precord_source_bool.goX mixed rfl ?_
  repeat' first|refine st ?_|((with_reducible apply go_i);conv=>whnf)|((with_reducible first|apply k_nc|apply k_cs);(·exact hS);(try rintro _ _ ⟨rfl,rfl⟩))|((with_reducible apply k_pr);(·exact hS))|refine⟨λ_=>?_,λ_=>?_⟩|fail
  all_goals exact⟨rfl,rfl⟩
 ·refine F.precord_source_bool.goX mixed rfl ?_
  repeat' first|refine st ?_|((with_reducible apply go_i);conv=>whnf)|((with_reducible first|apply k_nc|apply k_cs);(·exact hS);(try rintro _ _ ⟨rfl,rfl⟩))|((with_reducible apply k_pr);(·exact hS))|refine⟨λ_=>?_,λ_=>?_⟩|fail
  all_goals exact⟨rfl,rfl⟩
theorem C.source_end(B:List UInt8)(a:Nat)(ha:B.length<=a)(hB:B.length<=1073741824):Rd N.precord_source_end [] B a (.d (eI 0)) a:=by
 have hbl:=byteL_l B
 have hb1:=byteL_1 B
 unfold Rd SR
 obtain⟨z,hz⟩:∃z,z=byteL B:=⟨_,rfl⟩
 rw[<- hz] at hbl hb1 ⊢
 refine F.precord_source_end.goX mixed rfl ?_
 repeat' first|refine st ?_|((with_reducible apply go_i);conv=>whnf)|refine⟨λ_=>?_,λ_=>?_⟩|fail
 all_goals exact⟨rfl,rfl⟩
end Go.Proofs
end
