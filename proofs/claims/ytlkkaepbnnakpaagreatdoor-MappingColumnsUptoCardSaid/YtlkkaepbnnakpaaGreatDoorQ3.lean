/- Texts of this claim, joined. No condition. -/
import Derived.Test.YtlkkaepbnnakpaaGreatDoorQ2
set_option linter.unusedSimpArgs false
set_option linter.unusedVariables false
set_option maxRecDepth 10000
set_option maxHeartbeats 4000000
section
namespace Go.Proofs
open Go.Bi
theorem C.r13_foreign(n:List UInt8)(l:List Co)(hl:l.length<=1048576)(dc dk df dx:D)(hc:SlD dc (eCs l))(f:Fo)(hf:f.cs.length<=1048576)(hft:f.tb.length<=1048576):Pure Tryz.prog N.bt_ref13_foreign [eT n dc dk df dx,.agg [.d f.d,.d (.str f.tb)]] (.d (eI (forE l.length f))):=by
 refine F.bt_ref13_foreign.go mixed rfl ?_
 have h1:=eIs_len f.cs
 have hm:=eIs_mem f.cs
 have hsd:=f.sld
 have hN:=C.r13_Name f.tb hft
 obtain⟨nl,cs,tb⟩:=f
 obtain⟨fd,hfd⟩:∃fd,fd=Fo.d ⟨nl,cs,tb⟩:=⟨_,rfl⟩
 rw[<- hfd] at hsd ⊢
 dsimp only at h1 hm hsd hN hf ⊢
 unfold forE
 dsimp only
 cases hv:nameB tb with
 |false=>
  rw[hv] at hN
  rw[if_neg (by simp)]
  repeat' first|refine st ?_|((with_reducible first|apply k_pn|apply k_pc);(·exact hN))|(with_reducible first|apply k_d|apply k_b)<;>intro _
  all_goals rfl
 |true=>
 rw[hv] at hN
 rw[if_pos rfl]
 by_cases h0:cs.length=0
 ·rw[if_pos h0]
  repeat' first|refine st ?_|((with_reducible first|apply k_pn|apply k_pc);(·exact hN))|(with_reducible first|apply k_d|apply k_b)<;>intro _
  all_goals first|rfl|(exfalso;omega)
 rw[if_neg h0]
 obtain⟨q,hq⟩:∃q,q=fcF l.length [] cs:=⟨_,rfl⟩
 rw[<- hq]
 repeat' first|refine st ?_|((with_reducible first|apply k_pn|apply k_pc);(·exact hN))|(with_reducible first|apply k_d|apply k_b)<;>intro _
 refine x_loop1 mixed Lt.bt_ref13_foreign_l1 Lk.bt_ref13_foreign_l1 (λ(i:Nat)=>[.d (eI i)]) (λi=>[.cells [.d (.str n),.d dc,.d dk,.d df,.d dx],.cells [.d fd,.d (.str tb)]]) (λi=>i<=cs.length/\q=fcF l.length (cs.take i) (cs.drop i)) (λi=>cs.length-i) 0 rfl rfl rfl rfl (λ_ _=>⟨rfl,rfl⟩) rfl ⟨by omega,hq⟩ ?_
 repeat' first|refine st ?_|(with_reducible first|apply k_d|apply k_b)<;>intro _
 intro i ⟨h4,h5⟩
 cases hx:cs[i]? with
 |some c=>
  have hlt:=(List.getElem?_eq_some_iff.1 hx).1
  have hg:=eIs_get hx
  have hE:=C.r13_exists n l hl dc dk df dx hc c
  rw[fcF_drop hx] at h5
  by_cases hin:0<=c/\c<l.length
  rotate_left
  ·rw[if_neg (λh=>hin h.1)] at h5
   rw[decide_eq_false hin] at hE
   rw[h5]
   repeat' first|refine st ?_|((with_reducible first|apply k_pn|apply k_pc);(·exact hE))|(with_reducible first|apply k_d|apply k_b)<;>intro _
   all_goals rfl
  rw[decide_eq_true hin] at hE
  repeat' first|refine st ?_|((with_reducible first|apply k_pn|apply k_pc);(·exact hE))|(with_reducible first|apply k_d|apply k_b)<;>intro _
  refine x_loop1 mixed Lt.bt_ref13_foreign_l0 Lk.bt_ref13_foreign_l0 (λ(k:Nat)=>[.d (eI k)]) (λk=>[.cells [.d (.str n),.d dc,.d dk,.d df,.d dx],.cells [.d fd,.d (.str tb)]]) (λk=>k<=i/\¬c∈cs.take k) (λk=>i-k) 0 rfl rfl rfl rfl (λ_ _=>⟨rfl,rfl⟩) rfl ⟨by omega,by simp⟩ ?_
  repeat' first|refine st ?_|(with_reducible first|apply k_d|apply k_b)<;>intro _
  intro k ⟨h6,h7⟩
  by_cases hk:k<i
  ·obtain⟨c',hc'⟩:∃c',cs[k]?=some c':=⟨_,List.getElem?_eq_getElem (by omega)⟩
   have hg':=eIs_get hc'
   by_cases he:c'=c
   ·have hmem:c∈cs.take i:=by
     rw[<- he]
     exact List.mem_of_getElem? (i:=k) (by rw[List.getElem?_take_of_lt hk];exact hc')
    rw[if_neg (λh=>h.2 hmem)] at h5
    rw[h5]
    repeat' first|refine st ?_|(with_reducible first|apply k_d|apply k_b)<;>intro _
    all_goals rfl
   ·repeat' first|refine st ?_|(with_reducible first|apply k_d|apply k_b)<;>intro _
    refine⟨k+1,rfl,rfl,rfl,by omega,by omega,?_⟩
    rw[List.take_add_one,hc']
    intro hmem
    rcases List.mem_append.1 hmem with h|h
    ·exact h7 h
    ·simp at h;exact he h.symm
  ·have:k=i:=by omega
   subst this
   rw[if_pos ⟨hin,h7⟩] at h5
   repeat' first|refine st ?_|(with_reducible first|apply k_d|apply k_b)<;>intro _
   exact⟨k+1,rfl,rfl,rfl,by omega,by omega,h5⟩
 |none=>
  have hge:=List.getElem?_eq_none_iff.1 hx
  rw[List.drop_eq_nil_of_le hge] at h5
  rw[h5]
  repeat' first|refine st ?_|(with_reducible first|apply k_d|apply k_b)<;>intro _
  all_goals rfl
end Go.Proofs
end
section
namespace Go.Proofs
open Go.Bi
def mp1I(ns:List Int):List (D×AV):=ns.map λs=>(eI s,.d (eI 1))
theorem eqD_sI(a b:Int):eqD .i (eI a) (eI b)=some (decide (a=b)):=by
 show(if IntKind.i64=IntKind.i64 then some (a==b) else none)=_
 rw[if_pos rfl,Option.some.injEq,Bool.eq_iff_iff]
 simp
theorem mok_sI(s:Int)(kvs:List (D×AV))(h:∀p∈kvs,∃t,p.1=eI t):mok .i (eI s) kvs:=by
 refine⟨λp hp=>?_,by rw[eqD_sI];simp⟩
 obtain⟨t,ht⟩:=h p hp
 rw[ht,eqD_sI];simp
theorem mp1_strI(ns:List Int):∀p∈mp1I ns,∃t,p.1=eI t:=by
 intro p hp
 obtain⟨s,_,rfl⟩:=List.mem_map.1 hp
 exact⟨s,rfl⟩
theorem mget_inI{s:Int}:∀{ns:List Int},s∈ns->mget .i (eI s) (mp1I ns)=some (.d (eI 1))
 |[],h=>by cases h
 |t::ns,h=>by
  unfold mp1I
  rw[List.map_cons,mget,eqD_sI]
  by_cases e:s=t
  ·rw[if_pos (by rw[decide_eq_true e])]
  ·rw[if_neg (by simp[e])]
   exact mget_inI (by rcases List.mem_cons.1 h with h|h;exact absurd h e;exact h)
theorem mget_outI{s:Int}:∀{ns:List Int},¬s∈ns->mget .i (eI s) (mp1I ns)=none
 |[],h=>rfl
 |t::ns,h=>by
  unfold mp1I
  rw[List.map_cons,mget,eqD_sI]
  rw[if_neg (by simp;intro e;exact h (by simp[e]))]
  exact mget_outI λh'=>h (by simp[h'])
theorem mput_outI{s:Int}{v:AV}:∀{ns:List Int},¬s∈ns->mput .i (eI s) v (mp1I ns)=mp1I ns++[(eI s,v)]
 |[],h=>rfl
 |t::ns,h=>by
  unfold mp1I
  rw[List.map_cons,mput,eqD_sI]
  rw[if_neg (by simp;intro e;exact h (by simp[e]))]
  have e:mput .i (eI s) v (mp1I ns)=mp1I ns++[(eI s,v)]:=mput_outI (λh':s∈ns=>h (List.mem_cons_of_mem _ h'))
  unfold mp1I at e
  rw[e];rfl
theorem mput_strI{s:Int}{v:AV}:∀{kvs:List (D×AV)},(∀p∈kvs,∃t,p.1=eI t)->∀p∈mput .i (eI s) v kvs,∃t,p.1=eI t
 |[],h,p,hp=>by simp[mput] at hp;subst hp;exact⟨s,rfl⟩
 |q::kvs,h,p,hp=>by
  unfold mput at hp
  split at hp
  ·rcases List.mem_cons.1 hp with rfl|hp
   ·exact⟨s,rfl⟩
   ·exact h p (by simp[hp])
  ·rcases List.mem_cons.1 hp with rfl|hp
   ·exact h _ (by simp)
   ·exact mput_strI (λp hp=>h p (by simp[hp])) p hp
theorem mget_mputI{s:Int}{v:AV}:∀{kvs:List (D×AV)},mget .i (eI s) (mput .i (eI s) v kvs)=some v
 |[]=>by simp[mput,mget,eqD_sI]
 |q::kvs=>by
  unfold mput
  split
  ·simp[mget,eqD_sI]
  ·rename_i h
   rw[mget,if_neg h]
   exact mget_mputI
theorem mp1I_app(ns:List Int)(s:Int):mp1I ns++[(eI s,.d (eI 1))]=mp1I (ns++[s]):=by simp[mp1I]
theorem mp1I_bnd(ns:List Int)(m:Nat):(AO.map (mp1I ns)).bndB m=true:=by
 refine List.all_eq_true.2 λp hp=>?_
 obtain⟨s,_,rfl⟩:=List.mem_map.1 hp
 rfl
def forsF(n:Nat):List Fo->Int
 |[]=>0
 |f::r=>if forE n f=0 then forsF n r else forE n f
def forsE(n:Nat)(l:List Fo):Int:=if l.length<=4 then forsF n l else 5
theorem forsF_drop{n:Nat}{l:List Fo}{i:Nat}{f:Fo}(h:l[i]?=some f):forsF n (l.drop i)=if forE n f=0 then forsF n (l.drop (i+1)) else forE n f:=by
 obtain⟨hlt,he⟩:=List.getElem?_eq_some_iff.1 h
 rw[List.drop_eq_getElem_cons hlt,he];rfl
theorem C.schema_checkForeigns(n:List UInt8)(l:List Co)(hl:l.length<=1048576)(fs:List Fo)(hfl:fs.length<=1048576)(hfc:∀f∈fs,f.cs.length<=1048576/\f.tb.length<=1048576)(dc dk df dx:D)(hc:SlD dc (eCs l))(hdf:SlD df (eFs fs)):Pure Tryz.prog N.schema_checkForeigns [eT n dc dk df dx] (.d (eI (forsE l.length fs))):=by
 refine F.schema_checkForeigns.go mixed rfl ?_
 have h1:=eFs_len fs
 have hm:=eFs_mem fs
 unfold forsE
 by_cases h0:fs.length<=4
 rotate_left
 ·rw[if_neg h0]
  repeat' first|refine st ?_|(with_reducible first|apply k_d|apply k_b)<;>intro _
  all_goals first|rfl|(exfalso;omega)
 rw[if_pos h0]
 obtain⟨q,hq⟩:∃q,q=forsF l.length fs:=⟨_,rfl⟩
 rw[<- hq]
 repeat' first|refine st ?_|(with_reducible first|apply k_d|apply k_b)<;>intro _
 refine x_loop1 mixed Lt.schema_checkForeigns_l1 Lk.schema_checkForeigns_l1 (λ(i:Nat)=>[.d (eI i)]) (λi=>[.cells [.d (.str n),.d dc,.d dk,.d df,.d dx]]) (λi=>i<=fs.length/\q=forsF l.length (fs.drop i)) (λi=>fs.length-i) 0 rfl rfl rfl rfl (λ_ _=>⟨rfl,rfl⟩) rfl ⟨by omega,hq⟩ ?_
 repeat' first|refine st ?_|(with_reducible first|apply k_d|apply k_b)<;>intro _
 intro i ⟨h4,h5⟩
 cases hx:fs[i]? with
 |some f=>
  have hlt:=(List.getElem?_eq_some_iff.1 hx).1
  have hg:=eFs_get hx
  obtain⟨hf,hft⟩:=hfc f (List.mem_of_getElem? hx)
  have hN:=C.schema_Name f.tb hft
  rw[forsF_drop hx] at h5
  have k1:=eIs_len f.cs
  have k2:=eIs_mem f.cs
  have hsd:=f.sld
  obtain⟨nl,cs,tb⟩:=f
  have hg:(eFs fs)[i]?=some [Fo.d ⟨nl,cs,tb⟩,.str tb]:=hg
  obtain⟨fd,hfd⟩:∃fd,fd=Fo.d ⟨nl,cs,tb⟩:=⟨_,rfl⟩
  rw[<- hfd] at hsd hg
  dsimp only at k1 k2 hsd hN hf
  obtain⟨e,he⟩:∃e,e=forE l.length ⟨nl,cs,tb⟩:=⟨_,rfl⟩
  rw[<- he] at h5
  unfold forE at he
  dsimp only at he
  cases hv:nameB tb with
  |false=>
   rw[hv] at hN
   rw[hv,if_neg (by simp)] at he
   rw[he,if_neg (by decide)] at h5
   rw[h5]
   repeat' first|refine st ?_|((with_reducible first|apply k_pn|apply k_pc);(·exact hN))|(with_reducible first|apply k_d|apply k_b)<;>intro _
   all_goals rfl
  |true=>
   rw[hv] at hN
   rw[hv,if_pos rfl] at he
   have hcF:e=0->¬cs.length=0/\fcF l.length [] cs=0:=λh=>by
    by_cases g:cs.length=0
    ·rw[if_pos g] at he;omega
    ·rw[if_neg g] at he;exact⟨g,by omega⟩
   have hcF2:fcF l.length [] cs=25->e=25:=λh=>by
    by_cases g:cs.length=0
    ·rw[if_pos g] at he;exact he
    ·rw[if_neg g] at he;omega
   repeat' first|refine st ?_|((with_reducible first|apply k_pn|apply k_pc);(·exact hN))|(with_reducible first|apply k_d|apply k_b)<;>intro _
   refine x_loop1 mixed Lt.schema_checkForeigns_l0 Lk.schema_checkForeigns_l0 (λ(k:Nat)=>[.d (eI k)]) (λk=>[.cells [.d (.str n),.d dc,.d dk,.d df,.d dx],.cells [.d fd,.d (.str tb)],.map (mp1I (cs.take k))]) (λk=>k<=cs.length/\fcF l.length [] cs=fcF l.length (cs.take k) (cs.drop k)) (λk=>cs.length-k) 0 rfl rfl rfl rfl (λ_ _=>⟨rfl,(by rw[List.all_cons,List.all_cons,List.all_cons,mp1I_bnd];rfl)⟩) rfl ⟨by omega,rfl⟩ ?_
   repeat' first|refine st ?_|(with_reducible first|apply k_d|apply k_b)<;>intro _
   intro k ⟨h6,h7⟩
   cases hy:cs[k]? with
   |some c=>
    have hlt2:=(List.getElem?_eq_some_iff.1 hy).1
    have hg2:=eIs_get hy
    have hH:=C.schema_has n l hl dc dk df dx hc c
    rw[fcF_drop hy] at h7
    obtain⟨kvs,hkv⟩:∃kvs,kvs=mp1I (cs.take k):=⟨_,rfl⟩
    have m1:mok .i (eI c) kvs:=by rw[hkv];exact mok_sI _ _ (mp1_strI _)
    have hts:cs.take k++[c]=cs.take (k+1):=by rw[List.take_add_one,hy];rfl
    by_cases hin:c∈cs.take k
    ·rw[if_neg (λh=>h.2 hin)] at h7
     have e25:=hcF2 h7
     rw[e25,if_neg (by decide)] at h5
     have e1:lkR false (zv false [.int .i64 0]) (mget .i (eI c) kvs)=.d (eI 1):=by rw[hkv,mget_inI hin];rfl
     obtain⟨kv2,e2⟩:∃kv2,mput .i (eI c) (.d (eI 2)) kvs=kv2:=⟨_,rfl⟩
     have m2:mok .i (eI c) kv2:=by rw[<- e2,hkv];exact mok_sI _ _ (mput_strI (mp1_strI _))
     have e3:lkR false (zv false [.int .i64 0]) (mget .i (eI c) kv2)=.d (eI 2):=by rw[<- e2,mget_mputI];rfl
     rw[<- hkv]
     rw[h5]
     by_cases hh:0<=c/\c<l.length
     ·rw[decide_eq_true hh] at hH
      repeat' first|refine st ?_|((with_reducible first|apply k_pn|apply k_pc);(·exact hH))|(with_reducible first|apply k_d|apply k_b)<;>intro _
      all_goals rfl
     ·rw[decide_eq_false hh] at hH
      repeat' first|refine st ?_|((with_reducible first|apply k_pn|apply k_pc);(·exact hH))|(with_reducible first|apply k_d|apply k_b)<;>intro _
      all_goals rfl
    ·have e1:lkR false (zv false [.int .i64 0]) (mget .i (eI c) kvs)=.d (eI 0):=by rw[hkv,mget_outI hin];rfl
     have e2:mput .i (eI c) (.d (eI 1)) kvs=mp1I (cs.take (k+1)):=by rw[hkv,mput_outI hin,mp1I_app,hts]
     have m2:mok .i (eI c) (mp1I (cs.take (k+1))):=mok_sI _ _ (mp1_strI _)
     have e3:lkR false (zv false [.int .i64 0]) (mget .i (eI c) (mp1I (cs.take (k+1))))=.d (eI 1):=by rw[mget_inI (by rw[<- hts];simp)];rfl
     rw[<- hkv]
     by_cases hh:0<=c/\c<l.length
     ·rw[decide_eq_true hh] at hH
      rw[if_pos ⟨hh,hin⟩] at h7
      repeat' first|refine st ?_|((with_reducible first|apply k_pn|apply k_pc);(·exact hH))|(with_reducible first|apply k_d|apply k_b)<;>intro _
      exact⟨k+1,rfl,rfl,rfl,by omega,by omega,h7⟩
     ·rw[decide_eq_false hh] at hH
      rw[if_neg (λh=>hh h.1)] at h7
      have e25:=hcF2 h7
      rw[e25,if_neg (by decide)] at h5
      rw[h5]
      repeat' first|refine st ?_|((with_reducible first|apply k_pn|apply k_pc);(·exact hH))|(with_reducible first|apply k_d|apply k_b)<;>intro _
      all_goals rfl
   |none=>
    have hge2:=List.getElem?_eq_none_iff.1 hy
    rw[List.drop_eq_nil_of_le hge2] at h7
    have h7:fcF l.length [] cs=0:=h7
    by_cases g:cs.length=0
    ·rw[if_pos g] at he
     rw[he,if_neg (by decide)] at h5
     rw[h5]
     repeat' first|refine st ?_|(with_reducible first|apply k_d|apply k_b)<;>intro _
     all_goals first|rfl|(exfalso;omega)
    ·rw[if_neg g,h7] at he
     rw[if_pos he] at h5
     repeat' first|refine st ?_|(with_reducible first|apply k_d|apply k_b)<;>intro _
     exact⟨i+1,rfl,rfl,rfl,by omega,by omega,h5⟩
 |none=>
  have hge:=List.getElem?_eq_none_iff.1 hx
  rw[List.drop_eq_nil_of_le hge] at h5
  rw[h5]
  repeat' first|refine st ?_|(with_reducible first|apply k_d|apply k_b)<;>intro _
  all_goals rfl
end Go.Proofs
end
section
namespace Go.Proofs
open Go.Bi
def mx(l:List Nat):Nat:=l.foldl max 0
mutual
def dep:Ex->Nat
 |.mk op n v name nl args=>1+mx (depL args)
def depL:List Ex->List Nat
 |[]=>[]
 |e::es=>dep e::depL es
end
theorem depL_eq:∀l,depL l=l.map dep
 |[]=>by simp[depL]
 |e::es=>by simp[depL,depL_eq es]
theorem dep_mk(op n:Int)(v:Vl)(name:List UInt8)(nl:Bool)(args:List Ex):dep (.mk op n v name nl args)=1+mx (args.map dep):=by rw[dep,depL_eq]
theorem mx_le{l:List Nat}{B:Nat}(h:∀x∈l,x<=B):mx l<=B:=by
 unfold mx
 have key:∀(l:List Nat) (a:Nat),a<=B->(∀x∈l,x<=B)->l.foldl max a<=B:=by
  intro l
  induction l with
  |nil=>intro a ha _;exact ha
  |cons x l ih=>intro a ha hl;exact ih (max a x) (by have:=hl x (by simp);omega) λy hy=>hl y (by simp[hy])
 exact key l 0 (Nat.zero_le _) h
theorem dep_bk:∀e:Ex,dep e<=e.bk:=by
 refine Ex.ind λop n v name nl args ih=>?_
 rw[dep_mk]
 have h1:mx (args.map dep)<=(Ex.mk op n v name nl args).bk-1:=mx_le λx hx=>by
  obtain⟨a,ha,rfl⟩:=List.mem_map.1 hx
  have h2:=ih a ha
  have h3:=Ex.bk_arg (op:=op) (n:=n) (v:=v) (name:=name) (nl:=nl) ha
  omega
 have:=(Ex.mk op n v name nl args).bk_pos
 omega
theorem foldl_take_succ'{α β:Type}(f:β->α->β)(b:β)(l:List α)(i:Nat)(x:α)(h:l[i]?=some x):(l.take (i+1)).foldl f b=f ((l.take i).foldl f b) x:=by
 rw[List.take_add_one,h];simp
theorem mx_succ{l:List Nat}{i x:Nat}(h:l[i]?=some x):mx (l.take (i+1))=max (mx (l.take i)) x:=foldl_take_succ' _ _ _ _ _ h
theorem C.expr_depth:∀e:Ex,e.bk<=1048576->∀m:Nat,1<=m->m<=25->Pure Tryz.prog N.expr_depth [e.av,.d (eI m)] (.d (eI (min m (dep e):Nat))):=by
 refine Ex.ind λop n v name nl args ih hbk m hm1 hm2=>?_
 obtain⟨b1,b2,b3,b4⟩:=Ex.bk_bounds hbk
 have ih':∀a∈args,∀m:Nat,1<=m->m<=25->Pure Tryz.prog N.expr_depth [a.av,.d (eI m)] (.d (eI (min m (dep a):Nat))):=λa ha=>ih a ha (b4 a ha)
 clear ih
 rw[Ex.av_mk,dep_mk]
 refine F.expr_depth.go mixed rfl ?_
 have hlen:=xL_len args
 have hm:=xL_mem args
 have hd:SlD (ng nl (xL args)) (xL args):=sld_ng
 have hget:∀(i:Nat) (op' n':Int) (v':Vl) (name':List UInt8) (nl':Bool) (args':List Ex),args[i]?=some (.mk op' n' v' name' nl' args')->(xL args)[i]?=some (xds op' n' v' name' (ng nl' (xL args'))):=λi op' n' v' name' nl' args' h=>by
  rw[<- Ex.ds_mk];exact xL_get h
 obtain⟨d,hde⟩:∃d,d=ng nl (xL args):=⟨_,rfl⟩
 rw[<- hde] at hd ⊢
 obtain⟨es,hes⟩:∃es,es=xL args:=⟨_,rfl⟩
 rw[<- hes] at hlen hm hd hget
 by_cases h1:m=1
 ·subst h1
  rw[show min 1 (1+mx (args.map dep))=1 by omega]
  repeat' first|refine st ?_|((with_reducible apply go_i);conv=>whnf)|(with_reducible first|apply k_d|apply k_b)<;>intro _
  all_goals rfl
 have h2:¬(m:Int)<=1:=by omega
 repeat' first|refine st ?_|((with_reducible apply go_i);conv=>whnf)|(with_reducible first|apply k_d|apply k_b)<;>intro _
 refine x_loop2 mixed Lt.expr_depth_l0 Lk.expr_depth_l0 (λ(i:Nat) (t:Nat)=>[.d (eI t),.d (eI i)]) (λi t=>[.cells [.d (eI op),.d (eI n),.d (eI v.k),.d (eI v.n),.d (.str v.s),.d (.str name),.d d]]) (λi t=>i<=args.length/\t=min m (1+mx ((args.map dep).take i))) (λi _=>args.length-i) 0 1 rfl rfl rfl rfl (λ_ _ _=>⟨rfl,rfl⟩) rfl ⟨by omega,by simp[mx];omega⟩ ?_
 repeat' first|refine st ?_|((with_reducible apply go_i);conv=>whnf)|(with_reducible first|apply k_d|apply k_b)<;>intro _
 intro i t ⟨h4,h5⟩
 cases hx:args[i]? with
 |some x=>
  have hlt:=(List.getElem?_eq_some_iff.1 hx).1
  have hI:=ih' x (List.mem_of_getElem? hx) (m-1) (by omega) (by omega)
  have hmx:=mx_succ (l:=args.map dep) (i:=i) (x:=dep x) (by rw[List.getElem?_map,hx];rfl)
  rw[show((m-1:Nat):Int)=(m:Int)-1 by omega] at hI
  obtain⟨y,hy⟩:∃y,y=dep x:=⟨_,rfl⟩
  rw[<- hy] at hI hmx
  obtain⟨op',n',v',name',nl',args'⟩:=x
  rw[Ex.av_mk] at hI
  have hg:=hget i _ _ _ _ _ _ hx
  repeat' first|refine st ?_|((with_reducible apply go_i);conv=>whnf)|((with_reducible first|apply k_pn|apply k_pc);(·exact hI))|(with_reducible first|apply k_d|apply k_b)<;>intro _
  refine⟨i+1,max t (1+min (m-1) y),?_,rfl,rfl,by omega,by omega,?_⟩
  ·simp only[List.cons.injEq,AV.d.injEq,D.int.injEq,true_and,and_true]
   omega
  ·rw[hmx];omega
 |none=>
  have hge:=List.getElem?_eq_none_iff.1 hx
  rw[List.take_of_length_le (by simpa using hge)] at h5
  repeat' first|refine st ?_|((with_reducible apply go_i);conv=>whnf)|(with_reducible first|apply k_d|apply k_b)<;>intro _
  rw[h5]
theorem C.expr_Depth(e:Ex)(he:e.bk<=1048576):Pure Tryz.prog N.expr_Depth [e.av] (.d (eI (min 25 (dep e):Nat))):=by
 have h:=C.expr_depth e he 25 (by omega) (by omega)
 obtain⟨op,n,v,name,nl,args⟩:=e
 rw[Ex.av_mk] at h ⊢
 refine F.expr_Depth.go mixed rfl ?_
 repeat' first|refine st ?_|((with_reducible apply go_i);conv=>whnf)|((with_reducible first|apply k_pn|apply k_pc);(·exact h))|(with_reducible first|apply k_d|apply k_b)<;>intro _
theorem C.r11_depth:∀e:Ex,e.bk<=1048576->Pure Tryz.prog N.bt_ref11_depth [e.av] (.d (eI (dep e:Nat))):=by
 refine Ex.ind λop n v name nl args ih hbk=>?_
 have hdb:=dep_bk (.mk op n v name nl args)
 obtain⟨b1,b2,b3,b4⟩:=Ex.bk_bounds hbk
 have ih':∀a∈args,Pure Tryz.prog N.bt_ref11_depth [a.av] (.d (eI (dep a:Nat))):=λa ha=>ih a ha (b4 a ha)
 clear ih
 rw[dep_mk] at hdb
 rw[Ex.av_mk,dep_mk]
 refine F.bt_ref11_depth.go mixed rfl ?_
 have hlen:=xL_len args
 have hm:=xL_mem args
 have hd:SlD (ng nl (xL args)) (xL args):=sld_ng
 have hget:∀(i:Nat) (op' n':Int) (v':Vl) (name':List UInt8) (nl':Bool) (args':List Ex),args[i]?=some (.mk op' n' v' name' nl' args')->(xL args)[i]?=some (xds op' n' v' name' (ng nl' (xL args'))):=λi op' n' v' name' nl' args' h=>by
  rw[<- Ex.ds_mk];exact xL_get h
 obtain⟨d,hde⟩:∃d,d=ng nl (xL args):=⟨_,rfl⟩
 rw[<- hde] at hd ⊢
 obtain⟨es,hes⟩:∃es,es=xL args:=⟨_,rfl⟩
 rw[<- hes] at hlen hm hd hget
 repeat' first|refine st ?_|((with_reducible apply go_i);conv=>whnf)|(with_reducible first|apply k_d|apply k_b)<;>intro _
 refine x_loop2 mixed Lt.bt_ref11_depth_l0 Lk.bt_ref11_depth_l0 (λ(i:Nat) (t:Nat)=>[.d (eI t),.d (eI i)]) (λi t=>[.cells [.d (eI op),.d (eI n),.d (eI v.k),.d (eI v.n),.d (.str v.s),.d (.str name),.d d]]) (λi t=>i<=args.length/\t=mx ((args.map dep).take i)) (λi _=>args.length-i) 0 0 rfl rfl rfl rfl (λ_ _ _=>⟨rfl,rfl⟩) rfl ⟨by omega,rfl⟩ ?_
 repeat' first|refine st ?_|((with_reducible apply go_i);conv=>whnf)|(with_reducible first|apply k_d|apply k_b)<;>intro _
 intro i t ⟨h4,h5⟩
 cases hx:args[i]? with
 |some x=>
  have hlt:=(List.getElem?_eq_some_iff.1 hx).1
  have hI:=ih' x (List.mem_of_getElem? hx)
  have hmx:=mx_succ (l:=args.map dep) (i:=i) (x:=dep x) (by rw[List.getElem?_map,hx];rfl)
  obtain⟨y,hy⟩:∃y,y=dep x:=⟨_,rfl⟩
  rw[<- hy] at hI hmx
  obtain⟨op',n',v',name',nl',args'⟩:=x
  rw[Ex.av_mk] at hI
  have hg:=hget i _ _ _ _ _ _ hx
  repeat' first|refine st ?_|((with_reducible apply go_i);conv=>whnf)|((with_reducible first|apply k_pn|apply k_pc);(·exact hI))|(with_reducible first|apply k_d|apply k_b)<;>intro _
  refine⟨i+1,max t y,?_,rfl,rfl,by omega,by omega,?_⟩
  ·simp only[List.cons.injEq,AV.d.injEq,D.int.injEq,true_and,and_true]
   omega
  ·rw[hmx,h5]
 |none=>
  have hge:=List.getElem?_eq_none_iff.1 hx
  rw[List.take_of_length_le (by simpa using hge)] at h5
  repeat' first|refine st ?_|((with_reducible apply go_i);conv=>whnf)|(with_reducible first|apply k_d|apply k_b)<;>intro _
  rw[h5]
  simp only[AV.d.injEq,D.int.injEq,true_and]
  omega
end Go.Proofs
end
section
namespace Go.Proofs
open Go.Bi
def cnt(op n:Int):Bool×Bool:=
 if op=1\/op=2 then (decide (n=0),true)
 else if op=4\/op=18\/op=20\/op=21 then (decide (n=1),true)
 else if op=7\/op=8\/op=9\/op=10\/op=11\/op=12\/op=13\/op=14\/op=15\/op=16\/op=17\/op=19 then (decide (n=2),true)
 else if op=5\/op=6 then (decide (2<=n),true)
 else if op=22 then (decide (n=3),true)
 else if op=23 then (decide (1<=n),true)
 else if op=24 then (decide (n=4),true) else (false,false)
theorem C.expr_counts(op n:Int):Pure Tryz.prog N.expr_counts [.d (eI op),.d (eI n)] (.tup [.d (.bool (cnt op n).1),.d (.bool (cnt op n).2)]):=by
 refine F.expr_counts.go mixed rfl ?_
 repeat' first|refine st ?_|(with_reducible first|apply k_d|apply k_b)<;>intro _
 all_goals first
  |(subst_vars;rfl)
  |(simp only[cnt];rw[if_neg (by omega),if_neg (by omega),if_neg (by omega),if_neg (by omega),if_neg (by omega),if_neg (by omega),if_neg (by omega)])
def ary(op:Int):Int×Int:=
 if op=1\/op=2 then (0,0)
 else if op=4\/op=18\/op=20\/op=21 then (1,1)
 else if op=7\/op=8\/op=9\/op=10\/op=11\/op=12\/op=13\/op=14\/op=15\/op=16\/op=17\/op=19 then (2,2)
 else if op=5\/op=6 then (2,1099511627776)
 else if op=22 then (3,3)
 else if op=23 then (1,1099511627776)
 else if op=24 then (4,4) else (-1,0)
theorem C.r11_Arity(op:Int):Pure Tryz.prog N.bt_ref11_Arity [.d (eI op)] (.tup [.d (eI (ary op).1),.d (eI (ary op).2)]):=by
 refine F.bt_ref11_Arity.go mixed rfl ?_
 repeat' first|refine st ?_|(with_reducible first|apply k_d|apply k_b)<;>intro _
 all_goals first
  |(subst_vars;rfl)
  |(simp only[ary];rw[if_neg (by omega),if_neg (by omega),if_neg (by omega),if_neg (by omega),if_neg (by omega),if_neg (by omega),if_neg (by omega)])
theorem ary_cnt(op:Int)(k:Nat)(hk:k<=1048576):(cnt op k).1=decide (¬((ary op).1<0\/(k:Int)<(ary op).1\/(ary op).2<(k:Int)))/\(cnt op k).2=decide (¬(ary op).1<0):=by
 unfold cnt ary
 repeat' split
 all_goals (constructor<;>(rw[Bool.eq_iff_iff];simp;try omega))
end Go.Proofs
end
section
namespace Go.Proofs
open Go.Bi
def fmd(op n:Int)(v:Vl)(name:List UInt8)(k:Nat):Bool:=
 (cnt op k).1&&decide (name=[])&&(if op=1 then decide (n=0)&&vValid v else if op=24 then decide (0<=n/\n<13)&&decide (v=vNull) else if op=2 then decide (v=vNull) else decide (n=0)&&decide (v=vNull))
theorem vNull_is(v:Vl):decide (v=vNull)=(decide (v.k=0)&&(decide (v.n=0)&&decide (v.s=[]))):=by
 rw[Bool.eq_iff_iff]
 simp only[decide_eq_true_eq,Bool.and_eq_true,vl_eq]
 exact Iff.rfl
theorem fmd_1(n:Int)(v:Vl)(k:Nat)(h:(cnt 1 k).1=true):fmd 1 n v [] k=(decide (n=0)&&vValid v):=by unfold fmd;rw[h];rfl
theorem fmd_24(n:Int)(v:Vl)(k:Nat)(h:(cnt 24 k).1=true):fmd 24 n v [] k=(decide (0<=n/\n<13)&&decide (v=vNull)):=by unfold fmd;rw[h];rfl
theorem fmd_2(n:Int)(v:Vl)(k:Nat)(h:(cnt 2 k).1=true):fmd 2 n v [] k=decide (v=vNull):=by unfold fmd;rw[h];rfl
theorem fmd_o(op n:Int)(v:Vl)(k:Nat)(h:(cnt op k).1=true)(h1:op≠1)(h2:op≠24)(h3:op≠2):fmd op n v [] k=(decide (n=0)&&decide (v=vNull)):=by unfold fmd;rw[h,if_neg h1,if_neg h2,if_neg h3];rfl
theorem C.expr_formed(op n:Int)(v:Vl)(name:List UInt8)(d:D)(es:List (List D))(hd:SlD d es)(hs:v.s.length<=1048576)(hl:es.length<=1048576):Pure Tryz.prog N.expr_formed [eX op n v name d] (.d (.bool (fmd op n v name es.length))):=by
 refine F.expr_formed.go mixed rfl ?_
 have hV:=C.value_Valid v (by omega)
 have hC:=C.expr_counts op es.length
 cases hc:(cnt op es.length).1 with
 |false=>
  have hr:fmd op n v name es.length=false:=by unfold fmd;rw[hc];rfl
  rw[hr]
  rw[hc] at hC
  repeat' first|refine st ?_|((with_reducible apply go_i);conv=>whnf)|((with_reducible first|apply k_pn|apply k_pc);(·exact hC))|(with_reducible first|apply k_d|apply k_b)<;>intro _
 |true=>
 rw[hc] at hC
 by_cases hn:name=[]
 rotate_left
 ·have hr:fmd op n v name es.length=false:=by unfold fmd;rw[decide_eq_false hn,Bool.and_false];rfl
  rw[hr]
  repeat' first|refine st ?_|((with_reducible apply go_i);conv=>whnf)|((with_reducible first|apply k_pn|apply k_pc);(·exact hC))|(with_reducible first|apply k_d|apply k_b)<;>intro _
  all_goals rfl
 subst hn
 by_cases h1:op=1
 ·subst h1
  obtain⟨r,hr⟩:∃r,r=fmd 1 n v [] es.length:=⟨_,rfl⟩
  rw[<- hr]
  rw[fmd_1 _ _ _ hc] at hr
  by_cases hn:n=0
  ·rw[decide_eq_true hn] at hr
   repeat' first|refine st ?_|((with_reducible apply go_i);conv=>whnf)|((with_reducible first|apply k_pn|apply k_pc);(·first|exact hC|exact hV))|(with_reducible first|apply k_d|apply k_b)<;>intro _
   all_goals (rw[hr];try rfl)
  ·rw[decide_eq_false hn] at hr
   repeat' first|refine st ?_|((with_reducible apply go_i);conv=>whnf)|((with_reducible first|apply k_pn|apply k_pc);(·first|exact hC|exact hV))|(with_reducible first|apply k_d|apply k_b)<;>intro _
   all_goals (rw[hr];try rfl)
 by_cases h2:op=24
 ·subst h2
  obtain⟨r,hr⟩:∃r,r=fmd 24 n v [] es.length:=⟨_,rfl⟩
  rw[<- hr]
  rw[fmd_24 _ _ _ hc,vNull_is] at hr
  by_cases hn:0<=n/\n<13
  ·rw[decide_eq_true hn] at hr
   obtain⟨n1,n2⟩:=hn
   have n3:¬n<0:=by omega
   have n4:¬13<=n:=by omega
   repeat' first|refine st ?_|((with_reducible apply go_i);conv=>whnf)|((with_reducible first|apply k_pn|apply k_pc);(·first|exact hC|exact hV))|(with_reducible first|apply k_d|apply k_b)<;>intro _
   all_goals (rw[hr];try (clear hr;simp_all[vNull];try omega))
  ·rw[decide_eq_false hn] at hr
   repeat' first|refine st ?_|((with_reducible apply go_i);conv=>whnf)|((with_reducible first|apply k_pn|apply k_pc);(·first|exact hC|exact hV))|(with_reducible first|apply k_d|apply k_b)<;>intro _
   all_goals (rw[hr];try (clear hr;simp_all[vNull];try omega))
 by_cases h3:op=2
 ·subst h3
  obtain⟨r,hr⟩:∃r,r=fmd 2 n v [] es.length:=⟨_,rfl⟩
  rw[<- hr]
  rw[fmd_2 _ _ _ hc,vNull_is] at hr
  repeat' first|refine st ?_|((with_reducible apply go_i);conv=>whnf)|((with_reducible first|apply k_pn|apply k_pc);(·first|exact hC|exact hV))|(with_reducible first|apply k_d|apply k_b)<;>intro _
  all_goals (rw[hr];try rfl)
 obtain⟨r,hr⟩:∃r,r=fmd op n v [] es.length:=⟨_,rfl⟩
 rw[<- hr]
 rw[fmd_o _ _ _ _ hc h1 h2 h3,vNull_is] at hr
 by_cases hn:n=0
 ·rw[decide_eq_true hn] at hr
  repeat' first|refine st ?_|((with_reducible apply go_i);conv=>whnf)|((with_reducible first|apply k_pn|apply k_pc);(·first|exact hC|exact hV))|(with_reducible first|apply k_d|apply k_b)<;>intro _
  all_goals (rw[hr];try rfl)
 ·rw[decide_eq_false hn] at hr
  repeat' first|refine st ?_|((with_reducible apply go_i);conv=>whnf)|((with_reducible first|apply k_pn|apply k_pc);(·first|exact hC|exact hV))|(with_reducible first|apply k_d|apply k_b)<;>intro _
  all_goals (rw[hr];try rfl)
theorem C.r11_Formed(op n:Int)(v:Vl)(name:List UInt8)(d:D)(es:List (List D))(hd:SlD d es)(hs:v.s.length<=1048576)(hl:es.length<=1048576):Pure Tryz.prog N.bt_ref11_Formed [eX op n v name d] (.d (.bool (fmd op n v name es.length))):=by
 refine F.bt_ref11_Formed.go mixed rfl ?_
 have hV:=C.r7_Valid v (by omega)
 have hC:=C.r11_Arity op
 have hac:=(ary_cnt op es.length hl).1
 cases hc:(cnt op es.length).1 with
 |false=>
  have hr:fmd op n v name es.length=false:=by unfold fmd;rw[hc];rfl
  rw[hr]
  rw[hc] at hac
  have hac:(ary op).1<0\/(es.length:Int)<(ary op).1\/(ary op).2<(es.length:Int):=by
   have:=of_decide_eq_false hac.symm
   omega
  repeat' first|refine st ?_|((with_reducible apply go_i);conv=>whnf)|((with_reducible first|apply k_pn|apply k_pc);(·exact hC))|(with_reducible first|apply k_d|apply k_b)<;>intro _
  all_goals first|rfl|(exfalso;omega)
 |true=>
 rw[hc] at hac
 have hac:=of_decide_eq_true hac.symm
 have a1:¬(ary op).1<0:=by omega
 have a2:¬(es.length:Int)<(ary op).1:=by omega
 have a3:¬(ary op).2<(es.length:Int):=by omega
 clear hac
 by_cases hn:name=[]
 rotate_left
 ·have hr:fmd op n v name es.length=false:=by unfold fmd;rw[decide_eq_false hn,Bool.and_false];rfl
  rw[hr]
  repeat' first|refine st ?_|((with_reducible apply go_i);conv=>whnf)|((with_reducible first|apply k_pn|apply k_pc);(·exact hC))|(with_reducible first|apply k_d|apply k_b)<;>intro _
  all_goals rfl
 subst hn
 by_cases h1:op=1
 ·subst h1
  obtain⟨r,hr⟩:∃r,r=fmd 1 n v [] es.length:=⟨_,rfl⟩
  rw[<- hr]
  rw[fmd_1 _ _ _ hc] at hr
  by_cases hn:n=0
  ·rw[decide_eq_true hn] at hr
   repeat' first|refine st ?_|((with_reducible apply go_i);conv=>whnf)|((with_reducible first|apply k_pn|apply k_pc);(·first|exact hC|exact hV|exact C.r7_Null))|(with_reducible first|apply k_d|apply k_b)<;>intro _
   all_goals (rw[hr];try rfl)
  ·rw[decide_eq_false hn] at hr
   repeat' first|refine st ?_|((with_reducible apply go_i);conv=>whnf)|((with_reducible first|apply k_pn|apply k_pc);(·first|exact hC|exact hV|exact C.r7_Null))|(with_reducible first|apply k_d|apply k_b)<;>intro _
   all_goals (rw[hr];try rfl)
 by_cases h2:op=24
 ·subst h2
  obtain⟨r,hr⟩:∃r,r=fmd 24 n v [] es.length:=⟨_,rfl⟩
  rw[<- hr]
  rw[fmd_24 _ _ _ hc,vNull_is] at hr
  by_cases hn:0<=n/\n<13
  ·rw[decide_eq_true hn] at hr
   obtain⟨n1,n2⟩:=hn
   have n3:¬n<0:=by omega
   have n4:¬13<=n:=by omega
   repeat' first|refine st ?_|((with_reducible apply go_i);conv=>whnf)|((with_reducible first|apply k_pn|apply k_pc);(·first|exact hC|exact hV|exact C.r7_Null))|(with_reducible first|apply k_d|apply k_b)<;>intro _
   all_goals (rw[hr];try (clear hr;simp_all[vNull];try omega))
  ·rw[decide_eq_false hn] at hr
   repeat' first|refine st ?_|((with_reducible apply go_i);conv=>whnf)|((with_reducible first|apply k_pn|apply k_pc);(·first|exact hC|exact hV|exact C.r7_Null))|(with_reducible first|apply k_d|apply k_b)<;>intro _
   all_goals (rw[hr];try (clear hr;simp_all[vNull];try omega))
 by_cases h3:op=2
 ·subst h3
  obtain⟨r,hr⟩:∃r,r=fmd 2 n v [] es.length:=⟨_,rfl⟩
  rw[<- hr]
  rw[fmd_2 _ _ _ hc,vNull_is] at hr
  repeat' first|refine st ?_|((with_reducible apply go_i);conv=>whnf)|((with_reducible first|apply k_pn|apply k_pc);(·first|exact hC|exact hV|exact C.r7_Null))|(with_reducible first|apply k_d|apply k_b)<;>intro _
  all_goals (rw[hr];try rfl)
 obtain⟨r,hr⟩:∃r,r=fmd op n v [] es.length:=⟨_,rfl⟩
 rw[<- hr]
 rw[fmd_o _ _ _ _ hc h1 h2 h3,vNull_is] at hr
 by_cases hn:n=0
 ·rw[decide_eq_true hn] at hr
  repeat' first|refine st ?_|((with_reducible apply go_i);conv=>whnf)|((with_reducible first|apply k_pn|apply k_pc);(·first|exact hC|exact hV|exact C.r7_Null))|(with_reducible first|apply k_d|apply k_b)<;>intro _
  all_goals (rw[hr];try rfl)
 ·rw[decide_eq_false hn] at hr
  repeat' first|refine st ?_|((with_reducible apply go_i);conv=>whnf)|((with_reducible first|apply k_pn|apply k_pc);(·first|exact hC|exact hV|exact C.r7_Null))|(with_reducible first|apply k_d|apply k_b)<;>intro _
  all_goals (rw[hr];try rfl)
end Go.Proofs
end
section
namespace Go.Proofs
open Go.Bi
def w64(n:Int):Int:=IntKind.i64.wrap n
end Go.Proofs
end
section
namespace Go.Proofs
open Go.Bi
theorem foldl_take_succ{α β:Type}(f:β->α->β)(b:β)(l:List α)(i:Nat)(x:α)(h:l[i]?=some x):(l.take (i+1)).foldl f b=f ((l.take i).foldl f b) x:=by
 rw[List.take_add_one,h];simp
end Go.Proofs
end
section
namespace Go.Proofs
open Go.Bi
theorem cnt_case{op:Int}{k:Nat}(h:(cnt op k).1=true):((op=1\/op=2)/\k=0)\/((op=4\/op=18\/op=20\/op=21)/\k=1)\/((7<=op/\op<=17\/op=19)/\k=2)\/((op=5\/op=6)/\2<=k)\/(op=22/\k=3)\/(op=23/\1<=k)\/(op=24/\k=4):=by
 unfold cnt at h
 repeat' split at h
 all_goals (simp at h)
 all_goals omega
theorem fmd_cnt{op n:Int}{v:Vl}{name:List UInt8}{k:Nat}(h:fmd op n v name k=true):(cnt op k).1=true:=by
 unfold fmd at h
 simp only[Bool.and_eq_true] at h
 exact h.1.1
theorem vNull_valid:vValid vNull=true:=by decide
theorem vOrN_valid(v:Vl):vValid (vOrN v)=true:=by
 unfold vOrN
 split
 ·assumption
 ·exact vNull_valid
abbrev z3:List D:=[eI 0,eI 0,.str []]
end Go.Proofs
end
section
namespace Go.Proofs
open Go.Bi
def uniF(k:Int):List Int->Int×Bool
 |[]=>(k,true)
 |x::l=>if x=0 then uniF k l else if k≠0/\k≠x then (0,false) else uniF x l
def uni(l:List Int):Int×Bool:=uniF 0 l
theorem uniF_drop{k:Int}{l:List Int}{i:Nat}{x:Int}(h:l[i]?=some x):uniF k (l.drop i)=if x=0 then uniF k (l.drop (i+1)) else if k≠0/\k≠x then (0,false) else uniF x (l.drop (i+1)):=by
 obtain⟨hlt,he⟩:=List.getElem?_eq_some_iff.1 h
 rw[List.drop_eq_getElem_cons hlt,he];rfl
theorem C.expr_unite(l:List Int)(hl:l.length<=1048577)(d:D)(hd:SlD d (eIs l)):Pure Tryz.prog N.expr_unite [.d d] (.tup [.d (eI (uni l).1),.d (.bool (uni l).2)]):=by
 refine F.expr_unite.go mixed rfl ?_
 have h1:=eIs_len l
 have hm:=eIs_mem l
 repeat' first|refine st ?_|((with_reducible apply go_i);conv=>whnf)|(with_reducible first|apply k_d|apply k_b)<;>intro _
 refine x_loop2 mixed Lt.expr_unite_l0 Lk.expr_unite_l0 (λ(i:Nat) (k:Int)=>[.d (eI k),.d (eI i)]) (λi k=>[]) (λi k=>i<=l.length/\uni l=uniF k (l.drop i)) (λi _=>l.length-i) 0 0 rfl rfl rfl rfl (λ_ _ _=>⟨rfl,rfl⟩) rfl ⟨by omega,rfl⟩ ?_
 repeat' first|refine st ?_|((with_reducible apply go_i);conv=>whnf)|(with_reducible first|apply k_d|apply k_b)<;>intro _
 intro i k ⟨h2,h3⟩
 cases hx:l[i]? with
 |some x=>
  have hlt:=(List.getElem?_eq_some_iff.1 hx).1
  have hg:=eIs_get hx
  rw[uniF_drop hx] at h3
  by_cases hx0:x=0
  ·rw[if_pos hx0] at h3
   repeat' first|refine st ?_|((with_reducible apply go_i);conv=>whnf)|(with_reducible first|apply k_d|apply k_b)<;>intro _
   exact⟨i+1,_,rfl,rfl,rfl,by omega,by omega,h3⟩
  ·rw[if_neg hx0] at h3
   by_cases hk:k≠0/\k≠x
   ·rw[if_pos hk] at h3
    rw[h3]
    obtain⟨hk1,hk2⟩:=hk
    repeat' first|refine st ?_|((with_reducible apply go_i);conv=>whnf)|(with_reducible first|apply k_d|apply k_b)<;>intro _
    all_goals rfl
   ·rw[if_neg hk] at h3
    by_cases hk0:k=0
    ·repeat' first|refine st ?_|((with_reducible apply go_i);conv=>whnf)|(with_reducible first|apply k_d|apply k_b)<;>intro _
     exact⟨i+1,_,rfl,rfl,rfl,by omega,by omega,h3⟩
    ·have hkx:k=x:=by omega
     repeat' first|refine st ?_|((with_reducible apply go_i);conv=>whnf)|(with_reducible first|apply k_d|apply k_b)<;>intro _
     exact⟨i+1,_,rfl,rfl,rfl,by omega,by omega,h3⟩
 |none=>
  have hge:=List.getElem?_eq_none_iff.1 hx
  rw[List.drop_eq_nil_of_le hge] at h3
  rw[h3]
  repeat' first|refine st ?_|((with_reducible apply go_i);conv=>whnf)|(with_reducible first|apply k_d|apply k_b)<;>intro _
  all_goals rfl
theorem C.r11_Join(l:List Int)(hl:l.length<=1048577)(d:D)(hd:SlD d (eIs l)):Pure Tryz.prog N.bt_ref11_Join [.d d] (.tup [.d (eI (uni l).1),.d (.bool (uni l).2)]):=by
 refine F.bt_ref11_Join.go mixed rfl ?_
 have h1:=eIs_len l
 have hm:=eIs_mem l
 repeat' first|refine st ?_|((with_reducible apply go_i);conv=>whnf)|(with_reducible first|apply k_d|apply k_b)<;>intro _
 refine x_loop2 mixed Lt.bt_ref11_Join_l0 Lk.bt_ref11_Join_l0 (λ(i:Nat) (k:Int)=>[.d (eI k),.d (eI i)]) (λi k=>[]) (λi k=>i<=l.length/\uni l=uniF k (l.drop i)) (λi _=>l.length-i) 0 0 rfl rfl rfl rfl (λ_ _ _=>⟨rfl,rfl⟩) rfl ⟨by omega,rfl⟩ ?_
 repeat' first|refine st ?_|((with_reducible apply go_i);conv=>whnf)|(with_reducible first|apply k_d|apply k_b)<;>intro _
 intro i k ⟨h2,h3⟩
 cases hx:l[i]? with
 |some x=>
  have hlt:=(List.getElem?_eq_some_iff.1 hx).1
  have hg:=eIs_get hx
  rw[uniF_drop hx] at h3
  by_cases hx0:x=0
  ·rw[if_pos hx0] at h3
   repeat' first|refine st ?_|((with_reducible apply go_i);conv=>whnf)|(with_reducible first|apply k_d|apply k_b)<;>intro _
   exact⟨i+1,_,rfl,rfl,rfl,by omega,by omega,h3⟩
  ·rw[if_neg hx0] at h3
   by_cases hk:k≠0/\k≠x
   ·rw[if_pos hk] at h3
    rw[h3]
    obtain⟨hk1,hk2⟩:=hk
    repeat' first|refine st ?_|((with_reducible apply go_i);conv=>whnf)|(with_reducible first|apply k_d|apply k_b)<;>intro _
    all_goals rfl
   ·rw[if_neg hk] at h3
    by_cases hk0:k=0
    ·repeat' first|refine st ?_|((with_reducible apply go_i);conv=>whnf)|(with_reducible first|apply k_d|apply k_b)<;>intro _
     exact⟨i+1,_,rfl,rfl,rfl,by omega,by omega,h3⟩
    ·have hkx:k=x:=by omega
     repeat' first|refine st ?_|((with_reducible apply go_i);conv=>whnf)|(with_reducible first|apply k_d|apply k_b)<;>intro _
     exact⟨i+1,_,rfl,rfl,rfl,by omega,by omega,h3⟩
 |none=>
  have hge:=List.getElem?_eq_none_iff.1 hx
  rw[List.drop_eq_nil_of_le hge] at h3
  rw[h3]
  repeat' first|refine st ?_|((with_reducible apply go_i);conv=>whnf)|(with_reducible first|apply k_d|apply k_b)<;>intro _
  all_goals rfl
def allK(l:List Int)(c:Int):Bool:=l.all λx=>decide (x=c\/x=0)
theorem uni_all(c:Int)(hc:c≠0):∀(l:List Int)(k:Int),((uniF k (l++[c])).2&&decide ((uniF k (l++[c])).1=c))=(decide (k=0\/k=c)&&allK l c)
 |[],k=>by
  simp only[List.nil_append,uniF,if_neg hc,allK,List.all_nil,Bool.and_true]
  by_cases h:k≠0/\k≠c
  ·rw[if_pos h,decide_eq_false (show ¬(k=0\/k=c) by omega)];rfl
  ·rw[if_neg h,decide_eq_true (show k=0\/k=c by omega)];simp
 |x::l,k=>by
  have ih:=uni_all c hc l
  simp only[List.cons_append,uniF,allK,List.all_cons] at ih ⊢
  by_cases hx:x=0
  ·rw[if_pos hx,ih k,decide_eq_true (show x=c\/x=0 from .inr hx)];simp
  ·rw[if_neg hx]
   by_cases h:k≠0/\k≠x
   ·rw[if_pos h]
    by_cases hxc:x=c
    ·rw[decide_eq_false (show ¬(k=0\/k=c) by omega)];simp
    ·rw[decide_eq_false (show ¬(x=c\/x=0) by omega)];simp
   ·rw[if_neg h,ih x]
    by_cases hxc:x=c
    ·rw[decide_eq_true (show x=0\/x=c from .inr hxc),decide_eq_true (show x=c\/x=0 from .inl hxc),decide_eq_true (show k=0\/k=c by omega)];simp
    ·rw[decide_eq_false (show ¬(x=0\/x=c) by omega),decide_eq_false (show ¬(x=c\/x=0) by omega)];simp
theorem C.clone_nil:Pure Tryz.prog N.slices_Clone__int_int [.d .nil] (.d .nil):=by
 refine F.slices_Clone__int_int.go mixed rfl ?_
 repeat' first|refine st ?_|((with_reducible apply go_i);conv=>whnf)|(with_reducible first|apply k_d|apply k_b)<;>intro _
theorem C.clone_sl(es:List (List D))(hl:es.length<=1048577)(hm:∀e∈es,e.length=1):CallSpec Tryz.prog N.slices_Clone__int_int [.d (.sl es)] [] (λr os=>r=.arr 0 es.length/\os=[.arr es 1 0 false]):=by
 refine F.slices_Clone__int_int.goO mixed rfl ?_
 have h0:([]:List (List D)).length=0:=rfl
 have h00:(([]:List (List D))++es).length=es.length:=rfl
 have hb:(([]:List (List D)).length+es.length)*8<=140737488355328/\([]:List (List D)).length+es.length<=9223372036854775807:=by rw[h0];omega
 repeat' first|refine st ?_|((with_reducible apply go_i);conv=>whnf)|(with_reducible first|apply k_d|apply k_b)<;>intro _
 all_goals (refine⟨rfl,?_⟩;cases es<;>rfl)
theorem eIs_app(l:List Int)(x:Int):eIs l++[[eI x]]=eIs (l++[x]):=by simp[eIs]
theorem C.expr_all(l:List Int)(hl:l.length<=1048576)(d:D)(hd:SlD d (eIs l))(c:Int)(hc:c≠0):Pure Tryz.prog N.expr_all [.d d,.d (eI c)] (.d (.bool (allK l c))):=by
 refine F.expr_all.go mixed rfl ?_
 have h1:=eIs_len l
 have hm:=eIs_mem l
 have hU:=C.expr_unite (l++[c]) (by simp;omega) (.sl (eIs (l++[c]))) sld_sl
 have hres:=uni_all c hc l 0
 rw[show decide ((0:Int)=0\/(0:Int)=c)=true from rfl,Bool.true_and] at hres
 rw[<- hres]
 unfold uni at hU
 rw[<- eIs_app] at hU
 obtain⟨x,b⟩:∃x b,uniF 0 (l++[c])=(x,b):=⟨_,_,rfl⟩
 rcases hd with ⟨rfl,he⟩|rfl
 ·rw[he] at hU
  repeat' first|refine st ?_|((with_reducible apply go_i);conv=>whnf)|((with_reducible first|apply k_pn|apply k_pc);(·first|exact C.clone_nil|exact hU))|(with_reducible first|apply k_d|apply k_b)<;>intro _
  all_goals simp[*]
 ·have hC:=C.clone_sl (eIs l) (by omega) hm
  have ha:(eIs l++[[eI c]]).length=l.length+1:=by simp[h1]
  repeat' first|refine st ?_|((with_reducible apply go_i);conv=>whnf)|((with_reducible first|apply k_pn|apply k_pc);(·exact hU))|((with_reducible first|apply k_nc|apply k_cs);(·exact hC);(try rintro _ _ ⟨rfl,rfl⟩))|((with_reducible apply k_pr);(·exact hC))|((with_reducible apply k_cal);refine st ?_;(with_reducible apply k_chk);(·exact rfl);refine st ?_;(with_reducible apply k_cs);(·exact hC);(try rintro _ _ ⟨rfl,rfl⟩))|(with_reducible first|apply k_d|apply k_b)<;>intro _
  all_goals simp[*]
theorem C.r11_all(l:List Int)(hl:l.length<=1048577)(d:D)(hd:SlD d (eIs l))(c:Int):Pure Tryz.prog N.bt_ref11_all [.d d,.d (eI c)] (.d (.bool (allK l c))):=by
 refine F.bt_ref11_all.go mixed rfl ?_
 have h1:=eIs_len l
 have hm:=eIs_mem l
 repeat' first|refine st ?_|((with_reducible apply go_i);conv=>whnf)|(with_reducible first|apply k_d|apply k_b)<;>intro _
 refine x_loop1 mixed Lt.bt_ref11_all_l0 Lk.bt_ref11_all_l0 (λ(i:Nat)=>[.d (eI i)]) (λi=>[]) (λi=>i<=l.length/\(l.take i).all (λx=>decide (x=c\/x=0))=true) (λi=>l.length-i) 0 rfl rfl rfl rfl (λ_ _=>⟨rfl,rfl⟩) rfl ⟨by omega,rfl⟩ ?_
 repeat' first|refine st ?_|((with_reducible apply go_i);conv=>whnf)|(with_reducible first|apply k_d|apply k_b)<;>intro _
 intro i ⟨h2,h3⟩
 cases hx:l[i]? with
 |some x=>
  have hlt:=(List.getElem?_eq_some_iff.1 hx).1
  have hg:=eIs_get hx
  by_cases hk:x=c
  ·repeat' first|refine st ?_|((with_reducible apply go_i);conv=>whnf)|(with_reducible first|apply k_d|apply k_b)<;>intro _
   refine⟨i+1,rfl,rfl,rfl,by omega,by omega,?_⟩
   rw[all_take_succ hx,h3,decide_eq_true (show x=c\/x=0 from .inl hk)];rfl
  ·by_cases hk0:x=0
   ·repeat' first|refine st ?_|((with_reducible apply go_i);conv=>whnf)|(with_reducible first|apply k_d|apply k_b)<;>intro _
    refine⟨i+1,rfl,rfl,rfl,by omega,by omega,?_⟩
    rw[all_take_succ hx,h3,decide_eq_true (show x=c\/x=0 from .inr hk0)];rfl
   ·repeat' first|refine st ?_|((with_reducible apply go_i);conv=>whnf)|(with_reducible first|apply k_d|apply k_b)<;>intro _
    rw[allK,all_none hx (decide_eq_false (show ¬(x=c\/x=0) by omega))]
 |none=>
  have hge:=List.getElem?_eq_none_iff.1 hx
  rw[List.take_of_length_le hge] at h3
  repeat' first|refine st ?_|((with_reducible apply go_i);conv=>whnf)|(with_reducible first|apply k_d|apply k_b)<;>intro _
  rw[allK,h3]
end Go.Proofs
end
section
namespace Go.Proofs
open Go.Bi
def res(op:Int)(v:Vl)(l:List Int):Int×Bool:=
 if op=1 then (v.k,true)
 else if op=4\/op=5\/op=6 then (3,allK l 3)
 else if op=7\/op=8\/op=9\/op=10\/op=11\/op=12 then (3,(uni l).2)
 else if op=19 then (2,allK l 2)
 else if op=20 then (1,allK l 2)
 else if op=21 then (3,true)
 else if op=22 then ((uni (l.drop 1)).1,(uni (l.drop 1)).2&&allK (l.take 1) 3)
 else if op=23 then uni l
 else if op=24 then (3,allK l 1) else (1,allK l 1)
theorem eIs_drop(l:List Int)(i:Nat):(eIs l).drop i=eIs (l.drop i):=by simp[eIs]
theorem eIs_take(l:List Int)(i:Nat):(eIs l).take i=eIs (l.take i):=by simp[eIs]
theorem C.expr_result(op n:Int)(v:Vl)(name:List UInt8)(d0:D)(l:List Int)(hl:l.length<=1048576)(d:D)(hd:SlD d (eIs l))(h22:op=22->1<=l.length):Pure Tryz.prog N.expr_result [eX op n v name d0,.d d] (.tup [.d (eI (res op v l).1),.d (.bool (res op v l).2)]):=by
 refine F.expr_result.go mixed rfl ?_
 have h1:=eIs_len l
 have hm:=eIs_mem l
 by_cases h22':op=22
 ·subst h22'
  have hl1:=h22 rfl
  rcases hd with ⟨rfl,he⟩|rfl
  ·rw[he] at h1;simp at h1;omega
  have hU:=C.expr_unite (l.drop 1) (by simp;omega) (.sl (eIs (l.drop 1))) sld_sl
  have hA:=C.expr_all (l.take 1) (by simp;omega) (.sl (eIs (l.take 1))) sld_sl 3 (by decide)
  have hcut:((eIs l).drop (1:Int).toNat).take (((eIs l).length:Int).toNat-(1:Int).toNat)=eIs (l.drop 1):=by
   rw[<- eIs_drop,show(1:Int).toNat=1 from rfl,List.take_of_length_le]
   simp
  have hcut2:((eIs l).drop ((0:Nat):Int).toNat).take ((1:Int).toNat-((0:Nat):Int).toNat)=eIs (l.take 1):=by
   rw[<- eIs_take];rfl
  rw[show res 22 v l=((uni (l.drop 1)).1,(uni (l.drop 1)).2&&allK (l.take 1) 3) from rfl]
  obtain⟨⟨k,b⟩,hkb⟩:∃kb,uni (l.drop 1)=kb:=⟨_,rfl⟩
  rw[hkb] at hU ⊢
  obtain⟨z,hz⟩:∃z,allK (l.take 1) 3=z:=⟨_,rfl⟩
  rw[hz] at hA ⊢
  obtain⟨e1,he1⟩:∃e1,e1=eIs (l.drop 1):=⟨_,rfl⟩
  obtain⟨e2,he2⟩:∃e2,e2=eIs (l.take 1):=⟨_,rfl⟩
  rw[<- he1] at hU hcut
  rw[<- he2] at hA hcut2
  have hel:((eIs l).length:Int)=l.length:=by rw[h1]
  obtain⟨es,hes⟩:∃es,es=eIs l:=⟨_,rfl⟩
  rw[<- hes] at hcut hcut2 hel hm h1 ⊢
  cases b with
  |false=>
   repeat' first|refine st ?_|(with_reducible first|apply k_d|apply k_b)<;>intro _
   all_goals (try rw[hcut])
   repeat' first|refine st ?_|((with_reducible first|apply k_pn|apply k_pc);(·exact hU))|(with_reducible first|apply k_d|apply k_b)<;>intro _
   all_goals rfl
  |true=>
   repeat' first|refine st ?_|(with_reducible first|apply k_d|apply k_b)<;>intro _
   all_goals (try rw[hcut])
   repeat' first|refine st ?_|((with_reducible first|apply k_pn|apply k_pc);(·exact hU))|(with_reducible first|apply k_d|apply k_b)<;>intro _
   all_goals (try rw[hcut2])
   repeat' first|refine st ?_|((with_reducible first|apply k_pn|apply k_pc);(·exact hA))|(with_reducible first|apply k_d|apply k_b)<;>intro _
   all_goals rfl
 have A3:=C.expr_all l hl d hd 3 (by decide)
 have A2:=C.expr_all l hl d hd 2 (by decide)
 have A1:=C.expr_all l hl d hd 1 (by decide)
 have U:=C.expr_unite l (by omega) d hd
 repeat' first|refine st ?_|((with_reducible first|apply k_pn|apply k_pc);(·first|exact A3|exact A2|exact A1|exact U))|(with_reducible first|apply k_d|apply k_b)<;>intro _
 all_goals first
  |(subst_vars;rfl)
  |(simp only[res];rw[if_neg (by omega),if_neg (by omega),if_neg (by omega),if_neg (by omega),if_neg (by omega),if_neg (by omega),if_neg (by omega),if_neg (by omega),if_neg (by omega)])
theorem C.r11_result2(n:Int)(v:Vl)(name:List UInt8)(d0:D)(l ks:List Int)(d:D)(hd:SlD d (eIs l))(dk:D)(hdk:SlD dk (eIs ks))(k:Int)(h0:0<=n)(hk:ks[n.toNat]?=some k):Pure Tryz.prog N.bt_ref11_result [eX 2 n v name d0,.d d,.d dk] (.tup [.d (eI k),.d (.bool true)]):=by
 refine F.bt_ref11_result.go mixed rfl ?_
 have h1:=eIs_len ks
 have hm:=eIs_mem ks
 have hg:=eIs_get hk
 have hlt:=(List.getElem?_eq_some_iff.1 hk).1
 have hn2:n<(eIs ks).length:=by omega
 repeat' first|refine st ?_|(with_reducible first|apply k_d|apply k_b)<;>intro _
 all_goals rfl
theorem C.r11_result(op n:Int)(v:Vl)(name:List UInt8)(d0:D)(l:List Int)(hl:l.length<=1048576)(d:D)(hd:SlD d (eIs l))(dk:D)(h22:op=22->1<=l.length)(hop:op=1\/4<=op/\op<=24)(h2:op≠2):Pure Tryz.prog N.bt_ref11_result [eX op n v name d0,.d d,.d dk] (.tup [.d (eI (res op v l).1),.d (.bool (res op v l).2)]):=by
  refine F.bt_ref11_result.go mixed rfl ?_
  have h1:=eIs_len l
  have hm:=eIs_mem l
  by_cases h22':op=22
  · subst h22'
    have hl1:=h22 rfl
    rcases hd with ⟨rfl,he⟩|rfl
    · rw[he] at h1;simp at h1;omega
    have hU:=C.r11_Join (l.drop 1) (by simp;omega) (.sl (eIs (l.drop 1))) sld_sl
    have hA:=C.r11_all (l.take 1) (by simp;omega) (.sl (eIs (l.take 1))) sld_sl 3
    have hcut:((eIs l).drop (1:Int).toNat).take (((eIs l).length:Int).toNat-(1:Int).toNat)=eIs (l.drop 1):=by
      rw[<- eIs_drop,show(1:Int).toNat=1 from rfl,List.take_of_length_le]
      simp
    have hcut2:((eIs l).drop ((0:Nat):Int).toNat).take ((1:Int).toNat-((0:Nat):Int).toNat)=eIs (l.take 1):=by
      rw[<- eIs_take];rfl
    rw[show res 22 v l=((uni (l.drop 1)).1,(uni (l.drop 1)).2&&allK (l.take 1) 3) from rfl]
    obtain⟨⟨k,b⟩,hkb⟩:∃kb,uni (l.drop 1)=kb:=⟨_,rfl⟩
    rw[hkb] at hU ⊢
    obtain⟨z,hz⟩:∃z,allK (l.take 1) 3=z:=⟨_,rfl⟩
    rw[hz] at hA ⊢
    obtain⟨e1,he1⟩:∃e1,e1=eIs (l.drop 1):=⟨_,rfl⟩
    obtain⟨e2,he2⟩:∃e2,e2=eIs (l.take 1):=⟨_,rfl⟩
    rw[<- he1] at hU hcut
    rw[<- he2] at hA hcut2
    have hel:((eIs l).length:Int)=l.length:=by rw[h1]
    obtain⟨es,hes⟩:∃es,es=eIs l:=⟨_,rfl⟩
    rw[<- hes] at hcut hcut2 hel hm h1 ⊢
    cases b with
    |false=>
      repeat' first|refine st ?_|(with_reducible first|apply k_d|apply k_b)<;>intro _
      all_goals (try rw[hcut])
      repeat' first|refine st ?_|((with_reducible first|apply k_pn|apply k_pc);(·exact hU))|(with_reducible first|apply k_d|apply k_b)<;>intro _
      all_goals rfl
    |true=>
      repeat' first|refine st ?_|(with_reducible first|apply k_d|apply k_b)<;>intro _
      all_goals (try rw[hcut])
      repeat' first|refine st ?_|((with_reducible first|apply k_pn|apply k_pc);(·exact hU))|(with_reducible first|apply k_d|apply k_b)<;>intro _
      all_goals (try rw[hcut2])
      repeat' first|refine st ?_|((with_reducible first|apply k_pn|apply k_pc);(·exact hA))|(with_reducible first|apply k_d|apply k_b)<;>intro _
      all_goals rfl
  have A3:=C.r11_all l (by omega) d hd 3
  have A2:=C.r11_all l (by omega) d hd 2
  have A1:=C.r11_all l (by omega) d hd 1
  have U:=C.r11_Join l (by omega) d hd
  repeat' first|refine st ?_|((with_reducible first|apply k_pn|apply k_pc);(·first|exact A3|exact A2|exact A1|exact U))|(with_reducible first|apply k_d|apply k_b)<;>intro _
  all_goals first
    |(subst_vars;rfl)
    | (have : op = 24 := by omega
       subst this;rfl)
end Go.Proofs
end
section
namespace Go.Proofs
open Go.Bi
def fe:List (Int×Int)->Int
 |[]=>0
 |r::rs=>if r.2=0 then fe rs else r.2
def ckF(op n:Int)(v:Vl)(name:List UInt8)(ks:List Int)(k:Nat)(rs:List (Int×Int)):Int×Int:=
 if (cnt op k).2=false then (0,7) else if fmd op n v name k=false then (0,8)
 else if op=2 then (if 0<=n/\n<ks.length then (ks.getD n.toNat 0,0) else (0,13))
 else if fe rs=0 then (if (res op v (rs.map Prod.fst)).2 then ((res op v (rs.map Prod.fst)).1,0) else (0,7)) else (0,fe rs)
mutual
def chk(ks:List Int):Ex->Int×Int
 |.mk op n v name nl args=>ckF op n v name ks args.length (chkL ks args)
def chkL(ks:List Int):List Ex->List (Int×Int)
 |[]=>[]
 |e::es=>chk ks e::chkL ks es
end
theorem chkL_eq(ks:List Int):∀l,chkL ks l=l.map (chk ks)
 |[]=>by simp[chkL]
 |e::es=>by simp[chkL,chkL_eq ks es]
theorem chk_mk(ks:List Int)(op n:Int)(v:Vl)(name:List UInt8)(nl:Bool)(args:List Ex):chk ks (.mk op n v name nl args)=ckF op n v name ks args.length (args.map (chk ks)):=by rw[chk,chkL_eq]
theorem fe_drop{l:List (Int×Int)}{i:Nat}{x:Int×Int}(h:l[i]?=some x):fe (l.drop i)=if x.2=0 then fe (l.drop (i+1)) else x.2:=by
 obtain⟨hlt,he⟩:=List.getElem?_eq_some_iff.1 h
 rw[List.drop_eq_getElem_cons hlt,he];rfl
def Kv(rs:List (Int×Int))(i:Nat):List (List D):=eIs ((rs.take i).map Prod.fst)
theorem Kv_len(rs:List (Int×Int))(i:Nat)(h:i<=rs.length):(Kv rs i).length=i:=by
 unfold Kv
 rw[eIs_len,List.length_map,List.length_take]
 omega
theorem Kv_succ{rs:List (Int×Int)}{i:Nat}{x:Int×Int}(h:rs[i]?=some x):Kv rs i++[[eI x.1]]=Kv rs (i+1):=by
 unfold Kv
 rw[List.take_add_one,h]
 simp[eIs]
theorem Kv_end{rs:List (Int×Int)}{i:Nat}(h:rs.length<=i):Kv rs i=eIs (rs.map Prod.fst):=by
 unfold Kv
 rw[List.take_of_length_le h]
theorem ckF_known{op n:Int}{v:Vl}{name:List UInt8}{ks:List Int}{k:Nat}{rs:List (Int×Int)}(h:fmd op n v name k=true)(h2:op≠2):ckF op n v name ks k rs=if fe rs=0 then (if (res op v (rs.map Prod.fst)).2 then ((res op v (rs.map Prod.fst)).1,0) else (0,7)) else (0,fe rs):=by
 have hc:=cnt_case (fmd_cnt h)
 unfold ckF
 have:(cnt op k).2=true:=by
  unfold cnt
  repeat' split
  all_goals first|rfl|omega
 rw[this,h,if_neg (by simp),if_neg (by simp),if_neg h2]
theorem C.expr_check(ks:List Int)(hks:ks.length<=1048576)(dk:D)(hdk:SlD dk (eIs ks)):∀e:Ex,e.bk<=1048576->Pure Tryz.prog N.expr_check [e.av,.d dk] (.tup [.d (eI (chk ks e).1),.d (eI (chk ks e).2)]):=by
 refine Ex.ind λop n v name nl args ih hbk=>?_
 obtain⟨b1,b2,b3,b4⟩:=Ex.bk_bounds hbk
 have ih':∀a∈args,Pure Tryz.prog N.expr_check [a.av,.d dk] (.tup [.d (eI (chk ks a).1),.d (eI (chk ks a).2)]):=λa ha=>ih a ha (b4 a ha)
 clear ih
 rw[Ex.av_mk,chk_mk]
 refine F.expr_check.go mixed rfl ?_
 have hlen:=xL_len args
 have hF:=C.expr_formed op n v name (ng nl (xL args)) (xL args) sld_ng b2 (by omega)
 rw[hlen] at hF
 have hC:=C.expr_counts op args.length
 have hm:=xL_mem args
 have hd:SlD (ng nl (xL args)) (xL args):=sld_ng
 have hget:∀(i:Nat) (op' n':Int) (v':Vl) (name':List UInt8) (nl':Bool) (args':List Ex),args[i]?=some (.mk op' n' v' name' nl' args')->(xL args)[i]?=some (xds op' n' v' name' (ng nl' (xL args'))):=λi op' n' v' name' nl' args' h=>by
  rw[<- Ex.ds_mk];exact xL_get h
 obtain⟨d,hde⟩:∃d,d=ng nl (xL args):=⟨_,rfl⟩
 rw[<- hde] at hF hd ⊢
 obtain⟨es,hes⟩:∃es,es=xL args:=⟨_,rfl⟩
 rw[<- hes] at hlen hm hd hget
 rw[<- hlen] at hC
 obtain⟨rs,hrs⟩:∃rs,rs=args.map (chk ks):=⟨_,rfl⟩
 have hrl:rs.length=args.length:=by rw[hrs,List.length_map]
 have hrg:∀(i:Nat) (x:Ex),args[i]?=some x->rs[i]?=some (chk ks x):=λi x h=>by rw[hrs,List.getElem?_map,h];rfl
 rw[<- hrs]
 cases hk:(cnt op args.length).2 with
 |false=>
  have e:ckF op n v name ks args.length rs=(0,7):=by unfold ckF;rw[hk,if_pos rfl]
  rw[e]
  rw[hlen,hk,<- hlen] at hC
  repeat' first|refine st ?_|((with_reducible first|apply k_pn|apply k_pc);(·exact hC))|(with_reducible first|apply k_d|apply k_b)<;>intro _
  all_goals rfl
 |true=>
 rw[hlen,hk,<- hlen] at hC
 cases hf:fmd op n v name args.length with
 |false=>
  have e:ckF op n v name ks args.length rs=(0,8):=by unfold ckF;rw[hk,if_neg (by simp),hf,if_pos rfl]
  rw[e]
  rw[hf] at hF
  repeat' first|refine st ?_|((with_reducible first|apply k_pn|apply k_pc);(·first|exact hC|exact hF))|(with_reducible first|apply k_d|apply k_b)<;>intro _
  all_goals rfl
 |true=>
 rw[hf] at hF
 have hkl:=eIs_len ks
 have hkm:=eIs_mem ks
 by_cases h2:op=2
 ·subst h2
  by_cases hn:0<=n/\n<ks.length
  ·have e:ckF 2 n v name ks args.length rs=(ks.getD n.toNat 0,0):=by unfold ckF;rw[hk,if_neg (by simp),hf,if_neg (by simp),if_pos rfl,if_pos hn]
   rw[e]
   obtain⟨n1,n2⟩:=hn
   have hx:ks[n.toNat]?=some (ks.getD n.toNat 0):=by
    rw[List.getD_eq_getElem?_getD,List.getElem?_eq_getElem (by omega)];rfl
   have hg:=eIs_get hx
   have n3:n<(eIs ks).length:=by omega
   repeat' first|refine st ?_|((with_reducible first|apply k_pn|apply k_pc);(·first|exact hC|exact hF))|(with_reducible first|apply k_d|apply k_b)<;>intro _
   all_goals rfl
  ·have e:ckF 2 n v name ks args.length rs=(0,13):=by unfold ckF;rw[hk,if_neg (by simp),hf,if_neg (by simp),if_pos rfl,if_neg hn]
   rw[e]
   by_cases hn0:n<0
   ·repeat' first|refine st ?_|((with_reducible first|apply k_pn|apply k_pc);(·first|exact hC|exact hF))|(with_reducible first|apply k_d|apply k_b)<;>intro _
    all_goals rfl
   ·have n3:(eIs ks).length<=n:=by omega
    repeat' first|refine st ?_|((with_reducible first|apply k_pn|apply k_pc);(·first|exact hC|exact hF))|(with_reducible first|apply k_d|apply k_b)<;>intro _
    all_goals rfl
 have hq:=ckF_known (ks:=ks) (rs:=rs) hf h2
 obtain⟨q,hqe⟩:∃q,q=ckF op n v name ks args.length rs:=⟨_,rfl⟩
 rw[<- hqe] at hq ⊢
 have hcnt:=cnt_case (fmd_cnt hf)
 repeat' first|refine st ?_|((with_reducible first|apply k_pn|apply k_pc);(·first|exact hC|exact hF))|(with_reducible first|apply k_d|apply k_b)<;>intro _
 refine x_nil 8 1 rfl rfl ?_
 repeat' first|refine st ?_|(with_reducible first|apply k_d|apply k_b)<;>intro _
 refine x_loop2 mixed Lt.expr_check_l0 Lk.expr_check_l0 (λ(i:Nat) (w:List (List D)×Bool)=>[.arr 1 w.1.length,.d (eI i)]) (λi w=>[.cells [.d (eI op),.d (eI n),.d (eI v.k),.d (eI v.n),.d (.str v.s),.d (.str name),.d d],.arr w.1 1 0 w.2]) (λi w=>i<=args.length/\w.1=Kv rs i/\w.2=w.1.isEmpty/\fe rs=fe (rs.drop i)) (λi _=>args.length-i) 0 ([],true) rfl rfl rfl rfl (λ_ _ _=>⟨rfl,rfl⟩) rfl ⟨by omega,rfl,rfl,rfl⟩ ?_
 repeat' first|refine st ?_|(with_reducible first|apply k_d|apply k_b)<;>intro _
 intro i w ⟨h4,h5,h6,h7⟩
 obtain⟨A,b⟩:=w
 dsimp only at h5 h6 h7 ⊢
 have hAl:A.length=i:=by rw[h5];exact Kv_len rs i (by omega)
 have hAm:∀e∈A,e.length=1:=by rw[h5];exact eIs_mem _
 cases hx:args[i]? with
 |some x=>
  have hlt:=(List.getElem?_eq_some_iff.1 hx).1
  have hI:=ih' x (List.mem_of_getElem? hx)
  have hr:=hrg i x hx
  have hs:=Kv_succ hr
  rw[fe_drop hr] at h7
  rw[<- h5] at hs
  obtain⟨⟨k,er⟩,hke⟩:∃ke,ke=chk ks x:=⟨_,rfl⟩
  rw[<- hke] at hI hs h7
  obtain⟨op',n',v',name',nl',args'⟩:=x
  rw[Ex.av_mk] at hI
  have hg:=hget i _ _ _ _ _ _ hx
  by_cases her:er=0
  ·rw[if_pos her] at h7
   repeat' first|refine st ?_|((with_reducible first|apply k_pn|apply k_pc);(·exact hI))|(with_reducible first|apply k_d|apply k_b)<;>intro _
   exact⟨i+1,(A++[[eI k]],false),rfl,rfl,rfl,by omega,by omega,hs,by simp,h7⟩
  ·rw[if_neg her] at h7
   dsimp only at h7
   rw[h7,if_neg her] at hq
   rw[hq]
   repeat' first|refine st ?_|((with_reducible first|apply k_pn|apply k_pc);(·exact hI))|(with_reducible first|apply k_d|apply k_b)<;>intro _
   all_goals rfl
 |none=>
  have hge:=List.getElem?_eq_none_iff.1 hx
  rw[List.drop_eq_nil_of_le (by omega)] at h7
  rw[h7,if_pos (show fe []=0 from rfl)] at hq
  rw[Kv_end (by omega)] at h5
  clear hrg
  obtain⟨l,hl⟩:∃l,l=rs.map Prod.fst:=⟨_,rfl⟩
  have hll:l.length=args.length:=by rw[hl,List.length_map,hrl]
  rw[<- hl] at h5 hq
  have h22:op=22->1<=l.length:=λe=>by omega
  obtain⟨⟨kr,br⟩,hre⟩:∃r,r=res op v l:=⟨_,rfl⟩
  cases b with
  |true=>
   have hA0:A=[]:=by simpa using h6
   subst hA0
   have hR:=C.expr_result op n v name d l (by omega) .nil (.inl ⟨rfl,h5.symm⟩) h22
   rw[<- hre] at hR hq
   rw[hq]
   cases br with
   |true=>
    repeat' first|refine st ?_|((with_reducible first|apply k_pn|apply k_pc);(·exact hR))|(with_reducible first|apply k_d|apply k_b)<;>intro _
    all_goals rfl
   |false=>
    repeat' first|refine st ?_|((with_reducible first|apply k_pn|apply k_pc);(·exact hR))|(with_reducible first|apply k_d|apply k_b)<;>intro _
    all_goals rfl
  |false=>
   have hR:=C.expr_result op n v name d l (by omega) (.sl (eIs l)) sld_sl h22
   rw[<- hre,<- h5] at hR
   rw[<- hre] at hq
   rw[hq]
   cases br with
   |true=>
    repeat' first|refine st ?_|((with_reducible first|apply k_pn|apply k_pc);(·exact hR))|(with_reducible first|apply k_d|apply k_b)<;>intro _
    all_goals rfl
   |false=>
    repeat' first|refine st ?_|((with_reducible first|apply k_pn|apply k_pc);(·exact hR))|(with_reducible first|apply k_d|apply k_b)<;>intro _
    all_goals rfl
theorem C.expr_Check(ks:List Int)(hks:ks.length<=1048576)(dk:D)(hdk:SlD dk (eIs ks))(e:Ex)(he:e.bk<=1048576):Pure Tryz.prog N.expr_Check [e.av,.d dk] (.tup [.d (eI (if 24<dep e then (0,26) else chk ks e).1),.d (eI (if 24<dep e then ((0,26):Int×Int) else chk ks e).2)]):=by
 have hD:=C.expr_Depth e he
 have hC:=C.expr_check ks hks dk hdk e he
 obtain⟨kr,hre⟩:∃r,r=chk ks e:=⟨_,rfl⟩
 obtain⟨dp,hdp⟩:∃dp,dp=dep e:=⟨_,rfl⟩
 rw[<- hre] at hC ⊢
 rw[<- hdp] at hD ⊢
 obtain⟨op,n,v,name,nl,args⟩:=e
 rw[Ex.av_mk] at hC hD ⊢
 refine F.expr_Check.go mixed rfl ?_
 by_cases h:24<dp
 ·rw[if_pos h]
  have h2:(24:Int)<((min 25 dp:Nat):Int):=by omega
  repeat' first|refine st ?_|((with_reducible first|apply k_pn|apply k_pc);(·first|exact hD|exact hC))|(with_reducible first|apply k_d|apply k_b)<;>intro _
  all_goals rfl
 ·rw[if_neg h]
  have h2:((min 25 dp:Nat):Int)<=24:=by omega
  repeat' first|refine st ?_|((with_reducible first|apply k_pn|apply k_pc);(·first|exact hD|exact hC))|(with_reducible first|apply k_d|apply k_b)<;>intro _
  all_goals rfl
end Go.Proofs
end
section
namespace Go.Proofs
open Go.Bi
theorem C.r11_check(ks:List Int)(hks:ks.length<=1048576)(dk:D)(hdk:SlD dk (eIs ks)):∀e:Ex,e.bk<=1048576->Pure Tryz.prog N.bt_ref11_check [e.av,.d dk] (.tup [.d (eI (chk ks e).1),.d (eI (chk ks e).2)]):=by
 refine Ex.ind λop n v name nl args ih hbk=>?_
 obtain⟨b1,b2,b3,b4⟩:=Ex.bk_bounds hbk
 have ih':∀a∈args,Pure Tryz.prog N.bt_ref11_check [a.av,.d dk] (.tup [.d (eI (chk ks a).1),.d (eI (chk ks a).2)]):=λa ha=>ih a ha (b4 a ha)
 clear ih
 rw[Ex.av_mk,chk_mk]
 refine F.bt_ref11_check.go mixed rfl ?_
 have hlen:=xL_len args
 have hF:=C.r11_Formed op n v name (ng nl (xL args)) (xL args) sld_ng b2 (by omega)
 rw[hlen] at hF
 have hC:=C.r11_Arity op
 have hac:=(ary_cnt op args.length (by omega)).2
 have hm:=xL_mem args
 have hd:SlD (ng nl (xL args)) (xL args):=sld_ng
 have hget:∀(i:Nat) (op' n':Int) (v':Vl) (name':List UInt8) (nl':Bool) (args':List Ex),args[i]?=some (.mk op' n' v' name' nl' args')->(xL args)[i]?=some (xds op' n' v' name' (ng nl' (xL args'))):=λi op' n' v' name' nl' args' h=>by
  rw[<- Ex.ds_mk];exact xL_get h
 obtain⟨d,hde⟩:∃d,d=ng nl (xL args):=⟨_,rfl⟩
 rw[<- hde] at hF hd ⊢
 obtain⟨es,hes⟩:∃es,es=xL args:=⟨_,rfl⟩
 rw[<- hes] at hlen hm hd hget
 obtain⟨rs,hrs⟩:∃rs,rs=args.map (chk ks):=⟨_,rfl⟩
 have hrl:rs.length=args.length:=by rw[hrs,List.length_map]
 have hrg:∀(i:Nat) (x:Ex),args[i]?=some x->rs[i]?=some (chk ks x):=λi x h=>by rw[hrs,List.getElem?_map,h];rfl
 rw[<- hrs]
 cases hk:(cnt op args.length).2 with
 |false=>
  have e:ckF op n v name ks args.length rs=(0,7):=by unfold ckF;rw[hk,if_pos rfl]
  rw[e]
  rw[hk] at hac
  have hac:(ary op).1<0:=by
   have:=of_decide_eq_false hac.symm
   omega
  repeat' first|refine st ?_|((with_reducible first|apply k_pn|apply k_pc);(·exact hC))|(with_reducible first|apply k_d|apply k_b)<;>intro _
  all_goals rfl
 |true=>
 rw[hk] at hac
 have hac:¬(ary op).1<0:=of_decide_eq_true hac.symm
 cases hf:fmd op n v name args.length with
 |false=>
  have e:ckF op n v name ks args.length rs=(0,8):=by unfold ckF;rw[hk,if_neg (by simp),hf,if_pos rfl]
  rw[e]
  rw[hf] at hF
  repeat' first|refine st ?_|((with_reducible first|apply k_pn|apply k_pc);(·first|exact hC|exact hF))|(with_reducible first|apply k_d|apply k_b)<;>intro _
  all_goals rfl
 |true=>
 rw[hf] at hF
 have hkl:=eIs_len ks
 have hkm:=eIs_mem ks
 have hcnt:=cnt_case (fmd_cnt hf)
 obtain⟨q,hqe⟩:∃q,q=ckF op n v name ks args.length rs:=⟨_,rfl⟩
 rw[<- hqe]
 have hq2:op=2->q=if 0<=n/\n<ks.length then (ks.getD n.toNat 0,0) else (0,13):=λh2=>by
  rw[hqe];unfold ckF;rw[hk,if_neg (by simp),hf,if_neg (by simp),if_pos h2]
 have hqo:op≠2->_:=λh2=>hqe.trans (ckF_known hf h2)
 clear hqe
 by_cases h2:op=2
 ·have hq:=hq2 h2
  subst h2
  by_cases hn:0<=n/\n<ks.length
  ·rw[if_pos hn] at hq
   obtain⟨n1,n2⟩:=hn
   have hx:ks[n.toNat]?=some (ks.getD n.toNat 0):=by
    rw[List.getD_eq_getElem?_getD,List.getElem?_eq_getElem (by omega)];rfl
   have n3:n<(eIs ks).length:=by omega
   have n4:¬(eIs ks).length<=n:=by omega
   have ha0:args=[]:=List.length_eq_zero_iff.1 (by omega)
   subst ha0
   have hR:=C.r11_result2 n v name d [] ks (.sl (eIs [])) sld_sl dk hdk _ n1 hx
   have hlen0:es.length=0:=hlen
   have hes0:es=[]:=List.length_eq_zero_iff.1 hlen0
   rw[hq]
   obtain⟨z,hz⟩:∃z,z=ks.getD n.toNat 0:=⟨_,rfl⟩
   rw[<- hz] at hR ⊢
   repeat' first|refine st ?_|((with_reducible first|apply k_pn|apply k_pc);(·first|exact hC|exact hF))|(with_reducible first|apply k_d|apply k_b)<;>intro _
   refine x_loop1 mixed Lt.bt_ref11_check_l0 Lk.bt_ref11_check_l0 (λ(i:Nat)=>[.arr 1 0,.d (eI i)]) (λi=>[.cells [.d (eI 2),.d (eI n),.d (eI v.k),.d (eI v.n),.d (.str v.s),.d (.str name),.d d],.arr [] 1 0 false]) (λi=>i=0) (λi=>0) 0 rfl rfl rfl rfl (λ_ _=>⟨rfl,rfl⟩) rfl rfl ?_
   repeat' first|refine st ?_|(with_reducible first|apply k_d|apply k_b)<;>intro _
   intro i hi
   subst hi
   have h0:es.length<=((0:Nat):Int):=by omega
   have h00:([]:List (List D)).length=0:=rfl
   have hm0:∀e∈([]:List (List D)),e.length=1:=by intro e he;cases he
   repeat' first|refine st ?_|((with_reducible first|apply k_pn|apply k_pc);(·exact hR))|(with_reducible first|apply k_d|apply k_b)<;>intro _
   all_goals rfl
  ·rw[if_neg hn] at hq
   rw[hq]
   by_cases hn0:n<0
   ·repeat' first|refine st ?_|((with_reducible first|apply k_pn|apply k_pc);(·first|exact hC|exact hF))|(with_reducible first|apply k_d|apply k_b)<;>intro _
    all_goals rfl
   ·have n3:(eIs ks).length<=n:=by omega
    repeat' first|refine st ?_|((with_reducible first|apply k_pn|apply k_pc);(·first|exact hC|exact hF))|(with_reducible first|apply k_d|apply k_b)<;>intro _
    all_goals rfl
 have hq:=hqo h2
 repeat' first|refine st ?_|((with_reducible first|apply k_pn|apply k_pc);(·first|exact hC|exact hF))|(with_reducible first|apply k_d|apply k_b)<;>intro _
 refine x_loop2 mixed Lt.bt_ref11_check_l0 Lk.bt_ref11_check_l0 (λ(i:Nat) (A:List (List D))=>[.arr 1 A.length,.d (eI i)]) (λi A=>[.cells [.d (eI op),.d (eI n),.d (eI v.k),.d (eI v.n),.d (.str v.s),.d (.str name),.d d],.arr A 1 0 false]) (λi A=>i<=args.length/\A=Kv rs i/\fe rs=fe (rs.drop i)) (λi _=>args.length-i) 0 [] rfl rfl rfl rfl (λ_ _ _=>⟨rfl,rfl⟩) rfl ⟨by omega,rfl,rfl⟩ ?_
 repeat' first|refine st ?_|(with_reducible first|apply k_d|apply k_b)<;>intro _
 intro i A ⟨h4,h5,h7⟩
 have hAl:A.length=i:=by rw[h5];exact Kv_len rs i (by omega)
 have hAm:∀e∈A,e.length=1:=by rw[h5];exact eIs_mem _
 cases hx:args[i]? with
 |some x=>
  have hlt:=(List.getElem?_eq_some_iff.1 hx).1
  have hI:=ih' x (List.mem_of_getElem? hx)
  have hr:=hrg i x hx
  have hs:=Kv_succ hr
  rw[fe_drop hr] at h7
  rw[<- h5] at hs
  obtain⟨⟨k,er⟩,hke⟩:∃ke,ke=chk ks x:=⟨_,rfl⟩
  rw[<- hke] at hI hs h7
  obtain⟨op',n',v',name',nl',args'⟩:=x
  rw[Ex.av_mk] at hI
  have hg:=hget i _ _ _ _ _ _ hx
  by_cases her:er=0
  ·rw[if_pos her] at h7
   repeat' first|refine st ?_|((with_reducible first|apply k_pn|apply k_pc);(·exact hI))|(with_reducible first|apply k_d|apply k_b)<;>intro _
   exact⟨i+1,A++[[eI k]],rfl,rfl,rfl,by omega,by omega,hs,h7⟩
  ·rw[if_neg her] at h7
   dsimp only at h7
   rw[h7,if_neg her] at hq
   rw[hq]
   repeat' first|refine st ?_|((with_reducible first|apply k_pn|apply k_pc);(·exact hI))|(with_reducible first|apply k_d|apply k_b)<;>intro _
   all_goals rfl
 |none=>
  have hge:=List.getElem?_eq_none_iff.1 hx
  rw[List.drop_eq_nil_of_le (by omega)] at h7
  rw[h7,if_pos (show fe []=0 from rfl)] at hq
  rw[Kv_end (by omega)] at h5
  clear hrg
  obtain⟨l,hl⟩:∃l,l=rs.map Prod.fst:=⟨_,rfl⟩
  have hll:l.length=args.length:=by rw[hl,List.length_map,hrl]
  rw[<- hl] at h5 hq
  have h22:op=22->1<=l.length:=λe=>by omega
  obtain⟨⟨kr,br⟩,hre⟩:∃r,r=res op v l:=⟨_,rfl⟩
  have hR:=C.r11_result op n v name d l (by omega) (.sl (eIs l)) sld_sl dk h22 (by omega) h2
  rw[<- hre,<- h5] at hR
  rw[<- hre] at hq
  rw[hq]
  cases br with
  |true=>
   repeat' first|refine st ?_|((with_reducible first|apply k_pn|apply k_pc);(·exact hR))|(with_reducible first|apply k_d|apply k_b)<;>intro _
   all_goals rfl
  |false=>
   repeat' first|refine st ?_|((with_reducible first|apply k_pn|apply k_pc);(·exact hR))|(with_reducible first|apply k_d|apply k_b)<;>intro _
   all_goals rfl
theorem C.r11_Check(ks:List Int)(hks:ks.length<=1048576)(dk:D)(hdk:SlD dk (eIs ks))(e:Ex)(he:e.bk<=1048576):Pure Tryz.prog N.bt_ref11_Check [e.av,.d dk] (.tup [.d (eI (if 24<dep e then (0,26) else chk ks e).1),.d (eI (if 24<dep e then ((0,26):Int×Int) else chk ks e).2)]):=by
 have hD:=C.r11_depth e he
 have hC:=C.r11_check ks hks dk hdk e he
 obtain⟨kr,hre⟩:∃r,r=chk ks e:=⟨_,rfl⟩
 obtain⟨dp,hdp⟩:∃dp,dp=dep e:=⟨_,rfl⟩
 rw[<- hre] at hC ⊢
 rw[<- hdp] at hD ⊢
 obtain⟨op,n,v,name,nl,args⟩:=e
 rw[Ex.av_mk] at hC hD ⊢
 refine F.bt_ref11_Check.go mixed rfl ?_
 by_cases h:24<dp
 ·rw[if_pos h]
  have h2:(24:Int)<(dp:Int):=by omega
  repeat' first|refine st ?_|((with_reducible first|apply k_pn|apply k_pc);(·first|exact hD|exact hC))|(with_reducible first|apply k_d|apply k_b)<;>intro _
  all_goals rfl
 ·rw[if_neg h]
  have h2:(dp:Int)<=24:=by omega
  repeat' first|refine st ?_|((with_reducible first|apply k_pn|apply k_pc);(·first|exact hD|exact hC))|(with_reducible first|apply k_d|apply k_b)<;>intro _
  all_goals rfl
end Go.Proofs
end
section
namespace Go.Proofs
open Go.Bi
def ckTop(ks:List Int)(e:Ex):Int×Int:=if 24<dep e then (0,26) else chk ks e
def cheE(ks:List Int)(e:Ex):Int:=if (ckTop ks e).2=0 then (if (ckTop ks e).1=3\/(ckTop ks e).1=0 then 0 else 7) else (ckTop ks e).2
def chesF(ks:List Int):List Ex->Int
 |[]=>0
 |e::r=>if cheE ks e=0 then chesF ks r else cheE ks e
def chesE(ks:List Int)(l:List Ex):Int:=if l.length<=4 then chesF ks l else 5
theorem chesF_drop{ks:List Int}{l:List Ex}{i:Nat}{e:Ex}(h:l[i]?=some e):chesF ks (l.drop i)=if cheE ks e=0 then chesF ks (l.drop (i+1)) else cheE ks e:=by
 obtain⟨hlt,he⟩:=List.getElem?_eq_some_iff.1 h
 rw[List.drop_eq_getElem_cons hlt,he];rfl
theorem xL_get''{args:List Ex}(i:Nat)(op' n':Int)(v':Vl)(name':List UInt8)(nl':Bool)(args':List Ex)(h:args[i]?=some (.mk op' n' v' name' nl' args')):(xL args)[i]?=some (xds op' n' v' name' (ng nl' (xL args'))):=by
 rw[<- Ex.ds_mk];exact xL_get h
theorem C.schema_checkChecks(n:List UInt8)(l:List Co)(hl:l.length<=1048576)(dc dk df dx:D)(hc:SlD dc (eCs l))(xs:List Ex)(hxs:xs.length<=1048576)(hxb:∀e∈xs,e.bk<=1048576)(hdx:SlD dx (xL xs)):Pure Tryz.prog N.schema_checkChecks [eT n dc dk df dx] (.d (eI (chesE (kd l) xs))):=by
 refine F.schema_checkChecks.go mixed rfl ?_
 have h1:=xL_len xs
 have hm:=xL_mem xs
 have hK:=C.schema_Kinds n l hl dc dk df dx hc
 unfold chesE
 by_cases h0:xs.length<=4
 rotate_left
 ·rw[if_neg h0]
  repeat' first|refine st ?_|(with_reducible first|apply k_d|apply k_b)<;>intro _
  all_goals first|rfl|(exfalso;omega)
 rw[if_pos h0]
 obtain⟨q,hq⟩:∃q,q=chesF (kd l) xs:=⟨_,rfl⟩
 rw[<- hq]
 repeat' first|refine st ?_|(with_reducible first|apply k_d|apply k_b)<;>intro _
 refine x_loop1 mixed Lt.schema_checkChecks_l0 Lk.schema_checkChecks_l0 (λ(i:Nat)=>[.d (eI i)]) (λi=>[.cells [.d (.str n),.d dc,.d dk,.d df,.d dx]]) (λi=>i<=xs.length/\q=chesF (kd l) (xs.drop i)) (λi=>xs.length-i) 0 rfl rfl rfl rfl (λ_ _=>⟨rfl,rfl⟩) rfl ⟨by omega,hq⟩ ?_
 repeat' first|refine st ?_|(with_reducible first|apply k_d|apply k_b)<;>intro _
 intro i ⟨h4,h5⟩
 cases hx:xs[i]? with
 |some e=>
  have hlt:=(List.getElem?_eq_some_iff.1 hx).1
  have hE:=C.expr_Check (kd l) (by rw[kd_len];exact hl) (kdD l) (kdD_sl l) e (hxb e (List.mem_of_getElem? hx))
  rw[chesF_drop hx] at h5
  unfold cheE at h5
  obtain⟨⟨k,er⟩,hr⟩:∃r,r=ckTop (kd l) e:=⟨_,rfl⟩
  rw[<- hr] at h5
  unfold ckTop at hr
  rw[<- hr] at hE
  dsimp only at h5 hE
  obtain⟨op',n',v',name',nl',args'⟩:=e
  rw[Ex.av_mk] at hE
  have hg:=xL_get'' i _ _ _ _ _ _ hx
  obtain⟨z,hz⟩:∃z,z=(if er=0 then (if k=3\/k=0 then (0:Int) else 7) else er):=⟨_,rfl⟩
  rw[<- hz] at h5
  by_cases he:er=0
  ·rw[if_pos he] at hz
   by_cases h3:k=3
   ·rw[if_pos (Or.inl h3)] at hz
    rw[if_pos hz] at h5
    repeat' first|refine st ?_|((with_reducible first|apply k_pn|apply k_pc);(·first|exact hK|exact hE))|(with_reducible first|apply k_d|apply k_b)<;>intro _
    exact⟨i+1,rfl,rfl,rfl,by omega,by omega,h5⟩
   ·by_cases h00:k=0
    ·rw[if_pos (Or.inr h00)] at hz
     rw[if_pos hz] at h5
     repeat' first|refine st ?_|((with_reducible first|apply k_pn|apply k_pc);(·first|exact hK|exact hE))|(with_reducible first|apply k_d|apply k_b)<;>intro _
     exact⟨i+1,rfl,rfl,rfl,by omega,by omega,h5⟩
    ·rw[if_neg (by omega)] at hz
     rw[if_neg (by omega),hz] at h5
     rw[h5]
     repeat' first|refine st ?_|((with_reducible first|apply k_pn|apply k_pc);(·first|exact hK|exact hE))|(with_reducible first|apply k_d|apply k_b)<;>intro _
     all_goals rfl
  ·rw[if_neg he] at hz
   rw[if_neg (by omega),hz] at h5
   rw[h5]
   repeat' first|refine st ?_|((with_reducible first|apply k_pn|apply k_pc);(·first|exact hK|exact hE))|(with_reducible first|apply k_d|apply k_b)<;>intro _
   all_goals rfl
 |none=>
  have hge:=List.getElem?_eq_none_iff.1 hx
  rw[List.drop_eq_nil_of_le hge] at h5
  rw[h5]
  repeat' first|refine st ?_|(with_reducible first|apply k_d|apply k_b)<;>intro _
  all_goals rfl
end Go.Proofs
end
section
namespace Go.Proofs
open Go.Bi
structure Tb where
 nm:List UInt8
 cs:List Co
 ks:List Int
 fs:List Fo
 xs:List Ex
structure Tok(t:Tb)(dc dk df dx:D):Prop where
 hn:t.nm.length<=1048576
 hl:t.cs.length<=1048576
 hls:∀c∈t.cs,c.nm.length<=1048576
 hk:t.ks.length<=1048576
 hfl:t.fs.length<=1048576
 hfc:∀f∈t.fs,f.cs.length<=1048576/\f.tb.length<=1048576
 hxs:t.xs.length<=1048576
 hxb:∀e∈t.xs,e.bk<=1048576
 dc:SlD dc (eCs t.cs)
 dk:SlD dk (eIs t.ks)
 df:SlD df (eFs t.fs)
 dx:SlD dx (xL t.xs)
def conE(t:Tb):Int:=if t.fs.length<=4 then (if forsF t.cs.length t.fs=0 then chesE (kd t.cs) t.xs else forsF t.cs.length t.fs) else 5
theorem conE_eq(t:Tb):conE t=if forsE t.cs.length t.fs=0 then chesE (kd t.cs) t.xs else forsE t.cs.length t.fs:=by
 unfold conE forsE
 by_cases h:t.fs.length<=4
 ·rw[if_pos h,if_pos h]
 ·rw[if_neg h,if_neg h,if_neg (by decide)]
def tabE(t:Tb):Int:=if nameB t.nm then (if colE t.cs=0 then (if keyE t.cs t.ks=0 then conE t else keyE t.cs t.ks) else colE t.cs) else 1
theorem C.r13_constraints(t:Tb)(dc dk df dx:D)(h:Tok t dc dk df dx):Pure Tryz.prog N.bt_ref13_constraints [eT t.nm dc dk df dx] (.d (eI (conE t))):=by
 obtain⟨n,l,ks,fs,xs⟩:=t
 obtain⟨hn,hl,hls,hk,hfl,hfc,hxs,hxb,hc,hdk,hdf,hdx⟩:=h
 dsimp only at hn hl hls hk hfl hfc hxs hxb hc hdk hdf hdx ⊢
 refine F.bt_ref13_constraints.go mixed rfl ?_
 have h1:=eFs_len fs
 have hm:=eFs_mem fs
 have h2:=xL_len xs
 have hm2:=xL_mem xs
 have hK:=C.r13_Kinds n l hl dc dk df dx hc
 unfold conE
 dsimp only
 by_cases h0:fs.length<=4
 rotate_left
 ·rw[if_neg h0]
  repeat' first|refine st ?_|(with_reducible first|apply k_d|apply k_b)<;>intro _
  all_goals first|rfl|(exfalso;omega)
 rw[if_pos h0]
 obtain⟨q,hq⟩:∃q,q=(if forsF l.length fs=0 then chesE (kd l) xs else forsF l.length fs):=⟨_,rfl⟩
 rw[<- hq]
 repeat' first|refine st ?_|(with_reducible first|apply k_d|apply k_b)<;>intro _
 refine x_loop1 mixed Lt.bt_ref13_constraints_l0 Lk.bt_ref13_constraints_l0 (λ(i:Nat)=>[.d (eI i)]) (λi=>[.cells [.d (.str n),.d dc,.d dk,.d df,.d dx]]) (λi=>i<=fs.length/\forsF l.length fs=forsF l.length (fs.drop i)) (λi=>fs.length-i) 0 rfl rfl rfl rfl (λ_ _=>⟨rfl,rfl⟩) rfl ⟨by omega,rfl⟩ ?_
 repeat' first|refine st ?_|(with_reducible first|apply k_d|apply k_b)<;>intro _
 intro i ⟨h4,h5⟩
 cases hx:fs[i]? with
 |some f=>
  have hlt:=(List.getElem?_eq_some_iff.1 hx).1
  have hg:=eFs_get hx
  obtain⟨hf,hft⟩:=hfc f (List.mem_of_getElem? hx)
  have hF:=C.r13_foreign n l hl dc dk df dx hc f hf hft
  rw[forsF_drop hx] at h5
  obtain⟨e,he⟩:∃e,e=forE l.length f:=⟨_,rfl⟩
  rw[<- he] at h5 hF
  obtain⟨fd,hfd⟩:∃fd,fd=f.d:=⟨_,rfl⟩
  have hg:(eFs fs)[i]?=some [fd,.str f.tb]:=by rw[hfd];exact hg
  rw[<- hfd] at hF
  by_cases h0:e=0
  ·rw[if_pos h0] at h5
   repeat' first|refine st ?_|((with_reducible first|apply k_pn|apply k_pc);(·exact hF))|(with_reducible first|apply k_d|apply k_b)<;>intro _
   exact⟨i+1,rfl,rfl,rfl,by omega,by omega,h5⟩
  ·rw[if_neg h0] at h5
   rw[h5,if_neg h0] at hq
   rw[hq]
   repeat' first|refine st ?_|((with_reducible first|apply k_pn|apply k_pc);(·exact hF))|(with_reducible first|apply k_d|apply k_b)<;>intro _
   all_goals rfl
 |none=>
  have hge:=List.getElem?_eq_none_iff.1 hx
  rw[List.drop_eq_nil_of_le hge] at h5
  have h5:forsF l.length fs=0:=h5
  rw[if_pos h5] at hq
  unfold chesE at hq
  by_cases h0:xs.length<=4
  rotate_left
  ·rw[if_neg h0] at hq
   rw[hq]
   repeat' first|refine st ?_|(with_reducible first|apply k_d|apply k_b)<;>intro _
   all_goals first|rfl|(exfalso;omega)
  rw[if_pos h0] at hq
  repeat' first|refine st ?_|(with_reducible first|apply k_d|apply k_b)<;>intro _
  refine x_loop1 mixed Lt.bt_ref13_constraints_l1 Lk.bt_ref13_constraints_l1 (λ(i:Nat)=>[.d (eI i)]) (λi=>[.cells [.d (.str n),.d dc,.d dk,.d df,.d dx]]) (λi=>i<=xs.length/\q=chesF (kd l) (xs.drop i)) (λi=>xs.length-i) 0 rfl rfl rfl rfl (λ_ _=>⟨rfl,rfl⟩) rfl ⟨by omega,hq⟩ ?_
  repeat' first|refine st ?_|(with_reducible first|apply k_d|apply k_b)<;>intro _
  intro i ⟨h4,h5⟩
  cases hx:xs[i]? with
  |some e=>
   have hlt:=(List.getElem?_eq_some_iff.1 hx).1
   have hE:=C.r11_Check (kd l) (by rw[kd_len];exact hl) (.sl (eIs (kd l))) (.inr rfl) e (hxb e (List.mem_of_getElem? hx))
   rw[chesF_drop hx] at h5
   unfold cheE at h5
   obtain⟨⟨k,er⟩,hr⟩:∃r,r=ckTop (kd l) e:=⟨_,rfl⟩
   rw[<- hr] at h5
   unfold ckTop at hr
   rw[<- hr] at hE
   dsimp only at h5 hE
   obtain⟨op',n',v',name',nl',args'⟩:=e
   rw[Ex.av_mk] at hE
   have hg:=xL_get'' i _ _ _ _ _ _ hx
   obtain⟨z,hz⟩:∃z,z=(if er=0 then (if k=3\/k=0 then (0:Int) else 7) else er):=⟨_,rfl⟩
   rw[<- hz] at h5
   by_cases he:er=0
   ·rw[if_pos he] at hz
    by_cases h3:k=3
    ·rw[if_pos (Or.inl h3)] at hz
     rw[if_pos hz] at h5
     repeat' first|refine st ?_|((with_reducible first|apply k_pn|apply k_pc);(·first|exact hK|exact hE))|(with_reducible first|apply k_d|apply k_b)<;>intro _
     exact⟨i+1,rfl,rfl,rfl,by omega,by omega,h5⟩
    ·by_cases h00:k=0
     ·rw[if_pos (Or.inr h00)] at hz
      rw[if_pos hz] at h5
      repeat' first|refine st ?_|((with_reducible first|apply k_pn|apply k_pc);(·first|exact hK|exact hE))|(with_reducible first|apply k_d|apply k_b)<;>intro _
      exact⟨i+1,rfl,rfl,rfl,by omega,by omega,h5⟩
     ·rw[if_neg (by omega)] at hz
      rw[if_neg (by omega),hz] at h5
      rw[h5]
      repeat' first|refine st ?_|((with_reducible first|apply k_pn|apply k_pc);(·first|exact hK|exact hE))|(with_reducible first|apply k_d|apply k_b)<;>intro _
      all_goals rfl
   ·rw[if_neg he] at hz
    rw[if_neg (by omega),hz] at h5
    rw[h5]
    repeat' first|refine st ?_|((with_reducible first|apply k_pn|apply k_pc);(·first|exact hK|exact hE))|(with_reducible first|apply k_d|apply k_b)<;>intro _
    all_goals rfl
  |none=>
   have hge:=List.getElem?_eq_none_iff.1 hx
   rw[List.drop_eq_nil_of_le hge] at h5
   rw[h5]
   repeat' first|refine st ?_|(with_reducible first|apply k_d|apply k_b)<;>intro _
   all_goals rfl
theorem C.r13_Check(t:Tb)(dc dk df dx:D)(h:Tok t dc dk df dx):Pure Tryz.prog N.bt_ref13_Check [eT t.nm dc dk df dx] (.d (eI (tabE t))):=by
 have h1:=C.r13_Name t.nm h.hn
 have h2:=C.r13_columns t.nm t.cs h.hl h.hls dc dk df dx h.dc
 have h3:=C.r13_key t.nm t.cs h.hl dc dk df dx h.dc t.ks h.hk h.dk
 have h4:=C.r13_constraints t dc dk df dx h
 refine F.bt_ref13_Check.go mixed rfl ?_
 unfold tabE
 cases hv:nameB t.nm with
 |false=>
  rw[hv] at h1
  rw[if_neg (by simp)]
  repeat' first|refine st ?_|((with_reducible first|apply k_pn|apply k_pc);(·exact h1))|(with_reducible first|apply k_d|apply k_b)<;>intro _
  all_goals rfl
 |true=>
  rw[hv] at h1
  rw[if_pos rfl]
  by_cases ha:colE t.cs=0
  ·rw[if_pos ha]
   rw[ha] at h2
   by_cases hb:keyE t.cs t.ks=0
   ·rw[if_pos hb]
    rw[hb] at h3
    repeat' first|refine st ?_|((with_reducible first|apply k_pn|apply k_pc);(·first|exact h1|exact h2|exact h3|exact h4))|(with_reducible first|apply k_d|apply k_b)<;>intro _
    all_goals rfl
   ·rw[if_neg hb]
    repeat' first|refine st ?_|((with_reducible first|apply k_pn|apply k_pc);(·first|exact h1|exact h2|exact h3|exact h4))|(with_reducible first|apply k_d|apply k_b)<;>intro _
    all_goals rfl
  ·rw[if_neg ha]
   repeat' first|refine st ?_|((with_reducible first|apply k_pn|apply k_pc);(·first|exact h1|exact h2|exact h3|exact h4))|(with_reducible first|apply k_d|apply k_b)<;>intro _
   all_goals rfl
theorem C.schema_Check(t:Tb)(dc dk df dx:D)(h:Tok t dc dk df dx):Pure Tryz.prog N.schema_Check [eT t.nm dc dk df dx] (.d (eI (tabE t))):=by
 have h1:=C.schema_Name t.nm h.hn
 have h2:=C.schema_checkColumns t.nm t.cs h.hl h.hls dc dk df dx h.dc
 have h3:=C.schema_checkKey t.nm t.cs h.hl dc dk df dx h.dc t.ks h.hk h.dk
 have h4:=C.schema_checkForeigns t.nm t.cs h.hl t.fs h.hfl h.hfc dc dk df dx h.dc h.df
 have h5:=C.schema_checkChecks t.nm t.cs h.hl dc dk df dx h.dc t.xs h.hxs h.hxb h.dx
 obtain⟨n,l,ks,fs,xs⟩:=t
 dsimp only at h1 h2 h3 h4 h5 ⊢
 refine F.schema_Check.go mixed rfl ?_
 unfold tabE
 rw[conE_eq]
 dsimp only
 cases hv:nameB n with
 |false=>
  rw[hv] at h1
  rw[if_neg (by simp)]
  repeat' first|refine st ?_|((with_reducible first|apply k_pn|apply k_pc);(·exact h1))|(with_reducible first|apply k_d|apply k_b)<;>intro _
  all_goals rfl
 |true=>
  rw[hv] at h1
  rw[if_pos rfl]
  obtain⟨a,ha⟩:∃a,a=colE l:=⟨_,rfl⟩
  obtain⟨b,hb⟩:∃a,a=keyE l ks:=⟨_,rfl⟩
  obtain⟨c,hc⟩:∃a,a=forsE l.length fs:=⟨_,rfl⟩
  obtain⟨d,hd⟩:∃a,a=chesE (kd l) xs:=⟨_,rfl⟩
  rw[<- ha] at h2 ⊢
  rw[<- hb] at h3 ⊢
  rw[<- hc] at h4 ⊢
  rw[<- hd] at h5 ⊢
  obtain⟨q,hq⟩:∃q,q=(if a=0 then (if b=0 then (if c=0 then d else c) else b) else a):=⟨_,rfl⟩
  rw[<- hq]
  obtain⟨A,hA⟩:∃A:List (List D),A=[[.fn N.schema_checkColumns],[.fn N.schema_checkKey],[.fn N.schema_checkForeigns],[.fn N.schema_checkChecks]]:=⟨_,rfl⟩
  have hAl:A.length=4:=by rw[hA];rfl
  repeat' first|refine st ?_|((with_reducible first|apply k_pn|apply k_pc);(·exact h1))|(with_reducible first|apply k_d|apply k_b)<;>intro _
  rw[<- hA]
  refine x_loop1 mixed Lt.schema_Check_l0 Lk.schema_Check_l0 (λ(i:Nat)=>[.d (eI i)]) (λi=>[.cells [.d (.str n),.d dc,.d dk,.d df,.d dx],.arr A 1 0 false]) (λi=>i<=4/\(0<i->a=0)/\(1<i->b=0)/\(2<i->c=0)/\(3<i->d=0)) (λi=>4-i) 0 rfl rfl rfl rfl (λ_ _=>⟨rfl,rfl⟩) rfl ⟨by omega,by omega,by omega,by omega,by omega⟩ ?_
  repeat' first|refine st ?_|(with_reducible first|apply k_d|apply k_b)<;>intro _
  intro i ⟨g0,g1,g2,g3,g4⟩
  by_cases e4:i=4
  ·rw[if_pos (g1 (by omega)),if_pos (g2 (by omega)),if_pos (g3 (by omega)),g4 (by omega)] at hq
   rw[hq]
   repeat' first|refine st ?_|(with_reducible first|apply k_d|apply k_b)<;>intro _
   all_goals rfl
  by_cases e0:i=0
  ·have hg:A[i]?=some [.fn N.schema_checkColumns]:=by rw[hA,e0];rfl
   by_cases z:a=0
   ·repeat' first|refine st ?_|((with_reducible first|apply k_pn|apply k_pc);(·exact h2))|(with_reducible first|apply k_d|apply k_b)<;>intro _
    exact⟨i+1,rfl,rfl,rfl,by omega,by omega,λ_=>z,by omega,by omega,by omega⟩
   ·rw[if_neg z] at hq
    rw[hq]
    repeat' first|refine st ?_|((with_reducible first|apply k_pn|apply k_pc);(·exact h2))|(with_reducible first|apply k_d|apply k_b)<;>intro _
    all_goals rfl
  by_cases e1:i=1
  ·have hg:A[i]?=some [.fn N.schema_checkKey]:=by rw[hA,e1];rfl
   rw[if_pos (g1 (by omega))] at hq
   by_cases z:b=0
   ·repeat' first|refine st ?_|((with_reducible first|apply k_pn|apply k_pc);(·exact h3))|(with_reducible first|apply k_d|apply k_b)<;>intro _
    exact⟨i+1,rfl,rfl,rfl,by omega,by omega,λ_=>g1 (by omega),λ_=>z,by omega,by omega⟩
   ·rw[if_neg z] at hq
    rw[hq]
    repeat' first|refine st ?_|((with_reducible first|apply k_pn|apply k_pc);(·exact h3))|(with_reducible first|apply k_d|apply k_b)<;>intro _
    all_goals rfl
  by_cases e2:i=2
  ·have hg:A[i]?=some [.fn N.schema_checkForeigns]:=by rw[hA,e2];rfl
   rw[if_pos (g1 (by omega)),if_pos (g2 (by omega))] at hq
   by_cases z:c=0
   ·repeat' first|refine st ?_|((with_reducible first|apply k_pn|apply k_pc);(·exact h4))|(with_reducible first|apply k_d|apply k_b)<;>intro _
    exact⟨i+1,rfl,rfl,rfl,by omega,by omega,λ_=>g1 (by omega),λ_=>g2 (by omega),λ_=>z,by omega⟩
   ·rw[if_neg z] at hq
    rw[hq]
    repeat' first|refine st ?_|((with_reducible first|apply k_pn|apply k_pc);(·exact h4))|(with_reducible first|apply k_d|apply k_b)<;>intro _
    all_goals rfl
  have e3:i=3:=by omega
  ·have hg:A[i]?=some [.fn N.schema_checkChecks]:=by rw[hA,e3];rfl
   rw[if_pos (g1 (by omega)),if_pos (g2 (by omega)),if_pos (g3 (by omega))] at hq
   by_cases z:d=0
   ·repeat' first|refine st ?_|((with_reducible first|apply k_pn|apply k_pc);(·exact h5))|(with_reducible first|apply k_d|apply k_b)<;>intro _
    exact⟨i+1,rfl,rfl,rfl,by omega,by omega,λ_=>g1 (by omega),λ_=>g2 (by omega),λ_=>g3 (by omega),λ_=>z⟩
   ·rw[hq]
    repeat' first|refine st ?_|((with_reducible first|apply k_pn|apply k_pc);(·exact h5))|(with_reducible first|apply k_d|apply k_b)<;>intro _
    all_goals rfl
end Go.Proofs
end
