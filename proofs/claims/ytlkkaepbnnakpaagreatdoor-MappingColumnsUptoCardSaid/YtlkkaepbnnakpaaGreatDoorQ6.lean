/- Texts of this claim, joined. No condition. -/
import Derived.Test.YtlkkaepbnnakpaaGreatDoorQ5
set_option linter.unusedSimpArgs false
set_option linter.unusedVariables false
set_option maxRecDepth 10000
set_option maxHeartbeats 4000000
section
namespace Go.Bi
open Go
section
variable {P:Program}{n nb:Nat}{M:Mem}{G:Gh}{os:List AO}{w:World}{ρ:Rho}{a:Act}
def retOI2(Q:AV->List AO->Prop)(rs:List RV)(ρ:Rho)(os:List AO):Prop:=resI ρ os rs λl=>match l with
 |[x,y]=>x.one=true/\y.one=true/\Q (.tup [x,y]) os
 |_=>False
def retO2(Q:AV->List AO->Prop)(rs:List RV)(L:Sl)(os:List AO):Prop:=xRes L os rs λl=>match l with
 |[x,y]=>Chk (x.one=true) (Chk (y.one=true) (Q (.tup [x,y]) os))
 |_=>False
theorem resI_mono2{ρ:Rho}{os:List AO}{K K':List AV->Prop}(hk:∀l,K l->K' l):∀{rs:List RV},resI ρ os rs K->resI ρ os rs K'
 |[],h=>hk _ h
 |.t s::rs,h=>resI_mono2 (rs:=rs) (λl hl=>hk _ hl) h
 |.cell s m g::rs,h=>by
  simp only[resI] at h ⊢
  obtain⟨r,h1,h2⟩:=loadI_iff h
  exact h2 _ (resI_mono2 (rs:=rs) (λl hl=>hk _ hl) h1)
theorem retO2_ok{Q:AV->List AO->Prop}{rs:List RV}{L:Sl}{os:List AO}(h:retO2 Q rs L os):retOI2 Q rs (ofL L) os:=by
 have h1:=xRes_ok h
 refine resI_mono2 (λl hl=>?_) h1
 match l,hl with
 |[x,y],hl=>exact⟨hl.1,hl.2.1,hl.2.2⟩
theorem own_ok2{c:Ctx}(hR:Rel n nb c M G os w ρ a){fn:Func}{rs:List RV}(hrs:fn.results.toList.mapM (cRV P)=some rs){Q:AV->List AO->Prop}(h:retOI2 Q rs ρ os) :
  ∃v,(results fn a.tmps).run P w=.ok v w/\∃M' G' r os',Env M' G' os' w/\Since c.M c.G c.os c.w M' G' os' w/\VA M' G' os' r v/\Q r os':=by
 obtain⟨l,vs,h1,h2,h3,h4⟩:=resI_run hR.env hR.tmps _ rs hrs _ h
 match l,h1,h3,h4 with
 |[x,y],h1,h3,h4=>
  simp only[List.length_cons,List.length_nil] at h3
  refine⟨_,run_results h2,M,G,.tup [x,y],os,hR.env,hR.since,?_,h1.2.2⟩
  rw[dif_neg (by omega)]
  refine⟨vs.toArray,rfl,by simpa using h3,λj c u hc hu=>?_⟩
  have hu:vs[j]?=some u:=by simpa using hu
  match j,hc with
  |0,hc=>cases hc;exact one_vg (h4 0 _ u rfl hu) h1.1
  |1,hc=>cases hc;exact one_vg (h4 1 _ u rfl hu) h1.2.1
  |j+2,hc=>simp at hc
theorem fn_own2(hm:P.follows .mixedOrders=true){f:FuncId}{fn:Func}{code:Code}{ic:IC}{rs:List RV}(hf:P.funcs[f]?=some fn)(hname:fn.name≠ "runtime.NumGoroutine")(hb:fn.body=some code)(hc:cC P fn.ntmps code=some ic)
  (hrs:fn.results.toList.mapM (cRV P)=some rs) {args:List AV} {bs:List AO} (hargs:args.length<=fn.ntmps) {Q:AV->List AO->Prop}
  (h:wpI P fn.ntmps bs.length ic {norm:=retOI2 Q rs,exit:=λ_ _ _=>False,ret:=retOI2 Q rs} (argsRho args) bs):CallSpec P f args bs Q:=by
 refine⟨⟨fn,hf,by rw[hb];rfl,hname⟩,λM G w vs he hl hv=>?_⟩
 refine calls_of_wp hf hb (wp_mono (wpI_tri hm code ic hc _ _ _ h ⟨M,G,bs,w⟩ M G w {tmps:=vs++Array.replicate (fn.ntmps-vs.size) undef,defers:=[]} ?_) λe a' w' hp=>?_)
 ·exact {
   env:=he,since:=Since.refl ..,size:=by simp;omega,defers:=rfl,base:=rfl
   tmps:=λt=>by
    unfold argsRho
    by_cases ht:t<args.length
    ·have h1:(vs++Array.replicate (fn.ntmps-vs.size) undef).getD t undef=vs[t]:=by
      simp[Array.getElem?_append_left (show t<vs.size by omega),show t<vs.size by omega]
     have h2:args.getD t .junk=args[t]:=by simp[ht]
     show VA M G bs (args.getD t .junk) ((vs++Array.replicate (fn.ntmps-vs.size) undef).getD t undef)
     rw[h1,h2]
     have:=hv t args[t] vs[t] (List.getElem?_eq_getElem ht) (Array.getElem?_eq_getElem (by omega))
     generalize args[t]=c at this
     cases c with
     |tup cs=>exact this.elim
     |junk=>trivial
     |_=>exact this
    ·have:args.getD t .junk=.junk:=by simp[List.getD_eq_getElem?_getD,List.getElem?_eq_none (Nat.le_of_not_lt ht)]
     rw[this]
     trivial}
 ·have fin:Fits fn.ntmps bs.length ⟨M,G,bs,w⟩ (retOI2 Q rs) a' w'->a'.defers=[]/\∃v,(results fn a'.tmps).run P w'=.ok v w'/\∃v',Ending.returned v=.returned v'/\∃M' G' r os',Env M' G' os' w'/\Since M G bs w M' G' os' w'/\VA M' G' os' r v'/\Q r os':=by
   rintro⟨M',G',os',ρ',hR,hk⟩
   obtain⟨v,h1,h2⟩:=own_ok2 hR hrs hk
   exact⟨hR.defers,v,h1,v,rfl,h2⟩
  cases e with
  |normal=>exact fin hp
  |ret=>exact fin hp
  |exit id=>obtain⟨_,_,_,_,_,hk⟩:=hp;exact hk.elim
  |_=>exact hp.elim
end
theorem IsFn.goO2{P:Program}(hm:P.follows .mixedOrders=true){f n:Nat}{ic:IC}{rs:List RV}(h:IsFn P f n ic rs){args:List AV}{bs:List AO}(hargs:Nat.ble args.length n=true){Q:AV->List AO->Prop}
  (hw:Go (xI P n bs.length ic (retO2 Q rs) (λ_ _ _=>False) (retO2 Q rs) (argsL 0 args) bs)):CallSpec P f args bs Q:=by
 obtain⟨fn,h1,h2,h3,h4,h5⟩:=h
 obtain⟨code,hb,hc⟩:=Option.bind_eq_some_iff.1 h4
 subst h2
 refine fn_own2 hm h1 (by simpa using h3) hb hc h5 (Nat.le_of_ble_eq_true hargs) ?_
 rw[ofL_args]
 exact xI_ok (K:=⟨retO2 Q rs,λ_ _ _=>False,retO2 Q rs⟩) ⟨λL os h=>retO2_ok h,λ_ _ _ h=>h,λL os h=>retO2_ok h⟩ hw
end Go.Bi
end
section
namespace Go.Proofs
open Go.Bi
theorem C.apply_err(t:Tb)(dc dk df dx:D)(h:Tok t dc dk df dx)(c:Ch)(hc:Cok c)(hq:evoE t c≠0):Pure Tryz.prog N.evolve_Apply [eT t.nm dc dk df dx,c.av] (.tup [eT [] .nil .nil .nil .nil,.d (eI (evoE t c))]):=by
 have hC:=C.evolve_Check t dc dk df dx h c hc
 obtain⟨q,hqq⟩:∃q,q=evoE t c:=⟨_,rfl⟩
 rw[<- hqq] at hC hq ⊢
 obtain⟨k,nm,to,⟨cn,ck,cl⟩,⟨vk,vn,vs⟩⟩:=c
 refine F.evolve_Apply.go mixed rfl ?_
 repeat' first|refine st ?_|((with_reducible first|apply k_pn|apply k_pc);(·exact hC))|(with_reducible first|apply k_d|apply k_b)<;>intro _
 all_goals rfl
end Go.Proofs
end
section
namespace Go.Proofs
open Go.Bi
theorem C.drop0_lift (T0 T1 T2 T3 T4 T7 : AO) (nm : List UInt8) (es : List (List D)) (hm : ∀ e ∈ es, e.length = 3) (i : Nat) (hi : i < es.length) (hel : es.length ≤ 1048576) (ks : List Int) (hkb : ∀ k ∈ ks, 0 ≤ k ∧ k ≤ 1048576) (hkl : ks.length ≤ 1048576) (kn : Bool) (hkn : kn = true → ks = []) (xs : List Ex) (hxl : xs.length ≤ 1048576) (hxb : ∀ e ∈ xs, e.bk ≤ 1048576) (xn : Bool) (hxn : xn = true → xs = []) :
    CallSpec Tryz.prog N.evolve_drop [.ptr 10 0, .d (eI i)] [T0, T1, T2, T3, T4, .arr es 3 0 false, .arr (eIs ks) 1 0 kn, T7, .rarr [] 2 true, .arr (xL xs) 7 0 xn, .cells [.d (.str nm), .arr 5 es.length, .arr 6 (eIs ks).length, .rs 8 0, .arr 9 (xL xs).length]]
      (fun r os => r = .tup [] ∧ os = [T0, T1, T2, T3, T4, .arr (es.eraseIdx i ++ [zRow]) 3 (es.length - 1) false, .arr (eIs (ks.map fun c => belowI c i)) 1 0 kn, T7, .rarr [] 2 true, .arr (xL (xs.map (subX (mvL es.length i)))) 7 0 xn,
        .cells [.d (.str nm), .d (.sl (es.eraseIdx i)), .arr 6 (eIs ks).length, .rs 8 0, .arr 9 (xL xs).length]]) := by
  have := CallSpec.frame (K := fun r os => r = .tup [] ∧ os = [T0, T1, T2, T3, T4, .arr (es.eraseIdx i ++ [zRow]) 3 (es.length - 1) false, .arr (eIs (ks.map fun c => belowI c i)) 1 0 kn, T7, .rarr [] 2 true, .arr (xL (xs.map (subX (mvL es.length i)))) 7 0 xn,
        .cells [.d (.str nm), .d (.sl (es.eraseIdx i)), .arr 6 (eIs ks).length, .rs 8 0, .arr 9 (xL xs).length]]) (C.drop0 nm es hm i hi hel ks hkb hkl kn hkn xs hxl hxb xn hxn) [10, 5, 6, 8, 9]
    [T0, T1, T2, T3, T4, .arr es 3 0 false, .arr (eIs ks) 1 0 kn, T7, .rarr [] 2 true, .arr (xL xs) 7 0 xn, .cells [.d (.str nm), .arr 5 es.length, .arr 6 (eIs ks).length, .rs 8 0, .arr 9 (xL xs).length]] rfl (by decide) (fun i o h => by
      match i, h with
      | 0, h => cases h; rfl
      | 1, h => cases h; rfl
      | 2, h => cases h; rfl
      | 3, h => cases h; rfl
      | 4, h => cases h; rfl
      | i + 5, h => simp at h) (fun a ha => by
        simp only [List.mem_cons, List.not_mem_nil, or_false] at ha
        rcases ha with rfl | rfl <;> simp [AV.bnd2, AV.bnd1]) (fun o ho => by
        simp only [List.mem_cons, List.not_mem_nil, or_false] at ho
        rcases ho with rfl | rfl | rfl | rfl | rfl
        · exact bndo_of rfl
        · exact bndo_of rfl
        · exact bndo_of rfl
        · exact bndo_of rfl
        · exact bndo_of rfl) (by
      rintro r bs' ⟨rfl, rfl⟩
      exact ⟨rfl, rfl⟩)
  exact this
end Go.Proofs
end
section
namespace Go.Proofs
open Go.Bi
theorem slD_isN{d:D}{es:List (List D)}(h:SlD d es):slD (isN d) es=d:=by
 rcases h with ⟨rfl,rfl⟩|rfl<;>rfl
theorem sld_slD{b:Bool}{es:List (List D)}(h:b=true->es=[]):SlD (slD b es) es:=by
 cases b with
 |true=>exact .inl ⟨rfl,h rfl⟩
 |false=>exact .inr rfl
theorem isN_nil{d:D}{es:List (List D)}(h:SlD d es)(hn:isN d=true):es=[]:=by
 rcases h with ⟨_,h1⟩|rfl
 ·exact h1
 ·cases hn
theorem da_tabF{os:List AO}{nm:List UInt8}{b f x:Nat}{dcv:AV}{dcd:D}{K X:List (List D)}{rows:List (List AV)}{fs:List Fo}{kn xn nl:Bool}{kz xz kf xf:Nat}{e:D}
  (h1:DC os dcv dcd) (h2:os[b]?=some (.arr K kz kf kn)) (h3:os[f]?=some (.rarr rows 2 nl)) (h4:os[x]?=some (.arr X xz xf xn)) (hl:fs.length=rows.length)
  (hr:∀(i:Nat) e (g:Fo),rows[i]?=some e->fs[i]?=some g->∃q es fl,e=[.arr q es.length,.d (.str g.tb)]/\os[q]?=some (.arr es 1 0 fl)/\g.d=slD fl es) :
  DA os (.tup [.agg [.d (.str nm),dcv,.arr b K.length,.rs f rows.length,.arr x X.length],.d e]) (.tup [eT nm dcd (slD kn K) (slD nl (eFs fs)) (slD xn X),.d e]):=by
 refine .inr ⟨_,_,rfl,rfl,rfl,λj c y hc hy=>?_⟩
 match j,hc,hy with
 |0,hc,hy=>
  cases hc;cases hy
  refine .inr ⟨_,[.str nm,dcd,slD kn K,slD nl (eFs fs),slD xn X],rfl,rfl,rfl,λj c y hc hy=>?_⟩
  match j,hc,hy with
  |0,hc,hy=>cases hc;cases hy;exact .inl (.inl rfl)
  |1,hc,hy=>cases hc;cases hy;exact h1
  |2,hc,hy=>cases hc;cases hy;exact .inl (.inr ⟨b,K,kz,kf,kn,rfl,h2,rfl⟩)
  |3,hc,hy=>
   cases hc;cases hy
   refine .inr ⟨f,rows,2,nl,eFs fs,rfl,h3,by rw[eFs_len];exact hl,λi e e' he he'=>?_,rfl⟩
   obtain⟨g,hg,rfl⟩:∃g,fs[i]?=some g/\g.ds=e':=by
    unfold eFs at he'
    rw[List.getElem?_map] at he'
    exact Option.map_eq_some_iff.1 he'
   obtain⟨q,es,fl,rfl,h5,h6⟩:=hr i e g he hg
   refine⟨rfl,λj c x hc hx=>?_⟩
   match j,hc,hx with
   |0,hc,hx=>cases hc;cases hx;exact .inr ⟨q,es,1,0,fl,rfl,h5,h6⟩
   |1,hc,hx=>cases hc;cases hx;exact .inl rfl
   |j+2,hc,hx=>simp at hc
  |4,hc,hy=>cases hc;cases hy;exact .inl (.inr ⟨x,X,xz,xf,xn,rfl,h4,rfl⟩)
  |j+5,hc,hy=>simp at hc
 |1,hc,hy=>cases hc;cases hy;exact .inl ⟨e,.inl (.inl rfl),rfl⟩
 |j+2,hc,hy=>simp at hc
theorem map_erase{α β:Type}(f:α->β):∀(l:List α)(i:Nat),(l.eraseIdx i).map f=(l.map f).eraseIdx i
 |[],i=>rfl
 |a::l,0=>rfl
 |a::l,i+1=>by simp[map_erase f l i]
theorem eCs_erase(l:List Co)(i:Nat):eCs (l.eraseIdx i)=(eCs l).eraseIdx i:=map_erase _ _ _
def dF(l:List Fo):D:=slD l.isEmpty (eFs l)
def blF(i:Nat)(g:Fo):Fo:=⟨g.nl,g.cs.map λc=>belowI c i,g.tb⟩
theorem blF_d(i:Nat)(g:Fo):(blF i g).d=slD (isN g.d) (eIs (g.cs.map λc=>belowI c i)):=by
 obtain⟨nl,cs,tb⟩:=g
 unfold blF Fo.d ng
 cases nl<;>cases cs<;>rfl
end Go.Proofs
end
section
namespace Go.Proofs
open Go.Bi
def fitB(v:Vl)(k:Int):Bool:=vValid v&&(decide (v.k=0)||decide (v.k=k))
def fits(row:List Vl)(ks:List Int):Bool:=decide (row.length=ks.length)&&(row.zip ks).all λp=>fitB p.1 p.2
theorem all_take_succ2{α:Type}{p:α->Bool}{l:List α}{i:Nat}{x:α}(h:l[i]?=some x):(l.take (i+1)).all p=((l.take i).all p&&p x):=by
 rw[List.take_add_one,h];simp
theorem all_none2{α:Type}{p:α->Bool}{l:List α}{i:Nat}{x:α}(h:l[i]?=some x)(hx:p x=false):l.all p=false:=by
 rw[Bool.eq_false_iff]
 intro e
 have:=List.all_eq_true.1 e x (List.mem_of_getElem? h)
 rw[hx] at this;cases this
theorem fe_zero:∀{l:List (Int×Int)},fe l=0->∀x∈l,x.2=0
 |[],_,x,hx=>by cases hx
 |y::l,h,x,hx=>by
  unfold fe at h
  by_cases hy:y.2=0
  ·rw[if_pos hy] at h
   rcases List.mem_cons.1 hx with rfl|hx
   ·exact hy
   ·exact fe_zero h x hx
  ·rw[if_neg hy] at h;exact absurd h hy
theorem vOrN_k(v:Vl):(vOrN v).k=v.k\/(vOrN v).k=0:=by
 unfold vOrN
 split
 ·exact .inl rfl
 ·exact .inr rfl
def Knd(l:List Vl)(ks:List Int):Prop:=l.length=ks.length/\∀i,(h:i<l.length)->(h2:i<ks.length)->l[i].k=ks[i]\/l[i].k=0
theorem Knd.all{l:List Vl}{ks:List Int}(h:Knd l ks){r:Int}(hr:∀x∈ks,x=0\/x=r):∀v∈l,v.k=r\/v.k=0:=by
 intro v hv
 obtain⟨i,hi,rfl⟩:=List.mem_iff_getElem.1 hv
 have h2:i<ks.length:=by have:=h.1;omega
 have h3:=h.2 i hi h2
 have h4:=hr ks[i] (List.getElem_mem h2)
 omega
end Go.Proofs
end
section
namespace Go.Proofs
open Go.Bi
theorem cp_mk(op n:Int)(v:Vl)(nm:List UInt8)(nl:Bool)(args:List Ex):cpX (.mk op n v nm nl args)=.mk op n v nm true (args.map cpX):=by
 unfold cpX
 rw[mapX_mk]
 split<;>rfl
theorem map_same{α β:Type}{f g:α->β}{l:List α}(h:∀a∈l,f a=g a):l.map f=l.map g:=List.map_congr_left h
theorem map_comp{α β γ:Type}{f:β->γ}{g:α->β}{h:α->γ}{l:List α}(hh:∀a∈l,f (g a)=h a):(l.map g).map f=l.map h:=by
 rw[List.map_map];exact List.map_congr_left hh
theorem cp_cp:∀e:Ex,cpX (cpX e)=cpX e:=by
 refine Ex.ind λop n v nm nl args ih=>?_
 rw[cp_mk,cp_mk,map_comp (h:=cpX) λa ha=>ih a ha]
theorem w64_in{n:Int}(h1:IntKind.i64.min<=n)(h2:n<=IntKind.i64.max):w64 (n+0)=n:=by
 have e1:IntKind.i64.min=-9223372036854775808:=rfl
 have e2:IntKind.i64.max=9223372036854775807:=rfl
 rw[Int.add_zero]
 show IntKind.i64.wrap n=n
 rw[IntKind.wrap_i64]
 omega
theorem shf0_cp:∀e:Ex,e.Rg->shf 0 e=cpX e:=by
 refine Ex.ind λop n v nm nl args ih hr=>?_
 cases hr with
 |mk h1 h2 h=>
  rw[shf_mk,cp_mk,map_same (g:=cpX) λa ha=>ih a ha (h a ha),w64_in h1 h2]
  split<;>rfl
theorem cp_dep:∀e:Ex,dep (cpX e)=dep e:=by
 refine Ex.ind λop n v nm nl args ih=>?_
 rw[cp_mk,dep_mk,dep_mk,map_comp (h:=dep) λa ha=>ih a ha]
theorem cp_chk(ks:List Int):∀e:Ex,chk ks (cpX e)=chk ks e:=by
 refine Ex.ind λop n v nm nl args ih=>?_
 rw[cp_mk,chk_mk,chk_mk,List.length_map,map_comp (h:=chk ks) λa ha=>ih a ha]
theorem flat_same{α:Type}{f g:α->List Int}:∀{l:List α},(∀a∈l,f a=g a)->l.flatMap f=l.flatMap g
 |[],_=>rfl
 |a::l,h=>by rw[List.flatMap_cons,List.flatMap_cons,h a (by simp),flat_same λb hb=>h b (by simp[hb])]
theorem flat_map'{α β:Type}(f:α->β)(g:β->List Int):∀l:List α,(l.map f).flatMap g=l.flatMap λa=>g (f a)
 |[]=>rfl
 |a::l=>by rw[List.map_cons,List.flatMap_cons,List.flatMap_cons,flat_map' f g l]
theorem cp_raw:∀e:Ex,rawC (cpX e)=rawC e:=by
 refine Ex.ind λop n v nm nl args ih=>?_
 rw[cp_mk,rawC_mk,rawC_mk,flat_map',flat_same (g:=rawC) λa ha=>ih a ha]
theorem cp_cols(e:Ex):cols (cpX e)=cols e:=by unfold cols;rw[cp_raw]
theorem cp_rg:∀e:Ex,e.Rg->(cpX e).Rg:=by
 refine Ex.ind λop n v nm nl args ih hr=>?_
 cases hr with
 |mk h1 h2 h=>
  rw[cp_mk]
  refine .mk h1 h2 λa ha=>?_
  obtain⟨b,hb,rfl⟩:=List.mem_map.1 ha
  exact ih b hb (h b hb)
theorem bk_true(op n n':Int)(v:Vl)(nm:List UInt8)(nl:Bool)(args args':List Ex)(h:bulkLL (xL args')<=bulkLL (xL args)):(Ex.mk op n' v nm true args').bk<=(Ex.mk op n v nm nl args).bk:=by
 rw[Ex.bk,Ex.bk,Ex.ds_mk,Ex.ds_mk]
 simp only[bulkL,bulkD,bulk_ng]
 omega
theorem cp_bk:∀e:Ex,(cpX e).bk<=e.bk:=by
 refine Ex.ind λop n v nm nl args ih=>?_
 rw[cp_mk]
 exact bk_true _ _ _ _ _ _ _ _ (bulk_map cpX args ih)
def dnC(i:Nat):Ex->Ex
 |.mk op n v nm nl args=>.mk op (belowI n i) v nm nl args
def dnX(i:Nat)(e:Ex):Ex:=mapX (dnC i) e
theorem dn_mk(i:Nat)(op n:Int)(v:Vl)(nm:List UInt8)(nl:Bool)(args:List Ex):dnX i (.mk op n v nm nl args)=.mk op (if op=2 then belowI n i else n) v nm true (args.map (dnX i)):=by
 unfold dnX
 rw[mapX_mk]
 split<;>rfl
theorem dn_cp(i:Nat):∀e:Ex,dnX i (cpX e)=dnX i e:=by
 refine Ex.ind λop n v nm nl args ih=>?_
 rw[cp_mk,dn_mk,dn_mk,map_comp (h:=dnX i) λa ha=>ih a ha]
theorem dn_bk(i:Nat):∀e:Ex,(dnX i e).bk<=e.bk:=by
 refine Ex.ind λop n v nm nl args ih=>?_
 rw[dn_mk]
 exact bk_true _ _ _ _ _ _ _ _ (bulk_map (dnX i) args ih)
theorem belowI_rg{n:Int}(i:Nat)(h1:IntKind.i64.min<=n)(h2:n<=IntKind.i64.max):IntKind.i64.min<=belowI n i/\belowI n i<=IntKind.i64.max:=by
 have e1:IntKind.i64.min=-9223372036854775808:=rfl
 have e2:IntKind.i64.max=9223372036854775807:=rfl
 unfold belowI
 split<;>omega
theorem dn_rg(i:Nat):∀e:Ex,e.Rg->(dnX i e).Rg:=by
 refine Ex.ind λop n v nm nl args ih hr=>?_
 cases hr with
 |mk h1 h2 h=>
  rw[dn_mk]
  have hb:=belowI_rg i h1 h2
  refine .mk (by split;exact hb.1;exact h1) (by split;exact hb.2;exact h2) λa ha=>?_
  obtain⟨b,hb,rfl⟩:=List.mem_map.1 ha
  exact ih b hb (h b hb)
theorem dn_dep(i:Nat):∀e:Ex,dep (dnX i e)=dep e:=by
 refine Ex.ind λop n v nm nl args ih=>?_
 rw[dn_mk,dep_mk,dep_mk,map_comp (h:=dep) λa ha=>ih a ha]
theorem chk_ok{ks:List Int}{op n:Int}{v:Vl}{nm:List UInt8}{nl:Bool}{args:List Ex}(h:(chk ks (.mk op n v nm nl args)).2=0) :
  (cnt op args.length).2=true/\fmd op n v nm args.length=true/\(op=2->0<=n/\n<ks.length/\args=[]/\nm=[]/\v=vNull)/\(op≠2->∀a∈args,(chk ks a).2=0):=by
 rw[chk_mk] at h
 unfold ckF at h
 by_cases h1:(cnt op args.length).2=false
 ·rw[if_pos h1] at h;cases h
 by_cases h2:fmd op n v nm args.length=false
 ·rw[if_neg h1,if_pos h2] at h;cases h
 rw[if_neg h1,if_neg h2] at h
 have h2':fmd op n v nm args.length=true:=by simpa using h2
 refine⟨by simpa using h1,h2',λho=>?_,λho a ha=>?_⟩
 ·subst ho
  rw[if_pos rfl] at h
  rw[fmd2] at h2'
  obtain⟨a1,a2,a3,a4,a5⟩:=of_decide_eq_true h2'
  have hv:v=vNull:=by
   obtain⟨x,y,z⟩:=v
   simp only at a3 a4 a5
   subst a3;subst a4;subst a5;rfl
  by_cases hn:0<=n/\n<ks.length
  ·exact⟨hn.1,hn.2,List.length_eq_zero_iff.1 a1,a2,hv⟩
  ·rw[if_neg hn] at h;cases h
 ·rw[if_neg ho] at h
  by_cases hf:fe (args.map (chk ks))=0
  ·exact fe_zero hf _ (List.mem_map.2 ⟨a,ha,rfl⟩)
  ·rw[if_neg hf] at h
   exact absurd h hf
theorem mvL_get{m:Nat}(i:Nat){n:Int}(h0:0<=n)(h1:n<m):(mvL m i).getD n.toNat nulE=mvE n i:=by
 have hl:n.toNat<m:=by omega
 unfold mvL
 rw[List.getD_eq_getElem?_getD,List.getElem?_map,List.getElem?_range hl,Option.map_some,Option.getD_some]
 congr 1
 omega
theorem sub_dn{ks:List Int}{m:Nat}(i:Nat)(hm:ks.length=m):∀e:Ex,(chk ks e).2=0->subX (mvL m i) (cpX e)=dnX i e:=by
 refine Ex.ind λop n v nm nl args ih h=>?_
 obtain⟨_,_,h3,h4⟩:=chk_ok h
 rw[cp_mk,dn_mk]
 unfold subX
 rw[mapX_mk]
 by_cases ho:op=2
 ·obtain⟨a1,a2,rfl,rfl,rfl⟩:=h3 ho
  subst ho
  rw[if_pos rfl,if_pos rfl]
  have hin:inC (mvL m i) n vNull [] 0=true:=by
   unfold inC
   rw[mvL_len]
   exact decide_eq_true ⟨rfl,rfl,⟨rfl,rfl,rfl⟩,a1,by omega⟩
  show(if inC (mvL m i) n vNull [] 0=true then cpX ((mvL m i).getD n.toNat nulE) else _)=_
  rw[if_pos hin,mvL_get i a1 (by omega)]
  unfold mvE
  rw[cp_mk]
  rfl
 ·rw[if_neg ho,if_neg ho,map_comp (f:=mapX (subC (mvL m i))) (h:=dnX i) λa ha=>ih a ha (h4 ho a ha)]
theorem erase_below(ks:List Int)(i:Nat){n:Int}(h0:0<=n)(hne:n≠i):(ks.eraseIdx i).getD (belowI n i).toNat 0=ks.getD n.toNat 0:=by
 rw[List.getD_eq_getElem?_getD,List.getD_eq_getElem?_getD,List.getElem?_eraseIdx]
 unfold belowI
 by_cases h:(i:Int)<n
 ·rw[if_pos h,if_neg (by omega)]
  congr 2
  omega
 ·rw[if_neg h,if_pos (by omega)]
theorem chk_dn{ks:List Int}{i:Nat}(hi:i<ks.length):∀e:Ex,(chk ks e).2=0->¬(i:Int)∈rawC e->chk (ks.eraseIdx i) (dnX i e)=chk ks e:=by
 refine Ex.ind λop n v nm nl args ih h hi'=>?_
 obtain⟨h1,h2,h3,h4⟩:=chk_ok h
 rw[rawC_mk] at hi'
 rw[dn_mk,chk_mk,chk_mk,List.length_map]
 by_cases ho:op=2
 ·obtain⟨a1,a2,rfl,rfl,rfl⟩:=h3 ho
  subst ho
  have hne:n≠i:=λe=>hi' (by rw[e];simp)
  rw[if_pos rfl]
  unfold ckF
  have hf:fmd 2 (belowI n i) vNull [] ([]:List Ex).length=true:=by rw[fmd2];exact decide_eq_true ⟨rfl,rfl,rfl,rfl,rfl⟩
  have hlen:(ks.eraseIdx i).length=ks.length-1:=by rw[List.length_eraseIdx,if_pos hi]
  have hb:0<=belowI n i/\belowI n i<(ks.eraseIdx i).length:=by rw[hlen];unfold belowI;split<;>omega
  rw[h1,h2,hf,if_neg (by decide),if_neg (by decide),if_pos rfl,if_pos hb,if_neg (by decide),if_neg (by decide),if_pos rfl,if_pos ⟨a1,a2⟩,erase_below ks i a1 hne]
 ·rw[if_neg ho]
  unfold ckF
  rw[if_neg ho,if_neg ho,map_comp (f:=chk (ks.eraseIdx i)) (g:=dnX i) (h:=chk ks) λa ha=>ih a ha (h4 ho a ha) λhm=>hi' (List.mem_append.2 (.inr (List.mem_flatMap.2 ⟨a,ha,hm⟩)))]
theorem ckF2{n:Int}{ks:List Int}{rs:List (Int×Int)}(h0:0<=n)(h1:n<ks.length):ckF 2 n vNull [] ks 0 rs=(ks.getD n.toNat 0,0):=by
 have hf:fmd 2 n vNull [] 0=true:=by rw[fmd2];exact decide_eq_true ⟨rfl,rfl,rfl,rfl,rfl⟩
 have hc:(cnt 2 (0:Nat)).2=true:=by decide
 unfold ckF
 rw[hc,hf,if_neg (by decide),if_neg (by decide),if_pos rfl,if_pos ⟨h0,h1⟩]
theorem chk_ext{ks:List Int}(k:Int):∀e:Ex,(chk ks e).2=0->chk (ks++[k]) e=chk ks e:=by
 refine Ex.ind λop n v nm nl args ih h=>?_
 obtain⟨h1,h2,h3,h4⟩:=chk_ok h
 rw[chk_mk,chk_mk]
 by_cases ho:op=2
 ·obtain⟨a1,a2,rfl,rfl,rfl⟩:=h3 ho
  subst ho
  rw[List.length_nil,ckF2 a1 a2,ckF2 a1 (by rw[List.length_append];simp;omega)]
  have:(ks++[k]).getD n.toNat 0=ks.getD n.toNat 0:=by
   rw[List.getD_eq_getElem?_getD,List.getD_eq_getElem?_getD,List.getElem?_append_left (by omega)]
  rw[this]
 ·unfold ckF
  rw[if_neg ho,if_neg ho,map_same (f:=chk (ks++[k])) (g:=chk ks) λa ha=>ih a ha (h4 ho a ha)]
theorem chk_set{ks:List Int}{i:Nat}(k:Int):∀e:Ex,¬(i:Int)∈rawC e->chk (ks.set i k) e=chk ks e:=by
 refine Ex.ind λop n v nm nl args ih hi=>?_
 rw[rawC_mk] at hi
 rw[chk_mk,chk_mk,map_same (f:=chk (ks.set i k)) (g:=chk ks) λa ha=>ih a ha λhm=>hi (List.mem_append.2 (.inr (List.mem_flatMap.2 ⟨a,ha,hm⟩)))]
 unfold ckF
 rw[List.length_set]
 by_cases ho:op=2
 ·subst ho
  have hne:n≠i:=λe=>hi (by rw[e];simp)
  by_cases hn:0<=n/\n<ks.length
  ·have:(ks.set i k).getD n.toNat 0=ks.getD n.toNat 0:=by
    rw[List.getD_eq_getElem?_getD,List.getD_eq_getElem?_getD,List.getElem?_set_ne (by omega)]
   rw[this]
  ·simp only[hn,if_false]
 ·simp only[ho,if_false]
end Go.Proofs
end
section
namespace Go.Proofs
open Go.Bi
def acF:List Vl->List Co->Int
 |v::r,c::l=>if vValid v=false then 8 else if v.k=0 then (if c.nl then acF r l else 12) else if v.k=c.k then acF r l else 7
 |_,_=>0
def acc(row:List Vl)(cols:List Co):Int:=if row.length=cols.length then acF row cols else 13
end Go.Proofs
end
section
namespace Go.Proofs
open Go.Bi
def pick(row:List Vl)(ks:List Int):List Vl:=ks.map (vAt row)
theorem vCmp_refl(v:Vl):vCmp v v=0:=by
 have h:cmpB v.s v.s=0:=(cmpB_less v.s v.s).2.2.1.2 rfl
 have h2:∀n:Int,cmpI n n=0:=λn=>by unfold cmpI;rw[if_neg (by omega),if_neg (by omega)]
 unfold vCmp
 rw[h,h2,h2];rfl
theorem C.r7_Compare_refl(v:Vl):Pure Tryz.prog N.bt_ref07_Compare [eV v,eV v] (.d (eI 0)):=by
 have h:=C.r7_Compare v v
 rw[vCmp_refl] at h
 exact h
theorem C.r8_Equal_refl(row:List Vl)(hr:row.length<=1048576)(d d':D)(hd:SlD d (eVs row))(hd':SlD d' (eVs row)):Pure Tryz.prog N.bt_ref08_Equal [.d d,.d d'] (.d (.bool true)):=by
 have hC:Pure Tryz.prog N.bt_ref08_Compare [.d d,.d d'] (.d (eI 0)):=by
  refine F.bt_ref08_Compare.go mixed rfl ?_
  have h1:=eVs_len row
  have hm:=eVs_mem row
  repeat' first|refine st ?_|(with_reducible first|apply k_d|apply k_b)<;>intro _
  refine x_loop1 mixed Lt.bt_ref08_Compare_l0 Lk.bt_ref08_Compare_l0 (λ(i:Nat)=>[.d (eI i)]) (λi=>[]) (λi=>i<=row.length) (λi=>row.length-i) 0 rfl rfl rfl rfl (λ_ _=>⟨rfl,rfl⟩) rfl (Nat.zero_le _) ?_
  repeat' first|refine st ?_|(with_reducible first|apply k_d|apply k_b)<;>intro _
  intro i h4
  cases hx:row[i]? with
  |some v=>
   have hlt:=(List.getElem?_eq_some_iff.1 hx).1
   have hg:=eVs_get hx
   have hR:=C.r7_Compare_refl v
   repeat' first|refine st ?_|((with_reducible first|apply k_pn|apply k_pc);(·exact hR))|(with_reducible first|apply k_d|apply k_b)<;>intro _
   exact⟨i+1,rfl,rfl,rfl,by omega,by omega⟩
  |none=>
   have hge:=List.getElem?_eq_none_iff.1 hx
   repeat' first|refine st ?_|(with_reducible first|apply k_d|apply k_b)<;>intro _
   all_goals rfl
 refine F.bt_ref08_Equal.go mixed rfl ?_
 repeat' first|refine st ?_|((with_reducible first|apply k_pn|apply k_pc);(·exact hC))|(with_reducible first|apply k_d|apply k_b)<;>intro _
 all_goals rfl
end Go.Proofs
end
section
namespace Go.Proofs
open Go.Bi
theorem tabE_ok{t:Tb}(h:tabE t=0):nameB t.nm=true/\colE t.cs=0/\keyE t.cs t.ks=0/\conE t=0:=by
 unfold tabE at h
 split at h
 ·rename_i h1
  split at h
  ·rename_i h2
   split at h
   ·rename_i h3;exact⟨h1,h2,h3,h⟩
   ·rename_i h3;exact absurd h h3
  ·rename_i h2;exact absurd h h2
 ·cases h
theorem colE_ok{l:List Co}(h:colE l=0):1<=l.length/\l.length<=12/\colF [] l=0:=by
 unfold colE at h
 split at h
 ·rename_i h1;exact⟨h1.1,h1.2,h⟩
 ·cases h
theorem colF_ok:∀{l:List Co}{seen:List (List UInt8)},colF seen l=0->∀(i:Nat) c,l[i]?=some c->nameB c.nm=true/\1<=c.k/\c.k<=3/\¬c.nm∈seen/\∀(j:Nat) d,l[j]?=some d->d.nm=c.nm->j=i
 |[],_,_,i,c,hi=>by simp at hi
 |a::r,seen,h,i,c,hi=>by
  unfold colF at h
  split at h
  ·rename_i h1
   split at h
   ·rename_i h2
    split at h
    ·cases h
    ·rename_i h3
     have ih:=colF_ok h
     cases i with
     |zero=>
      simp only[List.getElem?_cons_zero,Option.some.injEq] at hi
      subst hi
      refine⟨h1,h2.1,h2.2,h3,λj d hj e=>?_⟩
      cases j with
      |zero=>rfl
      |succ j=>
       rw[List.getElem?_cons_succ] at hj
       exact absurd (by simp[e]) (ih j d hj).2.2.2.1
     |succ i=>
      rw[List.getElem?_cons_succ] at hi
      obtain⟨g1,g2,g3,g4,g5⟩:=ih i c hi
      refine⟨g1,g2,g3,λhm=>g4 (by simp[hm]),λj d hj e=>?_⟩
      cases j with
      |zero=>
       simp only[List.getElem?_cons_zero,Option.some.injEq] at hj
       subst hj
       exact absurd (by simp[e]) g4
      |succ j=>
       rw[List.getElem?_cons_succ] at hj
       rw[g5 j d hj e]
   ·cases h
  ·cases h
theorem findF_at{nm:List UInt8}:∀{l:List Co}{s i:Nat}{c:Co},l[i]?=some c->c.nm=nm->(∀(j:Nat) d,l[j]?=some d->d.nm=nm->j=i)->findF nm s l=(s+i:Nat)
 |[],s,i,c,hi,_,_=>by simp at hi
 |a::r,s,i,c,hi,e,hu=>by
  unfold findF
  cases i with
  |zero=>
   simp only[List.getElem?_cons_zero,Option.some.injEq] at hi
   subst hi
   rw[if_pos e];simp
  |succ i=>
   rw[if_neg (λh=>by have:=hu 0 a rfl h;omega)]
   rw[List.getElem?_cons_succ] at hi
   rw[findF_at (s:=s+1) hi e (λj d hj e'=>by have:=hu (j+1) d (by rw[List.getElem?_cons_succ];exact hj) e';omega)]
   congr 1;omega
theorem findC_at{l:List Co}(h:colE l=0){i:Nat}{c:Co}(hi:l[i]?=some c):findC c.nm l=i:=by
 have:=colF_ok (colE_ok h).2.2 i c hi
 have:=findF_at (s:=0) hi rfl this.2.2.2.2
 rw[findC,this];simp
end Go.Proofs
end
section
namespace Go.Proofs
open Go.Bi
def Tb.Rg(t:Tb):Prop:=∀e∈t.xs,e.Rg
def nfF(f:Fo):Fo:=⟨false,f.cs,f.tb⟩
def nf(t:Tb):Tb:=⟨t.nm,t.cs,t.ks,t.fs.map nfF,t.xs.map cpX⟩
theorem nf_nf(t:Tb):nf (nf t)=nf t:=by
 unfold nf
 congr 1
 ·rw[List.map_map];rfl
 ·exact map_comp λa ha=>cp_cp a
theorem forsF_nf(n:Nat):∀l:List Fo,forsF n (l.map nfF)=forsF n l
 |[]=>rfl
 |f::r=>by rw[List.map_cons,forsF,forsF,forsF_nf n r];rfl
theorem cheE_cp(ks:List Int)(e:Ex):cheE ks (cpX e)=cheE ks e:=by unfold cheE ckTop;rw[cp_dep,cp_chk]
theorem chesF_cp(ks:List Int):∀l:List Ex,chesF ks (l.map cpX)=chesF ks l
 |[]=>rfl
 |f::r=>by rw[List.map_cons,chesF,chesF,chesF_cp ks r,cheE_cp]
theorem tabE_nf(t:Tb):tabE (nf t)=tabE t:=by
 unfold tabE conE chesE nf
 dsimp only
 rw[List.length_map,List.length_map,forsF_nf,chesF_cp]
theorem usedL_nf(t:Tb):usedL (nf t)=usedL t:=by
 unfold usedL usedF usedX nf
 dsimp only
 rw[flat_map',flat_map',flat_same (f:=λa=>(nfF a).cs) (g:=Fo.cs) λa _=>rfl,flat_same (f:=λa=>cols (cpX a)) (g:=cols) λa _=>cp_cols a]
theorem evoE_nf(t:Tb)(c:Ch):evoE (nf t) c=evoE t c:=by
 unfold evoE
 rw[tabE_nf]
 unfold chgE
 rw[usedL_nf]
 rfl
def evoT(t:Tb)(c:Ch):Tb:=
 if c.k=1 then ⟨t.nm,t.cs++[c.co],t.ks,t.fs,t.xs.map cpX⟩
 else if c.k=2 then ⟨t.nm,t.cs.eraseIdx (findC c.nm t.cs).toNat,t.ks.map (λx=>belowI x (findC c.nm t.cs).toNat),t.fs.map (blF (findC c.nm t.cs).toNat),t.xs.map (dnX (findC c.nm t.cs).toNat)⟩
 else if c.k=3 then ⟨t.nm,t.cs.set (findC c.nm t.cs).toNat ⟨c.to,(t.cs.getD (findC c.nm t.cs).toNat ⟨[],0,false⟩).k,(t.cs.getD (findC c.nm t.cs).toNat ⟨[],0,false⟩).nl⟩,t.ks,t.fs,t.xs.map cpX⟩
 else ⟨t.nm,t.cs.set (findC c.nm t.cs).toNat ⟨(t.cs.getD (findC c.nm t.cs).toNat ⟨[],0,false⟩).nm,2,(t.cs.getD (findC c.nm t.cs).toNat ⟨[],0,false⟩).nl⟩,t.ks,t.fs,t.xs.map cpX⟩
theorem nf_evo(t:Tb)(c:Ch):nf (evoT (nf t) c)=nf (evoT t c):=by
 have e1:(t.fs.map nfF).map nfF=t.fs.map nfF:=by rw[List.map_map];rfl
 have e2:((t.xs.map cpX).map cpX).map cpX=(t.xs.map cpX).map cpX:=map_comp λa ha=>cp_cp a
 have e3 (i:Nat):((t.fs.map nfF).map (blF i)).map nfF=(t.fs.map (blF i)).map nfF:=by rw[List.map_map,List.map_map,List.map_map];rfl
 have e4 (i:Nat):((t.xs.map cpX).map (dnX i))=t.xs.map (dnX i):=map_comp λa ha=>dn_cp i a
 unfold evoT
 split
 ·unfold nf;dsimp only;rw[e1,e2]
 ·split
  ·unfold nf;dsimp only;rw[e3,e4]
  ·split
   ·unfold nf;dsimp only;rw[e1,e2]
   ·unfold nf;dsimp only;rw[e1,e2]
theorem evoT_rg{t:Tb}(h:t.Rg)(c:Ch):(evoT t c).Rg:=by
 have h1:∀e∈t.xs.map cpX,e.Rg:=λe he=>by
  obtain⟨a,ha,rfl⟩:=List.mem_map.1 he
  exact cp_rg a (h a ha)
 unfold evoT
 split
 ·exact h1
 ·split
  ·intro e he
   obtain⟨a,ha,rfl⟩:=List.mem_map.1 he
   exact dn_rg _ a (h a ha)
  ·split<;>exact h1
theorem evo_inv{t:Tb}{c:Ch}(h:evoE t c=0):tabE t=0/\(1<=c.k/\c.k<=4)/\spareB c=false/\(c.k=1->addE t c=0)/\(c.k≠1->chgE t c=0):=by
 unfold evoE at h
 by_cases h1:tabE t=0
 ·rw[if_neg (by simpa using h1)] at h
  by_cases h2:1<=c.k/\c.k<=4
  ·rw[if_neg (by simpa using h2)] at h
   cases h3:spareB c with
   |true=>rw[h3,if_pos rfl] at h;cases h
   |false=>
    rw[h3,if_neg (by decide)] at h
    exact⟨h1,h2,rfl,λhk=>by rw[if_pos hk] at h;exact h,λhk=>by rw[if_neg hk] at h;exact h⟩
  ·rw[if_pos h2] at h;cases h
 ·rw[if_pos h1] at h;exact absurd h h1
theorem add_inv{t:Tb}{c:Ch}(h:addE t c=0):t.cs.length<12/\nameB c.co.nm=true/\(1<=c.co.k/\c.co.k<=3)/\findC c.co.nm t.cs<0/\vValid c.df=true/\(c.df.k=0->c.co.nl=true)/\(c.df.k≠0->c.df.k=c.co.k):=by
 unfold addE at h
 repeat' split at h
 all_goals first|(cases h;done)|skip
 rename_i h1 h2 h3 h4 h5 h6 h7
 refine⟨by omega,by simpa using h2,by omega,by omega,by simpa using h5,λe=>?_,λe=>?_⟩
 ·cases hh:c.co.nl with
  |true=>rfl
  |false=>exact absurd ⟨e,hh⟩ h6
 ·by_cases hh:c.df.k=c.co.k
  ·exact hh
  ·exact absurd ⟨e,hh⟩ h7
theorem chg_inv{t:Tb}{c:Ch}(h:chgE t c=0):∃(i:Nat)(co:Co),findC c.nm t.cs=i/\t.cs[i]?=some co/\co.nm=c.nm/\(c.k≠3->¬(i:Int)∈usedL t)/\(c.k=4->co.k≠2)/\(c.k=3->nameB c.to=true/\findC c.to t.cs<0):=by
 unfold chgE at h
 by_cases h0:findC c.nm t.cs<0
 ·rw[if_pos h0] at h;cases h
 rw[if_neg h0] at h
 obtain⟨co,hc,hn⟩:=findC_some (nm:=c.nm) (l:=t.cs) (by omega)
 have hi:findC c.nm t.cs=((findC c.nm t.cs).toNat:Int):=by omega
 by_cases h1:c.k≠3/\0<(usedL t).count (findC c.nm t.cs)
 ·rw[if_pos h1] at h;cases h
 rw[if_neg h1] at h
 by_cases h2:c.k=4/\ckAt t (findC c.nm t.cs)=2
 ·rw[if_pos h2] at h;cases h
 rw[if_neg h2] at h
 by_cases h3:c.k=3/\nameB c.to=false
 ·rw[if_pos h3] at h;cases h
 rw[if_neg h3] at h
 by_cases h4:c.k=3/\0<=findC c.to t.cs
 ·rw[if_pos h4] at h;cases h
 refine⟨_,co,hi,hc,hn,λhk hm=>h1 ⟨hk,?_⟩,λhk hh=>h2 ⟨hk,?_⟩,λhk=>⟨?_,?_⟩⟩
 ·rw[hi];exact List.count_pos_iff.2 hm
 ·unfold ckAt;rw[hc];exact hh
 ·cases hh:nameB c.to with
  |true=>rfl
  |false=>exact absurd ⟨hk,hh⟩ h3
 ·by_cases hh:findC c.to t.cs<0
  ·exact hh
  ·exact absurd ⟨hk,by omega⟩ h4
structure Vd(t:Tb):Prop where
 nm:nameB t.nm=true
 l1:1<=t.cs.length
 l2:t.cs.length<=12
 co:∀c∈t.cs,nameB c.nm=true/\1<=c.k/\c.k<=3
 nd:(t.cs.map Co.nm).Nodup
 k0:t.ks≠[]
 ks:∀k∈t.ks,0<=k/\k<t.cs.length/\(t.cs.getD k.toNat ⟨[],0,false⟩).nl=false
 ka:t.ks.Pairwise (·<·)
 fl:t.fs.length<=4
 fs:∀f∈t.fs,nameB f.tb=true/\f.cs≠[]/\(∀c∈f.cs,0<=c/\c<t.cs.length)/\f.cs.Nodup
 xl:t.xs.length<=4
 xs:∀x∈t.xs,dep x<=24/\(chk (kd t.cs) x).2=0/\((chk (kd t.cs) x).1=3\/(chk (kd t.cs) x).1=0)
theorem colF_iff:∀{l:List Co}{seen:List (List UInt8)},colF seen l=0↔(∀c∈l,nameB c.nm=true/\1<=c.k/\c.k<=3)/\(l.map Co.nm).Nodup/\∀c∈l,¬c.nm∈seen
 |[],seen=>by simp[colF]
 |a::r,seen=>by
  unfold colF
  by_cases h1:nameB a.nm=true
  ·rw[if_pos h1]
   by_cases h2:1<=a.k/\a.k<=3
   ·rw[if_pos h2]
    by_cases h3:a.nm∈seen
    ·rw[if_pos h3]
     constructor
     ·intro h;cases h
     ·intro h;exact absurd h3 (h.2.2 a (by simp))
    ·rw[if_neg h3,colF_iff]
     simp only[List.mem_cons,List.map_cons,List.nodup_cons,List.mem_append,List.not_mem_nil,or_false,not_or]
     constructor
     ·rintro⟨g1,g2,g3⟩
      refine⟨λc hc=>?_,⟨λhm=>?_,g2⟩,λc hc=>?_⟩
      ·rcases hc with rfl|hc
       ·exact⟨h1,h2.1,h2.2⟩
       ·exact g1 c hc
      ·obtain⟨c,hc,e⟩:=List.mem_map.1 hm
       exact(g3 c hc).2 e
      ·rcases hc with rfl|hc
       ·exact h3
       ·exact(g3 c hc).1
     ·rintro⟨g1,⟨g2,g3⟩,g4⟩
      exact⟨λc hc=>g1 c (.inr hc),g3,λc hc=>⟨g4 c (.inr hc),λe=>g2 (List.mem_map.2 ⟨c,hc,e⟩)⟩⟩
   ·rw[if_neg h2]
    constructor
    ·intro h;cases h
    ·intro h;exact absurd (h.1 a (by simp)).2 h2
  ·rw[if_neg h1]
   constructor
   ·intro h;cases h
   ·intro h;exact absurd (h.1 a (by simp)).1 h1
theorem keyF_iff{l:List Co}:∀{ks:List Int}{p:Option Int},keyF l p ks=0↔(∀k∈ks,0<=k/\k<l.length/\(l.getD k.toNat ⟨[],0,false⟩).nl=false)/\ks.Pairwise (·<·)/\∀q,p=some q->∀k∈ks,q<k
 |[],p=>by simp[keyF]
 |a::r,p=>by
  have ih:=keyF_iff (l:=l) (ks:=r) (p:=some a)
  unfold keyF
  by_cases h1:0<=a/\a<l.length
  ·rw[if_pos h1]
   have key:(if (l.getD a.toNat ⟨[],0,false⟩).nl=true then 12 else keyF l (some a) r)=0↔(l.getD a.toNat ⟨[],0,false⟩).nl=false/\keyF l (some a) r=0:=by
    cases hh:(l.getD a.toNat ⟨[],0,false⟩).nl with
    |true=>simp
    |false=>simp
   cases p with
   |none=>
    dsimp only
    rw[key,ih]
    simp only[List.mem_cons,List.pairwise_cons,forall_eq_or_imp]
    constructor
    ·rintro⟨g1,g2,g3,g4⟩
     exact⟨⟨⟨h1.1,h1.2,g1⟩,g2⟩,⟨g4 a rfl,g3⟩,λq hq=>by cases hq⟩
    ·rintro⟨⟨g1,g2⟩,⟨g3,g4⟩,g5⟩
     exact⟨g1.2.2,g2,g4,λq hq k hk=>by cases hq;exact g3 k hk⟩
   |some q=>
    dsimp only
    by_cases h2:a<=q
    ·rw[if_pos h2]
     constructor
     ·intro h;cases h
     ·intro h
      have:=h.2.2 q rfl a (by simp)
      omega
    ·rw[if_neg h2,key,ih]
     simp only[List.mem_cons,List.pairwise_cons,forall_eq_or_imp]
     constructor
     ·rintro⟨g1,g2,g3,g4⟩
      refine⟨⟨⟨h1.1,h1.2,g1⟩,g2⟩,⟨g4 a rfl,g3⟩,λq' hq=>?_⟩
      cases hq
      exact⟨by omega,λk hk=>by have:=g4 a rfl k hk;omega⟩
     ·rintro⟨⟨g1,g2⟩,⟨g3,g4⟩,g5⟩
      exact⟨g1.2.2,g2,g4,λq' hq k hk=>by cases hq;exact g3 k hk⟩
  ·rw[if_neg h1]
   constructor
   ·intro h;cases h
   ·intro h;exact absurd ⟨(h.1 a (by simp)).1,(h.1 a (by simp)).2.1⟩ h1
theorem fcF_iff{n:Nat}:∀{l seen:List Int},fcF n seen l=0↔(∀c∈l,0<=c/\c<n)/\l.Nodup/\∀c∈l,¬c∈seen
 |[],seen=>by simp[fcF]
 |a::r,seen=>by
  unfold fcF
  by_cases h:(0<=a/\a<n)/\¬a∈seen
  ·rw[if_pos h,fcF_iff]
   simp only[List.mem_cons,List.nodup_cons,List.mem_append,List.not_mem_nil,or_false,not_or,forall_eq_or_imp]
   constructor
   ·rintro⟨g1,g2,g3⟩
    exact⟨⟨h.1,g1⟩,⟨λhm=>(g3 a hm).2 rfl,g2⟩,h.2,λc hc=>(g3 c hc).1⟩
   ·rintro⟨⟨g1,g2⟩,⟨g3,g4⟩,g5,g6⟩
    exact⟨g2,g4,λc hc=>⟨g6 c hc,λe=>g3 (e▸hc)⟩⟩
  ·rw[if_neg h]
   constructor
   ·intro h;cases h
   ·intro hh;exact absurd ⟨hh.1 a (by simp),hh.2.2 a (by simp)⟩ h
theorem forsF_iff{n:Nat}:∀{l:List Fo},forsF n l=0↔∀f∈l,nameB f.tb=true/\f.cs≠[]/\(∀c∈f.cs,0<=c/\c<n)/\f.cs.Nodup
 |[]=>by simp[forsF]
 |f::r=>by
  have h1:forE n f=0↔nameB f.tb=true/\f.cs≠[]/\(∀c∈f.cs,0<=c/\c<n)/\f.cs.Nodup:=by
   unfold forE
   by_cases g1:nameB f.tb=true
   ·rw[if_pos g1]
    by_cases g2:f.cs.length=0
    ·rw[if_pos g2]
     constructor
     ·intro h;cases h
     ·intro h;exact absurd (List.length_eq_zero_iff.1 g2) h.2.1
    ·rw[if_neg g2,fcF_iff]
     constructor
     ·rintro⟨a,b,_⟩;exact⟨g1,λe=>g2 (by rw[e];rfl),a,b⟩
     ·rintro⟨_,_,a,b⟩;exact⟨a,b,by simp⟩
   ·rw[if_neg g1]
    constructor
    ·intro h;cases h
    ·intro h;exact absurd h.1 g1
  unfold forsF
  simp only[List.mem_cons,forall_eq_or_imp]
  rw[<- h1,<- forsF_iff (l:=r)]
  by_cases h2:forE n f=0
  ·rw[if_pos h2];simp[h2]
  ·rw[if_neg h2];simp[h2]
theorem cheE_iff{ks:List Int}{x:Ex}:cheE ks x=0↔dep x<=24/\(chk ks x).2=0/\((chk ks x).1=3\/(chk ks x).1=0):=by
 unfold cheE ckTop
 by_cases h1:24<dep x
 ·rw[if_pos h1]
  constructor
  ·intro h;simp at h
  ·intro h;omega
 ·rw[if_neg h1]
  by_cases h2:(chk ks x).2=0
  ·rw[if_pos h2]
   by_cases h3:(chk ks x).1=3\/(chk ks x).1=0
   ·rw[if_pos h3];simp[h2,h3];omega
   ·rw[if_neg h3];simp[h3]
  ·rw[if_neg h2];simp[h2]
theorem chesF_iff{ks:List Int}:∀{l:List Ex},chesF ks l=0↔∀x∈l,dep x<=24/\(chk ks x).2=0/\((chk ks x).1=3\/(chk ks x).1=0)
 |[]=>by simp[chesF]
 |f::r=>by
  unfold chesF
  simp only[List.mem_cons,forall_eq_or_imp]
  rw[<- cheE_iff,<- chesF_iff (l:=r)]
  by_cases h2:cheE ks f=0
  ·rw[if_pos h2];simp[h2]
  ·rw[if_neg h2];simp[h2]
theorem tab_vd{t:Tb}:tabE t=0↔Vd t:=by
 constructor
 ·intro h
  obtain⟨h1,h2,h3,h4⟩:=tabE_ok h
  obtain⟨l1,l2,h5⟩:=colE_ok h2
  obtain⟨c1,c2,_⟩:=colF_iff.1 h5
  unfold keyE at h3
  have k0:t.ks.length≠0:=by intro e;rw[if_pos e] at h3;cases h3
  rw[if_neg k0] at h3
  obtain⟨k1,k2,_⟩:=keyF_iff.1 h3
  unfold conE at h4
  have f0:t.fs.length<=4:=by
   by_cases e:t.fs.length<=4
   ·exact e
   ·rw[if_neg e] at h4;cases h4
  rw[if_pos f0] at h4
  by_cases f1:forsF t.cs.length t.fs=0
  ·rw[if_pos f1] at h4
   unfold chesE at h4
   have x0:t.xs.length<=4:=by
    by_cases e:t.xs.length<=4
    ·exact e
    ·rw[if_neg e] at h4;cases h4
   rw[if_pos x0] at h4
   exact⟨h1,l1,l2,c1,c2,λe=>k0 (by rw[e];rfl),k1,k2,f0,forsF_iff.1 f1,x0,chesF_iff.1 h4⟩
  ·rw[if_neg f1] at h4;exact absurd h4 f1
 ·intro h
  have h2:colE t.cs=0:=by
   unfold colE
   rw[if_pos ⟨h.l1,h.l2⟩]
   exact colF_iff.2 ⟨h.co,h.nd,by simp⟩
  have h3:keyE t.cs t.ks=0:=by
   unfold keyE
   rw[if_neg (λe=>h.k0 (List.length_eq_zero_iff.1 e))]
   exact keyF_iff.2 ⟨h.ks,h.ka,λq hq=>by cases hq⟩
  have h4:conE t=0:=by
   unfold conE chesE
   rw[if_pos h.fl,if_pos (forsF_iff.2 h.fs),if_pos h.xl]
   exact chesF_iff.2 h.xs
  unfold tabE
  rw[if_pos h.nm,if_pos h2,if_pos h3,h4]
end Go.Proofs
end
section
set_option maxHeartbeats 8000000
namespace Go.Proofs
open Go.Bi
theorem C.app0_add(t:Tb)(dc dk df dx:D)(h:Tok t dc dk df dx)(c:Ch)(hc:Cok c)(hq:evoE t c=0)(hfs:t.fs=[])(hk:c.k=1) :
  Pure Tryz.prog N.evolve_Apply [eT t.nm dc dk df dx,c.av] (.tup [eT t.nm (.sl (eCs (t.cs++[c.co]))) (slD (isN dk) (eIs t.ks)) (dF t.fs) (slD (xL (t.xs.map (shf 0))).isEmpty (xL (t.xs.map (shf 0)))),.d (eI 0)]):=by
 have hC:=C.evolve_Check t dc dk df dx h c hc
 rw[hq] at hC
 have hF:=C.schema_Find t.nm t.cs h.hl dc dk df dx h.dc c.nm
 have hl:=h.hl
 have hdf:=h.df
 have hfc:=h.hfc
 rw[hfs] at hdf hfc
 have hK:=C.clone0 t.nm dc dk df dx (eCs t.cs) (eIs t.ks) (isN dc) (isN dk) (C.cloneC _ (by rw[eCs_len];omega) (eCs_mem _) dc h.dc) (C.cloneI _ (by rw[eIs_len];have:=h.hk;omega) (eIs_mem _) dk h.dk) hdf t.xs h.hxb h.hxs h.dx
 have hcl:=eCs_len t.cs
 have e1:eCs (t.cs++[c.co])=eCs t.cs++[c.co.ds]:=by simp[eCs]
 rw[e1]
 obtain⟨k,nm,to,⟨cn,ck,cl⟩,⟨vk,vn,vs⟩⟩:=c
 dsimp only at hk
 subst hk
 obtain⟨f,hf⟩:∃f,f=findC nm t.cs:=⟨_,rfl⟩
 have hF:Bi.Pure Tryz.prog N.schema_Find [eT t.nm dc dk df dx,.d (.str nm)] (.d (eI f)):=by rw[hf];exact hF
 rw[show dF t.fs=slD true (eFs []) by rw[hfs];rfl]
 generalize eCs t.cs=Cs at hK hcl ⊢
 generalize eIs t.ks=Ks at hK hcl ⊢
 generalize xL (t.xs.map (shf 0))=Xs at hK hcl ⊢
 generalize isN dk=b2 at hK hcl ⊢
 generalize isN dc=b1 at hK hcl ⊢
 refine CallSpec.deepP (Q:=λr os=>r=.tup [.agg [.d (.str t.nm),.arr 5 (Cs++[[.str cn,eI ck,.bool cl]]).length,.arr 6 Ks.length,.rs 8 0,.arr 9 Xs.length],.d (eI 0)]/\os[5]?=some (.arr (Cs++[[.str cn,eI ck,.bool cl]]) 3 0 false)/\os[6]?=some (.arr Ks 1 0 b2)/\os[8]?=some (.rarr [] 2 true)/\os[9]?=some (.arr Xs 7 0 Xs.isEmpty)) ?_ ?_
 ·refine F.evolve_Apply.goO2 mixed rfl ?_
  repeat' first|refine st ?_|((with_reducible first|apply k_pn|apply k_pc);(·first|exact hC|exact hF))|((with_reducible first|apply k_nc|apply k_cs);(·exact hK);(try rintro _ _ ⟨rfl,rfl⟩))|((with_reducible apply k_pr);(·exact hK))|((with_reducible apply k_cal);refine st ?_;(with_reducible apply k_chk);(·exact rfl);refine st ?_;(with_reducible apply k_cs);(·exact hK);(try rintro _ _ ⟨rfl,rfl⟩))|(with_reducible first|apply k_d|apply k_b)<;>intro _
  exact⟨rfl,rfl,rfl,rfl,rfl⟩
 ·rintro r os ⟨rfl,hx0,hx1,hx2,hx3⟩
  refine da_tabF (rows:=[]) (fs:=[]) (.inl (.inr ⟨5,_,3,0,false,rfl,hx0,rfl⟩)) hx1 hx2 hx3 rfl (λi e g he hg=>?_)
  match i,he,hg with
  |i+0,he,hg=>simp at he
theorem C.app0_ren(t:Tb)(dc dk df dx:D)(h:Tok t dc dk df dx)(c:Ch)(hc:Cok c)(hq:evoE t c=0)(hfs:t.fs=[])(hk:c.k=3)(i:Nat)(hi:findC c.nm t.cs=i)(co:Co)(hco:t.cs[i]?=some co)(hdc:dc=.sl (eCs t.cs)) :
  Pure Tryz.prog N.evolve_Apply [eT t.nm dc dk df dx,c.av] (.tup [eT t.nm (.sl (eCs (t.cs.set i ⟨c.to,co.k,co.nl⟩))) (slD (isN dk) (eIs t.ks)) (dF t.fs) (slD (xL (t.xs.map (shf 0))).isEmpty (xL (t.xs.map (shf 0)))),.d (eI 0)]):=by
 have hC:=C.evolve_Check t dc dk df dx h c hc
 rw[hq] at hC
 have hF:=C.schema_Find t.nm t.cs h.hl dc dk df dx h.dc c.nm
 have hl:=h.hl
 have hdf:=h.df
 have hfc:=h.hfc
 rw[hfs] at hdf hfc
 rw[hi] at hF
 have hK:=C.clone0 t.nm dc dk df dx (eCs t.cs) (eIs t.ks) (isN dc) (isN dk) (C.cloneC _ (by rw[eCs_len];omega) (eCs_mem _) dc h.dc) (C.cloneI _ (by rw[eIs_len];have:=h.hk;omega) (eIs_mem _) dk h.dk) hdf t.xs h.hxb h.hxs h.dx
 have hcl:=eCs_len t.cs
 rw[show isN dc=false by rw[hdc];rfl] at hK
 have hg:(eCs t.cs)[((i:Nat):Int).toNat]?=some [.str co.nm,eI co.k,.bool co.nl]:=eCs_get hco
 have hg2:(eCs t.cs)[i]?=some [.str co.nm,eI co.k,.bool co.nl]:=eCs_get hco
 have hmm:=eCs_mem t.cs
 have hilt:i<(eCs t.cs).length:=by rw[hcl];exact(List.getElem?_eq_some_iff.1 hco).1
 have e1:eCs (t.cs.set i ⟨c.to,co.k,co.nl⟩)=(eCs t.cs).set i [.str c.to,eI co.k,.bool co.nl]:=by unfold eCs;rw[List.map_set]
 rw[e1]
 obtain⟨k,nm,to,⟨cn,ck,cl⟩,⟨vk,vn,vs⟩⟩:=c
 dsimp only at hk
 subst hk
 have hF:Bi.Pure Tryz.prog N.schema_Find [eT t.nm dc dk df dx,.d (.str nm)] (.d (eI i)):=hF
 rw[show dF t.fs=slD true (eFs []) by rw[hfs];rfl]
 generalize eCs t.cs=Cs at hK hcl hg hg2 hmm hilt ⊢
 generalize eIs t.ks=Ks at hK hcl hg hg2 hmm hilt ⊢
 generalize xL (t.xs.map (shf 0))=Xs at hK hcl hg hg2 hmm hilt ⊢
 generalize isN dk=b2 at hK hcl hg hg2 hmm hilt ⊢
 refine CallSpec.deepP (Q:=λr os=>r=.tup [.agg [.d (.str t.nm),.arr 5 (Cs.set i [.str to,eI co.k,.bool co.nl]).length,.arr 6 Ks.length,.rs 8 0,.arr 9 Xs.length],.d (eI 0)]/\os[5]?=some (.arr (Cs.set i [.str to,eI co.k,.bool co.nl]) 3 0 false)/\os[6]?=some (.arr Ks 1 0 b2)/\os[8]?=some (.rarr [] 2 true)/\os[9]?=some (.arr Xs 7 0 Xs.isEmpty)) ?_ ?_
 ·refine F.evolve_Apply.goO2 mixed rfl ?_
  rw[List.length_set]
  repeat' first|refine st ?_|((with_reducible first|apply k_pn|apply k_pc);(·first|exact hC|exact hF))|((with_reducible first|apply k_nc|apply k_cs);(·exact hK);(try rintro _ _ ⟨rfl,rfl⟩))|((with_reducible apply k_pr);(·exact hK))|((with_reducible apply k_cal);refine st ?_;(with_reducible apply k_chk);(·exact rfl);refine st ?_;(with_reducible apply k_cs);(·exact hK);(try rintro _ _ ⟨rfl,rfl⟩))|(with_reducible first|apply k_d|apply k_b)<;>intro _
  exact⟨rfl,rfl,rfl,rfl,rfl⟩
 ·rintro r os ⟨rfl,hx0,hx1,hx2,hx3⟩
  refine da_tabF (rows:=[]) (fs:=[]) (.inl (.inr ⟨5,_,3,0,false,rfl,hx0,rfl⟩)) hx1 hx2 hx3 rfl (λi e g he hg=>?_)
  match i,he,hg with
  |i+0,he,hg=>simp at he
theorem C.app0_txt(t:Tb)(dc dk df dx:D)(h:Tok t dc dk df dx)(c:Ch)(hc:Cok c)(hq:evoE t c=0)(hfs:t.fs=[])(hk:c.k=4)(i:Nat)(hi:findC c.nm t.cs=i)(co:Co)(hco:t.cs[i]?=some co)(hdc:dc=.sl (eCs t.cs)) :
  Pure Tryz.prog N.evolve_Apply [eT t.nm dc dk df dx,c.av] (.tup [eT t.nm (.sl (eCs (t.cs.set i ⟨co.nm,2,co.nl⟩))) (slD (isN dk) (eIs t.ks)) (dF t.fs) (slD (xL (t.xs.map (shf 0))).isEmpty (xL (t.xs.map (shf 0)))),.d (eI 0)]):=by
 have hC:=C.evolve_Check t dc dk df dx h c hc
 rw[hq] at hC
 have hF:=C.schema_Find t.nm t.cs h.hl dc dk df dx h.dc c.nm
 have hl:=h.hl
 have hdf:=h.df
 have hfc:=h.hfc
 rw[hfs] at hdf hfc
 rw[hi] at hF
 have hK:=C.clone0 t.nm dc dk df dx (eCs t.cs) (eIs t.ks) (isN dc) (isN dk) (C.cloneC _ (by rw[eCs_len];omega) (eCs_mem _) dc h.dc) (C.cloneI _ (by rw[eIs_len];have:=h.hk;omega) (eIs_mem _) dk h.dk) hdf t.xs h.hxb h.hxs h.dx
 have hcl:=eCs_len t.cs
 rw[show isN dc=false by rw[hdc];rfl] at hK
 have hg:(eCs t.cs)[((i:Nat):Int).toNat]?=some [.str co.nm,eI co.k,.bool co.nl]:=eCs_get hco
 have hg2:(eCs t.cs)[i]?=some [.str co.nm,eI co.k,.bool co.nl]:=eCs_get hco
 have hmm:=eCs_mem t.cs
 have hilt:i<(eCs t.cs).length:=by rw[hcl];exact(List.getElem?_eq_some_iff.1 hco).1
 have e1:eCs (t.cs.set i ⟨co.nm,2,co.nl⟩)=(eCs t.cs).set i [.str co.nm,eI 2,.bool co.nl]:=by unfold eCs;rw[List.map_set]
 rw[e1]
 obtain⟨k,nm,to,⟨cn,ck,cl⟩,⟨vk,vn,vs⟩⟩:=c
 dsimp only at hk
 subst hk
 have hF:Bi.Pure Tryz.prog N.schema_Find [eT t.nm dc dk df dx,.d (.str nm)] (.d (eI i)):=hF
 rw[show dF t.fs=slD true (eFs []) by rw[hfs];rfl]
 generalize eCs t.cs=Cs at hK hcl hg hg2 hmm hilt ⊢
 generalize eIs t.ks=Ks at hK hcl hg hg2 hmm hilt ⊢
 generalize xL (t.xs.map (shf 0))=Xs at hK hcl hg hg2 hmm hilt ⊢
 generalize isN dk=b2 at hK hcl hg hg2 hmm hilt ⊢
 refine CallSpec.deepP (Q:=λr os=>r=.tup [.agg [.d (.str t.nm),.arr 5 (Cs.set i [.str co.nm,eI 2,.bool co.nl]).length,.arr 6 Ks.length,.rs 8 0,.arr 9 Xs.length],.d (eI 0)]/\os[5]?=some (.arr (Cs.set i [.str co.nm,eI 2,.bool co.nl]) 3 0 false)/\os[6]?=some (.arr Ks 1 0 b2)/\os[8]?=some (.rarr [] 2 true)/\os[9]?=some (.arr Xs 7 0 Xs.isEmpty)) ?_ ?_
 ·refine F.evolve_Apply.goO2 mixed rfl ?_
  rw[List.length_set]
  repeat' first|refine st ?_|((with_reducible first|apply k_pn|apply k_pc);(·first|exact hC|exact hF))|((with_reducible first|apply k_nc|apply k_cs);(·exact hK);(try rintro _ _ ⟨rfl,rfl⟩))|((with_reducible apply k_pr);(·exact hK))|((with_reducible apply k_cal);refine st ?_;(with_reducible apply k_chk);(·exact rfl);refine st ?_;(with_reducible apply k_cs);(·exact hK);(try rintro _ _ ⟨rfl,rfl⟩))|(with_reducible first|apply k_d|apply k_b)<;>intro _
  exact⟨rfl,rfl,rfl,rfl,rfl⟩
 ·rintro r os ⟨rfl,hx0,hx1,hx2,hx3⟩
  refine da_tabF (rows:=[]) (fs:=[]) (.inl (.inr ⟨5,_,3,0,false,rfl,hx0,rfl⟩)) hx1 hx2 hx3 rfl (λi e g he hg=>?_)
  match i,he,hg with
  |i+0,he,hg=>simp at he
theorem C.app0_drp(t:Tb)(dc dk df dx:D)(h:Tok t dc dk df dx)(c:Ch)(hc:Cok c)(hq:evoE t c=0)(hfs:t.fs=[])(hk:c.k=2)(i:Nat)(hi:findC c.nm t.cs=i)(hil:i<t.cs.length)(hdc:dc=.sl (eCs t.cs))(hkb:∀k∈t.ks,0<=k/\k<=1048576)(hfb:∀g∈t.fs,∀k∈g.cs,0<=k/\k<=1048576)(hxb:∀e∈t.xs.map (shf 0),e.bk<=1048576) :
  Pure Tryz.prog N.evolve_Apply [eT t.nm dc dk df dx,c.av] (.tup [eT t.nm (.sl (eCs (t.cs.eraseIdx i))) (slD (isN dk) (eIs (t.ks.map λc=>belowI c i))) (dF (t.fs.map (blF i))) (slD (xL (t.xs.map (shf 0))).isEmpty (xL ((t.xs.map (shf 0)).map (subX (mvL t.cs.length i))))),.d (eI 0)]):=by
 have hC:=C.evolve_Check t dc dk df dx h c hc
 rw[hq] at hC
 have hF:=C.schema_Find t.nm t.cs h.hl dc dk df dx h.dc c.nm
 have hl:=h.hl
 have hdf:=h.df
 have hfc:=h.hfc
 rw[hfs] at hdf hfc
 rw[hi] at hF
 have hK:=C.clone0 t.nm dc dk df dx (eCs t.cs) (eIs t.ks) (isN dc) (isN dk) (C.cloneC _ (by rw[eCs_len];omega) (eCs_mem _) dc h.dc) (C.cloneI _ (by rw[eIs_len];have:=h.hk;omega) (eIs_mem _) dk h.dk) hdf t.xs h.hxb h.hxs h.dx
 have hcl:=eCs_len t.cs
 rw[show isN dc=false by rw[hdc];rfl] at hK
 have hkN:isN dk=true->t.ks=[]:=λhh=>by
  have:=isN_nil h.dk hh
  cases hks:t.ks with
  |nil=>rfl
  |cons a l=>rw[hks] at this;cases this
 have hxN:(xL (t.xs.map (shf 0))).isEmpty=true->t.xs.map (shf 0)=[]:=by
  intro hh
  cases hx:t.xs.map (shf 0) with
  |nil=>rfl
  |cons a l=>rw[hx] at hh;cases hh
 have hD:=λT0 T1 T2 T3 T4 T7=>C.drop0_lift T0 T1 T2 T3 T4 T7 t.nm (eCs t.cs) (eCs_mem _) i (by rw[hcl];exact hil) (by rw[hcl];exact hl) t.ks hkb h.hk (isN dk) hkN (t.xs.map (shf 0)) (by rw[List.length_map];exact h.hxs) hxb _ hxN 
 rw[hcl] at hD
 have hkl2:(eIs (t.ks.map λc=>belowI c i)).length=(eIs t.ks).length:=by rw[eIs_len,eIs_len,List.length_map]
 have hxl2:(xL ((t.xs.map (shf 0)).map (subX (mvL t.cs.length i)))).length=(xL (t.xs.map (shf 0))).length:=by rw[xL_len,xL_len,List.length_map]
 have e1:eCs (t.cs.eraseIdx i)=(eCs t.cs).eraseIdx i:=eCs_erase _ _
 rw[e1]
 obtain⟨k,nm,to,⟨cn,ck,cl⟩,⟨vk,vn,vs⟩⟩:=c
 dsimp only at hk
 subst hk
 have hF:Bi.Pure Tryz.prog N.schema_Find [eT t.nm dc dk df dx,.d (.str nm)] (.d (eI i)):=hF
 rw[show dF (t.fs.map (blF i))=slD true (eFs []) by rw[hfs];rfl]
 rw[hcl] at hK
 generalize eIs (t.ks.map λc=>belowI c i)=K2 at hK hcl hkl2 hxl2 hD ⊢
 generalize xL ((t.xs.map (shf 0)).map (subX (mvL t.cs.length i)))=X2 at hK hcl hkl2 hxl2 hD ⊢
 generalize (eCs t.cs).eraseIdx i=E2 at hK hcl hkl2 hxl2 hD ⊢
 generalize eCs t.cs=Cs at hK hcl hkl2 hxl2 hD ⊢
 generalize eIs t.ks=Ks at hK hcl hkl2 hxl2 hD ⊢
 generalize xL (t.xs.map (shf 0))=Xs at hK hcl hkl2 hxl2 hD ⊢
 generalize isN dk=b2 at hK hcl hkl2 hxl2 hD ⊢
 refine CallSpec.deepP (Q:=λr os=>r=.tup [.agg [.d (.str t.nm),.d (.sl E2),.arr 6 K2.length,.rs 8 0,.arr 9 X2.length],.d (eI 0)]/\os[6]?=some (.arr K2 1 0 b2)/\os[8]?=some (.rarr [] 2 true)/\os[9]?=some (.arr X2 7 0 Xs.isEmpty)) ?_ ?_
 ·rw[hkl2,hxl2]
  refine F.evolve_Apply.goO2 mixed rfl ?_
  repeat' first|refine st ?_|((with_reducible first|apply k_pn|apply k_pc);(·first|exact hC|exact hF))|((with_reducible first|apply k_nc|apply k_cs);(·first|exact hK|exact hD _ _ _ _ _ _);(try rintro _ _ ⟨rfl,rfl⟩))|((with_reducible apply k_pr);(·first|exact hK|exact hD _ _ _ _ _ _))|((with_reducible apply k_cal);refine st ?_;(with_reducible apply k_chk);(·exact rfl);refine st ?_;(with_reducible apply k_cs);(·first|exact hK|exact hD _ _ _ _ _ _);(try rintro _ _ ⟨rfl,rfl⟩))|(with_reducible first|apply k_d|apply k_b)<;>intro _
  exact⟨rfl,rfl,rfl,rfl⟩
 ·rintro r os ⟨rfl,hx0,hx1,hx2⟩
  refine da_tabF (rows:=[]) (fs:=[]) (.inl (.inl rfl)) hx0 hx1 hx2 rfl (λi e g he hg=>?_)
  match i,he,hg with
  |i+0,he,hg=>simp at he
end Go.Proofs
end
section
set_option maxHeartbeats 8000000
namespace Go.Proofs
open Go.Bi
theorem C.drop1(nm:List UInt8)(es:List (List D))(hm:∀e∈es,e.length=3)(i:Nat)(hi:i<es.length)(hel:es.length<=1048576)(ks:List Int)(hkb:∀k∈ks,0<=k/\k<=1048576)(hkl:ks.length<=1048576)(kn:Bool)(hkn:kn=true->ks=[])(xs:List Ex)(hxl:xs.length<=1048576)(hxb:∀e∈xs,e.bk<=1048576)(xn:Bool)(hxn:xn=true->xs=[])(c0:List Int)(b0:Bool)(t0:List UInt8)(hc0:c0.length<=1048576)(hcb0:∀k∈c0,0<=k/\k<=1048576)(hn0:b0=true->c0=[]) :
  CallSpec Tryz.prog N.evolve_drop [.ptr 0 0,.d (eI i)] [.cells [.d (.str nm),.arr 1 es.length,.arr 2 (eIs ks).length,.rs 3 1,.arr 4 (xL xs).length],.arr es 3 0 false,.arr (eIs ks) 1 0 kn,.rarr [[.arr 5 (eIs c0).length,.d (.str t0)]] 2 false,.arr (xL xs) 7 0 xn,.arr (eIs c0) 1 0 b0]
   (λr os=>r=.tup []/\os=[.cells [.d (.str nm),.d (.sl (es.eraseIdx i)),.arr 2 (eIs ks).length,.rs 3 1,.arr 4 (xL xs).length],.arr (es.eraseIdx i++[zRow]) 3 (es.length-1) false,.arr (eIs (ks.map λc=>belowI c i)) 1 0 kn,.rarr [[.arr 5 (eIs c0).length,.d (.str t0)]] 2 false,.arr (xL (xs.map (subX (mvL es.length i)))) 7 0 xn,.arr (eIs (c0.map λc=>belowI c i)) 1 0 b0]):=by
 have hD:=fun {os:List AO} (ho:os[1]?=some (.arr es 3 0 false))=>C.slices_Delete es hm i hi ho
 refine F.evolve_drop.goX mixed rfl ?_
 repeat' first|refine st ?_|(with_reducible first|apply k_d|apply k_b)<;>intro _
 refine x_nil 4 7 rfl rfl ?_
 repeat' first|refine st ?_|(with_reducible first|apply k_d|apply k_b)<;>intro _
 refine x_loop2 mixed Lt.evolve_drop_l0 Lk.evolve_drop_l0 (λ(k:Nat) (A:List (List D))=>[.arr 6 A.length,.d (eI k)]) (λk A=>[.cells [.d (.str nm),.arr 1 es.length,.arr 2 (eIs ks).length,.rs 3 1,.arr 4 (xL xs).length],.arr es 3 0 false,.arr (eIs ks) 1 0 kn,.rarr [[.arr 5 (eIs c0).length,.d (.str t0)]] 2 false,.arr (xL xs) 7 0 xn,.arr (eIs c0) 1 0 b0,.arr A 7 0 A.isEmpty]) (λk A=>k<=es.length/\A=xL (mvL k i)) (λk A=>es.length-k) 0 [] rfl rfl rfl rfl (λ_ _ _=>⟨rfl,rfl⟩) rfl ⟨by omega,by simp[mvL,xL]⟩ ?_
 repeat' first|refine st ?_|(with_reducible first|apply k_d|apply k_b)<;>intro _
 intro k A ⟨h4,h5⟩
 have hAl:A.length=k:=by rw[h5,xL_len,mvL_len]
 have hAm:∀e∈A,e.length=7:=by rw[h5];exact xL_mem _
 by_cases hlt:k<es.length
 ·have hB:=C.evolve_below k i (by omega) (by omega)
  have hs:=mvL_succ k i
  rw[<- h5] at hs
  obtain⟨b,hb⟩:∃b,b=belowI k i:=⟨_,rfl⟩
  rw[<- hb] at hB hs
  clear h5
  repeat' first|refine st ?_|((with_reducible first|apply k_pn|apply k_pc);(·exact hB))|(with_reducible first|apply k_d|apply k_b)<;>intro _
  refine⟨k+1,A++[[.int .i64 2,eI b,.int .i64 0,.int .i64 0,.str [],.str [],.nil]],?_,rfl,?_,by omega,by omega,hs⟩
  ·rfl
  ·rw[show(A++[[.int .i64 2,eI b,.int .i64 0,.int .i64 0,.str [],.str [],.nil]]).isEmpty=false by simp]
   first|rfl|skip
 ·have hke:k=es.length:=by omega
  rw[hke] at h5
  have hDc:=hD (os:=[.cells [.d (.str nm),.arr 1 es.length,.arr 2 (eIs ks).length,.rs 3 1,.arr 4 (xL xs).length],.arr es 3 0 false,.arr (eIs ks) 1 0 kn,.rarr [[.arr 5 (eIs c0).length,.d (.str t0)]] 2 false,.arr (xL xs) 7 0 xn,.arr (eIs c0) 1 0 b0,.arr A 7 0 A.isEmpty]) rfl
  obtain⟨es',hes'⟩:∃e,e=es.eraseIdx i:=⟨_,rfl⟩
  rw[<- hes'] at hDc ⊢
  obtain⟨M0,hM0⟩:∃L,L=mvL es.length i:=⟨_,rfl⟩
  have hMl:M0.length<=1048576:=by rw[hM0,mvL_len];exact hel
  rw[<- hM0] at h5 ⊢
  obtain⟨N0,hN0⟩:∃K,K=eIs (c0.map λc=>belowI c i):=⟨_,rfl⟩
  rw[<- hN0]
  repeat' first|(with_reducible apply k_cal)|refine st ?_|((with_reducible first|apply k_nc|apply k_cs);(·exact hDc);(try rintro _ _ ⟨rfl,rfl⟩))|((with_reducible apply k_pr);(·exact hDc))|((with_reducible apply k_cal);refine st ?_;(with_reducible apply k_chk);(·exact rfl);refine st ?_;(with_reducible apply k_cs);(·exact hDc);(try rintro _ _ ⟨rfl,rfl⟩))|(with_reducible first|apply k_d|apply k_b)<;>intro _
  refine x_loop1 mixed Lt.evolve_drop_l1 Lk.evolve_drop_l1 (λ(j:Nat)=>[.d (eI j)]) (λj=>[.cells [.d (.str nm),.d (.sl es'),.arr 2 (eIs ks).length,.rs 3 1,.arr 4 (xL xs).length],.arr (es'++[zRow]) 3 (es.length-1) false,.arr (eIs (mixI ks (λc=>belowI c i) j)) 1 0 kn,.rarr [[.arr 5 (eIs c0).length,.d (.str t0)]] 2 false,.arr (xL xs) 7 0 xn,.arr (eIs c0) 1 0 b0,.arr A 7 0 A.isEmpty]) (λj=>j<=ks.length) (λj=>ks.length-j) 0 rfl rfl rfl (by rw[mixI_zero];rfl) (λ_ _=>⟨rfl,rfl⟩) rfl (by omega) ?_
  repeat' first|refine st ?_|(with_reducible first|apply k_d|apply k_b)<;>intro _
  intro j h6
  have hKl:=mixI_len ks (λc=>belowI c i) j h6
  cases hy:ks[j]? with
  |some c=>
   obtain⟨hlt2,he2⟩:=List.getElem?_eq_some_iff.1 hy
   have hkf:kn=false:=by
    cases kn with
    |false=>rfl
    |true=>rw[hkn rfl] at hlt2;simp at hlt2
   subst hkf
   have hg:=eIs_get (mixI_get (λc=>belowI c i) hy)
   have hset:=mixI_set (λc=>belowI c i) hy
   obtain⟨cb1,cb2⟩:=hkb c (List.mem_of_getElem? hy)
   have hB:=C.evolve_below c i (by omega) (by omega)
   have hks:=eIs_len ks
   obtain⟨y,hyy⟩:∃y,y=belowI c i:=⟨_,rfl⟩
   rw[<- hyy] at hB hset
   have hset2:(eIs (mixI ks (λc=>belowI c i) j)).set j [eI y]=eIs (mixI ks (λc=>belowI c i) (j+1)):=by rw[eIs_set,hset]
   have hml:=eIs_len (mixI ks (λc=>belowI c i) j)
   have hmm2:=eIs_mem (mixI ks (λc=>belowI c i) j)
   obtain⟨X,hX⟩:∃X,X=eIs (mixI ks (λc=>belowI c i) j):=⟨_,rfl⟩
   rw[<- hX] at hg hset2 hml hmm2 ⊢
   repeat' first|refine st ?_|((with_reducible first|apply k_pn|apply k_pc);(·exact hB))|(with_reducible first|apply k_d|apply k_b)<;>intro _
   refine⟨j+1,rfl,rfl,?_,by omega,by omega⟩
   rw[show((j:Int)).toNat=j from Int.toNat_natCast j,hset2]
  |none=>
   have hge:=List.getElem?_eq_none_iff.1 hy
   have hjk:j=ks.length:=by omega
   subst hjk
   rw[mixI_end]
   have hks:=eIs_len ks
   obtain⟨K',hK'⟩:∃K,K=eIs (ks.map λc=>belowI c i):=⟨_,rfl⟩
   rw[<- hK']
   repeat' first|refine st ?_|(with_reducible first|apply k_d|apply k_b)<;>intro _
   refine x_rounds 2 ?_
   refine x_round mixed ?_
   repeat' first|refine st ?_|(with_reducible first|apply k_d|apply k_b)<;>intro _
   refine x_loop1 mixed Lt.evolve_drop_l2 Lk.evolve_drop_l2 (λ(j:Nat)=>[.d (eI j)]) (λj=>[.cells [.d (.str nm),.d (.sl es'),.arr 2 (eIs ks).length,.rs 3 1,.arr 4 (xL xs).length],.arr (es'++[zRow]) 3 (es.length-1) false,.arr K' 1 0 kn,.rarr [[.arr 5 (eIs c0).length,.d (.str t0)]] 2 false,.arr (xL xs) 7 0 xn,.arr (eIs (mixI c0 (λc=>belowI c i) j)) 1 0 b0,.arr A 7 0 A.isEmpty,.cells [.arr 5 (eIs c0).length,.d (.str t0)]]) (λj=>j<=c0.length) (λj=>c0.length-j) 0 rfl rfl rfl (by rw[mixI_zero];rfl) (λ_ _=>⟨rfl,rfl⟩) rfl (by omega) ?_
   repeat' first|refine st ?_|(with_reducible first|apply k_d|apply k_b)<;>intro _
   intro j h6
   have hKl:=mixI_len c0 (λc=>belowI c i) j h6
   cases hy:c0[j]? with
   |some c=>
    obtain⟨hlt2,he2⟩:=List.getElem?_eq_some_iff.1 hy
    have hkf:b0=false:=by
     cases b0 with
     |false=>rfl
     |true=>rw[hn0 rfl] at hlt2;simp at hlt2
    subst hkf
    have hg:=eIs_get (mixI_get (λc=>belowI c i) hy)
    have hset:=mixI_set (λc=>belowI c i) hy
    obtain⟨cb1,cb2⟩:=hcb0 c (List.mem_of_getElem? hy)
    have hB:=C.evolve_below c i (by omega) (by omega)
    have hks:=eIs_len c0
    obtain⟨y,hyy⟩:∃y,y=belowI c i:=⟨_,rfl⟩
    rw[<- hyy] at hB hset
    have hset2:(eIs (mixI c0 (λc=>belowI c i) j)).set j [eI y]=eIs (mixI c0 (λc=>belowI c i) (j+1)):=by rw[eIs_set,hset]
    have hml:=eIs_len (mixI c0 (λc=>belowI c i) j)
    have hmm2:=eIs_mem (mixI c0 (λc=>belowI c i) j)
    obtain⟨X,hX⟩:∃X,X=eIs (mixI c0 (λc=>belowI c i) j):=⟨_,rfl⟩
    rw[<- hX] at hg hset2 hml hmm2 ⊢
    repeat' first|refine st ?_|((with_reducible first|apply k_pn|apply k_pc);(·exact hB))|(with_reducible first|apply k_d|apply k_b)<;>intro _
    refine⟨j+1,rfl,rfl,?_,by omega,by omega⟩
    rw[show((j:Int)).toNat=j from Int.toNat_natCast j,hset2]
   |none=>
    have hge:=List.getElem?_eq_none_iff.1 hy
    have hjk:j=c0.length:=by omega
    subst hjk
    rw[mixI_end]
    have hks:=eIs_len c0
    rw[<- hN0]
    repeat' first|refine st ?_|(with_reducible first|apply k_d|apply k_b)<;>intro _
    refine x_round mixed ?_
    repeat' first|refine st ?_|(with_reducible first|apply k_d|apply k_b)<;>intro _
    have hAe:A.isEmpty=false:=by cases A with
     |nil=>simp at hAl;omega
     |cons a l=>rfl
    rw[hAe]
    have hXl:=xL_len xs
    refine x_frz 4 (id:=6) (len:=A.length) (sz:=7) (frz:=0) (nl:=false) (es:=A) rfl rfl rfl ?_
    rw[if_neg (by decide:¬(false=true))]
    repeat' first|refine st ?_|(with_reducible first|apply k_d|apply k_b)<;>intro _
    refine x_loop1 mixed Lt.evolve_drop_l4 Lk.evolve_drop_l4 (λ(q:Nat)=>[.d (eI q)]) (λq=>[.cells [.d (.str nm),.d (.sl es'),.arr 2 (eIs ks).length,.rs 3 1,.arr 4 (xL xs).length],.arr (es'++[zRow]) 3 (es.length-1) false,.arr K' 1 0 kn,.rarr [[.arr 5 (eIs c0).length,.d (.str t0)]] 2 false,.arr (xL (mixX xs (subX M0) q)) 7 0 xn,.arr N0 1 0 b0,.arr A 7 A.length false,.cells [.arr 5 (eIs c0).length,.d (.str t0)]]) (λq=>q<=xs.length) (λq=>xs.length-q) 0 rfl rfl rfl (by rw[mixX_zero];rfl) (λ_ _=>⟨rfl,rfl⟩) rfl (by omega) ?_
    repeat' first|refine st ?_|(with_reducible first|apply k_d|apply k_b)<;>intro _
    intro q h7
    have hMb:∀a∈M0,a.bk<=1048576:=by
     intro a ha
     rw[hM0] at ha
     obtain⟨b,_,rfl⟩:=List.mem_map.1 ha
     unfold mvE Ex.bk
     rw[Ex.ds_mk]
     exact Nat.le_of_ble_eq_true rfl
    have hXql:=mixX_len xs (subX M0) q h7
    cases hx:xs[q]? with
    |some x=>
     obtain⟨hlt3,he3⟩:=List.getElem?_eq_some_iff.1 hx
     have hxf:xn=false:=by
      cases xn with
      |false=>rfl
      |true=>rw[hxn rfl] at hlt3;simp at hlt3
     subst hxf
     have hg:=mixX_get (subX M0) hx
     have hset:=mixX_set (subX M0) hx
     have hS:=C.expr_Substitute M0 hMl hMb (.sl A) (by rw[h5];exact sld_sl) x (hxb x (List.mem_of_getElem? hx))
     have hq1:=xL_len (mixX xs (subX M0) q)
     have hq2:=xL_mem (mixX xs (subX M0) q)
     obtain⟨z,hz⟩:∃z,z=subX M0 x:=⟨_,rfl⟩
     rw[<- hz] at hS hset
     have hset2:(xL (mixX xs (subX M0) q)).set q z.ds=xL (mixX xs (subX M0) (q+1)):=by rw[<- hset];unfold xL;rw[List.map_set]
     obtain⟨o1,n1,v1,m1,l1,a1⟩:=x
     obtain⟨o2,n2,v2,m2,l2,a2⟩:=z
     have hg:=xL_get'' _ _ _ _ _ _ _ hg
     rw[Ex.av_mk,Ex.av_mk] at hS
     rw[Ex.ds_mk] at hset2
     obtain⟨X,hX⟩:∃X,X=xL (mixX xs (subX M0) q):=⟨_,rfl⟩
     rw[<- hX] at hg hset2 hq1 hq2 ⊢
     repeat' first|refine st ?_|((with_reducible first|apply k_pn|apply k_pc);(·exact hS))|(with_reducible first|apply k_d|apply k_b)<;>intro _
     refine⟨q+1,rfl,rfl,?_,by omega,by omega⟩
     rw[show((q:Int)).toNat=q from Int.toNat_natCast q,hset2]
    |none=>
     have hge:=List.getElem?_eq_none_iff.1 hx
     have hqk:q=xs.length:=by omega
     subst hqk
     rw[mixX_end]
     repeat' first|refine st ?_|(with_reducible first|apply k_d|apply k_b)<;>intro _
     exact⟨rfl,rfl⟩
theorem C.drop1_lift(T0 T1 T2 T3 T4 T7:AO)(nm:List UInt8)(es:List (List D))(hm:∀e∈es,e.length=3)(i:Nat)(hi:i<es.length)(hel:es.length<=1048576)(ks:List Int)(hkb:∀k∈ks,0<=k/\k<=1048576)(hkl:ks.length<=1048576)(kn:Bool)(hkn:kn=true->ks=[])(xs:List Ex)(hxl:xs.length<=1048576)(hxb:∀e∈xs,e.bk<=1048576)(xn:Bool)(hxn:xn=true->xs=[])(c0:List Int)(b0:Bool)(t0:List UInt8)(hc0:c0.length<=1048576)(hcb0:∀k∈c0,0<=k/\k<=1048576)(hn0:b0=true->c0=[]) :
  CallSpec Tryz.prog N.evolve_drop [.ptr 11 0,.d (eI i)] [T0,T1,T2,T3,T4,.arr es 3 0 false,.arr (eIs ks) 1 0 kn,T7,.rarr [[.arr 10 (eIs c0).length,.d (.str t0)]] 2 false,.arr (xL xs) 7 0 xn,.arr (eIs c0) 1 0 b0,.cells [.d (.str nm),.arr 5 es.length,.arr 6 (eIs ks).length,.rs 8 1,.arr 9 (xL xs).length]]
   (λr os=>r=.tup []/\os=[T0,T1,T2,T3,T4,.arr (es.eraseIdx i++[zRow]) 3 (es.length-1) false,.arr (eIs (ks.map λc=>belowI c i)) 1 0 kn,T7,.rarr [[.arr 10 (eIs c0).length,.d (.str t0)]] 2 false,.arr (xL (xs.map (subX (mvL es.length i)))) 7 0 xn,.arr (eIs (c0.map λc=>belowI c i)) 1 0 b0,.cells [.d (.str nm),.d (.sl (es.eraseIdx i)),.arr 6 (eIs ks).length,.rs 8 1,.arr 9 (xL xs).length]]):=by
 have:=CallSpec.frame (K:=λr os=>r=.tup []/\os=[T0,T1,T2,T3,T4,.arr (es.eraseIdx i++[zRow]) 3 (es.length-1) false,.arr (eIs (ks.map λc=>belowI c i)) 1 0 kn,T7,.rarr [[.arr 10 (eIs c0).length,.d (.str t0)]] 2 false,.arr (xL (xs.map (subX (mvL es.length i)))) 7 0 xn,.arr (eIs (c0.map λc=>belowI c i)) 1 0 b0,.cells [.d (.str nm),.d (.sl (es.eraseIdx i)),.arr 6 (eIs ks).length,.rs 8 1,.arr 9 (xL xs).length]]) (C.drop1 nm es hm i hi hel ks hkb hkl kn hkn xs hxl hxb xn hxn c0 b0 t0 hc0 hcb0 hn0) [11,5,6,8,9,10]
  [T0,T1,T2,T3,T4,.arr es 3 0 false,.arr (eIs ks) 1 0 kn,T7,.rarr [[.arr 10 (eIs c0).length,.d (.str t0)]] 2 false,.arr (xL xs) 7 0 xn,.arr (eIs c0) 1 0 b0,.cells [.d (.str nm),.arr 5 es.length,.arr 6 (eIs ks).length,.rs 8 1,.arr 9 (xL xs).length]] rfl (by decide) (λi o h=>by
   match i,h with
   |0,h=>cases h;rfl
   |1,h=>cases h;rfl
   |2,h=>cases h;rfl
   |3,h=>cases h;rfl
   |4,h=>cases h;rfl
   |5,h=>cases h;rfl
   |i+6,h=>simp at h) (λa ha=>by
    simp only[List.mem_cons,List.not_mem_nil,or_false] at ha
    rcases ha with rfl|rfl<;>simp[AV.bnd2,AV.bnd1]) (λo ho=>by
    simp only[List.mem_cons,List.not_mem_nil,or_false] at ho
    rcases ho with rfl|rfl|rfl|rfl|rfl|rfl
    ·exact bndo_of rfl
    ·exact bndo_of rfl
    ·exact bndo_of rfl
    ·exact bndo_of rfl
    ·exact bndo_of rfl
    ·exact bndo_of rfl
    ) (by
   rintro r bs' ⟨rfl,rfl⟩
   exact⟨rfl,rfl⟩)
 exact this
end Go.Proofs
end
