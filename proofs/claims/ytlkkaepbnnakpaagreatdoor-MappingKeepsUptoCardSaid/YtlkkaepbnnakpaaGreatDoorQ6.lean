/- Texts of this claim, joined. No condition. -/
import Derived.Test.YtlkkaepbnnakpaaGreatDoorQ5
set_option linter.unusedSimpArgs false
set_option linter.unusedVariables false
set_option maxRecDepth 10000
set_option maxHeartbeats 4000000
section
namespace Go.Bi
open Go
section
variable {P:Program}{n nb:Nat}{M:C5}{G:Gh}{os:List AO}{w:World}{ρ:C9}{a:Act}
def A6a(Q:AV->List AO->Prop)(rs:List RV)(ρ:C9)(os:List AO):Prop:=e9 ρ os rs λl=>match l with
 |[x,y]=>x.one=true/\y.one=true/\Q (.tup [x,y]) os
 |_=>False
def A68(Q:AV->List AO->Prop)(rs:List RV)(L:Sl)(os:List AO):Prop:=A3r L os rs λl=>match l with
 |[x,y]=>E9 (x.one=true) (E9 (y.one=true) (Q (.tup [x,y]) os))
 |_=>False
theorem B10{ρ:C9}{os:List AO}{K K':List AV->Prop}(hk:∀l,K l->K' l):∀{rs:List RV},e9 ρ os rs K->e9 ρ os rs K'
 |[],h=>hk _ h
 |.t s::rs,h=>B10 (rs:=rs) (λl hl=>hk _ hl) h
 |.cell s m g::rs,h=>by
  simp only[e9] at h ⊢
  obtain⟨r,h1,h2⟩:=A7N h
  exact h2 _ (B10 (rs:=rs) (λl hl=>hk _ hl) h1)
theorem B9r{Q:AV->List AO->Prop}{rs:List RV}{L:Sl}{os:List AO}(h:A68 Q rs L os):A6a Q rs (D1 L) os:=by
 have h1:=A4y h
 refine B10 (λl hl=>?_) h1
 match l,hl with
 |[x,y],hl=>exact⟨hl.1,hl.2.1,hl.2.2⟩
theorem D2u{c:s4}(hR:W5 n nb c M G os w ρ a){fn:Func}{rs:List RV}(hrs:fn.results.toList.mapM (cRV P)=some rs){Q:AV->List AO->Prop}(h:A6a Q rs ρ os) :
  ∃v,(results fn a.tmps).run P w=.ok v w/\∃M' G' r os',C3 M' G' os' w/\E1 c.M c.G c.os c.w M' G' os' w/\VA M' G' os' r v/\Q r os':=by
 obtain⟨l,vs,h1,h2,h3,h4⟩:=A85 hR.env hR.tmps _ rs hrs _ h
 match l,h1,h3,h4 with
 |[x,y],h1,h3,h4=>
  simp only[I7,P9] at h3
  refine⟨_,B19 h2,M,G,.tup [x,y],os,hR.env,hR.since,?_,h1.2.2⟩
  rw[dif_neg (by omega)]
  refine⟨vs.toArray,rfl,by simpa using h3,λj c u hc hu=>?_⟩
  have hu:vs[j]?=some u:=by simpa using hu
  match j,hc with
  |0,hc=>cases hc;exact B0R (h4 0 _ u rfl hu) h1.1
  |1,hc=>cases hc;exact B0R (h4 1 _ u rfl hu) h1.2.1
  |j+2,hc=>simp at hc
theorem D0M(hm:P.follows .mixedOrders=true){f:FuncId}{fn:Func}{code:Code}{ic:IC}{rs:List RV}(hf:P.funcs[f]?=some fn)(hname:fn.name≠ "runtime.NumGoroutine")(hb:fn.body=some code)(hc:cC P fn.ntmps code=some ic)
  (hrs:fn.results.toList.mapM (cRV P)=some rs) {args:List AV} {bs:List AO} (hargs:args.length<=fn.ntmps) {Q:AV->List AO->Prop}
  (h:V9 P fn.ntmps bs.length ic {norm:=A6a Q rs,exit:=λ_ _ _=>False,ret:=A6a Q rs} (A11 args) bs):B5 P f args bs Q:=by
 refine⟨⟨fn,hf,by rw[hb];rfl,hname⟩,λM G w vs he hl hv=>?_⟩
 refine calls_of_wp hf hb (wp_mono (A6t hm code ic hc _ _ _ h ⟨M,G,bs,w⟩ M G w {tmps:=vs++Array.replicate (fn.ntmps-vs.size) undef,defers:=[]} ?_) λe a' w' hp=>?_)
 ·exact {
   env:=he,since:=E1.refl ..,size:=by simp;omega,defers:=rfl,base:=rfl
   tmps:=λt=>by
    unfold A11
    by_cases ht:t<args.length
    ·have h1:(vs++Array.replicate (fn.ntmps-vs.size) undef).getD t undef=vs[t]:=by
      simp[A26 (show t<vs.size by omega),show t<vs.size by omega]
     have h2:args.getD t .junk=args[t]:=by simp[ht]
     show VA M G bs (args.getD t .junk) ((vs++Array.replicate (fn.ntmps-vs.size) undef).getD t undef)
     rw[h1,h2]
     have:=hv t args[t] vs[t] (C8 ht) (J5 (by omega))
     generalize args[t]=c at this
     cases c with
     |tup cs=>exact this.elim
     |junk=>trivial
     |_=>exact this
    ·have:args.getD t .junk=.junk:=by simp[E7,A04 (Nat.le_of_not_lt ht)]
     rw[this]
     trivial}
 ·have fin:A02 fn.ntmps bs.length ⟨M,G,bs,w⟩ (A6a Q rs) a' w'->a'.defers=[]/\∃v,(results fn a'.tmps).run P w'=.ok v w'/\∃v',Ending.returned v=.returned v'/\∃M' G' r os',C3 M' G' os' w'/\E1 M G bs w M' G' os' w'/\VA M' G' os' r v'/\Q r os':=by
   rintro⟨M',G',os',ρ',hR,hk⟩
   obtain⟨v,h1,h2⟩:=D2u hR hrs hk
   exact⟨hR.defers,v,h1,v,rfl,h2⟩
  cases e with
  |normal=>exact fin hp
  |ret=>exact fin hp
  |exit id=>obtain⟨_,_,_,_,_,hk⟩:=hp;exact hk.elim
  |_=>exact hp.elim
end
theorem C0.goO2{P:Program}(hm:P.follows .mixedOrders=true){f n:Nat}{ic:IC}{rs:List RV}(h:C0 P f n ic rs){args:List AV}{bs:List AO}(hargs:Nat.ble args.length n=true){Q:AV->List AO->Prop}
  (hw:Go (xI P n bs.length ic (A68 Q rs) (λ_ _ _=>False) (A68 Q rs) (A0x 0 args) bs)):B5 P f args bs Q:=by
 obtain⟨fn,h1,h2,h3,h4,h5⟩:=h
 obtain⟨code,hb,hc⟩:=Y5.1 h4
 subst h2
 refine D0M hm h1 (by simpa using h3) hb hc h5 (P3 hargs) ?_
 rw[B0O]
 exact A3q (K:=⟨A68 Q rs,λ_ _ _=>False,A68 Q rs⟩) ⟨λL os h=>B9r h,λ_ _ _ h=>h,λL os h=>B9r h⟩ hw
end Go.Bi
end
section
namespace Go.Proofs
open Go.Bi
theorem C0V(t:Tb)(dc dk df dx:D)(h:M6 t dc dk df dx)(c:Ch)(hc:G7 c)(hq:D2 t c≠0):Pure Tryz.prog R3 [eT t.nm dc dk df dx,c.av] (.tup [eT [] .nil .nil .nil .nil,.d (eI (D2 t c))]):=by
 have hC:=U3 t dc dk df dx h c hc
 obtain⟨q,hqq⟩:∃q,q=D2 t c:=⟨_,rfl⟩
 rw[<- hqq] at hC hq ⊢
 obtain⟨k,nm,to,⟨cn,ck,cl⟩,⟨vk,vn,vs⟩⟩:=c
 refine V2.go A6 rfl ?_
 repeat' first|refine st ?_|((with_reducible first|apply A8|apply A7);(·exact hC))|(with_reducible first|apply A5|apply A4)<;>intro _
 all_goals rfl
theorem C12 (T0 T1 T2 T3 T4 T7 : AO) (nm : List UInt8) (es : List (List D)) (hm : ∀ e ∈ es, e.length = 3) (i : Nat) (hi : i < es.length) (hel : es.length ≤ 1048576) (ks : List Int) (hkb : ∀ k ∈ ks, 0 ≤ k ∧ k ≤ 1048576) (hkl : ks.length ≤ 1048576) (kn : Bool) (hkn : kn = true → ks = []) (xs : List Ex) (hxl : xs.length ≤ 1048576) (hxb : ∀ e ∈ xs, e.bk ≤ 1048576) (xn : Bool) (hxn : xn = true → xs = []) :
    B5 Tryz.prog A0s [.ptr 10 0, .d (eI i)] [T0, T1, T2, T3, T4, .arr es 3 0 false, .arr (A0 ks) 1 0 kn, T7, .rarr [] 2 true, .arr (xL xs) 7 0 xn, .cells [.d (.str nm), .arr 5 es.length, .arr 6 (A0 ks).length, .rs 8 0, .arr 9 (xL xs).length]]
      (fun r os => r = .tup [] ∧ os = [T0, T1, T2, T3, T4, .arr (es.eraseIdx i ++ [L4]) 3 (es.length - 1) false, .arr (A0 (ks.map fun c => B0 c i)) 1 0 kn, T7, .rarr [] 2 true, .arr (xL (xs.map (E3 (H7 es.length i)))) 7 0 xn,
        .cells [.d (.str nm), .d (.sl (es.eraseIdx i)), .arr 6 (A0 ks).length, .rs 8 0, .arr 9 (xL xs).length]]) := by
  have := B5.frame (K := fun r os => r = .tup [] ∧ os = [T0, T1, T2, T3, T4, .arr (es.eraseIdx i ++ [L4]) 3 (es.length - 1) false, .arr (A0 (ks.map fun c => B0 c i)) 1 0 kn, T7, .rarr [] 2 true, .arr (xL (xs.map (E3 (H7 es.length i)))) 7 0 xn,
        .cells [.d (.str nm), .d (.sl (es.eraseIdx i)), .arr 6 (A0 ks).length, .rs 8 0, .arr 9 (xL xs).length]]) (C11 nm es hm i hi hel ks hkb hkl kn hkn xs hxl hxb xn hxn) [10, 5, 6, 8, 9]
    [T0, T1, T2, T3, T4, .arr es 3 0 false, .arr (A0 ks) 1 0 kn, T7, .rarr [] 2 true, .arr (xL xs) 7 0 xn, .cells [.d (.str nm), .arr 5 es.length, .arr 6 (A0 ks).length, .rs 8 0, .arr 9 (xL xs).length]] rfl (by decide) (fun i o h => by
      match i, h with
      | 0, h => cases h; rfl
      | 1, h => cases h; rfl
      | 2, h => cases h; rfl
      | 3, h => cases h; rfl
      | 4, h => cases h; rfl
      | i + 5, h => simp at h) (fun a ha => by
        simp only [I9, m5, or_false] at ha
        rcases ha with rfl | rfl <;> simp [AV.bnd2, AV.bnd1]) (fun o ho => by
        simp only [I9, m5, or_false] at ho
        rcases ho with rfl | rfl | rfl | rfl | rfl
        · exact L7 rfl
        · exact L7 rfl
        · exact L7 rfl
        · exact L7 rfl
        · exact L7 rfl) (by
      rintro r bs' ⟨rfl, rfl⟩
      exact ⟨rfl, rfl⟩)
  exact this
theorem O5{d:D}{es:List (List D)}(h:B8 d es):C2 (A9 d) es=d:=by
 rcases h with ⟨rfl,rfl⟩|rfl<;>rfl
theorem p9{b:Bool}{es:List (List D)}(h:b=true->es=[]):B8 (C2 b es) es:=by
 cases b with
 |true=>exact .inl ⟨rfl,h rfl⟩
 |false=>exact .inr rfl
theorem l4{d:D}{es:List (List D)}(h:B8 d es)(hn:A9 d=true):es=[]:=by
 rcases h with ⟨_,h1⟩|rfl
 ·exact h1
 ·cases hn
theorem V3{os:List AO}{nm:List UInt8}{b f x:Nat}{dcv:AV}{dcd:D}{K X:List (List D)}{rows:List (List AV)}{fs:List Fo}{kn xn nl:Bool}{kz xz kf xf:Nat}{e:D}
  (h1:DC os dcv dcd) (h2:os[b]?=some (.arr K kz kf kn)) (h3:os[f]?=some (.rarr rows 2 nl)) (h4:os[x]?=some (.arr X xz xf xn)) (hl:fs.length=rows.length)
  (hr:∀(i:Nat) e (g:Fo),rows[i]?=some e->fs[i]?=some g->∃q es fl,e=[.arr q es.length,.d (.str g.tb)]/\os[q]?=some (.arr es 1 0 fl)/\g.d=C2 fl es) :
  DA os (.tup [.agg [.d (.str nm),dcv,.arr b K.length,.rs f rows.length,.arr x X.length],.d e]) (.tup [eT nm dcd (C2 kn K) (C2 nl (H6 fs)) (C2 xn X),.d e]):=by
 refine .inr ⟨_,_,rfl,rfl,rfl,λj c y hc hy=>?_⟩
 match j,hc,hy with
 |0,hc,hy=>
  cases hc;cases hy
  refine .inr ⟨_,[.str nm,dcd,C2 kn K,C2 nl (H6 fs),C2 xn X],rfl,rfl,rfl,λj c y hc hy=>?_⟩
  match j,hc,hy with
  |0,hc,hy=>cases hc;cases hy;exact .inl (.inl rfl)
  |1,hc,hy=>cases hc;cases hy;exact h1
  |2,hc,hy=>cases hc;cases hy;exact .inl (.inr ⟨b,K,kz,kf,kn,rfl,h2,rfl⟩)
  |3,hc,hy=>
   cases hc;cases hy
   refine .inr ⟨f,rows,2,nl,H6 fs,rfl,h3,by rw[A1M];exact hl,λi e e' he he'=>?_,rfl⟩
   obtain⟨g,hg,rfl⟩:∃g,fs[i]?=some g/\g.ds=e':=by
    unfold H6 at he'
    rw[G4] at he'
    exact F5.1 he'
   obtain⟨q,es,fl,rfl,h5,h6⟩:=hr i e g he hg
   refine⟨rfl,λj c x hc hx=>?_⟩
   match j,hc,hx with
   |0,hc,hx=>cases hc;cases hx;exact .inr ⟨q,es,1,0,fl,rfl,h5,h6⟩
   |1,hc,hx=>cases hc;cases hx;exact .inl rfl
   |j+2,hc,hx=>simp at hc
  |4,hc,hy=>cases hc;cases hy;exact .inl (.inr ⟨x,X,xz,xf,xn,rfl,h4,rfl⟩)
  |j+5,hc,hy=>simp at hc
 |1,hc,hy=>cases hc;cases hy;exact .inl ⟨e,.inl (.inl rfl),rfl⟩
 |j+2,hc,hy=>simp at hc
theorem A7P{α β:Type}(f:α->β):∀(l:List α)(i:Nat),(l.eraseIdx i).map f=(l.map f).eraseIdx i
 |[],i=>rfl
 |a::l,0=>rfl
 |a::l,i+1=>by simp[A7P f l i]
theorem A3Z(l:List Co)(i:Nat):B2 (l.eraseIdx i)=(B2 l).eraseIdx i:=A7P _ _ _
def dF(l:List Fo):D:=C2 l.isEmpty (H6 l)
def H9(i:Nat)(g:Fo):Fo:=⟨g.nl,g.cs.map λc=>B0 c i,g.tb⟩
theorem A13(i:Nat)(g:Fo):(H9 i g).d=C2 (A9 g.d) (A0 (g.cs.map λc=>B0 c i)):=by
 obtain⟨nl,cs,tb⟩:=g
 unfold H9 Fo.d ng
 cases nl<;>cases cs<;>rfl
def R1(v:Vl)(k:Int):Bool:=J9 v&&(decide (v.k=0)||decide (v.k=k))
def I1(row:List Vl)(ks:List Int):Bool:=decide (row.length=ks.length)&&(row.zip ks).all λp=>R1 p.1 p.2
theorem B6s{α:Type}{p:α->Bool}{l:List α}{i:Nat}{x:α}(h:l[i]?=some x):(l.take (i+1)).all p=((l.take i).all p&&p x):=by
 rw[Q9,h];simp
theorem A7j{α:Type}{p:α->Bool}{l:List α}{i:Nat}{x:α}(h:l[i]?=some x)(hx:p x=false):l.all p=false:=by
 rw[Bool.eq_false_iff]
 intro e
 have:=M5.1 e x (C4 h)
 rw[hx] at this;cases this
theorem A6I(row:List Vl)(ks:List Int)(hr:row.length<=1048576)(hk:ks.length<=1048576)(hrs:∀v∈row,v.s.length<=1048576)(dr:D)(hdr:B8 dr (B4 row))(dk:D)(hdk:B8 dk (A0 ks)):Pure Tryz.prog B58 [.d dr,.d dk] (.d (.bool (I1 row ks))):=by
 refine C2M.go A6 rfl ?_
 have h1:=S6 row
 have hm:=k7 row
 have h2:=B7 ks
 have hm2:=D3 ks
 obtain⟨q,hq⟩:∃q,q=I1 row ks:=⟨_,rfl⟩
 rw[<- hq]
 by_cases hl:row.length=ks.length
 rotate_left
 ·have:q=false:=by rw[hq,I1,decide_eq_false hl];rfl
  rw[this]
  repeat' first|refine st ?_|(with_reducible first|apply A5|apply A4)<;>intro _
  all_goals first|rfl|(exfalso;omega)
 unfold I1 at hq
 rw[decide_eq_true hl,w6] at hq
 have hl2:(B4 row).length=(A0 ks).length:=by omega
 repeat' first|refine st ?_|(with_reducible first|apply A5|apply A4)<;>intro _
 refine F7 A6 C5A C4G (λ(i:Nat)=>[.d (eI i)]) (λi=>[]) (λi=>i<=row.length/\((row.zip ks).take i).all (λp=>R1 p.1 p.2)=true) (λi=>row.length-i) 0 rfl rfl rfl rfl (λ_ _=>⟨rfl,rfl⟩) rfl ⟨by omega,rfl⟩ ?_
 repeat' first|refine st ?_|(with_reducible first|apply A5|apply A4)<;>intro _
 intro i ⟨h4,h5⟩
 cases hx:row[i]? with
 |some v=>
  have hlt:=(B3.1 hx).1
  obtain⟨k,hkx⟩:∃k,ks[i]?=some k:=⟨_,C8 (by omega)⟩
  have hz:(row.zip ks)[i]?=some (v,k):=A8Q.2 ⟨hx,hkx⟩
  have hg:=A1O hx
  have hg2:=N4 hkx
  have hV:=A4K v (O9 (hrs v (C4 hx)) (by omega))
  have hs:=B6s (p:=λp=>R1 p.1 p.2) hz
  rw[h5,w6] at hs
  dsimp only at hs
  cases hv:J9 v with
  |false=>
   rw[hv] at hV
   have hb:R1 v k=false:=by rw[R1,hv];rfl
   have hf:=A7j (p:=λp=>R1 p.1 p.2) hz hb
   rw[hf] at hq
   repeat' first|refine st ?_|((with_reducible first|apply A8|apply A7);(·exact hV))|(with_reducible first|apply A5|apply A4)<;>intro _
   all_goals (rw[hq])
  |true=>
   rw[hv] at hV
   by_cases hk0:v.k=0
   ·have hb:R1 v k=true:=by rw[R1,hv,decide_eq_true hk0];rfl
    repeat' first|refine st ?_|((with_reducible first|apply A8|apply A7);(·exact hV))|(with_reducible first|apply A5|apply A4)<;>intro _
    exact⟨i+1,rfl,rfl,rfl,by omega,by omega,hs.trans hb⟩
   ·by_cases hkk:v.k=k
    ·have hb:R1 v k=true:=by rw[R1,hv,decide_eq_true hkk];simp
     repeat' first|refine st ?_|((with_reducible first|apply A8|apply A7);(·exact hV))|(with_reducible first|apply A5|apply A4)<;>intro _
     exact⟨i+1,rfl,rfl,rfl,by omega,by omega,hs.trans hb⟩
    ·have hb:R1 v k=false:=by rw[R1,hv,decide_eq_false hkk,decide_eq_false hk0];rfl
     have hf:=A7j (p:=λp=>R1 p.1 p.2) hz hb
     rw[hf] at hq
     repeat' first|refine st ?_|((with_reducible first|apply A8|apply A7);(·exact hV))|(with_reducible first|apply A5|apply A4)<;>intro _
     all_goals (rw[hq])
 |none=>
  have hge:=D8.1 hx
  rw[M7 (by rw[List.length_zip];omega)] at h5
  rw[h5] at hq
  repeat' first|refine st ?_|(with_reducible first|apply A5|apply A4)<;>intro _
  all_goals (rw[hq])
theorem B7y:∀{l:List (Int×Int)},fe l=0->∀x∈l,x.2=0
 |[],_,x,hx=>by cases hx
 |y::l,h,x,hx=>by
  unfold fe at h
  by_cases hy:y.2=0
  ·rw[if_pos hy] at h
   rcases I9.1 hx with rfl|hx
   ·exact hy
   ·exact B7y h x hx
  ·rw[if_neg hy] at h;exact absurd h hy
theorem D3C(v:Vl):(w5 v).k=v.k\/(w5 v).k=0:=by
 unfold w5
 split
 ·exact .inl rfl
 ·exact .inr rfl
def Knd(l:List Vl)(ks:List Int):Prop:=l.length=ks.length/\∀i,(h:i<l.length)->(h2:i<ks.length)->l[i].k=ks[i]\/l[i].k=0
theorem Knd.all{l:List Vl}{ks:List Int}(h:Knd l ks){r:Int}(hr:∀x∈ks,x=0\/x=r):∀v∈l,v.k=r\/v.k=0:=by
 intro v hv
 obtain⟨i,hi,rfl⟩:=A3F.1 hv
 have h2:i<ks.length:=by have:=h.1;omega
 have h3:=h.2 i hi h2
 have h4:=hr ks[i] (A0U h2)
 omega
theorem A0F(op n:Int)(v:Vl)(nm:List UInt8)(nl:Bool)(args:List Ex):F3 (.mk op n v nm nl args)=.mk op n v nm true (args.map F3):=by
 unfold F3
 rw[A4g]
 split<;>rfl
theorem A7Q{α β:Type}{f g:α->β}{l:List α}(h:∀a∈l,f a=g a):l.map f=l.map g:=T5 h
theorem A0m{α β γ:Type}{f:β->γ}{g:α->β}{h:α->γ}{l:List α}(hh:∀a∈l,f (g a)=h a):(l.map g).map f=l.map h:=by
 rw[j4];exact T5 hh
theorem B03:∀e:Ex,F3 (F3 e)=F3 e:=by
 refine Ex.ind λop n v nm nl args ih=>?_
 rw[A0F,A0F,A0m (h:=F3) λa ha=>ih a ha]
theorem D3M{n:Int}(h1:IntKind.i64.min<=n)(h2:n<=IntKind.i64.max):w64 (n+0)=n:=by
 have e1:IntKind.i64.min=-9223372036854775808:=rfl
 have e2:IntKind.i64.max=9223372036854775807:=rfl
 rw[Int.add_zero]
 show IntKind.i64.wrap n=n
 rw[IntKind.wrap_i64]
 omega
theorem B9I:∀e:Ex,e.Rg->B9 0 e=F3 e:=by
 refine Ex.ind λop n v nm nl args ih hr=>?_
 cases hr with
 |mk h1 h2 h=>
  rw[B9J,A0F,A7Q (g:=F3) λa ha=>ih a ha (h a ha),D3M h1 h2]
  split<;>rfl
theorem B7a:∀e:Ex,L8 (F3 e)=L8 e:=by
 refine Ex.ind λop n v nm nl args ih=>?_
 rw[A0F,A2k,A2k,A0m (h:=L8) λa ha=>ih a ha]
theorem B79(ks:List Int):∀e:Ex,F6 ks (F3 e)=F6 ks e:=by
 refine Ex.ind λop n v nm nl args ih=>?_
 rw[A0F,A0D,A0D,D5,A0m (h:=F6 ks) λa ha=>ih a ha]
theorem A7z{α:Type}{f g:α->List Int}:∀{l:List α},(∀a∈l,f a=g a)->l.flatMap f=l.flatMap g
 |[],_=>rfl
 |a::l,h=>by rw[A1y,A1y,h a (by simp),A7z λb hb=>h b (by simp[hb])]
theorem A7y{α β:Type}(f:α->β)(g:β->List Int):∀l:List α,(l.map f).flatMap g=l.flatMap λa=>g (f a)
 |[]=>rfl
 |a::l=>by rw[Q3,A1y,A1y,A7y f g l]
theorem C9W:∀e:Ex,K6 (F3 e)=K6 e:=by
 refine Ex.ind λop n v nm nl args ih=>?_
 rw[A0F,A3e,A3e,A7y,A7z (g:=K6) λa ha=>ih a ha]
theorem C9V(e:Ex):N5 (F3 e)=N5 e:=by unfold N5;rw[C9W]
theorem B04:∀e:Ex,e.Rg->(F3 e).Rg:=by
 refine Ex.ind λop n v nm nl args ih hr=>?_
 cases hr with
 |mk h1 h2 h=>
  rw[A0F]
  refine .mk h1 h2 λa ha=>?_
  obtain⟨b,hb,rfl⟩:=F1.1 ha
  exact ih b hb (h b hb)
theorem B6G(op n n':Int)(v:Vl)(nm:List UInt8)(nl:Bool)(args args':List Ex)(h:G6 (xL args')<=G6 (xL args)):(Ex.mk op n' v nm true args').bk<=(Ex.mk op n v nm nl args).bk:=by
 rw[Ex.bk,Ex.bk,Ex.ds_mk,Ex.ds_mk]
 simp only[E4,U7,C9e]
 omega
theorem A5t:∀e:Ex,(F3 e).bk<=e.bk:=by
 refine Ex.ind λop n v nm nl args ih=>?_
 rw[A0F]
 exact B6G _ _ _ _ _ _ _ _ (B6K F3 args ih)
def dnC(i:Nat):Ex->Ex
 |.mk op n v nm nl args=>.mk op (B0 n i) v nm nl args
def M8(i:Nat)(e:Ex):Ex:=O4 (dnC i) e
theorem A2l(i:Nat)(op n:Int)(v:Vl)(nm:List UInt8)(nl:Bool)(args:List Ex):M8 i (.mk op n v nm nl args)=.mk op (if op=2 then B0 n i else n) v nm true (args.map (M8 i)):=by
 unfold M8
 rw[A4g]
 split<;>rfl
theorem D09(i:Nat):∀e:Ex,M8 i (F3 e)=M8 i e:=by
 refine Ex.ind λop n v nm nl args ih=>?_
 rw[A0F,A2l,A2l,A0m (h:=M8 i) λa ha=>ih a ha]
theorem D08(i:Nat):∀e:Ex,(M8 i e).bk<=e.bk:=by
 refine Ex.ind λop n v nm nl args ih=>?_
 rw[A2l]
 exact B6G _ _ _ _ _ _ _ _ (B6K (M8 i) args ih)
theorem C8Z{n:Int}(i:Nat)(h1:IntKind.i64.min<=n)(h2:n<=IntKind.i64.max):IntKind.i64.min<=B0 n i/\B0 n i<=IntKind.i64.max:=by
 have e1:IntKind.i64.min=-9223372036854775808:=rfl
 have e2:IntKind.i64.max=9223372036854775807:=rfl
 unfold B0
 split<;>omega
theorem D0b(i:Nat):∀e:Ex,e.Rg->(M8 i e).Rg:=by
 refine Ex.ind λop n v nm nl args ih hr=>?_
 cases hr with
 |mk h1 h2 h=>
  rw[A2l]
  have hb:=C8Z i h1 h2
  refine .mk (by split;exact hb.1;exact h1) (by split;exact hb.2;exact h2) λa ha=>?_
  obtain⟨b,hb,rfl⟩:=F1.1 ha
  exact ih b hb (h b hb)
theorem D0a(i:Nat):∀e:Ex,L8 (M8 i e)=L8 e:=by
 refine Ex.ind λop n v nm nl args ih=>?_
 rw[A2l,A2k,A2k,A0m (h:=L8) λa ha=>ih a ha]
theorem A9X{ks:List Int}{op n:Int}{v:Vl}{nm:List UInt8}{nl:Bool}{args:List Ex}(h:(F6 ks (.mk op n v nm nl args)).2=0) :
  (S2 op args.length).2=true/\L9 op n v nm args.length=true/\(op=2->0<=n/\n<ks.length/\args=[]/\nm=[]/\v=F2)/\(op≠2->∀a∈args,(F6 ks a).2=0):=by
 rw[A0D] at h
 unfold R5 at h
 by_cases h1:(S2 op args.length).2=false
 ·rw[if_pos h1] at h;cases h
 by_cases h2:L9 op n v nm args.length=false
 ·rw[if_neg h1,if_pos h2] at h;cases h
 rw[if_neg h1,if_neg h2] at h
 have h2':L9 op n v nm args.length=true:=by simpa using h2
 refine⟨by simpa using h1,h2',λho=>?_,λho a ha=>?_⟩
 ·subst ho
  rw[if_pos rfl] at h
  rw[B0m] at h2'
  obtain⟨a1,a2,a3,a4,a5⟩:=of_decide_eq_true h2'
  have hv:v=F2:=by
   obtain⟨x,y,z⟩:=v
   simp only at a3 a4 a5
   subst a3;subst a4;subst a5;rfl
  by_cases hn:0<=n/\n<ks.length
  ·exact⟨hn.1,hn.2,A2M.1 a1,a2,hv⟩
  ·rw[if_neg hn] at h;cases h
 ·rw[if_neg ho] at h
  by_cases hf:fe (args.map (F6 ks))=0
  ·exact B7y hf _ (F1.2 ⟨a,ha,rfl⟩)
  ·rw[if_neg hf] at h
   exact absurd h hf
theorem D1w{m:Nat}(i:Nat){n:Int}(h0:0<=n)(h1:n<m):(H7 m i).getD n.toNat A7U=mvE n i:=by
 have hl:n.toNat<m:=by omega
 unfold H7
 rw[E7,G4,List.getElem?_range hl,A10,j6]
 congr 1
 omega
theorem D3g{ks:List Int}{m:Nat}(i:Nat)(hm:ks.length=m):∀e:Ex,(F6 ks e).2=0->E3 (H7 m i) (F3 e)=M8 i e:=by
 refine Ex.ind λop n v nm nl args ih h=>?_
 obtain⟨_,_,h3,h4⟩:=A9X h
 rw[A0F,A2l]
 unfold E3
 rw[A4g]
 by_cases ho:op=2
 ·obtain⟨a1,a2,rfl,rfl,rfl⟩:=h3 ho
  subst ho
  rw[if_pos rfl,if_pos rfl]
  have hin:inC (H7 m i) n F2 [] 0=true:=by
   unfold inC
   rw[A0N]
   exact decide_eq_true ⟨rfl,rfl,⟨rfl,rfl,rfl⟩,a1,by omega⟩
  show(if inC (H7 m i) n F2 [] 0=true then F3 ((H7 m i).getD n.toNat A7U) else _)=_
  rw[if_pos hin,D1w i a1 (by omega)]
  unfold mvE
  rw[A0F]
  rfl
 ·rw[if_neg ho,if_neg ho,A0m (f:=O4 (A2y (H7 m i))) (h:=M8 i) λa ha=>ih a ha (h4 ho a ha)]
theorem D0y(ks:List Int)(i:Nat){n:Int}(h0:0<=n)(hne:n≠i):(ks.eraseIdx i).getD (B0 n i).toNat 0=ks.getD n.toNat 0:=by
 rw[E7,E7,A3C]
 unfold B0
 by_cases h:(i:Int)<n
 ·rw[if_pos h,if_neg (by omega)]
  congr 2
  omega
 ·rw[if_neg h,if_pos (by omega)]
theorem C9D{ks:List Int}{i:Nat}(hi:i<ks.length):∀e:Ex,(F6 ks e).2=0->¬(i:Int)∈K6 e->F6 (ks.eraseIdx i) (M8 i e)=F6 ks e:=by
 refine Ex.ind λop n v nm nl args ih h hi'=>?_
 obtain⟨h1,h2,h3,h4⟩:=A9X h
 rw[A3e] at hi'
 rw[A2l,A0D,A0D,D5]
 by_cases ho:op=2
 ·obtain⟨a1,a2,rfl,rfl,rfl⟩:=h3 ho
  subst ho
  have hne:n≠i:=λe=>hi' (by rw[e];simp)
  rw[if_pos rfl]
  unfold R5
  have hf:L9 2 (B0 n i) F2 [] ([]:List Ex).length=true:=by rw[B0m];exact decide_eq_true ⟨rfl,rfl,rfl,rfl,rfl⟩
  have hlen:(ks.eraseIdx i).length=ks.length-1:=by rw[A0V,if_pos hi]
  have hb:0<=B0 n i/\B0 n i<(ks.eraseIdx i).length:=by rw[hlen];unfold B0;split<;>omega
  rw[h1,h2,hf,if_neg (by decide),if_neg (by decide),if_pos rfl,if_pos hb,if_neg (by decide),if_neg (by decide),if_pos rfl,if_pos ⟨a1,a2⟩,D0y ks i a1 hne]
 ·rw[if_neg ho]
  unfold R5
  rw[if_neg ho,if_neg ho,A0m (f:=F6 (ks.eraseIdx i)) (g:=M8 i) (h:=F6 ks) λa ha=>ih a ha (h4 ho a ha) λhm=>hi' (R9.2 (.inr (A3E.2 ⟨a,ha,hm⟩)))]
theorem B6Z{n:Int}{ks:List Int}{rs:List (Int×Int)}(h0:0<=n)(h1:n<ks.length):R5 2 n F2 [] ks 0 rs=(ks.getD n.toNat 0,0):=by
 have hf:L9 2 n F2 [] 0=true:=by rw[B0m];exact decide_eq_true ⟨rfl,rfl,rfl,rfl,rfl⟩
 have hc:(S2 2 (0:Nat)).2=true:=by decide
 unfold R5
 rw[hc,hf,if_neg (by decide),if_neg (by decide),if_pos rfl,if_pos ⟨h0,h1⟩]
theorem C9E{ks:List Int}(k:Int):∀e:Ex,(F6 ks e).2=0->F6 (ks++[k]) e=F6 ks e:=by
 refine Ex.ind λop n v nm nl args ih h=>?_
 obtain⟨h1,h2,h3,h4⟩:=A9X h
 rw[A0D,A0D]
 by_cases ho:op=2
 ·obtain⟨a1,a2,rfl,rfl,rfl⟩:=h3 ho
  subst ho
  rw[P9,B6Z a1 a2,B6Z a1 (by rw[K4];simp;omega)]
  have:(ks++[k]).getD n.toNat 0=ks.getD n.toNat 0:=by
   rw[E7,E7,J7 (by omega)]
  rw[this]
 ·unfold R5
  rw[if_neg ho,if_neg ho,A7Q (f:=F6 (ks++[k])) (g:=F6 ks) λa ha=>ih a ha (h4 ho a ha)]
theorem C9F{ks:List Int}{i:Nat}(k:Int):∀e:Ex,¬(i:Int)∈K6 e->F6 (ks.set i k) e=F6 ks e:=by
 refine Ex.ind λop n v nm nl args ih hi=>?_
 rw[A3e] at hi
 rw[A0D,A0D,A7Q (f:=F6 (ks.set i k)) (g:=F6 ks) λa ha=>ih a ha λhm=>hi (R9.2 (.inr (A3E.2 ⟨a,ha,hm⟩)))]
 unfold R5
 rw[U4]
 by_cases ho:op=2
 ·subst ho
  have hne:n≠i:=λe=>hi (by rw[e];simp)
  by_cases hn:0<=n/\n<ks.length
  ·have:(ks.set i k).getD n.toNat 0=ks.getD n.toNat 0:=by
    rw[E7,E7,P2 (by omega)]
   rw[this]
  ·simp only[hn,if_false]
 ·simp only[ho,if_false]
def acF:List Vl->List Co->Int
 |v::r,c::l=>if J9 v=false then 8 else if v.k=0 then (if c.nl then acF r l else 12) else if v.k=c.k then acF r l else 7
 |_,_=>0
def G5(row:List Vl)(N5:List Co):Int:=if row.length=N5.length then acF row N5 else 13
def pick(row:List Vl)(ks:List Int):List Vl:=ks.map (vAt row)
theorem D3A(v:Vl):A4t v v=0:=by
 have h:A0c v.s v.s=0:=(B00 v.s v.s).2.2.1.2 rfl
 have h2:∀n:Int,A2j n n=0:=λn=>by unfold A2j;rw[if_neg (by omega),if_neg (by omega)]
 unfold A4t
 rw[h,h2,h2];rfl
theorem C1Z(v:Vl):Pure Tryz.prog A8Y [eV v,eV v] (.d (eI 0)):=by
 have h:=C1Y v v
 rw[D3A] at h
 exact h
theorem A4L(row:List Vl)(hr:row.length<=1048576)(d d':D)(hd:B8 d (B4 row))(hd':B8 d' (B4 row)):Pure Tryz.prog A2T [.d d,.d d'] (.d (.bool true)):=by
 have hC:Pure Tryz.prog B57 [.d d,.d d'] (.d (eI 0)):=by
  refine C2K.go A6 rfl ?_
  have h1:=S6 row
  have hm:=k7 row
  repeat' first|refine st ?_|(with_reducible first|apply A5|apply A4)<;>intro _
  refine F7 A6 C5z C4F (λ(i:Nat)=>[.d (eI i)]) (λi=>[]) (λi=>i<=row.length) (λi=>row.length-i) 0 rfl rfl rfl rfl (λ_ _=>⟨rfl,rfl⟩) rfl (T6 _) ?_
  repeat' first|refine st ?_|(with_reducible first|apply A5|apply A4)<;>intro _
  intro i h4
  cases hx:row[i]? with
  |some v=>
   have hlt:=(B3.1 hx).1
   have hg:=A1O hx
   have hR:=C1Z v
   repeat' first|refine st ?_|((with_reducible first|apply A8|apply A7);(·exact hR))|(with_reducible first|apply A5|apply A4)<;>intro _
   exact⟨i+1,rfl,rfl,rfl,by omega,by omega⟩
  |none=>
   have hge:=D8.1 hx
   repeat' first|refine st ?_|(with_reducible first|apply A5|apply A4)<;>intro _
   all_goals rfl
 refine C2L.go A6 rfl ?_
 repeat' first|refine st ?_|((with_reducible first|apply A8|apply A7);(·exact hC))|(with_reducible first|apply A5|apply A4)<;>intro _
 all_goals rfl
theorem B9R{t:Tb}(h:K8 t=0):K7 t.nm=true/\t8 t.cs=0/\A0i t.cs t.ks=0/\A19 t=0:=by
 unfold K8 at h
 split at h
 ·rename_i h1
  split at h
  ·rename_i h2
   split at h
   ·rename_i h3;exact⟨h1,h2,h3,h⟩
   ·rename_i h3;exact absurd h h3
  ·rename_i h2;exact absurd h h2
 ·cases h
theorem B73{l:List Co}(h:t8 l=0):1<=l.length/\l.length<=12/\m7 [] l=0:=by
 unfold t8 at h
 split at h
 ·rename_i h1;exact⟨h1.1,h1.2,h⟩
 ·cases h
theorem B75:∀{l:List Co}{seen:List (List UInt8)},m7 seen l=0->∀(i:Nat) c,l[i]?=some c->K7 c.nm=true/\1<=c.k/\c.k<=3/\¬c.nm∈seen/\∀(j:Nat) d,l[j]?=some d->d.nm=c.nm->j=i
 |[],_,_,i,c,hi=>by simp at hi
 |a::r,seen,h,i,c,hi=>by
  unfold m7 at h
  split at h
  ·rename_i h1
   split at h
   ·rename_i h2
    split at h
    ·cases h
    ·rename_i h3
     have ih:=B75 h
     cases i with
     |zero=>
      simp only[A1z,A0t] at hi
      subst hi
      refine⟨h1,h2.1,h2.2,h3,λj d hj e=>?_⟩
      cases j with
      |zero=>rfl
      |succ j=>
       rw[j0] at hj
       exact absurd (by simp[e]) (ih j d hj).2.2.2.1
     |succ i=>
      rw[j0] at hi
      obtain⟨g1,g2,g3,g4,g5⟩:=ih i c hi
      refine⟨g1,g2,g3,λhm=>g4 (by simp[hm]),λj d hj e=>?_⟩
      cases j with
      |zero=>
       simp only[A1z,A0t] at hj
       subst hj
       exact absurd (by simp[e]) g4
      |succ j=>
       rw[j0] at hj
       rw[g5 j d hj e]
   ·cases h
  ·cases h
theorem B7D{nm:List UInt8}:∀{l:List Co}{s i:Nat}{c:Co},l[i]?=some c->c.nm=nm->(∀(j:Nat) d,l[j]?=some d->d.nm=nm->j=i)->k9 nm s l=(s+i:Nat)
 |[],s,i,c,hi,_,_=>by simp at hi
 |a::r,s,i,c,hi,e,hu=>by
  unfold k9
  cases i with
  |zero=>
   simp only[A1z,A0t] at hi
   subst hi
   rw[if_pos e];simp
  |succ i=>
   rw[if_neg (λh=>by have:=hu 0 a rfl h;omega)]
   rw[j0] at hi
   rw[B7D (s:=s+1) hi e (λj d hj e'=>by have:=hu (j+1) d (by rw[j0];exact hj) e';omega)]
   congr 1;omega
theorem D0G{l:List Co}(h:t8 l=0){i:Nat}{c:Co}(hi:l[i]?=some c):D6 c.nm l=i:=by
 have:=B75 (B73 h).2.2 i c hi
 have:=B7D (s:=0) hi rfl this.2.2.2.2
 rw[D6,this];simp
def Tb.Rg(t:Tb):Prop:=∀e∈t.xs,e.Rg
def T9(f:Fo):Fo:=⟨false,f.cs,f.tb⟩
def nf(t:Tb):Tb:=⟨t.nm,t.cs,t.ks,t.fs.map T9,t.xs.map F3⟩
theorem D1B(t:Tb):nf (nf t)=nf t:=by
 unfold nf
 congr 1
 ·rw[j4];rfl
 ·exact A0m λa ha=>B03 a
theorem B7X(n:Nat):∀l:List Fo,V5 n (l.map T9)=V5 n l
 |[]=>rfl
 |f::r=>by rw[Q3,V5,V5,B7X n r];rfl
theorem C9B(ks:List Int)(e:Ex):A0b ks (F3 e)=A0b ks e:=by unfold A0b A17;rw[B7a,B79]
theorem B6W(ks:List Int):∀l:List Ex,t6 ks (l.map F3)=t6 ks l
 |[]=>rfl
 |f::r=>by rw[Q3,t6,t6,B6W ks r,C9B]
theorem D3j(t:Tb):K8 (nf t)=K8 t:=by
 unfold K8 A19 A16 nf
 dsimp only
 rw[D5,D5,B7X,B6W]
theorem D3y(t:Tb):Z1 (nf t)=Z1 t:=by
 unfold Z1 A24 A6p nf
 dsimp only
 rw[A7y,A7y,A7z (f:=λa=>(T9 a).cs) (g:=Fo.cs) λa _=>rfl,A7z (f:=λa=>N5 (F3 a)) (g:=N5) λa _=>C9V a]
theorem A44(t:Tb)(c:Ch):D2 (nf t) c=D2 t c:=by
 unfold D2
 rw[D3j]
 unfold A32
 rw[D3y]
 rfl
def D9(t:Tb)(c:Ch):Tb:=
 if c.k=1 then ⟨t.nm,t.cs++[c.co],t.ks,t.fs,t.xs.map F3⟩
 else if c.k=2 then ⟨t.nm,t.cs.eraseIdx (D6 c.nm t.cs).toNat,t.ks.map (λx=>B0 x (D6 c.nm t.cs).toNat),t.fs.map (H9 (D6 c.nm t.cs).toNat),t.xs.map (M8 (D6 c.nm t.cs).toNat)⟩
 else if c.k=3 then ⟨t.nm,t.cs.set (D6 c.nm t.cs).toNat ⟨c.to,(t.cs.getD (D6 c.nm t.cs).toNat ⟨[],0,false⟩).k,(t.cs.getD (D6 c.nm t.cs).toNat ⟨[],0,false⟩).nl⟩,t.ks,t.fs,t.xs.map F3⟩
 else ⟨t.nm,t.cs.set (D6 c.nm t.cs).toNat ⟨(t.cs.getD (D6 c.nm t.cs).toNat ⟨[],0,false⟩).nm,2,(t.cs.getD (D6 c.nm t.cs).toNat ⟨[],0,false⟩).nl⟩,t.ks,t.fs,t.xs.map F3⟩
theorem A4j(t:Tb)(c:Ch):nf (D9 (nf t) c)=nf (D9 t c):=by
 have e1:(t.fs.map T9).map T9=t.fs.map T9:=by rw[j4];rfl
 have e2:((t.xs.map F3).map F3).map F3=(t.xs.map F3).map F3:=A0m λa ha=>B03 a
 have e3 (i:Nat):((t.fs.map T9).map (H9 i)).map T9=(t.fs.map (H9 i)).map T9:=by rw[j4,j4,j4];rfl
 have e4 (i:Nat):((t.xs.map F3).map (M8 i))=t.xs.map (M8 i):=A0m λa ha=>D09 i a
 unfold D9
 split
 ·unfold nf;dsimp only;rw[e1,e2]
 ·split
  ·unfold nf;dsimp only;rw[e3,e4]
  ·split
   ·unfold nf;dsimp only;rw[e1,e2]
   ·unfold nf;dsimp only;rw[e1,e2]
theorem D0B{t:Tb}(h:t.Rg)(c:Ch):(D9 t c).Rg:=by
 have h1:∀e∈t.xs.map F3,e.Rg:=λe he=>by
  obtain⟨a,ha,rfl⟩:=F1.1 he
  exact B04 a (h a ha)
 unfold D9
 split
 ·exact h1
 ·split
  ·intro e he
   obtain⟨a,ha,rfl⟩:=F1.1 he
   exact D0b _ a (h a ha)
  ·split<;>exact h1
theorem k8{t:Tb}{c:Ch}(h:D2 t c=0):K8 t=0/\(1<=c.k/\c.k<=4)/\A2x c=false/\(c.k=1->A07 t c=0)/\(c.k≠1->A32 t c=0):=by
 unfold D2 at h
 by_cases h1:K8 t=0
 ·rw[if_neg (by simpa using h1)] at h
  by_cases h2:1<=c.k/\c.k<=4
  ·rw[if_neg (by simpa using h2)] at h
   cases h3:A2x c with
   |true=>rw[h3,if_pos rfl] at h;cases h
   |false=>
    rw[h3,if_neg (by decide)] at h
    exact⟨h1,h2,rfl,λhk=>by rw[if_pos hk] at h;exact h,λhk=>by rw[if_neg hk] at h;exact h⟩
  ·rw[if_pos h2] at h;cases h
 ·rw[if_pos h1] at h;exact absurd h h1
theorem B6p{t:Tb}{c:Ch}(h:A07 t c=0):t.cs.length<12/\K7 c.co.nm=true/\(1<=c.co.k/\c.co.k<=3)/\D6 c.co.nm t.cs<0/\J9 c.df=true/\(c.df.k=0->c.co.nl=true)/\(c.df.k≠0->c.df.k=c.co.k):=by
 unfold A07 at h
 repeat' split at h
 all_goals first|(cases h;done)|skip
 rename_i h1 h2 h3 h4 h5 h6 h7
 refine⟨by omega,by simpa using h2,by omega,by omega,by simpa using h5,λe=>?_,λe=>?_⟩
 ·cases hh:c.co.nl with
  |true=>rfl
  |false=>exact absurd ⟨e,hh⟩ h6
 ·by_cases hh:c.df.k=c.co.k
  ·exact hh
  ·exact absurd ⟨e,hh⟩ h7
theorem x9{t:Tb}{c:Ch}(h:A32 t c=0):∃(i:Nat)(co:Co),D6 c.nm t.cs=i/\t.cs[i]?=some co/\co.nm=c.nm/\(c.k≠3->¬(i:Int)∈Z1 t)/\(c.k=4->co.k≠2)/\(c.k=3->K7 c.to=true/\D6 c.to t.cs<0):=by
 unfold A32 at h
 by_cases h0:D6 c.nm t.cs<0
 ·rw[if_pos h0] at h;cases h
 rw[if_neg h0] at h
 obtain⟨co,hc,hn⟩:=B0f (nm:=c.nm) (l:=t.cs) (by omega)
 have hi:D6 c.nm t.cs=((D6 c.nm t.cs).toNat:Int):=by omega
 by_cases h1:c.k≠3/\0<(Z1 t).count (D6 c.nm t.cs)
 ·rw[if_pos h1] at h;cases h
 rw[if_neg h1] at h
 by_cases h2:c.k=4/\Z8 t (D6 c.nm t.cs)=2
 ·rw[if_pos h2] at h;cases h
 rw[if_neg h2] at h
 by_cases h3:c.k=3/\K7 c.to=false
 ·rw[if_pos h3] at h;cases h
 rw[if_neg h3] at h
 by_cases h4:c.k=3/\0<=D6 c.to t.cs
 ·rw[if_pos h4] at h;cases h
 refine⟨_,co,hi,hc,hn,λhk hm=>h1 ⟨hk,?_⟩,λhk hh=>h2 ⟨hk,?_⟩,λhk=>⟨?_,?_⟩⟩
 ·rw[hi];exact List.count_pos_iff.2 hm
 ·unfold Z8;rw[hc];exact hh
 ·cases hh:K7 c.to with
  |true=>rfl
  |false=>exact absurd ⟨hk,hh⟩ h3
 ·by_cases hh:D6 c.to t.cs<0
  ·exact hh
  ·exact absurd ⟨hk,by omega⟩ h4
structure Vd(t:Tb):Prop where
 nm:K7 t.nm=true
 l1:1<=t.cs.length
 l2:t.cs.length<=12
 co:∀c∈t.cs,K7 c.nm=true/\1<=c.k/\c.k<=3
 nd:(t.cs.map Co.nm).Nodup
 k0:t.ks≠[]
 ks:∀k∈t.ks,0<=k/\k<t.cs.length/\(t.cs.getD k.toNat ⟨[],0,false⟩).nl=false
 ka:t.ks.Pairwise (·<·)
 fl:t.fs.length<=4
 fs:∀f∈t.fs,K7 f.tb=true/\f.cs≠[]/\(∀c∈f.cs,0<=c/\c<t.cs.length)/\f.cs.Nodup
 xl:t.xs.length<=4
 xs:∀x∈t.xs,L8 x<=24/\(F6 (kd t.cs) x).2=0/\((F6 (kd t.cs) x).1=3\/(F6 (kd t.cs) x).1=0)
theorem B02:∀{l:List Co}{seen:List (List UInt8)},m7 seen l=0↔(∀c∈l,K7 c.nm=true/\1<=c.k/\c.k<=3)/\(l.map Co.nm).Nodup/\∀c∈l,¬c.nm∈seen
 |[],seen=>by simp[m7]
 |a::r,seen=>by
  unfold m7
  by_cases h1:K7 a.nm=true
  ·rw[if_pos h1]
   by_cases h2:1<=a.k/\a.k<=3
   ·rw[if_pos h2]
    by_cases h3:a.nm∈seen
    ·rw[if_pos h3]
     constructor
     ·intro h;cases h
     ·intro h;exact absurd h3 (h.2.2 a (by simp))
    ·rw[if_neg h3,B02]
     simp only[I9,Q3,A2a,R9,m5,or_false,not_or]
     constructor
     ·rintro⟨g1,g2,g3⟩
      refine⟨λc hc=>?_,⟨λhm=>?_,g2⟩,λc hc=>?_⟩
      ·rcases hc with rfl|hc
       ·exact⟨h1,h2.1,h2.2⟩
       ·exact g1 c hc
      ·obtain⟨c,hc,e⟩:=F1.1 hm
       exact(g3 c hc).2 e
      ·rcases hc with rfl|hc
       ·exact h3
       ·exact(g3 c hc).1
     ·rintro⟨g1,⟨g2,g3⟩,g4⟩
      exact⟨λc hc=>g1 c (.inr hc),g3,λc hc=>⟨g4 c (.inr hc),λe=>g2 (F1.2 ⟨c,hc,e⟩)⟩⟩
   ·rw[if_neg h2]
    constructor
    ·intro h;cases h
    ·intro h;exact absurd (h.1 a (by simp)).2 h2
  ·rw[if_neg h1]
   constructor
   ·intro h;cases h
   ·intro h;exact absurd (h.1 a (by simp)).1 h1
theorem B0A{l:List Co}:∀{ks:List Int}{p:Option Int},b9 l p ks=0↔(∀k∈ks,0<=k/\k<l.length/\(l.getD k.toNat ⟨[],0,false⟩).nl=false)/\ks.Pairwise (·<·)/\∀q,p=some q->∀k∈ks,q<k
 |[],p=>by simp[b9]
 |a::r,p=>by
  have ih:=B0A (l:=l) (ks:=r) (p:=some a)
  unfold b9
  by_cases h1:0<=a/\a<l.length
  ·rw[if_pos h1]
   have key:(if (l.getD a.toNat ⟨[],0,false⟩).nl=true then 12 else b9 l (some a) r)=0↔(l.getD a.toNat ⟨[],0,false⟩).nl=false/\b9 l (some a) r=0:=by
    cases hh:(l.getD a.toNat ⟨[],0,false⟩).nl with
    |true=>simp
    |false=>simp
   cases p with
   |none=>
    dsimp only
    rw[key,ih]
    simp only[I9,A2b,forall_eq_or_imp]
    constructor
    ·rintro⟨g1,g2,g3,g4⟩
     exact⟨⟨⟨h1.1,h1.2,g1⟩,g2⟩,⟨g4 a rfl,g3⟩,λq hq=>by cases hq⟩
    ·rintro⟨⟨g1,g2⟩,⟨g3,g4⟩,g5⟩
     exact⟨g1.2.2,g2,g4,λq hq k hk=>by cases hq;exact g3 k hk⟩
   |some q=>
    dsimp only
    by_cases h2:a<=q
    ·rw[if_pos h2]
     constructor
     ·intro h;cases h
     ·intro h
      have:=h.2.2 q rfl a (by simp)
      omega
    ·rw[if_neg h2,key,ih]
     simp only[I9,A2b,forall_eq_or_imp]
     constructor
     ·rintro⟨g1,g2,g3,g4⟩
      refine⟨⟨⟨h1.1,h1.2,g1⟩,g2⟩,⟨g4 a rfl,g3⟩,λq' hq=>?_⟩
      cases hq
      exact⟨by omega,λk hk=>by have:=g4 a rfl k hk;omega⟩
     ·rintro⟨⟨g1,g2⟩,⟨g3,g4⟩,g5⟩
      exact⟨g1.2.2,g2,g4,λq' hq k hk=>by cases hq;exact g3 k hk⟩
  ·rw[if_neg h1]
   constructor
   ·intro h;cases h
   ·intro h;exact absurd ⟨(h.1 a (by simp)).1,(h.1 a (by simp)).2.1⟩ h1
theorem B7v{n:Nat}:∀{l seen:List Int},m9 n seen l=0↔(∀c∈l,0<=c/\c<n)/\l.Nodup/\∀c∈l,¬c∈seen
 |[],seen=>by simp[m9]
 |a::r,seen=>by
  unfold m9
  by_cases h:(0<=a/\a<n)/\¬a∈seen
  ·rw[if_pos h,B7v]
   simp only[I9,A2a,R9,m5,or_false,not_or,forall_eq_or_imp]
   constructor
   ·rintro⟨g1,g2,g3⟩
    exact⟨⟨h.1,g1⟩,⟨λhm=>(g3 a hm).2 rfl,g2⟩,h.2,λc hc=>(g3 c hc).1⟩
   ·rintro⟨⟨g1,g2⟩,⟨g3,g4⟩,g5,g6⟩
    exact⟨g2,g4,λc hc=>⟨g6 c hc,λe=>g3 (e▸hc)⟩⟩
  ·rw[if_neg h]
   constructor
   ·intro h;cases h
   ·intro hh;exact absurd ⟨hh.1 a (by simp),hh.2.2 a (by simp)⟩ h
theorem B0p{n:Nat}:∀{l:List Fo},V5 n l=0↔∀f∈l,K7 f.tb=true/\f.cs≠[]/\(∀c∈f.cs,0<=c/\c<n)/\f.cs.Nodup
 |[]=>by simp[V5]
 |f::r=>by
  have h1:A0f n f=0↔K7 f.tb=true/\f.cs≠[]/\(∀c∈f.cs,0<=c/\c<n)/\f.cs.Nodup:=by
   unfold A0f
   by_cases g1:K7 f.tb=true
   ·rw[if_pos g1]
    by_cases g2:f.cs.length=0
    ·rw[if_pos g2]
     constructor
     ·intro h;cases h
     ·intro h;exact absurd (A2M.1 g2) h.2.1
    ·rw[if_neg g2,B7v]
     constructor
     ·rintro⟨a,b,_⟩;exact⟨g1,λe=>g2 (by rw[e];rfl),a,b⟩
     ·rintro⟨_,_,a,b⟩;exact⟨a,b,by simp⟩
   ·rw[if_neg g1]
    constructor
    ·intro h;cases h
    ·intro h;exact absurd h.1 g1
  unfold V5
  simp only[I9,forall_eq_or_imp]
  rw[<- h1,<- B0p (l:=r)]
  by_cases h2:A0f n f=0
  ·rw[if_pos h2];simp[h2]
  ·rw[if_neg h2];simp[h2]
theorem C9C{ks:List Int}{x:Ex}:A0b ks x=0↔L8 x<=24/\(F6 ks x).2=0/\((F6 ks x).1=3\/(F6 ks x).1=0):=by
 unfold A0b A17
 by_cases h1:24<L8 x
 ·rw[if_pos h1]
  constructor
  ·intro h;simp at h
  ·intro h;omega
 ·rw[if_neg h1]
  by_cases h2:(F6 ks x).2=0
  ·rw[if_pos h2]
   by_cases h3:(F6 ks x).1=3\/(F6 ks x).1=0
   ·rw[if_pos h3];simp[h2,h3];omega
   ·rw[if_neg h3];simp[h3]
  ·rw[if_neg h2];simp[h2]
theorem A9W{ks:List Int}:∀{l:List Ex},t6 ks l=0↔∀x∈l,L8 x<=24/\(F6 ks x).2=0/\((F6 ks x).1=3\/(F6 ks x).1=0)
 |[]=>by simp[t6]
 |f::r=>by
  unfold t6
  simp only[I9,forall_eq_or_imp]
  rw[<- C9C,<- A9W (l:=r)]
  by_cases h2:A0b ks f=0
  ·rw[if_pos h2];simp[h2]
  ·rw[if_neg h2];simp[h2]
theorem r6{t:Tb}:K8 t=0↔Vd t:=by
 constructor
 ·intro h
  obtain⟨h1,h2,h3,h4⟩:=B9R h
  obtain⟨l1,l2,h5⟩:=B73 h2
  obtain⟨c1,c2,_⟩:=B02.1 h5
  unfold A0i at h3
  have k0:t.ks.length≠0:=by intro e;rw[if_pos e] at h3;cases h3
  rw[if_neg k0] at h3
  obtain⟨k1,k2,_⟩:=B0A.1 h3
  unfold A19 at h4
  have f0:t.fs.length<=4:=by
   by_cases e:t.fs.length<=4
   ·exact e
   ·rw[if_neg e] at h4;cases h4
  rw[if_pos f0] at h4
  by_cases f1:V5 t.cs.length t.fs=0
  ·rw[if_pos f1] at h4
   unfold A16 at h4
   have x0:t.xs.length<=4:=by
    by_cases e:t.xs.length<=4
    ·exact e
    ·rw[if_neg e] at h4;cases h4
   rw[if_pos x0] at h4
   exact⟨h1,l1,l2,c1,c2,λe=>k0 (by rw[e];rfl),k1,k2,f0,B0p.1 f1,x0,A9W.1 h4⟩
  ·rw[if_neg f1] at h4;exact absurd h4 f1
 ·intro h
  have h2:t8 t.cs=0:=by
   unfold t8
   rw[if_pos ⟨h.l1,h.l2⟩]
   exact B02.2 ⟨h.co,h.nd,by simp⟩
  have h3:A0i t.cs t.ks=0:=by
   unfold A0i
   rw[if_neg (λe=>h.k0 (A2M.1 e))]
   exact B0A.2 ⟨h.ks,h.ka,λq hq=>by cases hq⟩
  have h4:A19 t=0:=by
   unfold A19 A16
   rw[if_pos h.fl,if_pos (B0p.2 h.fs),if_pos h.xl]
   exact A9W.2 h.xs
  unfold K8
  rw[if_pos h.nm,if_pos h2,if_pos h3,h4]
end Go.Proofs
end
section
set_option maxHeartbeats 8000000
namespace Go.Proofs
open Go.Bi
theorem C0B(t:Tb)(dc dk df dx:D)(h:M6 t dc dk df dx)(c:Ch)(hc:G7 c)(hq:D2 t c=0)(hfs:t.fs=[])(hk:c.k=1) :
  Pure Tryz.prog R3 [eT t.nm dc dk df dx,c.av] (.tup [eT t.nm (.sl (B2 (t.cs++[c.co]))) (C2 (A9 dk) (A0 t.ks)) (dF t.fs) (C2 (xL (t.xs.map (B9 0))).isEmpty (xL (t.xs.map (B9 0)))),.d (eI 0)]):=by
 have hC:=U3 t dc dk df dx h c hc
 rw[hq] at hC
 have hF:=R8 t.nm t.cs h.hl dc dk df dx h.dc c.nm
 have hl:=h.hl
 have hdf:=h.df
 have hfc:=h.hfc
 rw[hfs] at hdf hfc
 have hK:=A4B t.nm dc dk df dx (B2 t.cs) (A0 t.ks) (A9 dc) (A9 dk) (V0 _ (by rw[F4];omega) (I4 _) dc h.dc) (F9 _ (by rw[B7];have:=h.hk;omega) (D3 _) dk h.dk) hdf t.xs h.hxb h.hxs h.dx
 have hcl:=F4 t.cs
 have e1:B2 (t.cs++[c.co])=B2 t.cs++[c.co.ds]:=by simp[B2]
 rw[e1]
 obtain⟨k,nm,to,⟨cn,ck,cl⟩,⟨vk,vn,vs⟩⟩:=c
 dsimp only at hk
 subst hk
 obtain⟨f,hf⟩:∃f,f=D6 nm t.cs:=⟨_,rfl⟩
 have hF:Bi.Pure Tryz.prog U5 [eT t.nm dc dk df dx,.d (.str nm)] (.d (eI f)):=by rw[hf];exact hF
 rw[show dF t.fs=C2 true (H6 []) by rw[hfs];rfl]
 generalize B2 t.cs=Cs at hK hcl ⊢
 generalize A0 t.ks=Ks at hK hcl ⊢
 generalize xL (t.xs.map (B9 0))=Xs at hK hcl ⊢
 generalize A9 dk=b2 at hK hcl ⊢
 generalize A9 dc=b1 at hK hcl ⊢
 refine B5.deepP (Q:=λr os=>r=.tup [.agg [.d (.str t.nm),.arr 5 (Cs++[[.str cn,eI ck,.bool cl]]).length,.arr 6 Ks.length,.rs 8 0,.arr 9 Xs.length],.d (eI 0)]/\os[5]?=some (.arr (Cs++[[.str cn,eI ck,.bool cl]]) 3 0 false)/\os[6]?=some (.arr Ks 1 0 b2)/\os[8]?=some (.rarr [] 2 true)/\os[9]?=some (.arr Xs 7 0 Xs.isEmpty)) ?_ ?_
 ·refine V2.goO2 A6 rfl ?_
  repeat' first|refine st ?_|((with_reducible first|apply A8|apply A7);(·first|exact hC|exact hF))|((with_reducible first|apply I0|apply D7);(·exact hK);(try rintro _ _ ⟨rfl,rfl⟩))|((with_reducible apply I8);(·exact hK))|((with_reducible apply H8);refine st ?_;(with_reducible apply I5);(·exact rfl);refine st ?_;(with_reducible apply D7);(·exact hK);(try rintro _ _ ⟨rfl,rfl⟩))|(with_reducible first|apply A5|apply A4)<;>intro _
  exact⟨rfl,rfl,rfl,rfl,rfl⟩
 ·rintro r os ⟨rfl,hx0,hx1,hx2,hx3⟩
  refine V3 (rows:=[]) (fs:=[]) (.inl (.inr ⟨5,_,3,0,false,rfl,hx0,rfl⟩)) hx1 hx2 hx3 rfl (λi e g he hg=>?_)
  match i,he,hg with
  |i+0,he,hg=>simp at he
theorem C0D(t:Tb)(dc dk df dx:D)(h:M6 t dc dk df dx)(c:Ch)(hc:G7 c)(hq:D2 t c=0)(hfs:t.fs=[])(hk:c.k=3)(i:Nat)(hi:D6 c.nm t.cs=i)(co:Co)(hco:t.cs[i]?=some co)(hdc:dc=.sl (B2 t.cs)) :
  Pure Tryz.prog R3 [eT t.nm dc dk df dx,c.av] (.tup [eT t.nm (.sl (B2 (t.cs.set i ⟨c.to,co.k,co.nl⟩))) (C2 (A9 dk) (A0 t.ks)) (dF t.fs) (C2 (xL (t.xs.map (B9 0))).isEmpty (xL (t.xs.map (B9 0)))),.d (eI 0)]):=by
 have hC:=U3 t dc dk df dx h c hc
 rw[hq] at hC
 have hF:=R8 t.nm t.cs h.hl dc dk df dx h.dc c.nm
 have hl:=h.hl
 have hdf:=h.df
 have hfc:=h.hfc
 rw[hfs] at hdf hfc
 rw[hi] at hF
 have hK:=A4B t.nm dc dk df dx (B2 t.cs) (A0 t.ks) (A9 dc) (A9 dk) (V0 _ (by rw[F4];omega) (I4 _) dc h.dc) (F9 _ (by rw[B7];have:=h.hk;omega) (D3 _) dk h.dk) hdf t.xs h.hxb h.hxs h.dx
 have hcl:=F4 t.cs
 rw[show A9 dc=false by rw[hdc];rfl] at hK
 have hg:(B2 t.cs)[((i:Nat):Int).toNat]?=some [.str co.nm,eI co.k,.bool co.nl]:=O2 hco
 have hg2:(B2 t.cs)[i]?=some [.str co.nm,eI co.k,.bool co.nl]:=O2 hco
 have hmm:=I4 t.cs
 have hilt:i<(B2 t.cs).length:=by rw[hcl];exact(B3.1 hco).1
 have e1:B2 (t.cs.set i ⟨c.to,co.k,co.nl⟩)=(B2 t.cs).set i [.str c.to,eI co.k,.bool co.nl]:=by unfold B2;rw[W2]
 rw[e1]
 obtain⟨k,nm,to,⟨cn,ck,cl⟩,⟨vk,vn,vs⟩⟩:=c
 dsimp only at hk
 subst hk
 have hF:Bi.Pure Tryz.prog U5 [eT t.nm dc dk df dx,.d (.str nm)] (.d (eI i)):=hF
 rw[show dF t.fs=C2 true (H6 []) by rw[hfs];rfl]
 generalize B2 t.cs=Cs at hK hcl hg hg2 hmm hilt ⊢
 generalize A0 t.ks=Ks at hK hcl hg hg2 hmm hilt ⊢
 generalize xL (t.xs.map (B9 0))=Xs at hK hcl hg hg2 hmm hilt ⊢
 generalize A9 dk=b2 at hK hcl hg hg2 hmm hilt ⊢
 refine B5.deepP (Q:=λr os=>r=.tup [.agg [.d (.str t.nm),.arr 5 (Cs.set i [.str to,eI co.k,.bool co.nl]).length,.arr 6 Ks.length,.rs 8 0,.arr 9 Xs.length],.d (eI 0)]/\os[5]?=some (.arr (Cs.set i [.str to,eI co.k,.bool co.nl]) 3 0 false)/\os[6]?=some (.arr Ks 1 0 b2)/\os[8]?=some (.rarr [] 2 true)/\os[9]?=some (.arr Xs 7 0 Xs.isEmpty)) ?_ ?_
 ·refine V2.goO2 A6 rfl ?_
  rw[U4]
  repeat' first|refine st ?_|((with_reducible first|apply A8|apply A7);(·first|exact hC|exact hF))|((with_reducible first|apply I0|apply D7);(·exact hK);(try rintro _ _ ⟨rfl,rfl⟩))|((with_reducible apply I8);(·exact hK))|((with_reducible apply H8);refine st ?_;(with_reducible apply I5);(·exact rfl);refine st ?_;(with_reducible apply D7);(·exact hK);(try rintro _ _ ⟨rfl,rfl⟩))|(with_reducible first|apply A5|apply A4)<;>intro _
  exact⟨rfl,rfl,rfl,rfl,rfl⟩
 ·rintro r os ⟨rfl,hx0,hx1,hx2,hx3⟩
  refine V3 (rows:=[]) (fs:=[]) (.inl (.inr ⟨5,_,3,0,false,rfl,hx0,rfl⟩)) hx1 hx2 hx3 rfl (λi e g he hg=>?_)
  match i,he,hg with
  |i+0,he,hg=>simp at he
theorem C0E(t:Tb)(dc dk df dx:D)(h:M6 t dc dk df dx)(c:Ch)(hc:G7 c)(hq:D2 t c=0)(hfs:t.fs=[])(hk:c.k=4)(i:Nat)(hi:D6 c.nm t.cs=i)(co:Co)(hco:t.cs[i]?=some co)(hdc:dc=.sl (B2 t.cs)) :
  Pure Tryz.prog R3 [eT t.nm dc dk df dx,c.av] (.tup [eT t.nm (.sl (B2 (t.cs.set i ⟨co.nm,2,co.nl⟩))) (C2 (A9 dk) (A0 t.ks)) (dF t.fs) (C2 (xL (t.xs.map (B9 0))).isEmpty (xL (t.xs.map (B9 0)))),.d (eI 0)]):=by
 have hC:=U3 t dc dk df dx h c hc
 rw[hq] at hC
 have hF:=R8 t.nm t.cs h.hl dc dk df dx h.dc c.nm
 have hl:=h.hl
 have hdf:=h.df
 have hfc:=h.hfc
 rw[hfs] at hdf hfc
 rw[hi] at hF
 have hK:=A4B t.nm dc dk df dx (B2 t.cs) (A0 t.ks) (A9 dc) (A9 dk) (V0 _ (by rw[F4];omega) (I4 _) dc h.dc) (F9 _ (by rw[B7];have:=h.hk;omega) (D3 _) dk h.dk) hdf t.xs h.hxb h.hxs h.dx
 have hcl:=F4 t.cs
 rw[show A9 dc=false by rw[hdc];rfl] at hK
 have hg:(B2 t.cs)[((i:Nat):Int).toNat]?=some [.str co.nm,eI co.k,.bool co.nl]:=O2 hco
 have hg2:(B2 t.cs)[i]?=some [.str co.nm,eI co.k,.bool co.nl]:=O2 hco
 have hmm:=I4 t.cs
 have hilt:i<(B2 t.cs).length:=by rw[hcl];exact(B3.1 hco).1
 have e1:B2 (t.cs.set i ⟨co.nm,2,co.nl⟩)=(B2 t.cs).set i [.str co.nm,eI 2,.bool co.nl]:=by unfold B2;rw[W2]
 rw[e1]
 obtain⟨k,nm,to,⟨cn,ck,cl⟩,⟨vk,vn,vs⟩⟩:=c
 dsimp only at hk
 subst hk
 have hF:Bi.Pure Tryz.prog U5 [eT t.nm dc dk df dx,.d (.str nm)] (.d (eI i)):=hF
 rw[show dF t.fs=C2 true (H6 []) by rw[hfs];rfl]
 generalize B2 t.cs=Cs at hK hcl hg hg2 hmm hilt ⊢
 generalize A0 t.ks=Ks at hK hcl hg hg2 hmm hilt ⊢
 generalize xL (t.xs.map (B9 0))=Xs at hK hcl hg hg2 hmm hilt ⊢
 generalize A9 dk=b2 at hK hcl hg hg2 hmm hilt ⊢
 refine B5.deepP (Q:=λr os=>r=.tup [.agg [.d (.str t.nm),.arr 5 (Cs.set i [.str co.nm,eI 2,.bool co.nl]).length,.arr 6 Ks.length,.rs 8 0,.arr 9 Xs.length],.d (eI 0)]/\os[5]?=some (.arr (Cs.set i [.str co.nm,eI 2,.bool co.nl]) 3 0 false)/\os[6]?=some (.arr Ks 1 0 b2)/\os[8]?=some (.rarr [] 2 true)/\os[9]?=some (.arr Xs 7 0 Xs.isEmpty)) ?_ ?_
 ·refine V2.goO2 A6 rfl ?_
  rw[U4]
  repeat' first|refine st ?_|((with_reducible first|apply A8|apply A7);(·first|exact hC|exact hF))|((with_reducible first|apply I0|apply D7);(·exact hK);(try rintro _ _ ⟨rfl,rfl⟩))|((with_reducible apply I8);(·exact hK))|((with_reducible apply H8);refine st ?_;(with_reducible apply I5);(·exact rfl);refine st ?_;(with_reducible apply D7);(·exact hK);(try rintro _ _ ⟨rfl,rfl⟩))|(with_reducible first|apply A5|apply A4)<;>intro _
  exact⟨rfl,rfl,rfl,rfl,rfl⟩
 ·rintro r os ⟨rfl,hx0,hx1,hx2,hx3⟩
  refine V3 (rows:=[]) (fs:=[]) (.inl (.inr ⟨5,_,3,0,false,rfl,hx0,rfl⟩)) hx1 hx2 hx3 rfl (λi e g he hg=>?_)
  match i,he,hg with
  |i+0,he,hg=>simp at he
theorem C0C(t:Tb)(dc dk df dx:D)(h:M6 t dc dk df dx)(c:Ch)(hc:G7 c)(hq:D2 t c=0)(hfs:t.fs=[])(hk:c.k=2)(i:Nat)(hi:D6 c.nm t.cs=i)(hil:i<t.cs.length)(hdc:dc=.sl (B2 t.cs))(hkb:∀k∈t.ks,0<=k/\k<=1048576)(hfb:∀g∈t.fs,∀k∈g.cs,0<=k/\k<=1048576)(hxb:∀e∈t.xs.map (B9 0),e.bk<=1048576) :
  Pure Tryz.prog R3 [eT t.nm dc dk df dx,c.av] (.tup [eT t.nm (.sl (B2 (t.cs.eraseIdx i))) (C2 (A9 dk) (A0 (t.ks.map λc=>B0 c i))) (dF (t.fs.map (H9 i))) (C2 (xL (t.xs.map (B9 0))).isEmpty (xL ((t.xs.map (B9 0)).map (E3 (H7 t.cs.length i))))),.d (eI 0)]):=by
 have hC:=U3 t dc dk df dx h c hc
 rw[hq] at hC
 have hF:=R8 t.nm t.cs h.hl dc dk df dx h.dc c.nm
 have hl:=h.hl
 have hdf:=h.df
 have hfc:=h.hfc
 rw[hfs] at hdf hfc
 rw[hi] at hF
 have hK:=A4B t.nm dc dk df dx (B2 t.cs) (A0 t.ks) (A9 dc) (A9 dk) (V0 _ (by rw[F4];omega) (I4 _) dc h.dc) (F9 _ (by rw[B7];have:=h.hk;omega) (D3 _) dk h.dk) hdf t.xs h.hxb h.hxs h.dx
 have hcl:=F4 t.cs
 rw[show A9 dc=false by rw[hdc];rfl] at hK
 have hkN:A9 dk=true->t.ks=[]:=λhh=>by
  have:=l4 h.dk hh
  cases hks:t.ks with
  |nil=>rfl
  |cons a l=>rw[hks] at this;cases this
 have hxN:(xL (t.xs.map (B9 0))).isEmpty=true->t.xs.map (B9 0)=[]:=by
  intro hh
  cases hx:t.xs.map (B9 0) with
  |nil=>rfl
  |cons a l=>rw[hx] at hh;cases hh
 have hD:=λT0 T1 T2 T3 T4 T7=>C12 T0 T1 T2 T3 T4 T7 t.nm (B2 t.cs) (I4 _) i (by rw[hcl];exact hil) (by rw[hcl];exact hl) t.ks hkb h.hk (A9 dk) hkN (t.xs.map (B9 0)) (by rw[D5];exact h.hxs) hxb _ hxN 
 rw[hcl] at hD
 have hkl2:(A0 (t.ks.map λc=>B0 c i)).length=(A0 t.ks).length:=by rw[B7,B7,D5]
 have hxl2:(xL ((t.xs.map (B9 0)).map (E3 (H7 t.cs.length i)))).length=(xL (t.xs.map (B9 0))).length:=by rw[I6,I6,D5]
 have e1:B2 (t.cs.eraseIdx i)=(B2 t.cs).eraseIdx i:=A3Z _ _
 rw[e1]
 obtain⟨k,nm,to,⟨cn,ck,cl⟩,⟨vk,vn,vs⟩⟩:=c
 dsimp only at hk
 subst hk
 have hF:Bi.Pure Tryz.prog U5 [eT t.nm dc dk df dx,.d (.str nm)] (.d (eI i)):=hF
 rw[show dF (t.fs.map (H9 i))=C2 true (H6 []) by rw[hfs];rfl]
 rw[hcl] at hK
 generalize A0 (t.ks.map λc=>B0 c i)=K2 at hK hcl hkl2 hxl2 hD ⊢
 generalize xL ((t.xs.map (B9 0)).map (E3 (H7 t.cs.length i)))=X2 at hK hcl hkl2 hxl2 hD ⊢
 generalize (B2 t.cs).eraseIdx i=E2 at hK hcl hkl2 hxl2 hD ⊢
 generalize B2 t.cs=Cs at hK hcl hkl2 hxl2 hD ⊢
 generalize A0 t.ks=Ks at hK hcl hkl2 hxl2 hD ⊢
 generalize xL (t.xs.map (B9 0))=Xs at hK hcl hkl2 hxl2 hD ⊢
 generalize A9 dk=b2 at hK hcl hkl2 hxl2 hD ⊢
 refine B5.deepP (Q:=λr os=>r=.tup [.agg [.d (.str t.nm),.d (.sl E2),.arr 6 K2.length,.rs 8 0,.arr 9 X2.length],.d (eI 0)]/\os[6]?=some (.arr K2 1 0 b2)/\os[8]?=some (.rarr [] 2 true)/\os[9]?=some (.arr X2 7 0 Xs.isEmpty)) ?_ ?_
 ·rw[hkl2,hxl2]
  refine V2.goO2 A6 rfl ?_
  repeat' first|refine st ?_|((with_reducible first|apply A8|apply A7);(·first|exact hC|exact hF))|((with_reducible first|apply I0|apply D7);(·first|exact hK|exact hD _ _ _ _ _ _);(try rintro _ _ ⟨rfl,rfl⟩))|((with_reducible apply I8);(·first|exact hK|exact hD _ _ _ _ _ _))|((with_reducible apply H8);refine st ?_;(with_reducible apply I5);(·exact rfl);refine st ?_;(with_reducible apply D7);(·first|exact hK|exact hD _ _ _ _ _ _);(try rintro _ _ ⟨rfl,rfl⟩))|(with_reducible first|apply A5|apply A4)<;>intro _
  exact⟨rfl,rfl,rfl,rfl⟩
 ·rintro r os ⟨rfl,hx0,hx1,hx2⟩
  refine V3 (rows:=[]) (fs:=[]) (.inl (.inl rfl)) hx0 hx1 hx2 rfl (λi e g he hg=>?_)
  match i,he,hg with
  |i+0,he,hg=>simp at he
end Go.Proofs
end
section
set_option maxHeartbeats 8000000
namespace Go.Proofs
open Go.Bi
theorem C13(nm:List UInt8)(es:List (List D))(hm:∀e∈es,e.length=3)(i:Nat)(hi:i<es.length)(hel:es.length<=1048576)(ks:List Int)(hkb:∀k∈ks,0<=k/\k<=1048576)(hkl:ks.length<=1048576)(kn:Bool)(hkn:kn=true->ks=[])(xs:List Ex)(hxl:xs.length<=1048576)(hxb:∀e∈xs,e.bk<=1048576)(xn:Bool)(hxn:xn=true->xs=[])(c0:List Int)(b0:Bool)(t0:List UInt8)(hc0:c0.length<=1048576)(hcb0:∀k∈c0,0<=k/\k<=1048576)(hn0:b0=true->c0=[]) :
  B5 Tryz.prog A0s [.ptr 0 0,.d (eI i)] [.cells [.d (.str nm),.arr 1 es.length,.arr 2 (A0 ks).length,.rs 3 1,.arr 4 (xL xs).length],.arr es 3 0 false,.arr (A0 ks) 1 0 kn,.rarr [[.arr 5 (A0 c0).length,.d (.str t0)]] 2 false,.arr (xL xs) 7 0 xn,.arr (A0 c0) 1 0 b0]
   (λr os=>r=.tup []/\os=[.cells [.d (.str nm),.d (.sl (es.eraseIdx i)),.arr 2 (A0 ks).length,.rs 3 1,.arr 4 (xL xs).length],.arr (es.eraseIdx i++[L4]) 3 (es.length-1) false,.arr (A0 (ks.map λc=>B0 c i)) 1 0 kn,.rarr [[.arr 5 (A0 c0).length,.d (.str t0)]] 2 false,.arr (xL (xs.map (E3 (H7 es.length i)))) 7 0 xn,.arr (A0 (c0.map λc=>B0 c i)) 1 0 b0]):=by
 have hD:=fun {os:List AO} (ho:os[1]?=some (.arr es 3 0 false))=>A4N es hm i hi ho
 refine A4Q.goX A6 rfl ?_
 repeat' first|refine st ?_|(with_reducible first|apply A5|apply A4)<;>intro _
 refine A1t 4 7 rfl rfl ?_
 repeat' first|refine st ?_|(with_reducible first|apply A5|apply A4)<;>intro _
 refine J1 A6 A51 A4W (λ(k:Nat) (A:List (List D))=>[.arr 6 A.length,.d (eI k)]) (λk A=>[.cells [.d (.str nm),.arr 1 es.length,.arr 2 (A0 ks).length,.rs 3 1,.arr 4 (xL xs).length],.arr es 3 0 false,.arr (A0 ks) 1 0 kn,.rarr [[.arr 5 (A0 c0).length,.d (.str t0)]] 2 false,.arr (xL xs) 7 0 xn,.arr (A0 c0) 1 0 b0,.arr A 7 0 A.isEmpty]) (λk A=>k<=es.length/\A=xL (H7 k i)) (λk A=>es.length-k) 0 [] rfl rfl rfl rfl (λ_ _ _=>⟨rfl,rfl⟩) rfl ⟨by omega,by simp[H7,xL]⟩ ?_
 repeat' first|refine st ?_|(with_reducible first|apply A5|apply A4)<;>intro _
 intro k A ⟨h4,h5⟩
 have hAl:A.length=k:=by rw[h5,I6,A0N]
 have hAm:∀e∈A,e.length=7:=by rw[h5];exact O7 _
 by_cases hlt:k<es.length
 ·have hB:=V1 k i (by omega) (by omega)
  have hs:=A5X k i
  rw[<- h5] at hs
  obtain⟨b,hb⟩:∃b,b=B0 k i:=⟨_,rfl⟩
  rw[<- hb] at hB hs
  clear h5
  repeat' first|refine st ?_|((with_reducible first|apply A8|apply A7);(·exact hB))|(with_reducible first|apply A5|apply A4)<;>intro _
  refine⟨k+1,A++[[.int .i64 2,eI b,.int .i64 0,.int .i64 0,.str [],.str [],.nil]],?_,rfl,?_,by omega,by omega,hs⟩
  ·rfl
  ·rw[show(A++[[.int .i64 2,eI b,.int .i64 0,.int .i64 0,.str [],.str [],.nil]]).isEmpty=false by simp]
   first|rfl|skip
 ·have hke:k=es.length:=by omega
  rw[hke] at h5
  have hDc:=hD (os:=[.cells [.d (.str nm),.arr 1 es.length,.arr 2 (A0 ks).length,.rs 3 1,.arr 4 (xL xs).length],.arr es 3 0 false,.arr (A0 ks) 1 0 kn,.rarr [[.arr 5 (A0 c0).length,.d (.str t0)]] 2 false,.arr (xL xs) 7 0 xn,.arr (A0 c0) 1 0 b0,.arr A 7 0 A.isEmpty]) rfl
  obtain⟨es',hes'⟩:∃e,e=es.eraseIdx i:=⟨_,rfl⟩
  rw[<- hes'] at hDc ⊢
  obtain⟨M0,hM0⟩:∃L,L=H7 es.length i:=⟨_,rfl⟩
  have hMl:M0.length<=1048576:=by rw[hM0,A0N];exact hel
  rw[<- hM0] at h5 ⊢
  obtain⟨N0,hN0⟩:∃K,K=A0 (c0.map λc=>B0 c i):=⟨_,rfl⟩
  rw[<- hN0]
  repeat' first|(with_reducible apply H8)|refine st ?_|((with_reducible first|apply I0|apply D7);(·exact hDc);(try rintro _ _ ⟨rfl,rfl⟩))|((with_reducible apply I8);(·exact hDc))|((with_reducible apply H8);refine st ?_;(with_reducible apply I5);(·exact rfl);refine st ?_;(with_reducible apply D7);(·exact hDc);(try rintro _ _ ⟨rfl,rfl⟩))|(with_reducible first|apply A5|apply A4)<;>intro _
  refine F7 A6 A52 A4X (λ(j:Nat)=>[.d (eI j)]) (λj=>[.cells [.d (.str nm),.d (.sl es'),.arr 2 (A0 ks).length,.rs 3 1,.arr 4 (xL xs).length],.arr (es'++[L4]) 3 (es.length-1) false,.arr (A0 (D4 ks (λc=>B0 c i) j)) 1 0 kn,.rarr [[.arr 5 (A0 c0).length,.d (.str t0)]] 2 false,.arr (xL xs) 7 0 xn,.arr (A0 c0) 1 0 b0,.arr A 7 0 A.isEmpty]) (λj=>j<=ks.length) (λj=>ks.length-j) 0 rfl rfl rfl (by rw[o5];rfl) (λ_ _=>⟨rfl,rfl⟩) rfl (by omega) ?_
  repeat' first|refine st ?_|(with_reducible first|apply A5|apply A4)<;>intro _
  intro j h6
  have hKl:=o3 ks (λc=>B0 c i) j h6
  cases hy:ks[j]? with
  |some c=>
   obtain⟨hlt2,he2⟩:=B3.1 hy
   have hkf:kn=false:=by
    cases kn with
    |false=>rfl
    |true=>rw[hkn rfl] at hlt2;simp at hlt2
   subst hkf
   have hg:=N4 (n9 (λc=>B0 c i) hy)
   have hset:=o4 (λc=>B0 c i) hy
   obtain⟨cb1,cb2⟩:=hkb c (C4 hy)
   have hB:=V1 c i (by omega) (by omega)
   have hks:=B7 ks
   obtain⟨y,hyy⟩:∃y,y=B0 c i:=⟨_,rfl⟩
   rw[<- hyy] at hB hset
   have hset2:(A0 (D4 ks (λc=>B0 c i) j)).set j [eI y]=A0 (D4 ks (λc=>B0 c i) (j+1)):=by rw[m8,hset]
   have hml:=B7 (D4 ks (λc=>B0 c i) j)
   have hmm2:=D3 (D4 ks (λc=>B0 c i) j)
   obtain⟨X,hX⟩:∃X,X=A0 (D4 ks (λc=>B0 c i) j):=⟨_,rfl⟩
   rw[<- hX] at hg hset2 hml hmm2 ⊢
   repeat' first|refine st ?_|((with_reducible first|apply A8|apply A7);(·exact hB))|(with_reducible first|apply A5|apply A4)<;>intro _
   refine⟨j+1,rfl,rfl,?_,by omega,by omega⟩
   rw[show((j:Int)).toNat=j from G8 j,hset2]
  |none=>
   have hge:=D8.1 hy
   have hjk:j=ks.length:=by omega
   subst hjk
   rw[n8]
   have hks:=B7 ks
   obtain⟨K',hK'⟩:∃K,K=A0 (ks.map λc=>B0 c i):=⟨_,rfl⟩
   rw[<- hK']
   repeat' first|refine st ?_|(with_reducible first|apply A5|apply A4)<;>intro _
   refine A1u 2 ?_
   refine P8 A6 ?_
   repeat' first|refine st ?_|(with_reducible first|apply A5|apply A4)<;>intro _
   refine F7 A6 A0Z A0Y (λ(j:Nat)=>[.d (eI j)]) (λj=>[.cells [.d (.str nm),.d (.sl es'),.arr 2 (A0 ks).length,.rs 3 1,.arr 4 (xL xs).length],.arr (es'++[L4]) 3 (es.length-1) false,.arr K' 1 0 kn,.rarr [[.arr 5 (A0 c0).length,.d (.str t0)]] 2 false,.arr (xL xs) 7 0 xn,.arr (A0 (D4 c0 (λc=>B0 c i) j)) 1 0 b0,.arr A 7 0 A.isEmpty,.cells [.arr 5 (A0 c0).length,.d (.str t0)]]) (λj=>j<=c0.length) (λj=>c0.length-j) 0 rfl rfl rfl (by rw[o5];rfl) (λ_ _=>⟨rfl,rfl⟩) rfl (by omega) ?_
   repeat' first|refine st ?_|(with_reducible first|apply A5|apply A4)<;>intro _
   intro j h6
   have hKl:=o3 c0 (λc=>B0 c i) j h6
   cases hy:c0[j]? with
   |some c=>
    obtain⟨hlt2,he2⟩:=B3.1 hy
    have hkf:b0=false:=by
     cases b0 with
     |false=>rfl
     |true=>rw[hn0 rfl] at hlt2;simp at hlt2
    subst hkf
    have hg:=N4 (n9 (λc=>B0 c i) hy)
    have hset:=o4 (λc=>B0 c i) hy
    obtain⟨cb1,cb2⟩:=hcb0 c (C4 hy)
    have hB:=V1 c i (by omega) (by omega)
    have hks:=B7 c0
    obtain⟨y,hyy⟩:∃y,y=B0 c i:=⟨_,rfl⟩
    rw[<- hyy] at hB hset
    have hset2:(A0 (D4 c0 (λc=>B0 c i) j)).set j [eI y]=A0 (D4 c0 (λc=>B0 c i) (j+1)):=by rw[m8,hset]
    have hml:=B7 (D4 c0 (λc=>B0 c i) j)
    have hmm2:=D3 (D4 c0 (λc=>B0 c i) j)
    obtain⟨X,hX⟩:∃X,X=A0 (D4 c0 (λc=>B0 c i) j):=⟨_,rfl⟩
    rw[<- hX] at hg hset2 hml hmm2 ⊢
    repeat' first|refine st ?_|((with_reducible first|apply A8|apply A7);(·exact hB))|(with_reducible first|apply A5|apply A4)<;>intro _
    refine⟨j+1,rfl,rfl,?_,by omega,by omega⟩
    rw[show((j:Int)).toNat=j from G8 j,hset2]
   |none=>
    have hge:=D8.1 hy
    have hjk:j=c0.length:=by omega
    subst hjk
    rw[n8]
    have hks:=B7 c0
    rw[<- hN0]
    repeat' first|refine st ?_|(with_reducible first|apply A5|apply A4)<;>intro _
    refine P8 A6 ?_
    repeat' first|refine st ?_|(with_reducible first|apply A5|apply A4)<;>intro _
    have hAe:A.isEmpty=false:=by cases A with
     |nil=>simp at hAl;omega
     |cons a l=>rfl
    rw[hAe]
    have hXl:=I6 xs
    refine A2A 4 (id:=6) (len:=A.length) (sz:=7) (frz:=0) (nl:=false) (es:=A) rfl rfl rfl ?_
    rw[if_neg (by decide:¬(false=true))]
    repeat' first|refine st ?_|(with_reducible first|apply A5|apply A4)<;>intro _
    refine F7 A6 A53 A4Y (λ(q:Nat)=>[.d (eI q)]) (λq=>[.cells [.d (.str nm),.d (.sl es'),.arr 2 (A0 ks).length,.rs 3 1,.arr 4 (xL xs).length],.arr (es'++[L4]) 3 (es.length-1) false,.arr K' 1 0 kn,.rarr [[.arr 5 (A0 c0).length,.d (.str t0)]] 2 false,.arr (xL (L0 xs (E3 M0) q)) 7 0 xn,.arr N0 1 0 b0,.arr A 7 A.length false,.cells [.arr 5 (A0 c0).length,.d (.str t0)]]) (λq=>q<=xs.length) (λq=>xs.length-q) 0 rfl rfl rfl (by rw[A5V];rfl) (λ_ _=>⟨rfl,rfl⟩) rfl (by omega) ?_
    repeat' first|refine st ?_|(with_reducible first|apply A5|apply A4)<;>intro _
    intro q h7
    have hMb:∀a∈M0,a.bk<=1048576:=by
     intro a ha
     rw[hM0] at ha
     obtain⟨b,_,rfl⟩:=F1.1 ha
     unfold mvE Ex.bk
     rw[Ex.ds_mk]
     exact P3 rfl
    have hXql:=A5T xs (E3 M0) q h7
    cases hx:xs[q]? with
    |some x=>
     obtain⟨hlt3,he3⟩:=B3.1 hx
     have hxf:xn=false:=by
      cases xn with
      |false=>rfl
      |true=>rw[hxn rfl] at hlt3;simp at hlt3
     subst hxf
     have hg:=A5S (E3 M0) hx
     have hset:=A5U (E3 M0) hx
     have hS:=A4H M0 hMl hMb (.sl A) (by rw[h5];exact O6) x (hxb x (C4 hx))
     have hq1:=I6 (L0 xs (E3 M0) q)
     have hq2:=O7 (L0 xs (E3 M0) q)
     obtain⟨z,hz⟩:∃z,z=E3 M0 x:=⟨_,rfl⟩
     rw[<- hz] at hS hset
     have hset2:(xL (L0 xs (E3 M0) q)).set q z.ds=xL (L0 xs (E3 M0) (q+1)):=by rw[<- hset];unfold xL;rw[W2]
     obtain⟨o1,n1,v1,m1,l1,a1⟩:=x
     obtain⟨o2,n2,v2,m2,l2,a2⟩:=z
     have hg:=m4 _ _ _ _ _ _ _ hg
     rw[Ex.av_mk,Ex.av_mk] at hS
     rw[Ex.ds_mk] at hset2
     obtain⟨X,hX⟩:∃X,X=xL (L0 xs (E3 M0) q):=⟨_,rfl⟩
     rw[<- hX] at hg hset2 hq1 hq2 ⊢
     repeat' first|refine st ?_|((with_reducible first|apply A8|apply A7);(·exact hS))|(with_reducible first|apply A5|apply A4)<;>intro _
     refine⟨q+1,rfl,rfl,?_,by omega,by omega⟩
     rw[show((q:Int)).toNat=q from G8 q,hset2]
    |none=>
     have hge:=D8.1 hx
     have hqk:q=xs.length:=by omega
     subst hqk
     rw[A5R]
     repeat' first|refine st ?_|(with_reducible first|apply A5|apply A4)<;>intro _
     exact⟨rfl,rfl⟩
theorem C14(T0 T1 T2 T3 T4 T7:AO)(nm:List UInt8)(es:List (List D))(hm:∀e∈es,e.length=3)(i:Nat)(hi:i<es.length)(hel:es.length<=1048576)(ks:List Int)(hkb:∀k∈ks,0<=k/\k<=1048576)(hkl:ks.length<=1048576)(kn:Bool)(hkn:kn=true->ks=[])(xs:List Ex)(hxl:xs.length<=1048576)(hxb:∀e∈xs,e.bk<=1048576)(xn:Bool)(hxn:xn=true->xs=[])(c0:List Int)(b0:Bool)(t0:List UInt8)(hc0:c0.length<=1048576)(hcb0:∀k∈c0,0<=k/\k<=1048576)(hn0:b0=true->c0=[]) :
  B5 Tryz.prog A0s [.ptr 11 0,.d (eI i)] [T0,T1,T2,T3,T4,.arr es 3 0 false,.arr (A0 ks) 1 0 kn,T7,.rarr [[.arr 10 (A0 c0).length,.d (.str t0)]] 2 false,.arr (xL xs) 7 0 xn,.arr (A0 c0) 1 0 b0,.cells [.d (.str nm),.arr 5 es.length,.arr 6 (A0 ks).length,.rs 8 1,.arr 9 (xL xs).length]]
   (λr os=>r=.tup []/\os=[T0,T1,T2,T3,T4,.arr (es.eraseIdx i++[L4]) 3 (es.length-1) false,.arr (A0 (ks.map λc=>B0 c i)) 1 0 kn,T7,.rarr [[.arr 10 (A0 c0).length,.d (.str t0)]] 2 false,.arr (xL (xs.map (E3 (H7 es.length i)))) 7 0 xn,.arr (A0 (c0.map λc=>B0 c i)) 1 0 b0,.cells [.d (.str nm),.d (.sl (es.eraseIdx i)),.arr 6 (A0 ks).length,.rs 8 1,.arr 9 (xL xs).length]]):=by
 have:=B5.frame (K:=λr os=>r=.tup []/\os=[T0,T1,T2,T3,T4,.arr (es.eraseIdx i++[L4]) 3 (es.length-1) false,.arr (A0 (ks.map λc=>B0 c i)) 1 0 kn,T7,.rarr [[.arr 10 (A0 c0).length,.d (.str t0)]] 2 false,.arr (xL (xs.map (E3 (H7 es.length i)))) 7 0 xn,.arr (A0 (c0.map λc=>B0 c i)) 1 0 b0,.cells [.d (.str nm),.d (.sl (es.eraseIdx i)),.arr 6 (A0 ks).length,.rs 8 1,.arr 9 (xL xs).length]]) (C13 nm es hm i hi hel ks hkb hkl kn hkn xs hxl hxb xn hxn c0 b0 t0 hc0 hcb0 hn0) [11,5,6,8,9,10]
  [T0,T1,T2,T3,T4,.arr es 3 0 false,.arr (A0 ks) 1 0 kn,T7,.rarr [[.arr 10 (A0 c0).length,.d (.str t0)]] 2 false,.arr (xL xs) 7 0 xn,.arr (A0 c0) 1 0 b0,.cells [.d (.str nm),.arr 5 es.length,.arr 6 (A0 ks).length,.rs 8 1,.arr 9 (xL xs).length]] rfl (by decide) (λi o h=>by
   match i,h with
   |0,h=>cases h;rfl
   |1,h=>cases h;rfl
   |2,h=>cases h;rfl
   |3,h=>cases h;rfl
   |4,h=>cases h;rfl
   |5,h=>cases h;rfl
   |i+6,h=>simp at h) (λa ha=>by
    simp only[I9,m5,or_false] at ha
    rcases ha with rfl|rfl<;>simp[AV.bnd2,AV.bnd1]) (λo ho=>by
    simp only[I9,m5,or_false] at ho
    rcases ho with rfl|rfl|rfl|rfl|rfl|rfl
    ·exact L7 rfl
    ·exact L7 rfl
    ·exact L7 rfl
    ·exact L7 rfl
    ·exact L7 rfl
    ·exact L7 rfl
    ) (by
   rintro r bs' ⟨rfl,rfl⟩
   exact⟨rfl,rfl⟩)
 exact this
end Go.Proofs
end
