/- Texts of this claim, joined. No condition. -/
import Derived.Test.YtfnaleemmeejcaaGreatQ7
import Derived.Test.YtfnaleemmeejcaaGreatRows
set_option linter.unusedSimpArgs false
set_option linter.unusedVariables false
set_option maxRecDepth 10000
set_option maxHeartbeats 4000000
section
namespace Go.Proofs
open Go.Bi
def ins(l:List Int)(n:Int):List Int:=l.takeWhile (λx=>decide (x<n))++([n]++(l.dropWhile λx=>decide (x<n)).filter λx=>decide (x≠n))
structure Cd where
 op:Int
 col:Int
 v:Vl
abbrev Cd.ds(c:Cd):List D:=[eI c.op,eI c.col,eI c.v.k,eI c.v.n,.str c.v.s]
abbrev Cd.av(c:Cd):AV:=.agg [.d (eI c.op),.d (eI c.col),.d (eI c.v.k),.d (eI c.v.n),.d (.str c.v.s)]
def mir(op:Int):Int:=if op=9 then 11 else if op=11 then 9 else if op=10 then 12 else if op=12 then 10 else op
def D7F(op:Int):Bool:=decide (op=7\/op=9\/op=10\/op=11\/op=12)
def D81(op aop an:Int)(av:Vl)(bop bn:Int)(bv:Vl):Option Cd:=
 if aop=1 then (if bop=2/\av.k≠0/\N5 av=true then some ⟨mir op,bn,av⟩ else none)
 else if aop=2/\bop=1/\bv.k≠0/\N5 bv=true then some ⟨op,an,bv⟩ else none
def cond:Ex->Option Cd
 |.mk op _ _ _ _ [.mk aop an av _ _ _,.mk bop bn bv _ _ _]=>if D7F op then D81 op aop an av bop bn bv else none
 |_=>none
def okA(sz:Nat)(k:Nat)(A:List (List D)):Prop:=A.length+k<=2147483648/\∀e∈A,e.length=sz
theorem C2x{g:FuncId}{sz:Nat}(hsz:Nat.blt 0 sz=true){R:List (List D)}{ds:List D}(hE:C0 Tryz.prog A5d [.agg (ds.map .d),.clo g [0]] [.cells [.arr 1 0],.arr [] sz 0 true] (λr os=>r=.tup []/\os=[.cells [.arr 1 R.length],.arr R sz 0 R.isEmpty]))(E:List AV)(hEE:∀c∈E,∃x,c=.d x) :
  C0 Tryz.prog A5d [.agg (ds.map .d),.clo g [1]] [.cells E,.cells [.d .nil]] (λr os=>r=.tup []/\os=[.cells E,.cells [.arr 2 R.length],.arr R sz 0 R.isEmpty]):=by
 refine C0.nilc 1 0 sz hsz (cs:=[.d .nil]) rfl rfl ?_
 have:=C0.frame (K:=λr os=>r=.tup []/\os=[.cells E,.cells [.arr 2 R.length],.arr R sz 0 R.isEmpty]) hE [1,2] [.cells E,.cells [.arr 2 0],.arr [] sz 0 true] rfl (by decide) (λi o h=>by
  match i,h with
  |0,h=>cases h;rfl
  |1,h=>cases h;rfl
  |i+2,h=>simp at h) (λa ha=>by
   simp only[I2,V6,or_false] at ha
   rcases ha with rfl|rfl
   ·exact w9 _ _
   ·simp[AV.bnd2,AV.bnd1]) (λo ho=>by
   simp only[I2,V6,or_false] at ho
   rcases ho with rfl|rfl<;>simp[AO.bnd,AV.bnd1]) (by rintro r bs' ⟨rfl,rfl⟩;exact⟨rfl,rfl⟩)
 rw[G5,G5,V5,A1Z] at this
 exact this
theorem C1e(ds:List D):∀c∈ds.map AV.d,∃x,c=.d x:=λc hc=>by
 obtain⟨y,_,rfl⟩:=D9.1 hc
 exact⟨y,rfl⟩
def A35(A:List (List D))(x:Ex):List (List D):=A++[(A9 0 x).ds]
theorem C1b(l:List Ex):∀A,l.foldl A35 A=A++xL (l.map (A9 0)):=by
 induction l with
 |nil=>intro A;simp[xL]
 |cons x l ih=>
  intro A
  rw[A11,ih,A35,S6]
  simp[xL]
theorem E1S(k:Int)(x:Ex):(A9 k x).ds.length=7:=by
 obtain⟨op,n,v,nm,nl,args⟩:=x
 rw[A25,Ex.ds_mk];rfl
theorem B40(x:Ex)(hx:x.bk<=1073741824)(k:Nat)(A:List (List D))(hA:okA 7 (k+1) A):okA 7 k (A35 A x)/\C0 Tryz.prog A8Q [x.av,.ptr 0 0] [.cells [.arr 1 A.length],.arr A 7 0 A.isEmpty] (λr os=>r=.tup []/\os=[.cells [.arr 1 (A35 A x).length],.arr (A35 A x) 7 0 (A35 A x).isEmpty]):=by
 obtain⟨k1,k2⟩:=hA
 have hC:=A2S x hx 0
 have h7:=E1S 0 x
 unfold A35
 refine⟨⟨by simp;omega,λe he=>?_⟩,?_⟩
 ·rcases L9.1 he with h|h
  ·exact k2 e h
  ·simp at h;subst h;exact h7
 obtain⟨z,hz⟩:∃z,z=A9 0 x:=⟨_,rfl⟩
 rw[<- hz] at hC ⊢
 obtain⟨op,n,v,nm,nl,args⟩:=x
 obtain⟨o2,n2,v2,m2,l2,a2⟩:=z
 rw[Ex.av_mk,Ex.av_mk] at hC
 rw[Ex.av_mk,Ex.ds_mk]
 have e1:(A++[U3 o2 n2 v2 m2 (ng l2 (xL a2))]).isEmpty=false:=by simp
 rw[e1]
 obtain⟨b,hb⟩:∃b,b=A.isEmpty:=⟨_,rfl⟩
 rw[<- hb]
 have g1:0<=(A.length:Int)/\(A.length:Int)<((A++[[eI 0,eI 0,eI 0,eI 0,.str [],.str [],.nil]]).length:Nat):=by simp;omega
 have g2:(A++[[eI 0,eI 0,eI 0,eI 0,.str [],.str [],.nil]])[(A.length:Int).toNat]?=some [eI 0,eI 0,eI 0,eI 0,.str [],.str [],.nil]:=by simp
 have g3:(A++[[eI 0,eI 0,eI 0,eI 0,.str [],.str [],.nil]]).set (A.length:Int).toNat (U3 o2 n2 v2 m2 (ng l2 (xL a2)))=A++[U3 o2 n2 v2 m2 (ng l2 (xL a2))]:=by simp
 refine D00.goX A6 rfl ?_
 repeat' first|refine st ?_|((with_reducible apply A4);conv=>whnf)|refine⟨λ_=>?_,λ_=>?_⟩|fail
 all_goals exact⟨rfl,by simp⟩
theorem A8f(e:Ex)(he:e.bk<=1073741824):Pure Tryz.prog B1F [e.av] (.d (M4 (xL ((cj e).map (A9 0))))):=by
 have hl:=A6P e
 have hE:=(B46 A8Q 7 A35 (okA 7) B40 e he 0 [] ⟨by simp;omega,by simp⟩).2
 rw[C1b,A0J] at hE
 obtain⟨R,hR⟩:∃R,R=xL ((cj e).map (A9 0)):=⟨_,rfl⟩
 rw[<- hR] at hE ⊢
 obtain⟨op,n,v,nm,nl,args⟩:=e
 have hB:=C2x rfl hE ((U3 op n v nm (ng nl (xL args))).map .d) (C1e _)
 rw[Ex.ds_mk] at hB
 rw[Ex.av_mk]
 refine B5j.go A6 rfl ?_
 obtain⟨b,hb⟩:∃b,b=R.isEmpty:=⟨_,rfl⟩
 rw[<- hb] at hB
 unfold M4
 rw[<- hb]
 cases b with
 |true=>
  repeat' first|refine st ?_|((with_reducible apply A4);conv=>whnf)|((with_reducible first|apply O1|apply O0);(·exact hB);(try rintro _ _ ⟨rfl,rfl⟩))|((with_reducible apply O2);(·exact hB))|refine⟨λ_=>?_,λ_=>?_⟩|fail
  all_goals rfl
 |false=>
  repeat' first|refine st ?_|((with_reducible apply A4);conv=>whnf)|((with_reducible first|apply O1|apply O0);(·exact hB);(try rintro _ _ ⟨rfl,rfl⟩))|((with_reducible apply O2);(·exact hB))|refine⟨λ_=>?_,λ_=>?_⟩|fail
  all_goals rfl
def eqP(s op aop an bop bn:Int):Option (Int×Int):=
 if op=7/\aop=2/\bop=2/\min an bn<s/\s<=max an bn then some (min an bn,max an bn) else none
def eqn(s:Int):Ex->Option (Int×Int)
 |.mk op _ _ _ _ [.mk aop an _ _ _ _,.mk bop bn _ _ _ _]=>eqP s op aop an bop bn
 |_=>none
def eqs(s:Int)(e:Ex):List (Int×Int):=(cj e).filterMap (eqn s)
abbrev C13:TypeId:=3
abbrev C16:TypeId:=9
abbrev C17:TypeId:=25
abbrev B1T:TypeId:=22
abbrev D6S:TypeId:=78
theorem A92:Tryz.prog.cellsOf C13=1:=by kernel_rfl
theorem C1K:Tryz.prog.cellsOf C16=1:=by kernel_rfl
theorem C1L:Tryz.prog.cellsOf C17=3:=by kernel_rfl
theorem A3v{ds:List D}(h:WT Tryz.prog C13 ds):∃n,ds=[eI n]:=by
 obtain⟨a,ha,_,_⟩:=h.int' Tryz.underlying3
 exact⟨a,ha⟩
theorem C5G{ds:List D}(h:WT Tryz.prog C16 ds):∃s,ds=[.str s]:=by
 obtain⟨a,ha,_⟩:=h.str' Tryz.underlying9
 exact⟨a,ha⟩
theorem C5H{ds:List D}(h:WT Tryz.prog C17 ds):∃v:Vl,ds=v.ds:=by
 obtain⟨hl,hf⟩:=h.st' Tryz.underlying25
 rw[C1L] at hl
 match ds,hl with
 |[x,y,z],_=>
  have h0:=hf _ (Y7 ..)
  have h1:=hf _ (I8 _ (Y7 ..))
  have h2:=hf _ (I8 _ (I8 _ (Y7 ..)))
  dsimp only at h0 h1 h2
  rw[A92] at h0 h1
  rw[C1K] at h2
  obtain⟨a,ha⟩:=A3v h0
  obtain⟨b,hb⟩:=A3v h1
  obtain⟨s,hs⟩:=C5G h2
  simp at ha hb hs
  exact⟨⟨a,b,s⟩,by rw[ha,hb,hs]⟩
theorem E2M{ds:List D}(h:WT Tryz.prog B1T ds):∃d ks,ds=[d]/\B0 d (A5 ks):=by
 obtain⟨d,es,h1,h2,h4,h3⟩:=h.sl' Tryz.underlying22
 have:∃ks,es=A5 ks:=by
  clear h1 h2 h4
  induction es with
  |nil=>exact⟨[],rfl⟩
  |cons x es ih=>
   obtain⟨n,hn⟩:=A3v (h3 x (by simp))
   obtain⟨ks,hk⟩:=ih λy hy=>h3 y (by simp[hy])
   exact⟨n::ks,by rw[hn,hk];rfl⟩
 obtain⟨ks,rfl⟩:=this
 exact⟨d,ks,h1,h2⟩
theorem E2O{ds:List D}(h:WT Tryz.prog D6S ds):∃d row,ds=[d]/\B0 d (B2 row):=by
 obtain⟨d,es,h1,h2,h4,h3⟩:=h.sl' Tryz.underlying78
 have:∃row,es=B2 row:=by
  clear h1 h2 h4
  induction es with
  |nil=>exact⟨[],rfl⟩
  |cons x es ih=>
   obtain⟨n,hn⟩:=C5H (h3 x (by simp))
   obtain⟨ks,hk⟩:=ih λy hy=>h3 y (by simp[hy])
   exact⟨n::ks,by rw[hn,hk];rfl⟩
 obtain⟨ks,rfl⟩:=this
 exact⟨d,ks,h1,h2⟩
theorem E1W{d:D}{es:List (List D)}(h:B0 d es):D5 es<=J6 [d]:=by
 rcases h with ⟨rfl,rfl⟩|rfl
 ·simp[D5]
 ·simp only[J6,T6];omega
theorem C1A(H:Type):A51 (H:=H) Go.Proofs.YtfnaleemmeejcaaGreat.Rows.uptoBulk Go.Proofs.YtfnaleemmeejcaaGreat.Rows.uptoBulkAll where
 lit l:=by unfold Go.Proofs.YtfnaleemmeejcaaGreat.Rows.uptoBulk;split<;>simp_all
 str b:=by simp[Go.Proofs.YtfnaleemmeejcaaGreat.Rows.uptoBulk]
 nil:=by simp[Go.Proofs.YtfnaleemmeejcaaGreat.Rows.uptoBulk]
 sl es sp:=by simp[Go.Proofs.YtfnaleemmeejcaaGreat.Rows.uptoBulk]
 agg ps:=by simp[Go.Proofs.YtfnaleemmeejcaaGreat.Rows.uptoBulk]
 cons x l:=by simp[Go.Proofs.YtfnaleemmeejcaaGreat.Rows.uptoBulkAll]
abbrev B1S:TypeId:=26
abbrev B1R:TypeId:=28
theorem C1H:Tryz.prog.cellsOf B1S=1:=by kernel_rfl
theorem C1G:Tryz.prog.cellsOf B1R=7:=by kernel_rfl
theorem C5D{t:TypeId}{ds:List D}(h:WT Tryz.prog t ds):(t=B1R->∃e:Ex,ds=e.ds)/\(t=B1S->∃nl args,ds=[ng nl (xL args)]):=by
 induction h with
 |int h=>exact⟨λe=>(by subst e;rw[Tryz.underlying28] at h;cases h),λe=>(by subst e;rw[Tryz.underlying26] at h;cases h)⟩
 |bool h=>exact⟨λe=>(by subst e;rw[Tryz.underlying28] at h;cases h),λe=>(by subst e;rw[Tryz.underlying26] at h;cases h)⟩
 |str h=>exact⟨λe=>(by subst e;rw[Tryz.underlying28] at h;cases h),λe=>(by subst e;rw[Tryz.underlying26] at h;cases h)⟩
 |nil h=>exact⟨λe=>(by subst e;rw[Tryz.underlying28] at h;cases h),λe=>⟨true,[],rfl⟩⟩
 |@sl t e es h hl hs he ih=>
  refine⟨λe=>(by subst e;rw[Tryz.underlying28] at h;cases h),λe'=>?_⟩
  subst e'
  rw[Tryz.underlying26] at h
  cases h
  have:∃l,es=xL l:=by
   clear he hs hl
   induction es with
   |nil=>exact⟨[],rfl⟩
   |cons x es ihh=>
    obtain⟨n,hn⟩:=(ih x (by simp)).1 rfl
    obtain⟨ks,hk⟩:=ihh λy hy=>ih y (by simp[hy])
    exact⟨n::ks,by rw[hn,hk];rfl⟩
  obtain⟨l,rfl⟩:=this
  exact⟨false,l,rfl⟩
 |@st t fs ds h hl hf ih=>
  refine⟨λe=>?_,λe=>(by subst e;rw[Tryz.underlying26] at h;cases h)⟩
  subst e
  rw[Tryz.underlying28] at h
  cases h
  rw[C1G] at hl
  match ds,hl with
  |[d0,d1,d2,d3,d4,d5,d6],_=>
   have h0:=hf _ (Y7 ..)
   have h1:=hf _ (I8 _ (Y7 ..))
   have h2:=hf _ (I8 _ (I8 _ (Y7 ..)))
   have h3:=hf _ (I8 _ (I8 _ (I8 _ (Y7 ..))))
   have h4:=(ih _ (I8 _ (I8 _ (I8 _ (I8 _ (Y7 ..)))))).2 rfl
   dsimp only at h0 h1 h2 h3 h4
   rw[A92] at h0 h1
   rw[C1L] at h2
   rw[C1K] at h3
   rw[C1H] at h4
   obtain⟨a,ha⟩:=A3v h0
   obtain⟨b,hb⟩:=A3v h1
   obtain⟨v,hv⟩:=C5H h2
   obtain⟨s,hs⟩:=C5G h3
   obtain⟨nl,args,hx⟩:=h4
   simp at ha hb hs hx
   refine⟨.mk a b v s nl args,?_⟩
   rw[Ex.ds_mk,ha,hb,hs,hx]
   have hv:[d2,d3,d4]=[eI v.k,eI v.n,.str v.s]:=hv
   simp only[List.cons.injEq,and_true] at hv
   rw[hv.1,hv.2.1,hv.2.2]
theorem E2K{ds:List D}(h:WT Tryz.prog B1R ds):∃e:Ex,ds=e.ds:=(C5D h).1 rfl
theorem C6n(row:List Vl)(dr:D)(op n:Int)(v:Vl)(name:List UInt8)(d:D)(r:Vl)(h:Pure Tryz.prog A8K [eX op n v name d,.d dr] (eV r)):Pure Tryz.prog C08 [eX op n v name d,.d dr] (.d (eI (L8 r))):=by
 refine C9E.go A6 rfl ?_
 repeat' first|refine st ?_|((with_reducible apply A4);conv=>whnf)|((with_reducible first|apply E9|apply E8);(·exact A3A _))|refine⟨λ_=>?_,λ_=>?_⟩|fail
theorem D8G(op n:Int)(v:Vl)(l row:List Vl)(h1:op≠1)(h2:op≠2)(h3:op≠22):T8 op n v l row=(if op=4 then O9 (A02 (L8 (l.getD 0 C5)))
 else if op=5\/op=6 then O9 (lgF op (l.getD 0 C5) (l.drop 1))
 else if op=21 then T4 (decide ((l.getD 0 C5).k=0))
 else if op=23 then V8 l
 else if op=24 then A0f n (l.getD 0 C5) (l.getD 1 C5) (l.getD 2 C5) (l.getD 3 C5)
 else if op=19\/op=20 then Z4 op l
 else if 13<=op/\op<=18 then s6 op l
 else O9 (vCp op (l.getD 0 C5) (l.getD 1 C5))):=by
 unfold T8
 rw[if_neg h1,if_neg h2,if_neg h3]
theorem D7R{l:List Vl}{i:Nat}{v:Vl}(h:l[i]?=some v):V8 (l.drop i)=if v.k=0 then V8 (l.drop (i+1)) else v:=by
 obtain⟨hlt,he⟩:=B3.1 h
 rw[R4 hlt,he];rfl
theorem C6l(row:List Vl)(hr:row.length<=1073741824)(hrs:∀v∈row,v.s.length<=1073741824)(dr:D)(hdr:B0 dr (B2 row)):∀e:Ex,e.bk<=1073741824->Pure Tryz.prog A8K [e.av,.d dr] (eV (ev row e)):=by
 refine Ex.ind λop n v name nl args ih hbk=>?_
 obtain⟨b1,b2,b3,b4⟩:=Ex.bk_bounds hbk
 have ih':∀a∈args,Pure Tryz.prog A8K [a.av,.d dr] (eV (ev row a)):=λa ha=>ih a ha (b4 a ha)
 clear ih
 rw[Ex.av_mk]
 refine C9A.go A6 rfl ?_
 have hlen:=N1 args
 have hF:=B4a op n v name (ng nl (xL args)) (xL args) C7 b2 (by omega)
 rw[hlen] at hF
 have hm:=O6 args
 have hd:B0 (ng nl (xL args)) (xL args):=C7
 have hget:∀(i:Nat) (op' n':Int) (v':Vl) (name':List UInt8) (nl':Bool) (args':List Ex),args[i]?=some (.mk op' n' v' name' nl' args')->(xL args)[i]?=some (U3 op' n' v' name' (ng nl' (xL args'))):=λi op' n' v' name' nl' args' h=>by
  rw[<- Ex.ds_mk];exact b9 h
 obtain⟨d,hde⟩:∃d,d=ng nl (xL args):=⟨_,rfl⟩
 rw[<- hde] at hF hd ⊢
 obtain⟨es,hes⟩:∃es,es=xL args:=⟨_,rfl⟩
 rw[<- hes] at hlen hm hd hget
 rw[m7]
 cases hf:J7 op n v name args.length with
 |false=>
  rw[hf] at hF
  repeat' first|refine st ?_|((with_reducible apply A4);conv=>whnf)|((with_reducible first|apply E9|apply E8);(·exact w6))|refine⟨λ_=>?_,λ_=>?_⟩|fail
  all_goals rfl
 |true=>
 rw[hf] at hF
 rw[if_pos rfl]
 by_cases h1:op=1
 ·subst h1
  repeat' first|refine st ?_|((with_reducible apply A4);conv=>whnf)|refine⟨λ_=>?_,λ_=>?_⟩|fail
  all_goals rfl
 by_cases h2:op=2
 ·subst h2
  have hc:=C6p row hr hrs dr hdr n
  repeat' first|refine st ?_|((with_reducible apply A4);conv=>whnf)|refine⟨λ_=>?_,λ_=>?_⟩|fail
  all_goals rfl
 have hcnt:=A5q (A41 hf)
 by_cases h3:op=22
 ·subst h3
  have hl3:args.length=3:=by omega
  obtain⟨a,b,c,rfl⟩:∃a b c,args=[a,b,c]:=by
   match args,hl3 with
   |[a,b,c],_=>exact⟨a,b,c,rfl⟩
  have ia:=ih' a (by simp)
  have ib:=ih' b (by simp)
  have ic:=ih' c (by simp)
  obtain⟨o0,n0,v0,m0,l0,a0⟩:=a
  obtain⟨o1,n1,v1,m1,l1,a1⟩:=b
  obtain⟨o2,n2,v2,m2,l2,a2⟩:=c
  have g0:=hget 0 _ _ _ _ _ _ rfl
  have g1:=hget 1 _ _ _ _ _ _ rfl
  have g2:=hget 2 _ _ _ _ _ _ rfl
  rw[Ex.av_mk] at ia ib ic
  have it:=C6n row dr _ _ _ _ _ _ ia
  have e:T8 22 n v (List.map (ev row) [.mk o0 n0 v0 m0 l0 a0,.mk o1 n1 v1 m1 l1 a1,.mk o2 n2 v2 m2 l2 a2]) row=if L8 (ev row (.mk o0 n0 v0 m0 l0 a0))=2 then ev row (.mk o1 n1 v1 m1 l1 a1) else ev row (.mk o2 n2 v2 m2 l2 a2):=rfl
  rw[e]
  by_cases ht:L8 (ev row (.mk o0 n0 v0 m0 l0 a0))=2
  ·rw[if_pos ht]
   repeat' first|refine st ?_|((with_reducible apply A4);conv=>whnf)|refine⟨λ_=>?_,λ_=>?_⟩|fail
   all_goals rfl
  ·rw[if_neg ht]
   repeat' first|refine st ?_|((with_reducible apply A4);conv=>whnf)|refine⟨λ_=>?_,λ_=>?_⟩|fail
   all_goals rfl
 rw[D8G op n v _ row h1 h2 h3]
 have hlr:(List.replicate ((es.length:Int)).toNat z3).length=args.length:=by rw[A1E];omega
 repeat' first|refine st ?_|((with_reducible apply A4);conv=>whnf)|refine⟨λ_=>?_,λ_=>?_⟩|fail
 refine M5 A6 D31 D1G (λ(i:Nat) (A:List (List D))=>[.d (eI i)]) (λi A=>[.cells [.d (eI op),.d (eI n),.d (eI v.k),.d (eI v.n),.d (.str v.s),.d (.str name),.d d],.cells [.d (eI 0),.d (eI 0),.d (.str [])],.arr A 3 0 false]) (λi A=>i<=args.length/\A=Lv row args i) (λi _=>args.length-i) 0 (List.replicate ((es.length:Int)).toNat z3) rfl rfl rfl rfl (λ_ _ _=>⟨rfl,rfl⟩) rfl ⟨by omega,D3z row args _ hlen⟩ ?_
 repeat' first|refine st ?_|((with_reducible apply A4);conv=>whnf)|refine⟨λ_=>?_,λ_=>?_⟩|fail
 intro i A ⟨h4,h5⟩
 have hAl:A.length=args.length:=by rw[h5];exact D3w row args i h4
 have hAm:∀e∈A,e.length=3:=by rw[h5];exact D3x row args i
 have hlr2:(List.replicate ((es.length:Int)).toNat [D.int .i64 0,D.int .i64 0,D.str []]).length=A.length:=by rw[A1E];omega
 cases hx:args[i]? with
 |some x=>
  have hlt:=(B3.1 hx).1
  have hI:=ih' x (C3 hx)
  have hset:=D3y (row:=row) hx
  obtain⟨op',n',v',name',nl',args'⟩:=x
  rw[Ex.av_mk] at hI
  have hg:=hget i _ _ _ _ _ _ hx
  have hA:=D3v (row:=row) hlt
  rw[<- h5] at hA hset
  repeat' first|refine st ?_|((with_reducible apply A4);conv=>whnf)|refine⟨λ_=>?_,λ_=>?_⟩|fail
  exact⟨i+1,_,rfl,rfl,rfl,by omega,by omega,hset⟩
 |none=>
  have hge:=F2.1 hx
  rw[D3u hge] at h5
  clear ih' hget hF
  -- the values of the arguments
  obtain⟨l,hl⟩:∃l,l=args.map (ev row):=⟨_,rfl⟩
  have hll:l.length=args.length:=by rw[hl,D3]
  have hs:=C2M row args
  have hn:=C2L row args
  rw[<- hl] at h5 hs hn ⊢
  subst h5
  rcases hcnt with ⟨h,k⟩|⟨h,k⟩|⟨h,k⟩|⟨h,k⟩|⟨h,k⟩|⟨h,k⟩|⟨h,k⟩
  ·omega
  ·obtain⟨a,rfl⟩:∃a,l=[a]:=by
    match l,hll.trans k with
    |[a],_=>exact⟨a,rfl⟩
   have g0:(B2 [a])[(0:Nat)]?=some a.ds:=rfl
   rcases h with rfl|rfl|rfl|rfl
   ·have hC:=C6t a [] (by simp)
    repeat' first|refine st ?_|((with_reducible apply A4);conv=>whnf)|refine⟨λ_=>?_,λ_=>?_⟩|fail
    all_goals rfl
   ·have hC:=B48 18 [a] a a rfl rfl (by simp) hn ⟨by decide,by decide⟩
    repeat' first|refine st ?_|((with_reducible apply A4);conv=>whnf)|refine⟨λ_=>?_,λ_=>?_⟩|fail
    all_goals rfl
   ·have hC:=B4d 20 [a] (by simp) hs
    repeat' first|refine st ?_|((with_reducible apply A4);conv=>whnf)|refine⟨λ_=>?_,λ_=>?_⟩|fail
    all_goals rfl
   ·repeat' first|refine st ?_|((with_reducible apply A4);conv=>whnf)|((with_reducible first|apply E9|apply E8);(·exact A3z _))|refine⟨λ_=>?_,λ_=>?_⟩|fail
    all_goals rfl
  ·obtain⟨a,b,rfl⟩:∃a b,l=[a,b]:=by
    match l,hll.trans k with
    |[a,b],_=>exact⟨a,b,rfl⟩
   have g0:(B2 [a,b])[(0:Nat)]?=some a.ds:=rfl
   have g1:(B2 [a,b])[(1:Nat)]?=some b.ds:=rfl
   by_cases h19:op=19
   ·subst h19
    have hC:=B4d 19 [a,b] (by simp) hs
    repeat' first|refine st ?_|((with_reducible apply A4);conv=>whnf)|refine⟨λ_=>?_,λ_=>?_⟩|fail
    all_goals rfl
   by_cases h13:13<=op
   ·have hC:=B48 op [a,b] a b rfl rfl (by simp) hn ⟨h13,by omega⟩
    have e:(if op=4 then O9 (A02 (L8 ([a,b].getD 0 C5))) else if op=5\/op=6 then O9 (lgF op ([a,b].getD 0 C5) ([a,b].drop 1)) else if op=21 then T4 (decide (([a,b].getD 0 C5).k=0)) else if op=23 then V8 [a,b] else if op=24 then A0f n ([a,b].getD 0 C5) ([a,b].getD 1 C5) ([a,b].getD 2 C5) ([a,b].getD 3 C5) else if op=19\/op=20 then Z4 op [a,b] else if 13<=op/\op<=18 then s6 op [a,b] else O9 (vCp op ([a,b].getD 0 C5) ([a,b].getD 1 C5)))=s6 op [a,b]:=by
     rw[if_neg (by omega),if_neg (by omega),if_neg (by omega),if_neg (by omega),if_neg (by omega),if_neg (by omega),if_pos (by omega)]
    rw[e]
    rcases(show op=13\/op=14\/op=15\/op=16\/op=17 by omega) with rfl|rfl|rfl|rfl|rfl
    all_goals clear e
    all_goals repeat' first|refine st ?_|((with_reducible apply A4);conv=>whnf)|refine⟨λ_=>?_,λ_=>?_⟩|fail
    all_goals rfl
   ·have e:(if op=4 then O9 (A02 (L8 ([a,b].getD 0 C5))) else if op=5\/op=6 then O9 (lgF op ([a,b].getD 0 C5) ([a,b].drop 1)) else if op=21 then T4 (decide (([a,b].getD 0 C5).k=0)) else if op=23 then V8 [a,b] else if op=24 then A0f n ([a,b].getD 0 C5) ([a,b].getD 1 C5) ([a,b].getD 2 C5) ([a,b].getD 3 C5) else if op=19\/op=20 then Z4 op [a,b] else if 13<=op/\op<=18 then s6 op [a,b] else O9 (vCp op ([a,b].getD 0 C5) ([a,b].getD 1 C5)))=O9 (vCp op a b):=by
     rw[if_neg (by omega),if_neg (by omega),if_neg (by omega),if_neg (by omega),if_neg (by omega),if_neg (by omega),if_neg (by omega)];rfl
    rw[e]
    rcases(show op=7\/op=8\/op=9\/op=10\/op=11\/op=12 by omega) with rfl|rfl|rfl|rfl|rfl|rfl
    all_goals clear e
    all_goals repeat' first|refine st ?_|((with_reducible apply A4);conv=>whnf)|((with_reducible first|apply E9|apply E8);(·first|exact C6q _ _ _|exact A8k _))|refine⟨λ_=>?_,λ_=>?_⟩|fail
    all_goals rfl
  ·obtain⟨a,r,rfl⟩:∃a r,l=a::r:=by
    match l,hll with
    |[],h=>simp at h;omega
    |a::r,_=>exact⟨a,r,rfl⟩
   have hC:=C6s op h a r (by simp at hll;omega)
   rcases h with rfl|rfl
   ·repeat' first|refine st ?_|((with_reducible apply A4);conv=>whnf)|refine⟨λ_=>?_,λ_=>?_⟩|fail
    all_goals rfl
   ·repeat' first|refine st ?_|((with_reducible apply A4);conv=>whnf)|refine⟨λ_=>?_,λ_=>?_⟩|fail
    all_goals rfl
  ·omega
  ·obtain⟨rfl⟩:=h
   have hLl:=Q2 l
   have e:(if (23:Int)=4 then O9 (A02 (L8 (l.getD 0 C5))) else if (23:Int)=5\/(23:Int)=6 then O9 (lgF 23 (l.getD 0 C5) (l.drop 1)) else if (23:Int)=21 then T4 (decide ((l.getD 0 C5).k=0)) else if (23:Int)=23 then V8 l else if (23:Int)=24 then A0f n (l.getD 0 C5) (l.getD 1 C5) (l.getD 2 C5) (l.getD 3 C5) else if (23:Int)=19\/(23:Int)=20 then Z4 23 l else if 13<=(23:Int)/\(23:Int)<=18 then s6 23 l else O9 (vCp 23 (l.getD 0 C5) (l.getD 1 C5)))=V8 l:=rfl
   rw[e]
   repeat' first|refine st ?_|((with_reducible apply A4);conv=>whnf)|refine⟨λ_=>?_,λ_=>?_⟩|fail
   refine J5 A6 D32 D1H (λ(i:Nat)=>[.d (eI i)]) (λi=>[.cells [.d (eI 23),.d (eI n),.d (eI v.k),.d (eI v.n),.d (.str v.s),.d (.str name),.d d],.cells [.d (eI 0),.d (eI 0),.d (.str [])],.arr (B2 l) 3 0 false]) (λi=>i<=l.length/\V8 l=V8 (l.drop i)) (λi=>l.length-i) 0 rfl rfl rfl rfl (λ_ _=>⟨rfl,rfl⟩) rfl ⟨by omega,rfl⟩ ?_
   repeat' first|refine st ?_|((with_reducible apply A4);conv=>whnf)|refine⟨λ_=>?_,λ_=>?_⟩|fail
   intro j ⟨h6,h7⟩
   cases hy:l[j]? with
   |some w=>
    have hlt2:=(B3.1 hy).1
    have hg2:=m6 hy
    rw[D7R hy] at h7
    by_cases hk:w.k=0
    ·rw[if_pos hk] at h7
     repeat' first|refine st ?_|((with_reducible apply A4);conv=>whnf)|refine⟨λ_=>?_,λ_=>?_⟩|fail
     exact⟨j+1,rfl,rfl,rfl,by omega,by omega,h7⟩
    ·rw[if_neg hk] at h7
     rw[h7]
     repeat' first|refine st ?_|((with_reducible apply A4);conv=>whnf)|refine⟨λ_=>?_,λ_=>?_⟩|fail
     all_goals rfl
   |none=>
    have hge2:=F2.1 hy
    rw[R5 hge2] at h7
    rw[h7]
    repeat' first|refine st ?_|((with_reducible apply A4);conv=>whnf)|((with_reducible first|apply E9|apply E8);(·exact w6))|refine⟨λ_=>?_,λ_=>?_⟩|fail
    all_goals rfl
  ·obtain⟨a,b,c,e,rfl⟩:∃a b c e,l=[a,b,c,e]:=by
    match l,hll.trans k with
    |[a,b,c,e],_=>exact⟨a,b,c,e,rfl⟩
   subst h
   have hC:=C6w n a b c e
   repeat' first|refine st ?_|((with_reducible apply A4);conv=>whnf)|refine⟨λ_=>?_,λ_=>?_⟩|fail
   all_goals rfl
end Go.Proofs
end
section
namespace Go.Proofs
open Go.Bi
mutual
def T3:Ex->Ex->Bool
 |.mk op n v name nl args,.mk op' n' v' name' nl' args'=>decide (op=op')&&decide (n=n')&&decide (v=v')&&decide (name=name')&&smL args args'
def smL:List Ex->List Ex->Bool
 |[],[]=>true
 |a::l,b::m=>T3 a b&&smL l m
 |[],_::_=>false
 |_::_,[]=>false
end
theorem B0d:∀l m,smL l m=(decide (l.length=m.length)&&(l.zip m).all λp=>T3 p.1 p.2)
 |[],[]=>by simp[smL]
 |a::l,b::m=>by
  rw[smL,B0d l m]
  simp only[H7,List.zip_cons_cons,A1B]
  cases T3 a b<;>simp
 |[],_::_=>by simp[smL]
 |_::_,[]=>by simp[smL]
theorem B3B(op n:Int)(v:Vl)(name:List UInt8)(nl:Bool)(args:List Ex)(op' n':Int)(v':Vl)(name':List UInt8)(nl':Bool)(args':List Ex):T3 (.mk op n v name nl args) (.mk op' n' v' name' nl' args')=(decide (op=op')&&decide (n=n')&&decide (v=v')&&decide (name=name')&&smL args args'):=by rw[T3]
theorem C1g{α:Type}{p:α->Bool}{l:List α}{i:Nat}{x:α}(h:l[i]?=some x):(l.take (i+1)).all p=((l.take i).all p&&p x):=by
 rw[L5,h];simp
theorem C1f{α:Type}{p:α->Bool}{l:List α}{i:Nat}{x:α}(h:l[i]?=some x)(hx:p x=false):l.all p=false:=by
 rw[A50]
 intro e
 have:=K8.1 e x (C3 h)
 rw[hx] at this;cases this
theorem A4Y{args:List Ex}(i:Nat)(op' n':Int)(v':Vl)(name':List UInt8)(nl':Bool)(args':List Ex)(h:args[i]?=some (.mk op' n' v' name' nl' args')):(xL args)[i]?=some (U3 op' n' v' name' (ng nl' (xL args'))):=by
 rw[<- Ex.ds_mk];exact b9 h
theorem C6j(args args':List Ex)(hl:args.length<=2147483648)(hl':args'.length<=2147483648)(ih:∀a∈args,∀b∈args',Pure Tryz.prog A5b [a.av,b.av] (.d (.bool (T3 a b))))(d d':D)(hd:B0 d (xL args))(hd':B0 d' (xL args')):Pure Tryz.prog B1K [.d d,.d d',.d (.fn A5b)] (.d (.bool (smL args args'))):=by
 refine D04.go A6 rfl ?_
 have hlen:=N1 args
 have hm:=O6 args
 have hlen':=N1 args'
 have hm':=O6 args'
 have hget:=A4Y (args:=args)
 have hget':=A4Y (args:=args')
 obtain⟨es,hes⟩:∃es,es=xL args:=⟨_,rfl⟩
 rw[<- hes] at hlen hm hd hget
 obtain⟨es',hes'⟩:∃es,es=xL args':=⟨_,rfl⟩
 rw[<- hes'] at hlen' hm' hd' hget'
 obtain⟨q,hq⟩:∃q,q=smL args args':=⟨_,rfl⟩
 rw[<- hq]
 rw[B0d] at hq
 by_cases hll:args.length=args'.length
 rotate_left
 ·rw[decide_eq_false hll,Bool.false_and] at hq
  rw[hq]
  repeat' first|refine st ?_|refine⟨λ_=>?_,λ_=>?_⟩|fail
  all_goals first|rfl|(exfalso;omega)
 rw[decide_eq_true hll,R2] at hq
 have hl2:es.length=es'.length:=by omega
 repeat' first|refine st ?_|refine⟨λ_=>?_,λ_=>?_⟩|fail
 refine J5 A6 D3h D1W (λ(i:Nat)=>[.d (eI i)]) (λi=>[]) (λi=>i<=args.length/\((args.zip args').take i).all (λp=>T3 p.1 p.2)=true) (λi=>args.length-i) 0 rfl rfl rfl rfl (λ_ _=>⟨rfl,rfl⟩) rfl ⟨by omega,rfl⟩ ?_
 repeat' first|refine st ?_|refine⟨λ_=>?_,λ_=>?_⟩|fail
 intro i ⟨h4,h5⟩
 cases hx:args[i]? with
 |some x=>
  have hlt:=(B3.1 hx).1
  obtain⟨y,hy⟩:∃y,args'[i]?=some y:=⟨_,F1 (by omega)⟩
  have hz:(args.zip args')[i]?=some (x,y):=B16.2 ⟨hx,hy⟩
  have hI:=ih x (C3 hx) y (C3 hy)
  have hs:=C1g (p:=λp:Ex×Ex=>T3 p.1 p.2) hz
  have hn:=C1f (p:=λp:Ex×Ex=>T3 p.1 p.2) hz
  rw[h5,R2] at hs
  dsimp only at hs hn
  obtain⟨b,hb⟩:∃b,b=T3 x y:=⟨_,rfl⟩
  rw[<- hb] at hI hs hn
  obtain⟨o1,n1,v1,m1,l1,a1⟩:=x
  obtain⟨o2,n2,v2,m2,l2,a2⟩:=y
  rw[Ex.av_mk,Ex.av_mk] at hI
  have hg:=hget i _ _ _ _ _ _ hx
  have hg':es'[((i:Nat):Int).toNat]?=_:=hget' i _ _ _ _ _ _ hy
  have hlt':(i:Int)<es'.length:=by omega
  cases b with
  |true=>
   repeat' first|refine st ?_|refine⟨λ_=>?_,λ_=>?_⟩|fail
   exact⟨i+1,rfl,rfl,rfl,by omega,by omega,hs⟩
  |false=>
   rw[hn rfl] at hq
   rw[hq]
   repeat' first|refine st ?_|refine⟨λ_=>?_,λ_=>?_⟩|fail
   all_goals rfl
 |none=>
  have hge:=F2.1 hx
  rw[H0 (by rw[A6k];omega)] at h5
  rw[h5] at hq
  rw[hq]
  repeat' first|refine st ?_|refine⟨λ_=>?_,λ_=>?_⟩|fail
  all_goals rfl
theorem C6m:∀a:Ex,a.bk<=2147483648->∀b:Ex,b.bk<=2147483648->Pure Tryz.prog A5b [a.av,b.av] (.d (.bool (T3 a b))):=by
 refine Ex.ind λop n v name nl args ih hbk b hbb=>?_
 obtain⟨op',n',v',name',nl',args'⟩:=b
 obtain⟨b1,b2,b3,b4⟩:=Ex.bk_bounds hbk
 obtain⟨c1,c2,c3,c4⟩:=Ex.bk_bounds hbb
 have hE:=C6j args args' b1 c1 (λa ha b hb=>ih a ha (b4 a ha) b (c4 b hb)) (ng nl (xL args)) (ng nl' (xL args')) C7 C7
 rw[Ex.av_mk,Ex.av_mk,B3B]
 obtain⟨d,hde⟩:∃d,d=ng nl (xL args):=⟨_,rfl⟩
 obtain⟨d',hde'⟩:∃d,d=ng nl' (xL args'):=⟨_,rfl⟩
 rw[<- hde,<- hde'] at hE ⊢
 refine C9B.go A6 rfl ?_
 obtain⟨q,hq⟩:∃q,q=smL args args':=⟨_,rfl⟩
 rw[<- hq] at hE ⊢
 have hv:decide (v=v')=(decide (v.k=v'.k)&&(decide (v.n=v'.n)&&decide (v.s=v'.s))):=by
  rw[A0Z]
  simp only[decide_eq_true_eq,J9,A86]
 rw[hv]
 repeat' first|refine st ?_|refine⟨λ_=>?_,λ_=>?_⟩|fail
 all_goals simp_all
theorem B4y:∀a:Ex,a.bk<=2147483648->∀b:Ex,b.bk<=2147483648->Pure Tryz.prog A6q [a.av,b.av] (.d (.bool (T3 a b))):=by
 refine Ex.ind λop n v name nl args ih hbk b hbb=>?_
 obtain⟨op',n',v',name',nl',args'⟩:=b
 obtain⟨b1,b2,b3,b4⟩:=Ex.bk_bounds hbk
 obtain⟨c1,c2,c3,c4⟩:=Ex.bk_bounds hbb
 have ih':∀a∈args,∀b∈args',Pure Tryz.prog A6q [a.av,b.av] (.d (.bool (T3 a b))):=λa ha b hb=>ih a ha (b4 a ha) b (c4 b hb)
 clear ih
 rw[Ex.av_mk,Ex.av_mk,B3B]
 have hd:B0 (ng nl (xL args)) (xL args):=C7
 have hd':B0 (ng nl' (xL args')) (xL args'):=C7
 have hlen:=N1 args
 have hm:=O6 args
 have hlen':=N1 args'
 have hm':=O6 args'
 have hget:=A4Y (args:=args)
 have hget':=A4Y (args:=args')
 obtain⟨d,hde⟩:∃d,d=ng nl (xL args):=⟨_,rfl⟩
 obtain⟨d',hde'⟩:∃d,d=ng nl' (xL args'):=⟨_,rfl⟩
 rw[<- hde] at hd ⊢
 rw[<- hde'] at hd' ⊢
 obtain⟨es,hes⟩:∃es,es=xL args:=⟨_,rfl⟩
 rw[<- hes] at hlen hm hd hget
 obtain⟨es',hes'⟩:∃es,es=xL args':=⟨_,rfl⟩
 rw[<- hes'] at hlen' hm' hd' hget'
 refine C8T.go A6 rfl ?_
 have hv:decide (v=v')=(decide (v.k=v'.k)&&(decide (v.n=v'.n)&&decide (v.s=v'.s))):=by
  rw[A0Z]
  simp only[decide_eq_true_eq,J9,A86]
 by_cases hall:op=op'/\n=n'/\v=v'/\name=name'/\args.length=args'.length
 rotate_left
 ·have hr:(decide (op=op')&&decide (n=n')&&decide (v=v')&&decide (name=name')&&smL args args')=false:=by
   rw[A50]
   intro h
   simp only[J9,decide_eq_true_eq,B0d] at h
   exact hall ⟨h.1.1.1.1,h.1.1.1.2,h.1.1.2,h.1.2,h.2.1⟩
  rw[hr]
  clear hr
  have hlle:((es.length:Int)=es'.length)↔args.length=args'.length:=by omega
  rw[A86] at hall
  clear hget hget' ih'
  by_cases g1:op=op'
  rotate_left
  ·repeat' first|refine st ?_|refine⟨λ_=>?_,λ_=>?_⟩|fail
   all_goals rfl
  by_cases g2:n=n'
  rotate_left
  ·repeat' first|refine st ?_|refine⟨λ_=>?_,λ_=>?_⟩|fail
   all_goals rfl
  by_cases g3:v.k=v'.k/\v.n=v'.n/\v.s=v'.s
  rotate_left
  ·repeat' first|refine st ?_|refine⟨λ_=>?_,λ_=>?_⟩|fail
   all_goals first|rfl|(exfalso;simp_all)
  obtain⟨g3,g4,g5⟩:=g3
  by_cases g6:name=name'
  rotate_left
  ·repeat' first|refine st ?_|refine⟨λ_=>?_,λ_=>?_⟩|fail
   all_goals first|rfl|(exfalso;simp_all)
  have g7:¬(es.length:Int)=es'.length:=λh=>hall ⟨g1,g2,⟨g3,g4,g5⟩,g6,hlle.1 h⟩
  repeat' first|refine st ?_|refine⟨λ_=>?_,λ_=>?_⟩|fail
  all_goals first|rfl|(exfalso;simp_all;done)|(exfalso;omega)
 obtain⟨rfl,rfl,rfl,rfl,hll⟩:=hall
 obtain⟨q,hq⟩:∃q,q=(decide (op=op)&&decide (n=n)&&decide (v=v)&&decide (name=name)&&smL args args'):=⟨_,rfl⟩
 rw[<- hq]
 rw[B0d,decide_eq_true hll] at hq
 simp only[decide_true,R2] at hq
 have hl2:(es.length:Int)=es'.length:=by omega
 have hl3:es.length=es'.length:=by omega
 have r1:v.s=v.s:=rfl
 have r2:name=name:=rfl
 repeat' first|refine st ?_|refine⟨λ_=>?_,λ_=>?_⟩|fail
 refine J5 A6 D2s D17 (λ(i:Nat)=>[.d (eI i)]) (λi=>[.cells [.d (eI op),.d (eI n),.d (eI v.k),.d (eI v.n),.d (.str v.s),.d (.str name),.d d],.cells [.d (eI op),.d (eI n),.d (eI v.k),.d (eI v.n),.d (.str v.s),.d (.str name),.d d']]) (λi=>i<=args.length/\((args.zip args').take i).all (λp=>T3 p.1 p.2)=true) (λi=>args.length-i) 0 rfl rfl rfl rfl (λ_ _=>⟨rfl,rfl⟩) rfl ⟨by omega,rfl⟩ ?_
 repeat' first|refine st ?_|refine⟨λ_=>?_,λ_=>?_⟩|fail
 intro i ⟨h4,h5⟩
 cases hx:args[i]? with
 |some x=>
  have hlt:=(B3.1 hx).1
  obtain⟨y,hy⟩:∃y,args'[i]?=some y:=⟨_,F1 (by omega)⟩
  have hz:(args.zip args')[i]?=some (x,y):=B16.2 ⟨hx,hy⟩
  have hI:=ih' x (C3 hx) y (C3 hy)
  have hs:=C1g (p:=λp:Ex×Ex=>T3 p.1 p.2) hz
  have hn:=C1f (p:=λp:Ex×Ex=>T3 p.1 p.2) hz
  rw[h5,R2] at hs
  dsimp only at hs hn
  obtain⟨b,hb⟩:∃b,b=T3 x y:=⟨_,rfl⟩
  rw[<- hb] at hI hs hn
  obtain⟨o1,n1,v1,m1,l1,a1⟩:=x
  obtain⟨o2,n2,v2,m2,l2,a2⟩:=y
  rw[Ex.av_mk,Ex.av_mk] at hI
  have hg:=hget i _ _ _ _ _ _ hx
  have hg':es'[((i:Nat):Int).toNat]?=_:=hget' i _ _ _ _ _ _ hy
  have hlt':(i:Int)<es'.length:=by omega
  cases b with
  |true=>
   repeat' first|refine st ?_|refine⟨λ_=>?_,λ_=>?_⟩|fail
   exact⟨i+1,rfl,rfl,rfl,by omega,by omega,hs⟩
  |false=>
   rw[hn rfl] at hq
   rw[hq]
   repeat' first|refine st ?_|refine⟨λ_=>?_,λ_=>?_⟩|fail
   all_goals rfl
 |none=>
  have hge:=F2.1 hx
  rw[H0 (by rw[A6k];omega)] at h5
  rw[h5] at hq
  rw[hq]
  repeat' first|refine st ?_|refine⟨λ_=>?_,λ_=>?_⟩|fail
  all_goals rfl
end Go.Proofs
end
section
namespace Go.Proofs
open Go.Bi
theorem D7n(nl:Bool)(l:List (List D)):T6 (ng nl l)=D5 l+1:=by
 unfold ng
 split
 ·rename_i h
  simp only[J9,A0G] at h
  rw[h.2];rfl
 ·rfl
theorem D7m(f:Ex->Ex)(l:List Ex)(h:∀a∈l,(f a).bk<=a.bk):D5 (xL (l.map f))<=D5 (xL l):=by
 induction l with
 |nil=>exact D4 _
 |cons a l ih=>
  have h1:=h a (by simp)
  have h2:=ih λx hx=>h x (by simp[hx])
  unfold Ex.bk at h1
  simp only[G5,xL,D5] at h2 ⊢
  omega
theorem j6(k:Int):∀e:Ex,(A9 k e).bk<=e.bk:=by
 refine Ex.ind λop n v nm nl args ih=>?_
 have h:=D7m (A9 k) args ih
 rw[A25,Ex.bk,Ex.bk,Ex.ds_mk,Ex.ds_mk]
 simp only[J6,T6,D7n]
 omega
theorem B4x(l m:List Ex)(hlen:l.length=m.length)(hl:l.length<=1073741824)(h:∀(i:Nat)(x y:Ex),l[i]?=some x->m[i]?=some y->Pure Tryz.prog A6q [x.av,y.av] (.d (.bool true)))(d d':D)(hd:B0 d (xL l))(hd':B0 d' (xL m)):Pure Tryz.prog A8E [.d d,.d d'] (.d (.bool true)):=by
 have h1:=N1 l
 have hm:=O6 l
 have h1':=N1 m
 have hm':=O6 m
 have hg0:=A4Y (args:=l)
 have hg1:=A4Y (args:=m)
 obtain⟨es,hes⟩:∃es,es=xL l:=⟨_,rfl⟩
 obtain⟨es',hes'⟩:∃es,es=xL m:=⟨_,rfl⟩
 rw[<- hes] at h1 hm hd hg0
 rw[<- hes'] at h1' hm' hd' hg1
 have hee:(es.length:Int)=es'.length:=by omega
 refine C8S.go A6 rfl ?_
 repeat' first|refine st ?_|refine⟨λ_=>?_,λ_=>?_⟩|fail
 refine J5 A6 D2r D16 (λ(i:Nat)=>[.d (eI i)]) (λi=>[]) (λi=>i<=l.length) (λi=>l.length-i) 0 rfl rfl rfl rfl (λ_ _=>⟨rfl,rfl⟩) rfl (by omega) ?_
 repeat' first|refine st ?_|refine⟨λ_=>?_,λ_=>?_⟩|fail
 intro i h4
 cases hx:l[i]? with
 |some x=>
  have hlt:=(B3.1 hx).1
  obtain⟨y,hy⟩:∃y,m[i]?=some y:=⟨_,F1 (by omega)⟩
  have hS:=h i x y hx hy
  obtain⟨o1,n1,v1,m1,l1,a1⟩:=x
  obtain⟨o2,n2,v2,m2,l2,a2⟩:=y
  rw[Ex.av_mk,Ex.av_mk] at hS
  have hg:=hg0 _ _ _ _ _ _ _ hx
  have hg':es'[((i:Nat):Int).toNat]?=_:=hg1 i _ _ _ _ _ _ hy
  have hlt':(i:Int)<es'.length:=by omega
  repeat' first|refine st ?_|refine⟨λ_=>?_,λ_=>?_⟩|fail
  exact⟨i+1,rfl,rfl,rfl,by omega,by omega⟩
 |none=>
  have hge:=F2.1 hx
  repeat' first|refine st ?_|refine⟨λ_=>?_,λ_=>?_⟩|fail
  all_goals rfl
end Go.Proofs
end
section
namespace Go.Proofs
open Go.Bi
def K3(nl:Bool):List Ex->Ex
 |[]=>.mk 1 0 (T4 true) [] true []
 |[x]=>x
 |l=>.mk 5 0 C5 [] nl l
theorem A3K{nl:Bool}{l:List Ex}(h:2<=l.length):K3 nl l=.mk 5 0 C5 [] nl l:=by
 match l,h with
 |_::_::_,_=>rfl
theorem B0K(v:Vl):Pure Tryz.prog B1H [eV v] (eX 1 0 v [] .nil):=by
 refine D02.go A6 rfl ?_
 repeat' first|refine st ?_|refine⟨λ_=>?_,λ_=>?_⟩|fail
 all_goals rfl
theorem A8e(l:List Ex)(hb:∀x∈l,x.bk<=1073741824)(hl:l.length<=1073741824)(d:D)(hd:B0 d (xL l)):Pure Tryz.prog C0p [.d d] (K3 false (l.map (A9 0))).av:=by
 have h1:=N1 l
 have hm:=O6 l
 by_cases h0:l.length=0
 ·have hle:l=[]:=List.eq_nil_of_length_eq_zero h0
  subst hle
  rw[show(K3 false (List.map (A9 0) [])).av=eX 1 0 (T4 true) [] .nil by rw[V5,K3,Ex.av_mk];rfl]
  have hB:=A3z true
  have hC:=B0K (T4 true)
  refine B0Y.go A6 rfl ?_
  obtain⟨es,hes⟩:∃es,es=xL ([]:List Ex):=⟨_,rfl⟩
  rw[<- hes] at h1 hm hd
  repeat' first|refine st ?_|refine⟨λ_=>?_,λ_=>?_⟩|fail
  all_goals rfl
 by_cases hone:l.length=1
 ·match l,hone with
  |[x],_=>
   have hS:=A2S x (hb x (by simp)) 0
   rw[G5,V5,K3]
   have hg:=b9 (l:=[x]) (i:=0) rfl
   obtain⟨z,hz⟩:∃z,z=A9 0 x:=⟨_,rfl⟩
   rw[<- hz] at hS ⊢
   obtain⟨es,hes⟩:∃es,es=xL [x]:=⟨_,rfl⟩
   rw[<- hes] at h1 hm hd hg
   have h1:es.length=1:=h1
   obtain⟨o1,n1,v1,m1,l1,a1⟩:=x
   obtain⟨o2,n2,v2,m2,l2,a2⟩:=z
   rw[Ex.av_mk,Ex.av_mk] at hS
   rw[Ex.av_mk]
   rw[Ex.ds_mk] at hg
   refine B0Y.go A6 rfl ?_
   repeat' first|refine st ?_|refine⟨λ_=>?_,λ_=>?_⟩|fail
   all_goals rfl
 rw[A3K (by rw[D3];omega),Ex.av_mk]
 obtain⟨R,hR⟩:∃R,R=xL (l.map (A9 0)):=⟨_,rfl⟩
 rw[<- hR]
 rw[show ng false R=.sl R by unfold ng;simp]
 have hg0:=A4Y (args:=l)
 obtain⟨es,hes⟩:∃es,es=xL l:=⟨_,rfl⟩
 rw[<- hes] at h1 hm hd hg0
 refine B0Y.go A6 rfl ?_
 repeat' first|refine st ?_|refine⟨λ_=>?_,λ_=>?_⟩|fail
 refine E2Y 1 6 7 rfl rfl rfl ?_
 refine M5 A6 D3d D1S (λ(i:Nat) (w:List (List D)×Bool)=>[.d (eI i)]) (λi w=>[.cells [.d (eI 0),.d (eI 0),.d (eI 0),.d (eI 0),.d (.str []),.d (.str []),.d .nil],.cells [.d (eI 5),.d (eI 0),.d (eI 0),.d (eI 0),.d (.str []),.d (.str []),.arr 2 w.1.length],.arr w.1 7 0 w.2]) (λi w=>i<=l.length/\w.1=Mt (A9 0) l i/\w.2=w.1.isEmpty) (λi _=>l.length-i) 0 ([],true) rfl rfl rfl rfl (λ_ _ _=>⟨rfl,rfl⟩) rfl ⟨by omega,rfl,rfl⟩ ?_
 repeat' first|refine st ?_|refine⟨λ_=>?_,λ_=>?_⟩|fail
 intro i w ⟨h4,h5,h6⟩
 obtain⟨A,b⟩:=w
 dsimp only at h5 h6 ⊢
 have hAl:A.length=i:=by rw[h5];exact B8O _ l i (by omega)
 have hAm:∀e∈A,e.length=7:=by rw[h5];exact B8P _ _ _
 cases hx:l[i]? with
 |some x=>
  have hlt:=(B3.1 hx).1
  have hs:=B8Q (φ:=A9 0) hx
  have hS:=A2S x (hb x (C3 hx)) 0
  rw[<- h5] at hs
  obtain⟨z,hz⟩:∃z,z=A9 0 x:=⟨_,rfl⟩
  rw[<- hz] at hs hS
  obtain⟨o1,n1,v1,m1,l1,a1⟩:=x
  obtain⟨o2,n2,v2,m2,l2,a2⟩:=z
  have hg:=hg0 _ _ _ _ _ _ _ hx
  rw[Ex.ds_mk] at hs
  rw[Ex.av_mk,Ex.av_mk] at hS
  repeat' first|refine st ?_|refine⟨λ_=>?_,λ_=>?_⟩|fail
  exact⟨i+1,(A++[U3 o2 n2 v2 m2 (ng l2 (xL a2))],false),rfl,rfl,rfl,by omega,by omega,hs,by simp⟩
 |none=>
  have hge:=F2.1 hx
  rw[B8N hge,<- hR] at h5
  have h7:b=false:=by rw[h6,List.isEmpty_eq_false_iff];intro h;rw[h] at hAl;simp at hAl;omega
  rw[<- h5]
  rw[h7]
  repeat' first|refine st ?_|refine⟨λ_=>?_,λ_=>?_⟩|fail
  all_goals rfl
end Go.Proofs
end
section
namespace Go.Proofs
open Go.Bi
def C1Y(n:Int):List Int->Nat
 |[]=>0
 |z::l=>if (z::l).getD l.length 0<n then 0 else if n<=z then 1 else 2
def T7(n:Int)(x:Ex):Nat:=C1Y n (U8 x)
theorem A6U(n:Int)(x:Ex):(T7 n x=0/\U8 x=[])\/∃y z,(U8 x)[(U8 x).length-1]?=some y/\(U8 x)[0]?=some z/\((T7 n x=0/\y<n)\/(T7 n x=1/\¬y<n/\n<=z)\/(T7 n x=2/\¬y<n/\¬n<=z)):=by
 unfold T7
 cases hc:U8 x with
 |nil=>exact .inl ⟨rfl,rfl⟩
 |cons z l=>
  right
  have hy:(z::l)[(z::l).length-1]?=some ((z::l).getD l.length 0):=by
   rw[H6,H7,A6w,F1 (by simp)];rfl
  refine⟨_,z,hy,rfl,?_⟩
  rw[C1Y]
  by_cases h1:(z::l).getD l.length 0<n
  ·rw[if_pos h1];exact .inl ⟨rfl,h1⟩
  ·rw[if_neg h1]
   by_cases h2:n<=z
   ·rw[if_pos h2];exact .inr (.inl ⟨rfl,h1,h2⟩)
   ·rw[if_neg h2];exact .inr (.inr ⟨rfl,h1,h2⟩)
def C6(n:Int)(k:Nat)(L:List Ex):List Ex:=L.filter λx=>decide (T7 n x=k)
def St7(nl:Bool)(w:List (List D)×Bool)(l:List Ex)(i:Nat):Prop:=(∀e∈w.1,e.length=7)/\w.1.length<=i/\w.1=xL l/\w.2=(nl&&w.1.isEmpty)
theorem A5W{nl:Bool}{n:Int}{k:Nat}:St7 nl ([],nl) (C6 n k ([]:List Ex)) 0:=by
 refine⟨by simp,by simp,rfl,by simp⟩
theorem A5X(nl:Bool){n:Int}{L:List Ex}{i:Nat}{x:Ex}(hx:L[i]?=some x)(k:Nat){A:List (List D)}{c:Bool} :
  (T7 n x=k->(∀e∈A,e.length=7)->A.length<=i->A=xL (C6 n k (L.take i))->c=(nl&&A.isEmpty)->St7 nl (A++[x.ds],false) (C6 n k (L.take (i+1))) (i+1))/\
  (T7 n x≠k->(∀e∈A,e.length=7)->A.length<=i->A=xL (C6 n k (L.take i))->c=(nl&&A.isEmpty)->St7 nl (A,c) (C6 n k (L.take (i+1))) (i+1)):=by
 have e:L.take (i+1)=L.take i++[x]:=by rw[L5,hx];rfl
 constructor
 ·intro h m l ea ec
  refine⟨λy hy=>?_,by simp;omega,?_,by simp⟩
  ·rcases L9.1 hy with hy|hy
   ·exact m y hy
   ·cases O4.1 hy
    exact O6 [x] _ (by simp[xL])
  ·rw[e,ea]
   unfold C6
   rw[A0E]
   simp[xL,h]
 ·intro h m l ea ec
  refine⟨m,by dsimp only;omega,?_,ec⟩
  rw[e]
  unfold C6 at ea ⊢
  rw[A0E]
  dsimp only
  rw[ea]
  simp[h]
theorem A48(l:List (List D)):M4 l=ng true l:=by unfold M4 ng;rw[R2]
theorem B4p(n:Int)(e:Ex)(he:e.bk<=1073741824):Pure Tryz.prog A5c [e.av,.d (eI n)] (.tup [.d (M4 (xL (C6 n 0 ((cj e).map (A9 0))))),.d (M4 (xL (C6 n 1 ((cj e).map (A9 0))))),.d (M4 (xL (C6 n 2 ((cj e).map (A9 0)))))]):=by
 have hj:=A8f e he
 have hLb:∀x∈(cj e).map (A9 0),x.bk<=1073741824:=λx hx=>by
  obtain⟨y,hy,rfl⟩:=D9.1 hx
  have h1:=C1N e y hy
  have h2:=j6 0 y
  omega
 have hLl:((cj e).map (A9 0)).length<=1073741824:=by rw[D3];have:=A6P e;omega
 obtain⟨L,hL⟩:∃L,L=(cj e).map (A9 0):=⟨_,rfl⟩
 rw[<- hL] at hj hLb hLl ⊢
 have hxl:=N1 L
 have hxm:=O6 L
 have hsL:B0 (M4 (xL L)) (xL L):=B3y
 obtain⟨dL,hdL⟩:∃d,d=M4 (xL L):=⟨_,rfl⟩
 rw[<- hdL] at hj hsL
 obtain⟨op,k,v,nm,nl,args⟩:=e
 rw[Ex.av_mk] at hj ⊢
 obtain⟨da,hda⟩:∃d,d=ng nl (xL args):=⟨_,rfl⟩
 rw[<- hda] at hj ⊢
 clear hda hdL hL he
 have r0:v.k=v.k:=rfl
 have r1:v.s=v.s:=rfl
 have r2:nm=nm:=rfl
 refine B5l.go A6 rfl ?_
 repeat' first|refine st ?_|refine⟨λ_=>?_,λ_=>?_⟩|fail
 refine T5 7 7 rfl rfl ?_
 repeat' first|refine st ?_|refine⟨λ_=>?_,λ_=>?_⟩|fail
 refine T5 8 7 rfl rfl ?_
 repeat' first|refine st ?_|refine⟨λ_=>?_,λ_=>?_⟩|fail
 refine T5 9 7 rfl rfl ?_
 repeat' first|refine st ?_|refine⟨λ_=>?_,λ_=>?_⟩|fail
 refine C5X A6 B8K B8E (λ(i:Nat) (w1 w2 w3:List (List D)×Bool)=>[.arr 1 w1.1.length,.arr 2 w2.1.length,.arr 3 w3.1.length,.d (eI i)]) (λi w1 w2 w3=>[.cells [.d (eI op),.d (eI k),.d (eI v.k),.d (eI v.n),.d (.str v.s),.d (.str nm),.d da],.arr w1.1 7 0 w1.2,.arr w2.1 7 0 w2.2,.arr w3.1 7 0 w3.2]) (λi w1 w2 w3=>i<=L.length/\St7 true w1 (C6 n 0 (L.take i)) i/\St7 true w2 (C6 n 1 (L.take i)) i/\St7 true w3 (C6 n 2 (L.take i)) i) (λi _ _ _=>L.length-i) 0 ([],true) ([],true) ([],true) rfl rfl rfl rfl (λ_ _ _ _ _=>⟨rfl,rfl⟩) rfl ⟨K1 _,A5W,A5W,A5W⟩ ?_
 repeat' first|refine st ?_|refine⟨λ_=>?_,λ_=>?_⟩|fail
 intro i w1 w2 w3 ⟨h1,h2,h3,h4⟩
 obtain⟨A1,c1⟩:=w1
 obtain⟨A2,c2⟩:=w2
 obtain⟨A3,c3⟩:=w3
 obtain⟨m1,l1,e1,f1⟩:=h2
 obtain⟨m2,l2,e2,f2⟩:=h3
 obtain⟨m3,l3,e3,f3⟩:=h4
 dsimp only at m1 l1 e1 f1 m2 l2 e2 f2 m3 l3 e3 f3 ⊢
 cases hx:L[i]? with
 |none=>
  have hge:=F2.1 hx
  rw[H0 hge] at e1 e2 e3
  rw[<- e1,<- e2,<- e3]
  repeat' first|refine st ?_|refine⟨λ_=>?_,λ_=>?_⟩|fail
  all_goals
   rw[R2] at f1 f2 f3
   rw[B2W f1,B2W f2,B2W f3]
 |some x=>
  have hlt:=(B3.1 hx).1
  have hgx:=b9 hx
  have hxin:=C3 hx
  have hC:=B0C x (hLb x hxin)
  have hks:B0 (A1c x) (A5 (U8 x)):=C2d x
  have hcl:=B2b x
  have hxb:=hLb x hxin
  have s0:=A5X true (n:=n) (A:=A1) (c:=c1) hx 0
  have s1:=A5X true (n:=n) (A:=A2) (c:=c2) hx 1
  have s2:=A5X true (n:=n) (A:=A3) (c:=c3) hx 2
  have hcs:=A6U n x
  obtain⟨ks,hk⟩:∃y,y=U8 x:=⟨_,rfl⟩
  obtain⟨dk,hdk⟩:∃y,y=A1c x:=⟨_,rfl⟩
  rw[<- hk] at hks hcl hcs
  rw[<- hdk] at hC hks
  have hkl:=G4 ks
  obtain⟨o1,n1,v1,u1,b1,a1⟩:=x
  rw[Ex.ds_mk] at hgx
  rw[Ex.av_mk] at hC
  simp only[Ex.ds_mk] at s0 s1 s2
  rcases hcs with ⟨hc,hks0⟩|⟨y,z,hy,hz,hcc⟩
  ·have hks0':ks.length=0:=by rw[hks0];rfl
   rw[hc] at s0 s1 s2
   repeat' first|refine st ?_|refine⟨λ_=>?_,λ_=>?_⟩|fail
   all_goals exact⟨i+1,(A1++[_],_),(A2,c2),(A3,c3),rfl,rfl,rfl,by omega,by omega,s0.1 rfl m1 l1 e1 f1,s1.2 (by decide) m2 l2 e2 f2,s2.2 (by decide) m3 l3 e3 f3⟩
  ·have hpos:=(B3.1 hz).1
   have hg1:(A5 ks)[((ks.length:Int)-1).toNat]?=some [eI y]:=by
    rw[show((ks.length:Int)-1).toNat=ks.length-1 by omega];exact Q1 hy
   have hg1':(A5 ks)[(((A5 ks).length:Int)-1).toNat]?=some [eI y]:=by rw[hkl];exact hg1
   have hg2:(A5 ks)[0]?=some [eI z]:=Q1 hz
   have hg3:(A5 ks)[(0:Int).toNat]?=some [eI z]:=hg2
   have hk0:ks.length≠0:=by omega
   rcases hcc with ⟨hc,q1⟩|⟨hc,q1,q2⟩|⟨hc,q1,q2⟩
   ·rw[hc] at s0 s1 s2
    repeat' first|refine st ?_|refine⟨λ_=>?_,λ_=>?_⟩|fail
    all_goals exact⟨i+1,(A1++[_],_),(A2,c2),(A3,c3),rfl,rfl,rfl,by omega,by omega,s0.1 rfl m1 l1 e1 f1,s1.2 (by decide) m2 l2 e2 f2,s2.2 (by decide) m3 l3 e3 f3⟩
   ·rw[hc] at s0 s1 s2
    repeat' first|refine st ?_|refine⟨λ_=>?_,λ_=>?_⟩|fail
    all_goals exact⟨i+1,(A1,c1),(A2++[_],_),(A3,c3),rfl,rfl,rfl,by omega,by omega,s0.2 (by decide) m1 l1 e1 f1,s1.1 rfl m2 l2 e2 f2,s2.2 (by decide) m3 l3 e3 f3⟩
   ·rw[hc] at s0 s1 s2
    repeat' first|refine st ?_|refine⟨λ_=>?_,λ_=>?_⟩|fail
    all_goals exact⟨i+1,(A1,c1),(A2,c2),(A3++[_],_),rfl,rfl,rfl,by omega,by omega,s0.2 (by decide) m1 l1 e1 f1,s1.2 (by decide) m2 l2 e2 f2,s2.1 rfl m3 l3 e3 f3⟩
end Go.Proofs
end
