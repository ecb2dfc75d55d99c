/- Texts of this claim, joined. No condition. -/
import Derived.Test.YtnhhopmldgpglaaGreatDoorQ3
import Derived.WalkKit
import Derived.Deep.RegionLaw
import Derived.Lib.SliceRun
import Derived.Lib.ReflectliteSwap
import Derived.Test.YtnhhopmldgpglaaGreatDoorRows
set_option linter.unusedSimpArgs false
set_option linter.unusedVariables false
set_option maxRecDepth 10000
set_option maxHeartbeats 4000000
section
namespace Go.Proofs
open Go.Bi
theorem A7p(t:Tb)(dc dk df dx:D)(h:N6 t dc dk df dx)(c:Ch)(hc:H6 c):Pure Tryz.prog B08 [eT t.nm dc dk df dx,c.av] (.d (eI (C7 t c))):=by
 have hT:=A9z t dc dk df dx h
 have hS:=C49 c
 have hA:=C47 t dc dk df dx h c hc.cn hc.vs
 have hF:=A3j t.nm t.cs h.hl dc dk df dx h.dc c.nm
 have hG:=A3j t.nm t.cs h.hl dc dk df dx h.dc c.to
 have hN:=A5i c.to hc.to
 have hU:=C4a t dc dk df dx h (D4 c.nm t.cs)
 have hl:=F3 t.cs
 have hme:=H8 t.cs
 have hdc:=h.dc
 obtain⟨q,hq⟩:∃q,q=C7 t c:=⟨_,rfl⟩
 rw[<- hq]
 unfold C7 A3F at hq
 have hfs:=λhh=>B1i (nm:=c.nm) (l:=t.cs) hh
 obtain⟨n0,hn0⟩:∃n:Nat,n=(c9 t).count (D4 c.nm t.cs):=⟨_,rfl⟩
 rw[<- hn0] at hq
 rw[show decide (D4 c.nm t.cs∈c9 t)=decide (0<n0) from decide_eq_decide.2 (by rw[hn0];exact List.count_pos_iff.symm)] at hU
 obtain⟨f,hf⟩:∃f,f=D4 c.nm t.cs:=⟨_,rfl⟩
 rw[<- hf] at hF hq hfs hU
 obtain⟨g,hg⟩:∃f,f=D4 c.to t.cs:=⟨_,rfl⟩
 rw[<- hg] at hG hq
 obtain⟨nb,hnb⟩:∃f,f=L5 c.to:=⟨_,rfl⟩
 rw[<- hnb] at hN hq
 obtain⟨ae,hae⟩:∃f,f=A0t t c:=⟨_,rfl⟩
 rw[<- hae] at hA hq
 obtain⟨te,hte⟩:∃f,f=H9 t:=⟨_,rfl⟩
 rw[<- hte] at hT hq
 have hix:0<=f->∃s k b,(A9 t.cs)[f.toNat]?=some [.str s,eI k,.bool b]/\j5 t f=k/\f<t.cs.length:=by
  intro hh
  obtain⟨d,h1,h2⟩:=hfs hh
  have h3:=(A7.1 h1).1
  exact⟨d.nm,d.k,d.nl,L4 h1,by unfold j5;rw[h1],by omega⟩
 obtain⟨k,nm,to,⟨cn,ck,cl⟩,⟨vk,vn,vs⟩⟩:=c
 obtain⟨es,hes⟩:∃es,es=A9 t.cs:=⟨_,rfl⟩
 rw[<- hes] at hl hdc hix hme
 obtain⟨ka,hka⟩:∃x,x=j5 t f:=⟨_,rfl⟩
 rw[<- hka] at hq hix
 obtain⟨m0,hm0⟩:∃m,m=t.cs.length:=⟨_,rfl⟩
 rw[<- hm0] at hl hix
 simp only[A3d] at hq
 dsimp only at hq hF hG hN hS hA hT hU
 clear hfs hf hg hnb hae hte hes hka hm0 hc h hn0
 have r1:nm=nm:=rfl
 have r2:to=to:=rfl
 have r3:cn=cn:=rfl
 have r4:vs=vs:=rfl
 by_cases h1:k=1
 ·rw[if_pos h1] at hS
  refine A7x.go A4 rfl ?_
  repeat' first|refine st ?_|refine⟨λ_=>?_,λ_=>?_⟩|fail
  all_goals (rw[hq];clear hq hF hN hG hS hA hT hU hix)
  all_goals (try dsimp only at *)
  all_goals first|(simp_all;done)|(simp_all;(try intros);(repeat' split)<;>omega)
 rw[if_neg h1] at hS
 by_cases h3:k=3
 ·rw[if_pos h3] at hS
  refine A7x.go A4 rfl ?_
  repeat' first|refine st ?_|refine⟨λ_=>?_,λ_=>?_⟩|fail
  all_goals (rw[hq];clear hq hF hN hG hS hA hT hU hix)
  all_goals (try dsimp only at *)
  all_goals first|(simp_all;done)|(simp_all;(try intros);(repeat' split)<;>omega)
 rw[if_neg h3] at hS
 by_cases hf0:f<0
 ·clear hix
  refine A7x.go A4 rfl ?_
  repeat' first|refine st ?_|refine⟨λ_=>?_,λ_=>?_⟩|fail
  all_goals (rw[hq];clear hq hF hN hG hS hA hT hU)
  all_goals (try dsimp only at *)
  all_goals first|(simp_all;done)|(simp_all;(try intros);(repeat' split)<;>omega)
 ·obtain⟨s,kk,b,hgt,rfl,hlt⟩:=hix (by omega)
  have hf1:0<=f:=by omega
  refine A7x.go A4 rfl ?_
  repeat' first|refine st ?_|refine⟨λ_=>?_,λ_=>?_⟩|fail
  all_goals (rw[hq];clear hq hF hN hG hS hA hT hU hix)
  all_goals (try dsimp only at *)
  all_goals first|(simp_all;done)|(simp_all;(try intros);(repeat' split)<;>omega)
end Go.Proofs
end
section
namespace Go.Proofs
open Go.RowKit Go.Lib
theorem D7F:Bi.tz Tryz.prog 31=some [.str [],.int .i64 0,.bool false]:=by kernel_rfl
theorem C26:Tryz.prog.underlying 22=some (.slice 31):=by kernel_rfl
theorem D4S:(Tryz.prog.info? 31).map (λi=>i.size)=some 3:=by kernel_rfl
theorem D8t(z:Array Value)(h:0<z.size):(Builtin.zeroCells z 1).toList=z.toList:=by
 apply A3o
 intro i
 simp only[Builtin.zeroCells,Nat.one_mul,A7k,Array.getElem?_map,Array.getElem?_range]
 by_cases hi:i<z.size
 ·simp[hi,Nat.mod_eq_of_lt hi]
 ·simp[hi]
theorem D73(w:World)(ty:TypeId)(z:Value)(hv:∀w,(zeroValue 31).run Tryz.prog w=.ok z w)(hz:z.cells.size=3)(h1:∀u∈z.cells.toList,u.oneCell'=true)(b o c:Nat)(hc:∀j,j<3->(w.cell? ⟨b,o+j,none⟩).isSome=true)(hf:∀j,j<3->w.frozen? ⟨b,o+j,none⟩=false) :
  (Builtin.clear_ #[22] ty #[.slice (some ⟨b,o,none⟩) 1 c]).run Tryz.prog w=.ok (.tuple #[]) (w.setCells b o z.cells.toList):=by
 have hzc:=D8t z.cells (by omega)
 have hst:=run_storeCells_cells (P:=Tryz.prog) b o z.cells.toList 0 w (by simpa[hz] using hc) (by simpa[hz] using hf) h1
 simp only[A1y] at hst
 simp[Builtin.clear_,run_underlying C26,hv,hzc,hst]
set_option maxHeartbeats 4000000 in
set_option maxRecDepth 1000000 in
theorem D3C(z:Value)(hv:∀w,(zeroValue 31).run Tryz.prog w=.ok z w)(hz:z.cells.size=3)(hz1:∀u∈z.cells.toList,u.oneCell'=true)(blk n cap i:Nat)(ca:Array Value)(w:World)(hi:i<n)(hl:n<=cap)(hm:cap<=9223372036854775807)(hsz:ca.size=cap*3)
  (hc:∀k,w.cell? ⟨blk,k,none⟩=ca[k]?) (hf:∀k,k<ca.size->w.frozen? ⟨blk,k,none⟩=false) (hone:∀k u,k<n*3->ca[k]?=some u->u.oneCell'=true) :
  Calls Tryz.prog 179 #[.slice (some ⟨blk,0,none⟩) n cap,.int .i64 i,.int .i64 ((i:Int)+1)] w λe w'=>e=.returned (.slice (some ⟨blk,0,none⟩) (n-1) cap)/\
   w'=(w.drew.setCells blk (0+i*3) ((ca.toList.drop ((i+1)*3)).take ((n-(i+1))*3))).setCells blk ((i+(n-(i+1)))*3) z.cells.toList:=by
 obtain⟨i0,hi0,hz1'⟩:=F7.1 D4S
 obtain⟨news,hnews⟩:∃news,news=(ca.toList.drop ((i+1)*3)).take ((n-(i+1))*3):=⟨_,rfl⟩
 have hlen:news.length=(n-(i+1))*3:=by rw[hnews];simp;omega
 have hget:∀t,t<(n-(i+1))*3->news[t]?=ca[(i+1)*3+t]?:=by
  intro t ht
  rw[hnews,Z0,if_pos ht,A0W,A7k]
 obtain⟨A,hA,hsrc⟩:∃A:Addr,(if cap=i+1 then some (⟨blk,0,none⟩:Addr) else some ⟨blk,(i+1)*3,none⟩)=some A/\Hid (∀t u,news[t]?=some u->w.drew.cell? (A.add t)=some u):=by
  by_cases h:cap=i+1
  ·refine⟨⟨blk,0,none⟩,by simp[h],λt u hu=>?_⟩
   have h0:news.length=0:=by rw[hlen];omega
   rw[A2K.1 h0] at hu
   simp at hu
  ·refine⟨⟨blk,(i+1)*3,none⟩,by simp[h],λt u hu=>?_⟩
   have ht:t<(n-(i+1))*3:=by
    have:=(A7.1 hu).1
    rwa [hlen] at this
   rw[hget t ht] at hu
   rw[Addr.add_lit]
   exact(hc _).trans hu
 have s1:Hid (news.length=(n-(i+1))*3):=hlen
 have s2:Hid (∀u∈news,u.oneCell'=true):=by
  intro u hu
  obtain⟨t,ht⟩:=A1t.1 hu
  have htl:t<(n-(i+1))*3:=by
   have:=(A7.1 ht).1
   rwa [hlen] at this
  rw[hget t htl] at ht
  exact hone _ u (by omega) ht
 have s3:Hid (∀t,t<news.length->(w.drew.cell? ⟨blk,0+i*3+t,none⟩).isSome=true/\w.drew.frozen? ⟨blk,0+i*3+t,none⟩=false):=by
  intro t ht
  rw[hlen] at ht
  have hk:0+i*3+t<ca.size:=by omega
  refine⟨?_,hf _ hk⟩
  show(w.cell? _).isSome=true
  rw[hc,J4 hk];rfl
 obtain⟨W1,hW1⟩:∃W1,W1=w.drew.setCells blk (0+i*3) news:=⟨_,rfl⟩
 have hcl:∀ty,(Builtin.clear_ #[22] ty #[.slice (some ⟨blk,(i+(n-(i+1)))*3,none⟩) (n-(i+(n-(i+1)))) (cap-(i+(n-(i+1))))]).run Tryz.prog W1=.ok (.tuple #[]) (W1.setCells blk ((i+(n-(i+1)))*3) z.cells.toList):=λty=>by
  rw[show n-(i+(n-(i+1)))=1 by omega]
  refine D73 W1 ty z hv hz hz1 blk _ _ (λj hj=>?_) (λj hj=>?_)
  ·rw[hW1]
   have hk:(i+(n-(i+1)))*3+j<ca.size:=by omega
   refine isSome_setCells blk _ _ _ _ ?_
   show(w.cell? _).isSome=true
   rw[hc,J4 hk];rfl
  ·rw[hW1,World.frozen?_setCells]
   exact hf _ (by omega)
 rw[<- hnews]
 obtain⟨zs,hzs⟩:∃zs,zs=z.cells.toList:=⟨_,rfl⟩
 rw[<- hzs] at hcl ⊢
 clear hzs hz1 hz hv
 have hW:Hid (W1=w.drew.setCells blk (0+i*3) news):=hW1
 have hic:i<=cap:=by omega
 have hjc:i+1<=cap:=by omega
 have hp0:(0:Int)<=(i:Int)+1:=by omega
 have M9:(i:Int)+1<=(n:Int):=by omega
 have hp2:((i:Int)+1).toNat=i+1:=by omega
 have hne:¬((i:Int)=(i:Int)+1):=by omega
 clear hW1 hc hf hget hnews hlen hone
 go_enter Tryz.func179,Tryz.ntmps179
 go_wp2_with fail
 go_region_law (refine step_append_room rfl (.tmp 22) (.tmp 25) 22 rfl 31 i0 3 C26 hi0 hz1' blk 0 i cap (by simp[Act.eval,Act.put]) A (n-(i+1)) (cap-(i+1)) news (by simp[Act.eval,Act.put]) s1.out hsrc.out s2.out (by omega) s3.out ?_;rw[<- hW.out])
 go_wp2
 go_ret
 exact⟨by rw[show n-1=i+(n-(i+1)) by omega];rfl,by rw[hW.out]⟩
end Go.Proofs
end
section
namespace Go.Bi
open Go
theorem B1z(b:Nat):∀(vs:List Value)(o:Nat)(w:World)(ca:Array Value)(t:TypeId),w.heap[b]?=some (.cells ca t (0,0))->
  ∃ca',(w.setCells b o vs).heap[b]?=some (.cells ca' t (0,0))/\ca'.size=ca.size/\(∀k,ca'[k]?=if o<=k/\k<o+vs.length/\k<ca.size then vs[k-o]? else ca[k]?)/\
   (∀b',b'≠b->(w.setCells b o vs).heap[b']?=w.heap[b']?)/\(w.setCells b o vs).os=w.os/\(w.setCells b o vs).tape=w.tape/\(w.setCells b o vs).output=w.output/\(w.setCells b o vs).heap.size=w.heap.size
 |[],o,w,ca,t,h=>⟨ca,h,rfl,λk=>by rw[if_neg (by simp;omega)],λ_ _=>rfl,rfl,rfl,rfl,rfl⟩
 |v::vs,o,w,ca,t,h=>by
  have h1:(w.setCell ⟨b,o,none⟩ v).heap[b]?=some (.cells (ca.setIfInBounds o v) t (0,0)):=by
   simp[World.setCell,A59,h]
  obtain⟨ca',a1,a2,a3,a4,a5,a6,a7,a8⟩:=B1z b vs (o+1) (w.setCell ⟨b,o,none⟩ v) _ t h1
  refine⟨ca',a1,by rw[a2];simp,λk=>?_,λb' hb=>?_,a5,a6,a7,by rw[World.setCells,a8];simp[World.setCell]⟩
  ·rw[a3 k]
   simp only[Array.size_setIfInBounds,H7]
   by_cases hk:k=o
   ·subst hk
    rw[if_neg (by omega)]
    by_cases hs:k<ca.size
    ·rw[if_pos (by omega),A3x,Array.getElem?_setIfInBounds_self_of_lt hs];rfl
    ·rw[if_neg (by omega),Array.getElem?_eq_none (by simp;omega),Array.getElem?_eq_none (by omega)]
   ·rw[A0T (λe=>hk e.symm)]
    by_cases hc:o+1<=k/\k<o+1+vs.length/\k<ca.size
    ·rw[if_pos hc,if_pos (by omega),show k-o=(k-(o+1))+1 by omega,l6]
    ·rw[if_neg hc,if_neg (by omega)]
  ·rw[World.setCells,a4 b' hb]
   simp[World.setCell,A59,o5 hb]
section
variable {P:Program}{M:C2}{G:Gh}{os:List AO}{w w':World}
theorem D70(he:C0 M G os w){id sz:Nat}{es es':List (List D)}(ho:os[id]?=some (.arr es sz 0 false))(hlen:es'.length=es.length)(hsz:∀e∈es',e.length=sz)(hos:w'.os=w.os)(htp:w'.tape=w.tape)(hout:w'.output=w.output)(hs:w'.heap.size=w.heap.size)
  (hoth:∀b,b≠G.blk id->w'.heap[b]?=w.heap[b]?) (hca:∀ca t,w.heap[G.blk id]?=some (.cells ca t (0,0))->∃ca',w'.heap[G.blk id]?=some (.cells ca' t (0,0))/\ca'.size=ca.size/\∀(i j:Nat) e x,es'[i]?=some e->e[j]?=some x->∃u,ca'[i*sz+j]?=some u/\Rd M x u) :
  C0 M G (os.set id (.arr es' sz 0 false)) w'/\D6 M G os w M G (os.set id (.arr es' sz 0 false)) w':=by
 obtain⟨h1,h2,h3,h4,h5⟩:=he.obj id _ ho
 obtain⟨ca,t,h6,h7,h8,h9,h10,h11⟩:=h5 rfl
 obtain⟨ca',k1,k2,k3⟩:=hca ca t h6
 have hlt:=(A7.1 ho).1
 have hno:∀a v,M a=some v->a.block=G.blk id->False:=λa v ha hb=>by
  obtain⟨es',sz',frz',nl',h12,h13⟩:=he.sep id a v (E3.arr ho) ha hb
  rw[ho] at h12
  cases h12
  omega
 have hk:M5 G G id (os.set id (.arr es' sz 0 false)) (.arr es sz 0 false):=⟨es',0,false,by simp[hlt],by omega,λ_=>⟨rfl,rfl,rfl⟩⟩
 have hsu:=n8 he (w':=w') (M':=M) ho rfl hos htp hout hs hoth (λ_ _ h=>h) (λ_ _ h=>.inl h) hk
 refine⟨x6 he ho rfl hos htp hout hs hoth (λ_ _ h=>h) (λ_ _ h=>.inl h) hk (λ_ _=>rfl) (λa v ha hb=>(hno a v ha hb).elim) (λa v ha hb=>(hno a v ha hb).elim) ?_,hsu⟩
 exact⟨h1,hsz,R1 _,λh=>(by cases h),λ_=>⟨ca',t,k1,by rw[k2];exact h7,by omega,h9,k3,λo ho=>by omega⟩⟩
end
end Go.Bi
end
section
namespace Go.Proofs
open Go.Bi
def M3:List D:=[.str [],.int .i64 0,.bool false]
theorem D4m{α:Type}(l:List α)(i:Nat)(hi:i<l.length)(r:Nat):(l.eraseIdx i)[r]?=if r<i then l[r]? else l[r+1]?:=by
 rw[A4f]
theorem A5l(es:List (List D))(hm:∀e∈es,e.length=3)(i:Nat)(hi:i<es.length){os:List AO}{id:Nat}(ho:os[id]?=some (.arr es 3 0 false)) :
  B0 Tryz.prog C9x [.arr id es.length,.d (eI i),.d (eI ((i:Int)+1))] os (λr os'=>r=.d (.sl (es.eraseIdx i))/\os'=os.set id (.arr (es.eraseIdx i++[M3]) 3 (es.length-1) false)):=by
 refine⟨⟨_,Tryz.func179,rfl,by decide⟩,λM G w vs hE hl hv=>?_⟩
 obtain⟨v0,v1,v2,rfl⟩:∃v0 v1 v2,vs=#[v0,v1,v2]:=by
  obtain⟨l⟩:=vs
  match l,hl with
  |[x,y,z],_=>exact⟨x,y,z,rfl⟩
 have hv0:=hv 0 _ v0 rfl rfl
 have hv1:Rd M (eI i) v1:=hv 1 _ v1 rfl rfl
 have hv2:Rd M (eI ((i:Int)+1)) v2:=hv 2 _ v2 rfl rfl
 cases hv1
 cases hv2
 obtain⟨h0,es0,sz0,frz0,nl0,h1,h2,h3⟩:=hv0
 rw[ho] at h1
 cases h1
 have hv:=h3 rfl
 subst hv
 unfold Gh.slv
 rw[if_neg (by decide)]
 obtain⟨z,hz1,hz2,hz3⟩:=A1Z (M:=M) D7F
 have hzs:z.cells.size=3:=hz2
 have hzone:∀u∈z.cells.toList,u.oneCell'=true:=by
  intro u hu
  obtain⟨j,hj⟩:=A1t.1 hu
  have hjl:j<3:=by have:=(A7.1 hj).1;simpa[hzs] using this
  have hr:=hz3 j ([D.str [],.int .i64 0,.bool false][j]) u (C3 (by simpa using hjl)) (by simpa using hj)
  exact Rd.oneCell hr
 obtain⟨k1,k2,k3,k4,k5⟩:=hE.obj id _ ho
 obtain⟨ca,t,h6,h7,h8,h9,h10,h11⟩:=k5 rfl
 have hcell:∀k,w.cell? ⟨G.blk id,k,none⟩=ca[k]?:=λk=>by simp[World.cell?,h6]
 have hfr:∀k,k<ca.size->w.frozen? ⟨G.blk id,k,none⟩=false:=λk _=>by simp[World.frozen?,h6]
 have hone:∀k u,k<es.length*3->ca[k]?=some u->u.oneCell'=true:=by
  intro k u hk hu
  have hr:k / 3<es.length:=by omega
  have he:es[k / 3]?=some es[k / 3]:=C3 hr
  have hlen:=hm _ (B9 he)
  have hx:es[k / 3][k % 3]?=some es[k / 3][k % 3]:=C3 (by omega)
  obtain⟨u',hu',hrd⟩:=h10 _ _ _ _ he hx
  rw[show k / 3*3+k % 3=k by omega,hu] at hu'
  cases hu'
  exact Rd.oneCell hrd
 refine(D3C z hz1 hzs hzone (G.blk id) es.length (G.cap id) i ca w hi h8 (by unfold maxLen at h9;omega) h7 hcell hfr hone).mono ?_
 rintro e w' ⟨rfl,rfl⟩
 obtain⟨news,hnews⟩:∃news,news=(ca.toList.drop ((i+1)*3)).take ((es.length-(i+1))*3):=⟨_,rfl⟩
 have hnl:news.length=(es.length-(i+1))*3:=by rw[hnews];simp;omega
 have hget:∀t,t<(es.length-(i+1))*3->news[t]?=ca[(i+1)*3+t]?:=by
  intro t ht
  rw[hnews,Z0,if_pos ht,A0W,A7k]
 rw[<- hnews]
 have hd:w.drew.heap[G.blk id]?=some (.cells ca t (0,0)):=h6
 obtain⟨ca1,a1,a2,a3,a4,a5,a6,a7,a8⟩:=B1z (G.blk id) news (0+i*3) w.drew ca t hd
 obtain⟨ca2,b1,b2,b3,b4,b5,b6,b7,b8⟩:=B1z (G.blk id) z.cells.toList ((i+(es.length-(i+1)))*3) _ ca1 t a1
 have hel:(es.eraseIdx i).length=es.length-1:=by rw[A1s,if_pos hi]
 obtain⟨e1,s1⟩:=D70 (w':=(w.drew.setCells (G.blk id) (0+i*3) news).setCells (G.blk id) ((i+(es.length-(i+1)))*3) z.cells.toList) hE.drew (id:=id) (sz:=3) (es':=es.eraseIdx i++[M3]) ho (by rw[J0,hel,A3r];omega) (λe he=>by
   rcases P4.1 he with he|he
   ·exact hm e (A9Q he)
   ·cases i7.1 he;rfl) (by rw[b5,a5]) (by rw[b6,a6]) (by rw[b7,a7]) (by rw[b8,a8]) (λb hb=>by rw[b4 b hb,a4 b hb]) (λca0 t0 hh=>by
   rw[hd] at hh
   cases hh
   refine⟨ca2,b1,by rw[b2,a2],λr j e x hr hj=>?_⟩
   have hrl:=(A7.1 hr).1
   rw[J0,hel,A3r] at hrl
   have hjl:j<3:=by
    have h:=(A7.1 hj).1
    rcases P4.1 (B9 hr) with he|he
    ·rwa [hm e (A9Q he)] at h
    ·cases i7.1 he;exact h
   rw[b3,a2]
   have hzl:z.cells.toList.length=3:=by simpa using hzs
   rw[hzl]
   by_cases hlast:r=es.length-1
   ·rw[if_pos (by omega)]
    rw[P8 (by omega),hel,show r-(es.length-1)=0 by omega] at hr
    cases hr
    rw[show r*3+j-(i+(es.length-(i+1)))*3=j by omega]
    have hju:z.cells[j]?=some z.cells[j]:=J4 (by omega)
    exact⟨z.cells[j],by rw[A7k];exact hju,hz3 j x _ hj hju⟩
   ·rw[if_neg (by omega),a3,hnl]
    rw[K4 (by omega),D4m es i hi] at hr
    by_cases hri:r<i
    ·rw[if_pos hri] at hr
     rw[if_neg (by omega)]
     exact h10 r j e x hr hj
    ·rw[if_neg hri] at hr
     rw[if_pos (by omega),hget _ (by omega),show(i+1)*3+(r*3+j-(0+i*3))=(r+1)*3+j by omega]
     exact h10 (r+1) j e x hr hj)
 have ho2:(os.set id (.arr (es.eraseIdx i++[M3]) 3 0 false))[id]?=some (.arr (es.eraseIdx i++[M3]) 3 0 false):=U2 ho
 obtain⟨e2,s2,r2⟩:=B9R e1 (id:=id) (m:=es.length-1) ho2 (by rw[J0,hel];omega)
 rw[List.set_set] at e2 s2
 refine⟨_,rfl,_,G,.d (.sl (es.eraseIdx i)),_,e2,((A2v ..).trans s1).trans s2,?_,rfl,rfl⟩
 have ht:(es.eraseIdx i++[M3]).take (es.length-1)=es.eraseIdx i:=by rw[<- hel,List.take_left]
 rw[ht] at r2
 exact r2
end Go.Proofs
end
section
namespace Go.Bi
open Go
theorem A7j{P:Program}{n nb:Nat}{cd:IC}{N:Sl->List AO->Prop}{E0:Nat->Sl->List AO->Prop}{R:Sl->List AO->Prop}{L:Sl}{os:List AO}(ts:List Nat)(vs:List AV)(σ:List Nat)(os2:List AO)(h1:R3 L ts=vs.map (mA (sg σ)))(hlv:vs.length=ts.length)(hn:σ.Nodup)
  (hσ:σ.take nb=List.range nb) (ho:σ.map (λs=>os[s]?)=os2.map (λo=>some (mO (sg σ) o))) (hid:(os2.take nb).map (mO (sg σ))=os2.take nb)
  (hb:vs.all (λv=>v.bndB os2.length)=true) (hb3:os2.all (λo=>o.bndB os2.length)=true) (k:l8 P n nb cd N E0 R (O8 ts vs) os2):l8 P n nb cd N E0 R L os:=by
 have hw:=D86 (n:=n) (nb:=nb) (ks:=[]) (ws:=[]) σ h1 rfl hlv hn hσ ho hid hb rfl hb3
 rw[show O8 ts vs++O8 [] []=O8 ts vs by show O8 ts vs++[]=_;rw[u7]] at hw
 refine⟨λcode hc c M G w a hR=>?_⟩
 obtain⟨M',G',hR'⟩:=hw c M G w a hR
 exact k.h code hc c M' G' w a hR'
end Go.Bi
namespace Go.Proofs
open Go.Bi
def A5:D->Bool
 |.nil=>true
 |_=>false
theorem G4(l:List (List D))(hl:l.length<=1048577)(hm:∀e∈l,e.length=1)(d:D)(hd:B3 d l):B0 Tryz.prog W9 [.d d] [] (λr os=>r=.arr 0 l.length/\os=[.arr l 1 0 (A5 d)]):=by
 rcases hd with ⟨rfl,rfl⟩|rfl
 ·refine B0.own_nil 1 (by decide) ?_
  refine A7E.go A4 rfl ?_
  repeat' first|refine st ?_|((with_reducible apply C4);conv=>whnf)|refine⟨λ_=>?_,λ_=>?_⟩|fail
 ·refine A7E.goO A4 rfl ?_
  have h0:([]:List (List D)).length=0:=rfl
  have h00:(([]:List (List D))++l).length=l.length:=rfl
  have hb:(([]:List (List D)).length+l.length)*8<=140737488355328/\([]:List (List D)).length+l.length<=9223372036854775807:=by rw[h0];omega
  repeat' first|refine st ?_|((with_reducible apply C4);conv=>whnf)|refine⟨λ_=>?_,λ_=>?_⟩|fail
  all_goals (refine⟨rfl,?_⟩;cases l<;>rfl)
theorem V4(l:List (List D))(hl:l.length<=1048577)(hm:∀e∈l,e.length=3)(d:D)(hd:B3 d l):B0 Tryz.prog A3w [.d d] [] (λr os=>r=.arr 0 l.length/\os=[.arr l 3 0 (A5 d)]):=by
 rcases hd with ⟨rfl,rfl⟩|rfl
 ·refine B0.own_nil 3 (by decide) ?_
  refine B3w.go A4 rfl ?_
  repeat' first|refine st ?_|((with_reducible apply C4);conv=>whnf)|refine⟨λ_=>?_,λ_=>?_⟩|fail
 ·refine B3w.goO A4 rfl ?_
  have h0:([]:List (List D)).length=0:=rfl
  have h00:(([]:List (List D))++l).length=l.length:=rfl
  have hb:(([]:List (List D)).length+l.length)*32<=140737488355328/\([]:List (List D)).length+l.length<=9223372036854775807:=by rw[h0];omega
  repeat' first|refine st ?_|((with_reducible apply C4);conv=>whnf)|refine⟨λ_=>?_,λ_=>?_⟩|fail
  all_goals (refine⟨rfl,?_⟩;cases l<;>rfl)
structure Fi where
 d:D
 es:List (List D)
 nl:Bool
 tb:List UInt8
def Fi.ok(f:Fi):Prop:=B0 Tryz.prog W9 [.d f.d] [] (λr os=>r=.arr 0 f.es.length/\os=[.arr f.es 1 0 f.nl])
def R6(l:List Fi):List (List D):=l.map λf=>[f.d,.str f.tb]
def A3U:Nat->List Fi->List (List AV)
 |_,[]=>[]
 |k,f::fs=>[.arr k f.es.length,.d (.str f.tb)]::A3U (k+1) fs
def B1A(fs:List Fi):List AO:=fs.map λf=>.arr f.es 1 0 f.nl
def oB(nm:List UInt8)(lc lk lf lx:Nat):List AV:=[.d (.str nm),.arr 2 lc,.arr 3 lk,.rs 5 lf,.arr 6 lx]
def j6(tab out:List AV)(nm:List UInt8)(C K:List (List D))(cn kn:Bool)(fs:List Fi)(A:List (List D))(an:Bool):List AO:=
 [.cells tab,.cells out,.arr C 3 0 cn,.arr K 1 0 kn,.cells (oB nm C.length K.length fs.length A.length),.rarr (A3U 7 fs) 2 fs.isEmpty,.arr A 7 0 an]++B1A fs
end Go.Proofs
end
section
namespace Go.Proofs
open Go.Bi
theorem A5d(nm:List UInt8)(dc dk df dx:D)(Cs Ks:List (List D))(cn kn:Bool)(hC:B0 Tryz.prog A3w [.d dc] [] (λr os=>r=.arr 0 Cs.length/\os=[.arr Cs 3 0 cn]))(hK:B0 Tryz.prog W9 [.d dk] [] (λr os=>r=.arr 0 Ks.length/\os=[.arr Ks 1 0 kn]))
  (f0 f1 f2:Fi) (hf0:f0.ok) (hf1:f1.ok) (hf2:f2.ok) (hd:df=.sl (R6 [f0,f1,f2])) (l:List Ex) (hb:∀x∈l,x.bk<=1048576) (hl:l.length<=1048576) (hdx:B3 dx (xL l)) :
  B0 Tryz.prog A0Z [eT nm dc dk df dx] [] (λr os=>r=.agg (oB nm Cs.length Ks.length 3 (xL (l.map (B7 0))).length)/\os=j6 [.d (.str nm),.d dc,.d dk,.d df,.d dx] (oB nm Cs.length Ks.length 3 (xL (l.map (B7 0))).length) nm Cs Ks cn kn [f0,f1,f2] (xL (l.map (B7 0))) (xL (l.map (B7 0))).isEmpty):=by
 have h1:=I7 l
 have hm:=O7 l
 have hg0:=o3 (args:=l)
 obtain⟨R,hR⟩:∃R,R=xL (l.map (B7 0)):=⟨_,rfl⟩
 rw[<- hR]
 obtain⟨es,hes⟩:∃es,es=xL l:=⟨_,rfl⟩
 rw[<- hes] at h1 hm hdx hg0
 subst hd
 obtain⟨fd0,fe0,fn0,ft0⟩:=f0
 have hf0:B0 Tryz.prog W9 [.d fd0] [] (λr os=>r=.arr 0 fe0.length/\os=[.arr fe0 1 0 fn0]):=hf0
 obtain⟨fd1,fe1,fn1,ft1⟩:=f1
 have hf1:B0 Tryz.prog W9 [.d fd1] [] (λr os=>r=.arr 0 fe1.length/\os=[.arr fe1 1 0 fn1]):=hf1
 obtain⟨fd2,fe2,fn2,ft2⟩:=f2
 have hf2:B0 Tryz.prog W9 [.d fd2] [] (λr os=>r=.arr 0 fe2.length/\os=[.arr fe2 1 0 fn2]):=hf2
 rw[show R6 [⟨fd0,fe0,fn0,ft0⟩,⟨fd1,fe1,fn1,ft1⟩,⟨fd2,fe2,fn2,ft2⟩]=[[fd0,.str ft0],[fd1,.str ft1],[fd2,.str ft2]] from rfl]
 refine A5u.goO A4 rfl ?_
 repeat' first|refine st ?_|refine⟨λ_=>?_,λ_=>?_⟩|fail
 refine A7i 4 3 2 rfl rfl rfl ?_
 refine A7h 4 4 7 rfl rfl rfl ?_
 refine A26 4 ?_
 refine Q5 A4 ?_
 repeat' first|refine st ?_|refine⟨λ_=>?_,λ_=>?_⟩|fail
 refine Q5 A4 ?_
 repeat' first|refine st ?_|refine⟨λ_=>?_,λ_=>?_⟩|fail
 refine Q5 A4 ?_
 repeat' first|refine st ?_|refine⟨λ_=>?_,λ_=>?_⟩|fail
 refine Q5 A4 ?_
 repeat' first|refine st ?_|refine⟨λ_=>?_,λ_=>?_⟩|fail
 refine A7j [2,3,37,38,39] [.ptr 1 0,.ptr 4 0,.d dx,.d (.int .i64 es.length),.d (eI 0)] [0,1,2,3,4,5,6,8,11,14] (j6 [.d (.str nm),.d dc,.d dk,.d (.sl [[fd0,.str ft0],[fd1,.str ft1],[fd2,.str ft2]]),.d dx] [.d (.str []),.d .nil,.d .nil,.d .nil,.d .nil] nm Cs Ks cn kn [⟨fd0,fe0,fn0,ft0⟩,⟨fd1,fe1,fn1,ft1⟩,⟨fd2,fe2,fn2,ft2⟩] [] true) rfl rfl (by decide) rfl rfl rfl rfl rfl ?_
 refine I2 A4 A5G A5B (λ(i:Nat) (w:List (List D)×Bool)=>[.d (eI i)]) (λi w=>j6 [.d (.str nm),.d dc,.d dk,.d (.sl [[fd0,.str ft0],[fd1,.str ft1],[fd2,.str ft2]]),.d dx] [.d (.str []),.d .nil,.d .nil,.d .nil,.d .nil] nm Cs Ks cn kn [⟨fd0,fe0,fn0,ft0⟩,⟨fd1,fe1,fn1,ft1⟩,⟨fd2,fe2,fn2,ft2⟩] w.1 w.2) (λi w=>i<=l.length/\w.1=Mt (B7 0) l i/\w.2=w.1.isEmpty) (λi w=>l.length-i) 0 ([],true) rfl rfl rfl rfl (λ_ _ _=>⟨rfl,rfl⟩) rfl ⟨by omega,rfl,rfl⟩ ?_
 repeat' first|refine st ?_|refine⟨λ_=>?_,λ_=>?_⟩|fail
 intro i w ⟨h4,h5,h6⟩
 obtain⟨A,b⟩:=w
 dsimp only at h5 h6 ⊢
 have hAl:A.length=i:=by rw[h5];exact A05 _ l i (by omega)
 have hAm:∀e∈A,e.length=7:=by rw[h5];exact A06 _ _ _
 cases hx:l[i]? with
 |some x=>
  have hlt:=(A7.1 hx).1
  have hs:=A07 (φ:=B7 0) hx
  have hS:=A5f x (hb x (B9 hx)) 0
  rw[<- h5] at hs
  obtain⟨z,hz⟩:∃z,z=B7 0 x:=⟨_,rfl⟩
  rw[<- hz] at hs hS
  obtain⟨o1,n1,v1,m1,l1,a1⟩:=x
  obtain⟨o2,n2,v2,m2,l2,a2⟩:=z
  have hg:=hg0 _ _ _ _ _ _ _ hx
  rw[Ex.ds_mk] at hs
  rw[Ex.av_mk,Ex.av_mk] at hS
  repeat' first|refine st ?_|refine⟨λ_=>?_,λ_=>?_⟩|fail
  exact⟨i+1,(A++[W6 o2 n2 v2 m2 (ng l2 (xL a2))],false),rfl,rfl,rfl,by omega,by omega,hs,by simp⟩
 |none=>
  have hge:=C8.1 hx
  rw[A04 hge,<- hR] at h5
  subst h5
  subst h6
  repeat' first|refine st ?_|refine⟨λ_=>?_,λ_=>?_⟩|fail
  all_goals exact⟨rfl,rfl⟩
theorem A5e(nm:List UInt8)(dc dk df dx:D)(Cs Ks:List (List D))(cn kn:Bool)(hC:B0 Tryz.prog A3w [.d dc] [] (λr os=>r=.arr 0 Cs.length/\os=[.arr Cs 3 0 cn]))(hK:B0 Tryz.prog W9 [.d dk] [] (λr os=>r=.arr 0 Ks.length/\os=[.arr Ks 1 0 kn]))
  (f0 f1 f2 f3:Fi) (hf0:f0.ok) (hf1:f1.ok) (hf2:f2.ok) (hf3:f3.ok) (hd:df=.sl (R6 [f0,f1,f2,f3])) (l:List Ex) (hb:∀x∈l,x.bk<=1048576) (hl:l.length<=1048576) (hdx:B3 dx (xL l)) :
  B0 Tryz.prog A0Z [eT nm dc dk df dx] [] (λr os=>r=.agg (oB nm Cs.length Ks.length 4 (xL (l.map (B7 0))).length)/\os=j6 [.d (.str nm),.d dc,.d dk,.d df,.d dx] (oB nm Cs.length Ks.length 4 (xL (l.map (B7 0))).length) nm Cs Ks cn kn [f0,f1,f2,f3] (xL (l.map (B7 0))) (xL (l.map (B7 0))).isEmpty):=by
 have h1:=I7 l
 have hm:=O7 l
 have hg0:=o3 (args:=l)
 obtain⟨R,hR⟩:∃R,R=xL (l.map (B7 0)):=⟨_,rfl⟩
 rw[<- hR]
 obtain⟨es,hes⟩:∃es,es=xL l:=⟨_,rfl⟩
 rw[<- hes] at h1 hm hdx hg0
 subst hd
 obtain⟨fd0,fe0,fn0,ft0⟩:=f0
 have hf0:B0 Tryz.prog W9 [.d fd0] [] (λr os=>r=.arr 0 fe0.length/\os=[.arr fe0 1 0 fn0]):=hf0
 obtain⟨fd1,fe1,fn1,ft1⟩:=f1
 have hf1:B0 Tryz.prog W9 [.d fd1] [] (λr os=>r=.arr 0 fe1.length/\os=[.arr fe1 1 0 fn1]):=hf1
 obtain⟨fd2,fe2,fn2,ft2⟩:=f2
 have hf2:B0 Tryz.prog W9 [.d fd2] [] (λr os=>r=.arr 0 fe2.length/\os=[.arr fe2 1 0 fn2]):=hf2
 obtain⟨fd3,fe3,fn3,ft3⟩:=f3
 have hf3:B0 Tryz.prog W9 [.d fd3] [] (λr os=>r=.arr 0 fe3.length/\os=[.arr fe3 1 0 fn3]):=hf3
 rw[show R6 [⟨fd0,fe0,fn0,ft0⟩,⟨fd1,fe1,fn1,ft1⟩,⟨fd2,fe2,fn2,ft2⟩,⟨fd3,fe3,fn3,ft3⟩]=[[fd0,.str ft0],[fd1,.str ft1],[fd2,.str ft2],[fd3,.str ft3]] from rfl]
 refine A5u.goO A4 rfl ?_
 repeat' first|refine st ?_|refine⟨λ_=>?_,λ_=>?_⟩|fail
 refine A7i 4 3 2 rfl rfl rfl ?_
 refine A7h 4 4 7 rfl rfl rfl ?_
 refine A26 5 ?_
 refine Q5 A4 ?_
 repeat' first|refine st ?_|refine⟨λ_=>?_,λ_=>?_⟩|fail
 refine Q5 A4 ?_
 repeat' first|refine st ?_|refine⟨λ_=>?_,λ_=>?_⟩|fail
 refine Q5 A4 ?_
 repeat' first|refine st ?_|refine⟨λ_=>?_,λ_=>?_⟩|fail
 refine Q5 A4 ?_
 repeat' first|refine st ?_|refine⟨λ_=>?_,λ_=>?_⟩|fail
 refine Q5 A4 ?_
 repeat' first|refine st ?_|refine⟨λ_=>?_,λ_=>?_⟩|fail
 refine A7j [2,3,37,38,39] [.ptr 1 0,.ptr 4 0,.d dx,.d (.int .i64 es.length),.d (eI 0)] [0,1,2,3,4,5,6,8,11,14,17] (j6 [.d (.str nm),.d dc,.d dk,.d (.sl [[fd0,.str ft0],[fd1,.str ft1],[fd2,.str ft2],[fd3,.str ft3]]),.d dx] [.d (.str []),.d .nil,.d .nil,.d .nil,.d .nil] nm Cs Ks cn kn [⟨fd0,fe0,fn0,ft0⟩,⟨fd1,fe1,fn1,ft1⟩,⟨fd2,fe2,fn2,ft2⟩,⟨fd3,fe3,fn3,ft3⟩] [] true) rfl rfl (by decide) rfl rfl rfl rfl rfl ?_
 refine I2 A4 A5G A5B (λ(i:Nat) (w:List (List D)×Bool)=>[.d (eI i)]) (λi w=>j6 [.d (.str nm),.d dc,.d dk,.d (.sl [[fd0,.str ft0],[fd1,.str ft1],[fd2,.str ft2],[fd3,.str ft3]]),.d dx] [.d (.str []),.d .nil,.d .nil,.d .nil,.d .nil] nm Cs Ks cn kn [⟨fd0,fe0,fn0,ft0⟩,⟨fd1,fe1,fn1,ft1⟩,⟨fd2,fe2,fn2,ft2⟩,⟨fd3,fe3,fn3,ft3⟩] w.1 w.2) (λi w=>i<=l.length/\w.1=Mt (B7 0) l i/\w.2=w.1.isEmpty) (λi w=>l.length-i) 0 ([],true) rfl rfl rfl rfl (λ_ _ _=>⟨rfl,rfl⟩) rfl ⟨by omega,rfl,rfl⟩ ?_
 repeat' first|refine st ?_|refine⟨λ_=>?_,λ_=>?_⟩|fail
 intro i w ⟨h4,h5,h6⟩
 obtain⟨A,b⟩:=w
 dsimp only at h5 h6 ⊢
 have hAl:A.length=i:=by rw[h5];exact A05 _ l i (by omega)
 have hAm:∀e∈A,e.length=7:=by rw[h5];exact A06 _ _ _
 cases hx:l[i]? with
 |some x=>
  have hlt:=(A7.1 hx).1
  have hs:=A07 (φ:=B7 0) hx
  have hS:=A5f x (hb x (B9 hx)) 0
  rw[<- h5] at hs
  obtain⟨z,hz⟩:∃z,z=B7 0 x:=⟨_,rfl⟩
  rw[<- hz] at hs hS
  obtain⟨o1,n1,v1,m1,l1,a1⟩:=x
  obtain⟨o2,n2,v2,m2,l2,a2⟩:=z
  have hg:=hg0 _ _ _ _ _ _ _ hx
  rw[Ex.ds_mk] at hs
  rw[Ex.av_mk,Ex.av_mk] at hS
  repeat' first|refine st ?_|refine⟨λ_=>?_,λ_=>?_⟩|fail
  exact⟨i+1,(A++[W6 o2 n2 v2 m2 (ng l2 (xL a2))],false),rfl,rfl,rfl,by omega,by omega,hs,by simp⟩
 |none=>
  have hge:=C8.1 hx
  rw[A04 hge,<- hR] at h5
  subst h5
  subst h6
  repeat' first|refine st ?_|refine⟨λ_=>?_,λ_=>?_⟩|fail
  all_goals exact⟨rfl,rfl⟩
abbrev B0E:TypeId:=3
abbrev B80:TypeId:=4
abbrev B0F:TypeId:=9
abbrev B8a:TypeId:=40
abbrev B89:TypeId:=23
abbrev B8b:TypeId:=29
theorem A61:Tryz.prog.cellsOf B0E=1:=by kernel_rfl
theorem A3E:Tryz.prog.cellsOf B0F=1:=by kernel_rfl
theorem B0U:Tryz.prog.cellsOf B8a=3:=by kernel_rfl
theorem D2X:Tryz.prog.cellsOf B80=1:=by kernel_rfl
theorem D89{ds:List D}(h:WT Tryz.prog B80 ds):∃b,ds=[.bool b]:=h.bool' Tryz.underlying4
theorem A2C{ds:List D}(h:WT Tryz.prog B0E ds):∃n,ds=[eI n]:=by
 obtain⟨a,ha,_,_⟩:=h.int' Tryz.underlying3
 exact⟨a,ha⟩
theorem A2D{ds:List D}(h:WT Tryz.prog B0F ds):∃s,ds=[.str s]:=by
 obtain⟨a,ha,_⟩:=h.str' Tryz.underlying9
 exact⟨a,ha⟩
theorem B2u{ds:List D}(h:WT Tryz.prog B8a ds):∃v:Vl,ds=v.ds:=by
 obtain⟨hl,hf⟩:=h.st' Tryz.underlying40
 rw[B0U] at hl
 match ds,hl with
 |[x,y,z],_=>
  have h0:=hf _ (R5 ..)
  have h1:=hf _ (J2 _ (R5 ..))
  have h2:=hf _ (J2 _ (J2 _ (R5 ..)))
  dsimp only at h0 h1 h2
  rw[A61] at h0 h1
  rw[A3E] at h2
  obtain⟨a,ha⟩:=A2C h0
  obtain⟨b,hb⟩:=A2C h1
  obtain⟨s,hs⟩:=A2D h2
  simp at ha hb hs
  exact⟨⟨a,b,s⟩,by rw[ha,hb,hs]⟩
theorem C2n{ds:List D}(h:WT Tryz.prog B89 ds):∃d ks,ds=[d]/\B3 d (A0 ks):=by
 obtain⟨d,es,h1,h2,h4,h3⟩:=h.sl' Tryz.underlying23
 have:∃ks,es=A0 ks:=by
  clear h1 h2 h4
  induction es with
  |nil=>exact⟨[],rfl⟩
  |cons x es ih=>
   obtain⟨n,hn⟩:=A2C (h3 x (by simp))
   obtain⟨ks,hk⟩:=ih λy hy=>h3 y (by simp[hy])
   exact⟨n::ks,by rw[hn,hk];rfl⟩
 obtain⟨ks,rfl⟩:=this
 exact⟨d,ks,h1,h2⟩
theorem D8j{ds:List D}(h:WT Tryz.prog B8b ds):∃d row,ds=[d]/\B3 d (B1 row):=by
 obtain⟨d,es,h1,h2,h4,h3⟩:=h.sl' Tryz.underlying29
 have:∃row,es=B1 row:=by
  clear h1 h2 h4
  induction es with
  |nil=>exact⟨[],rfl⟩
  |cons x es ih=>
   obtain⟨n,hn⟩:=B2u (h3 x (by simp))
   obtain⟨ks,hk⟩:=ih λy hy=>h3 y (by simp[hy])
   exact⟨n::ks,by rw[hn,hk];rfl⟩
 obtain⟨ks,rfl⟩:=this
 exact⟨d,ks,h1,h2⟩
theorem D2t(d:D):o6 Tryz.prog B8b [d]=.d d:=by unfold o6;rw[Tryz.underlying29]
theorem B8t(d:D):o6 Tryz.prog B0E [d]=.d d:=by unfold o6;rw[Tryz.underlying3]
theorem A4Y{d:D}{es:List (List D)}(h:B3 d es):H4 es<=E4 [d]:=by
 rcases h with ⟨rfl,rfl⟩|rfl
 ·simp[H4]
 ·simp only[E4,S8];omega
theorem C08{d:D}{ks:List Int}(h:B3 d (A0 ks)):ks.length<=E4 [d]:=by
 have h1:=A4Y h
 have h2:(A0 ks).length<=H4 (A0 ks):=A4u λx hx=>by
  obtain⟨k,_,rfl⟩:=D9.1 hx
  simp[E4,S8]
 rw[B4] at h2
 omega
theorem D7Y{d:D}{row:List Vl}(h:B3 d (B1 row)):row.length<=E4 [d]/\∀v∈row,v.s.length<=E4 [d]:=by
 have h1:=A4Y h
 have h2:(B1 row).length<=H4 (B1 row):=A4u λx hx=>by
  obtain⟨k,_,rfl⟩:=D9.1 hx
  simp only[Vl.ds,E4,S8];omega
 rw[U9] at h2
 refine⟨by omega,λv hv=>?_⟩
 have h3:E4 v.ds<=H4 (B1 row):=A2g (D9.2 ⟨v,hv,rfl⟩)
 have h4:v.s.length<=E4 v.ds:=by simp only[Vl.ds,E4,S8];omega
 omega
theorem D2K(H:Type):A49 (H:=H) Go.Proofs.YtnhhopmldgpglaaGreatDoor.Rows.uptoBulk Go.Proofs.YtnhhopmldgpglaaGreatDoor.Rows.uptoBulkAll where
 lit l:=by unfold Go.Proofs.YtnhhopmldgpglaaGreatDoor.Rows.uptoBulk;split<;>simp_all
 str b:=by simp[Go.Proofs.YtnhhopmldgpglaaGreatDoor.Rows.uptoBulk]
 nil:=by simp[Go.Proofs.YtnhhopmldgpglaaGreatDoor.Rows.uptoBulk]
 sl es sp:=by simp[Go.Proofs.YtnhhopmldgpglaaGreatDoor.Rows.uptoBulk]
 agg ps:=by simp[Go.Proofs.YtnhhopmldgpglaaGreatDoor.Rows.uptoBulk]
 cons x l:=by simp[Go.Proofs.YtnhhopmldgpglaaGreatDoor.Rows.uptoBulkAll]
abbrev B0D:TypeId:=25
abbrev B86:TypeId:=101
theorem B8J:Tryz.prog.cellsOf B0D=1:=by kernel_rfl
theorem D30:Tryz.prog.cellsOf B86=7:=by kernel_rfl
def nuE(n:Int):Ex:=.mk 1 0 ⟨1,n,[]⟩ [] true []
def aE:Ex:=.mk 1 0 ⟨2,0,[97]⟩ [] true []
def twE(op:Int)(a b:Ex):Ex:=.mk op 0 F4 [] false [a,b]
def ckT(ks:List Int)(e:Ex):Int×Int:=if 24<L9 e then (0,26) else F5 ks e
theorem ck2:ckT [] (twE 13 (nuE 1) aE)=(0,7):=by decide +kernel
inductive Ex.Rg:Ex->Prop
 |mk {op n:Int} {v:Vl} {nm:List UInt8} {nl:Bool} {args:List Ex} (h1:IntKind.i64.min<=n) (h2:n<=IntKind.i64.max) (h:∀a∈args,Ex.Rg a):Ex.Rg (.mk op n v nm nl args)
theorem D8e{t:TypeId}{ds:List D}(h:WT Tryz.prog t ds):(t=B86->∃e:Ex,ds=e.ds/\e.Rg)/\(t=B0D->∃nl args,ds=[ng nl (xL args)]/\∀a∈args,Ex.Rg a):=by
 induction h with
 |int h=>exact⟨λe=>(by subst e;rw[Tryz.underlying101] at h;cases h),λe=>(by subst e;rw[Tryz.underlying25] at h;cases h)⟩
 |bool h=>exact⟨λe=>(by subst e;rw[Tryz.underlying101] at h;cases h),λe=>(by subst e;rw[Tryz.underlying25] at h;cases h)⟩
 |str h=>exact⟨λe=>(by subst e;rw[Tryz.underlying101] at h;cases h),λe=>(by subst e;rw[Tryz.underlying25] at h;cases h)⟩
 |nil h=>exact⟨λe=>(by subst e;rw[Tryz.underlying101] at h;cases h),λe=>⟨true,[],rfl,by simp⟩⟩
 |@sl t e es h hl hs he ih=>
  refine⟨λe=>(by subst e;rw[Tryz.underlying101] at h;cases h),λe'=>?_⟩
  subst e'
  rw[Tryz.underlying25] at h
  cases h
  have hq:∃l,es=xL l/\∀a∈l,Ex.Rg a:=by
   clear he hs hl
   induction es with
   |nil=>exact⟨[],rfl,by simp⟩
   |cons x es ihh=>
    obtain⟨n,hn,hr⟩:=(ih x (by simp)).1 rfl
    obtain⟨ks,hk,hrs⟩:=ihh λy hy=>ih y (by simp[hy])
    refine⟨n::ks,by rw[hn,hk];rfl,λa ha=>?_⟩
    rcases I6.1 ha with rfl|ha
    ·exact hr
    ·exact hrs a ha
  obtain⟨l,rfl,hlr⟩:=hq
  exact⟨false,l,rfl,hlr⟩
 |@st t fs ds h hl hf ih=>
  refine⟨λe=>?_,λe=>(by subst e;rw[Tryz.underlying25] at h;cases h)⟩
  subst e
  rw[Tryz.underlying101] at h
  cases h
  rw[D30] at hl
  match ds,hl with
  |[d0,d1,d2,d3,d4,d5,d6],_=>
   have h0:=hf _ (R5 ..)
   have h1:=hf _ (J2 _ (R5 ..))
   have h2:=hf _ (J2 _ (J2 _ (R5 ..)))
   have h3:=hf _ (J2 _ (J2 _ (J2 _ (R5 ..))))
   have h4:=(ih _ (J2 _ (J2 _ (J2 _ (J2 _ (R5 ..)))))).2 rfl
   dsimp only at h0 h1 h2 h3 h4
   rw[A61] at h0 h1
   rw[B0U] at h2
   rw[A3E] at h3
   rw[B8J] at h4
   obtain⟨a,ha⟩:=A2C h0
   obtain⟨b,hb,hb1,hb2⟩:=h1.int' Tryz.underlying3
   obtain⟨v,hv⟩:=B2u h2
   obtain⟨s,hs⟩:=A2D h3
   obtain⟨nl,args,hx,hr⟩:=h4
   simp at ha hb hs hx
   refine⟨.mk a b v s nl args,?_,.mk hb1 hb2 hr⟩
   rw[Ex.ds_mk,ha,hb,hs,hx]
   have hv:[d2,d3,d4]=[eI v.k,eI v.n,.str v.s]:=hv
   simp only[List.cons.injEq,and_true] at hv
   rw[hv.1,hv.2.1,hv.2.2]
theorem D8f{ds:List D}(h:WT Tryz.prog B0D ds):∃nl args,ds=[ng nl (xL args)]/\∀a∈args,Ex.Rg a:=(D8e h).2 rfl
theorem D2L(nl:Bool)(l:List (List D)):S8 (ng nl l)=H4 l+1:=by
 unfold ng
 split
 ·rename_i h
  simp only[L6,u9] at h
  rw[h.2];rfl
 ·rfl
theorem B8z(f:Ex->Ex)(l:List Ex)(h:∀a∈l,(f a).bk<=a.bk):H4 (xL (l.map f))<=H4 (xL l):=by
 induction l with
 |nil=>exact G8 _
 |cons a l ih=>
  have h1:=h a (by simp)
  have h2:=ih λx hx=>h x (by simp[hx])
  unfold Ex.bk at h1
  simp only[Q8,xL,H4] at h2 ⊢
  omega
theorem C3B(g:FuncId)(φ:Ex->Ex)(hg:∀x:Ex,Pure Tryz.prog g [x.av] (φ x).av):∀e:Ex,e.bk<=1048576->Pure Tryz.prog A3v [e.av,.d (.fn g)] (O5 φ e).av:=by
 refine Ex.ind λop n v nm nl args ih hb=>?_
 obtain⟨b1,b2,b3,b4⟩:=Ex.bk_bounds hb
 obtain⟨Z,hZ⟩:∃Z,Z=(O5 φ (.mk op n v nm nl args)).av:=⟨_,rfl⟩
 rw[<- hZ]
 rw[A4Q] at hZ
 rw[Ex.av_mk]
 refine B3q.go A4 rfl ?_
 have h1:=I7 args
 have hm:=O7 args
 obtain⟨da,hda⟩:∃d,d=ng nl (xL args):=⟨_,rfl⟩
 have hsd:B3 da (xL args):=by rw[hda];exact t7
 rw[<- hda]
 have r0:v.k=v.k:=rfl
 have r1:v.s=v.s:=rfl
 have r2:nm=nm:=rfl
 repeat' first|refine st ?_|refine⟨λ_=>?_,λ_=>?_⟩|fail
 refine A00 5 7 rfl rfl ?_
 repeat' first|refine st ?_|refine⟨λ_=>?_,λ_=>?_⟩|fail
 refine I2 A4 B6v B6i (λ(i:Nat) (w:List (List D)×Bool)=>[.arr 2 w.1.length,.d (eI i)]) (λi w=>[.cells [.d (eI op),.d (eI n),.d (eI v.k),.d (eI v.n),.d (.str v.s),.d (.str nm),.d da],.cells [.d (eI 0),.d (eI 0),.d (eI 0),.d (eI 0),.d (.str []),.d (.str []),.d .nil],.arr w.1 7 0 w.2]) (λi w=>i<=args.length/\w.1=Mt (O5 φ) args i/\w.2=w.1.isEmpty) (λi _=>args.length-i) 0 ([],true) rfl rfl rfl rfl (λ_ _ _=>⟨rfl,rfl⟩) rfl ⟨by omega,rfl,rfl⟩ ?_
 repeat' first|refine st ?_|refine⟨λ_=>?_,λ_=>?_⟩|fail
 intro i w ⟨h4,h5,h6⟩
 obtain⟨A,b⟩:=w
 dsimp only at h5 h6 ⊢
 have hAl:A.length=i:=by rw[h5];exact A05 _ args i (by omega)
 have hAm:∀e∈A,e.length=7:=by rw[h5];exact A06 _ _ _
 cases hx:args[i]? with
 |some x=>
  have hlt:=(A7.1 hx).1
  have hs:=A07 (φ:=O5 φ) hx
  have hg:=t8 hx
  have hi:=ih x (B9 hx) (b4 x (B9 hx))
  rw[<- h5] at hs
  obtain⟨z,hz⟩:∃z,z=O5 φ x:=⟨_,rfl⟩
  rw[<- hz] at hs hi
  obtain⟨o1,n1,v1,m1,l1,a1⟩:=x
  obtain⟨o2,n2,v2,m2,l2,a2⟩:=z
  rw[Ex.ds_mk] at hg hs
  simp only[Ex.av_mk] at hi
  repeat' first|refine st ?_|refine⟨λ_=>?_,λ_=>?_⟩|fail
  exact⟨i+1,(A++[W6 o2 n2 v2 m2 (ng l2 (xL a2))],false),rfl,rfl,rfl,by omega,by omega,hs,by simp⟩
 |none=>
  have hge:=C8.1 hx
  rw[A04 hge] at h5
  have hx':(Ex.mk op n v nm true (args.map (O5 φ))).av=eX op n v nm (if A.isEmpty then .nil else .sl A):=by rw[Ex.av_mk,A8O,<- h5]
  have hφ:=hg (.mk op n v nm true (args.map (O5 φ)))
  rw[<- h6] at hx'
  by_cases h2:op=2
  ·rw[if_pos h2] at hZ
   obtain⟨z,hz⟩:∃z,z=φ (.mk op n v nm true (args.map (O5 φ))):=⟨_,rfl⟩
   rw[<- hz] at hZ hφ
   rw[hx'] at hφ
   obtain⟨o2,n2,v2,m2,l2,a2⟩:=z
   simp only[Ex.av_mk] at hZ hφ
   rw[hZ]
   cases b with
   |true=>
    rw[if_pos rfl] at hφ
    repeat' first|refine st ?_|refine⟨λ_=>?_,λ_=>?_⟩|fail
    all_goals rfl
   |false=>
    rw[if_neg (by simp)] at hφ
    repeat' first|refine st ?_|refine⟨λ_=>?_,λ_=>?_⟩|fail
    all_goals rfl
  ·rw[if_neg h2,hx'] at hZ
   rw[hZ]
   cases b with
   |true=>
    repeat' first|refine st ?_|refine⟨λ_=>?_,λ_=>?_⟩|fail
    all_goals rfl
   |false=>
    repeat' first|refine st ?_|refine⟨λ_=>?_,λ_=>?_⟩|fail
    all_goals rfl
def F6(e:Ex):Ex:=O5 id e
def A8P:Ex:=.mk 0 0 F4 [] true []
def inC(l:List Ex)(n:Int)(v:Vl)(nm:List UInt8)(k:Nat):Bool:=decide (k=0/\nm=[]/\(v.k=0/\v.n=0/\v.s=[])/\0<=n/\n<l.length)
def A3e(l:List Ex):Ex->Ex
 |.mk op n v nm nl args=>if inC l n v nm args.length then F6 (l.getD n.toNat A8P) else .mk op n v nm nl args
theorem C2J(x:Ex):Pure Tryz.prog A7V [x.av] (id x).av:=by
 obtain⟨op,n,v,nm,nl,args⟩:=x
 show Pure Tryz.prog _ _ (Ex.mk op n v nm nl args).av
 rw[Ex.av_mk]
 refine C66.go A4 rfl ?_
 repeat' first|refine st ?_|refine⟨λ_=>?_,λ_=>?_⟩|fail
 all_goals rfl
theorem C2I(l:List Ex)(hl:l.length<=1048576)(hlb:∀a∈l,a.bk<=1048576)(dl:D)(hdl:B3 dl (xL l))(x:Ex):B0 Tryz.prog A7U [x.av,.ptr 0 0] [.cells [.d dl]] (λr os=>r=(A3e l x).av/\os=[.cells [.d dl]]):=by
 obtain⟨op,n,v,nm,nl,args⟩:=x
 obtain⟨Z,hZ⟩:∃Z,Z=(A3e l (.mk op n v nm nl args)).av:=⟨_,rfl⟩
 rw[<- hZ]
 rw[A3e] at hZ
 rw[Ex.av_mk]
 have h1:=I7 args
 have hm:=O7 args
 have h2:=I7 l
 have hm2:=O7 l
 obtain⟨da,hda⟩:∃d,d=ng nl (xL args):=⟨_,rfl⟩
 have hsd:B3 da (xL args):=by rw[hda];exact t7
 cases hc:inC l n v nm args.length with
 |true=>
  rw[hc,if_pos rfl] at hZ
  obtain⟨c1,c2,⟨c3,c4,c5⟩,c6,c7⟩:=of_decide_eq_true hc
  obtain⟨m,rfl⟩:∃m:Nat,n=m:=⟨n.toNat,by omega⟩
  have hlm:m<l.length:=by omega
  have hx:l[m]?=some l[m]:=C3 hlm
  have hgd:l.getD (m:Int).toNat A8P=l[m]:=by rw[G7,E8,hx];rfl
  rw[hgd] at hZ
  have hM:=C3B A7V id C2J l[m] (hlb _ (A2a _))
  have hg:=t8 hx
  obtain⟨y,hy⟩:∃y,y=l[m]:=⟨_,rfl⟩
  rw[<- hy] at hM hg hZ
  unfold F6 at hZ
  obtain⟨z,hz⟩:∃z,z=O5 id y:=⟨_,rfl⟩
  rw[<- hz] at hM hZ
  obtain⟨o1,n1,v1,m1,l1,a1⟩:=y
  obtain⟨o2,n2,v2,m2,l2,a2⟩:=z
  rw[Ex.ds_mk] at hg
  rw[Ex.av_mk,Ex.av_mk] at hM
  rw[Ex.av_mk] at hZ
  rw[hZ,<- hda]
  clear hda
  subst c2
  refine B3p.goX A4 rfl ?_
  repeat' first|refine st ?_|refine⟨λ_=>?_,λ_=>?_⟩|fail
  all_goals exact⟨rfl,rfl⟩
 |false=>
  rw[hc,if_neg (by decide),Ex.av_mk,<- hda] at hZ
  rw[hZ,<- hda]
  have hno:¬(args.length=0/\nm=[]/\(v.k=0/\v.n=0/\v.s=[])/\0<=n/\n<l.length):=of_decide_eq_false hc
  clear hda hZ hc
  refine B3p.goX A4 rfl ?_
  by_cases g1:args.length=0
  rotate_left
  ·repeat' first|refine st ?_|refine⟨λ_=>?_,λ_=>?_⟩|fail
   all_goals exact⟨rfl,rfl⟩
  by_cases g2:nm=[]
  rotate_left
  ·repeat' first|refine st ?_|refine⟨λ_=>?_,λ_=>?_⟩|fail
   all_goals exact⟨rfl,rfl⟩
  subst g2
  by_cases g3:v.k=0/\v.n=0/\v.s=[]
  rotate_left
  ·repeat' first|refine st ?_|refine⟨λ_=>?_,λ_=>?_⟩|fail
   all_goals first|exact⟨rfl,rfl⟩|(exfalso;simp_all;done)
  obtain⟨g4,g5,g6⟩:=g3
  by_cases g7:0<=n
  ·by_cases g8:n<l.length
   ·exact absurd ⟨g1,rfl,⟨g4,g5,g6⟩,g7,g8⟩ hno
   ·repeat' first|refine st ?_|refine⟨λ_=>?_,λ_=>?_⟩|fail
    all_goals exact⟨rfl,rfl⟩
  ·repeat' first|refine st ?_|refine⟨λ_=>?_,λ_=>?_⟩|fail
   all_goals exact⟨rfl,rfl⟩
def D8(l:List Ex)(e:Ex):Ex:=O5 (A3e l) e
theorem A5g(l:List Ex)(hl:l.length<=1048576)(hlb:∀a∈l,a.bk<=1048576)(dl:D)(hdl:B3 dl (xL l))(e:Ex)(he:e.bk<=1048576):Pure Tryz.prog B7r [e.av,.d dl] (D8 l e).av:=by
 have hM:=B2L A7U dl (A3e l) (C2I l hl hlb dl hdl) e he
 have hL:∀os:List AO,os[1]?=some (.cells [.d dl])->B0 Tryz.prog A3v [e.av,.clo A7U [1]] os (λr' os'=>r'=(O5 (A3e l) e).av/\os'=os.set 1 (.cells [.d dl])):=λos ho=>B1G (id:=1) hM (λf=>A8J f _) ho
 unfold D8
 obtain⟨z,hz⟩:∃z,z=O5 (A3e l) e:=⟨_,rfl⟩
 rw[<- hz] at hL ⊢
 obtain⟨o1,n1,v1,m1,l1,a1⟩:=e
 obtain⟨o2,n2,v2,m2,l2,a2⟩:=z
 simp only[Ex.av_mk] at hL ⊢
 refine C65.go A4 rfl ?_
 repeat' first|refine st ?_|((with_reducible first|apply I5|apply I8);(·exact hL _ rfl);(try rintro _ _ ⟨rfl,rfl⟩))|((with_reducible apply I9);(·exact hL _ rfl))|refine⟨λ_=>?_,λ_=>?_⟩|fail
 all_goals rfl
theorem B1p(n:Int)(v:Vl)(nm:List UInt8)(k:Nat):M8 2 n v nm k=decide (k=0/\nm=[]/\(v.k=0/\v.n=0/\v.s=[])):=by
 have hc:(S4 2 k).1=decide ((k:Int)=0):=rfl
 unfold M8
 rw[hc,if_neg (by decide),if_neg (by decide),if_pos rfl,A42,A0U]
 simp only[L6,decide_eq_true_eq]
 constructor
 ·rintro⟨⟨h1,h2⟩,h3⟩;exact⟨by omega,h2,h3⟩
 ·rintro⟨h1,h2,h3⟩;exact⟨⟨by omega,h2⟩,h3⟩
def A6(a b:Int):Int:=if b<a then a-1 else a
theorem W7(a b:Int)(ha:-4611686018427387904<=a)(hb:a<=4611686018427387904):Pure Tryz.prog B7k [.d (eI a),.d (eI b)] (.d (eI (A6 a b))):=by
 unfold A6
 by_cases h:b<a
 ·rw[if_pos h]
  refine B3n.go A4 rfl ?_
  repeat' first|refine st ?_|refine⟨λ_=>?_,λ_=>?_⟩|fail
  all_goals rfl
 ·rw[if_neg h]
  refine B3n.go A4 rfl ?_
  repeat' first|refine st ?_|refine⟨λ_=>?_,λ_=>?_⟩|fail
  all_goals rfl
def mvE(k i:Int):Ex:=.mk 2 (A6 k i) ⟨0,0,[]⟩ [] true []
def H5(m i:Nat):List Ex:=(List.range m).map λ(k:Nat)=>mvE (k:Int) (i:Int)
theorem A1l(m i:Nat):(H5 m i).length=m:=by simp[H5]
theorem A6G(m i:Nat):xL (H5 m i)++[[.int .i64 2,eI (A6 m i),.int .i64 0,.int .i64 0,.str [],.str [],.nil]]=xL (H5 (m+1) i):=by
 unfold H5
 rw[List.range_succ,A0s]
 simp only[xL,A0s,Q8,List.map_nil,List.append_cancel_left_eq]
 unfold mvE
 rw[Ex.ds_mk]
 rfl
def D2(ks:List Int)(f:Int->Int)(k:Nat):List Int:=(ks.take k).map f++ks.drop k
theorem s4(ks:List Int)(f:Int->Int)(k:Nat)(h:k<=ks.length):(D2 ks f k).length=ks.length:=by
 unfold D2
 simp
 omega
theorem s0{ks:List Int}(f:Int->Int){k:Nat}{c:Int}(h:ks[k]?=some c):(D2 ks f k)[k]?=some c:=by
 have hlt:=(A7.1 h).1
 unfold D2
 rw[P8 (by simp;omega),C6,J1,A5O (by omega),A3x,A0W]
 exact h
theorem s5{ks:List Int}(f:Int->Int){k:Nat}{c:Int}(h:ks[k]?=some c):(D2 ks f k).set k (f c)=D2 ks f (k+1):=by
 obtain⟨hlt,he⟩:=A7.1 h
 unfold D2
 rw[List.set_append_right _ _ (by simp;omega),C6,J1,A5O (by omega),A3x,P7 hlt,he,List.set_cons_zero,P1,h]
 simp
theorem s6(ks:List Int)(f:Int->Int):D2 ks f 0=ks:=by simp[D2]
theorem r9(ks:List Int)(f:Int->Int):D2 ks f ks.length=ks.map f:=by simp[D2]
theorem p7(l:List Int)(k:Nat)(y:Int):(A0 l).set k [eI y]=A0 (l.set k y):=by
 unfold A0
 rw[W8]
def L7(xs:List Ex)(f:Ex->Ex)(k:Nat):List Ex:=(xs.take k).map f++xs.drop k
theorem A6C(xs:List Ex)(f:Ex->Ex)(k:Nat)(h:k<=xs.length):(L7 xs f k).length=xs.length:=by
 unfold L7
 simp
 omega
theorem A6B{xs:List Ex}(f:Ex->Ex){k:Nat}{c:Ex}(h:xs[k]?=some c):(L7 xs f k)[k]?=some c:=by
 have hlt:=(A7.1 h).1
 unfold L7
 rw[P8 (by simp;omega),C6,J1,A5O (by omega),A3x,A0W]
 exact h
theorem A6D{xs:List Ex}(f:Ex->Ex){k:Nat}{c:Ex}(h:xs[k]?=some c):(L7 xs f k).set k (f c)=L7 xs f (k+1):=by
 obtain⟨hlt,he⟩:=A7.1 h
 unfold L7
 rw[List.set_append_right _ _ (by simp;omega),C6,J1,A5O (by omega),A3x,P7 hlt,he,List.set_cons_zero,P1,h]
 simp
theorem A6E(xs:List Ex)(f:Ex->Ex):L7 xs f 0=xs:=by simp[L7]
theorem A6A(xs:List Ex)(f:Ex->Ex):L7 xs f xs.length=xs.map f:=by simp[L7]
theorem C3g(nm:List UInt8)(es:List (List D))(hm:∀e∈es,e.length=3)(i:Nat)(hi:i<es.length)(hel:es.length<=1048576)(ks:List Int)(hkb:∀k∈ks,0<=k/\k<=1048576)(hkl:ks.length<=1048576)(kn:Bool)(hkn:kn=true->ks=[])(xs:List Ex)(hxl:xs.length<=1048576)(hxb:∀e∈xs,e.bk<=1048576)(xn:Bool)(hxn:xn=true->xs=[]) :
  B0 Tryz.prog A0Y [.ptr 0 0,.d (eI i)] [.cells [.d (.str nm),.arr 1 es.length,.arr 2 (A0 ks).length,.rs 3 0,.arr 4 (xL xs).length],.arr es 3 0 false,.arr (A0 ks) 1 0 kn,.rarr [] 2 true,.arr (xL xs) 7 0 xn]
   (λr os=>r=.tup []/\os=[.cells [.d (.str nm),.d (.sl (es.eraseIdx i)),.arr 2 (A0 ks).length,.rs 3 0,.arr 4 (xL xs).length],.arr (es.eraseIdx i++[M3]) 3 (es.length-1) false,.arr (A0 (ks.map λc=>A6 c i)) 1 0 kn,.rarr [] 2 true,.arr (xL (xs.map (D8 (H5 es.length i)))) 7 0 xn]):=by
 have hD:=fun {os:List AO} (ho:os[1]?=some (.arr es 3 0 false))=>A5l es hm i hi ho
 obtain⟨m,hmm⟩:∃m,m=es.length:=⟨_,rfl⟩
 refine A5t.goX A4 rfl ?_
 repeat' first|refine st ?_|refine⟨λ_=>?_,λ_=>?_⟩|fail
 refine A00 4 7 rfl rfl ?_
 repeat' first|refine st ?_|refine⟨λ_=>?_,λ_=>?_⟩|fail
 refine I2 A4 A5D A5y (λ(k:Nat) (A:List (List D))=>[.arr 5 A.length,.d (eI k)]) (λk A=>[.cells [.d (.str nm),.arr 1 es.length,.arr 2 (A0 ks).length,.rs 3 0,.arr 4 (xL xs).length],.arr es 3 0 false,.arr (A0 ks) 1 0 kn,.rarr [] 2 true,.arr (xL xs) 7 0 xn,.arr A 7 0 A.isEmpty]) (λk A=>k<=es.length/\A=xL (H5 k i)) (λk A=>es.length-k) 0 [] rfl rfl rfl rfl (λ_ _ _=>⟨rfl,rfl⟩) rfl ⟨by omega,by simp[H5,xL]⟩ ?_
 repeat' first|refine st ?_|refine⟨λ_=>?_,λ_=>?_⟩|fail
 intro k A ⟨h4,h5⟩
 have hAl:A.length=k:=by rw[h5,I7,A1l]
 have hAm:∀e∈A,e.length=7:=by rw[h5];exact O7 _
 by_cases hlt:k<es.length
 ·have hB:=W7 k i (by omega) (by omega)
  have hs:=A6G k i
  rw[<- h5] at hs
  obtain⟨b,hb⟩:∃b,b=A6 k i:=⟨_,rfl⟩
  rw[<- hb] at hB hs
  clear h5
  repeat' first|refine st ?_|refine⟨λ_=>?_,λ_=>?_⟩|fail
  refine⟨k+1,A++[[.int .i64 2,eI b,.int .i64 0,.int .i64 0,.str [],.str [],.nil]],?_,rfl,?_,by omega,by omega,hs⟩
  ·rfl
  ·rw[show(A++[[.int .i64 2,eI b,.int .i64 0,.int .i64 0,.str [],.str [],.nil]]).isEmpty=false by simp]
   first|rfl|skip
 ·have hke:k=es.length:=by omega
  rw[hke] at h5
  have hDc:=hD (os:=[.cells [.d (.str nm),.arr 1 es.length,.arr 2 (A0 ks).length,.rs 3 0,.arr 4 (xL xs).length],.arr es 3 0 false,.arr (A0 ks) 1 0 kn,.rarr [] 2 true,.arr (xL xs) 7 0 xn,.arr A 7 0 A.isEmpty]) rfl
  obtain⟨es',hes'⟩:∃e,e=es.eraseIdx i:=⟨_,rfl⟩
  rw[<- hes'] at hDc ⊢
  obtain⟨M0,hM0⟩:∃L,L=H5 es.length i:=⟨_,rfl⟩
  have hMl:M0.length<=1048576:=by rw[hM0,A1l];exact hel
  rw[<- hM0] at h5 ⊢
  repeat' first|(with_reducible apply A35)|refine st ?_|((with_reducible first|apply I5|apply I8);(·exact hDc);(try rintro _ _ ⟨rfl,rfl⟩))|((with_reducible apply I9);(·exact hDc))|refine⟨λ_=>?_,λ_=>?_⟩|fail
  refine F2 A4 A5E A5z (λ(j:Nat)=>[.d (eI j)]) (λj=>[.cells [.d (.str nm),.d (.sl es'),.arr 2 (A0 ks).length,.rs 3 0,.arr 4 (xL xs).length],.arr (es'++[M3]) 3 (es.length-1) false,.arr (A0 (D2 ks (λc=>A6 c i) j)) 1 0 kn,.rarr [] 2 true,.arr (xL xs) 7 0 xn,.arr A 7 0 A.isEmpty]) (λj=>j<=ks.length) (λj=>ks.length-j) 0 rfl rfl rfl (by rw[s6];rfl) (λ_ _=>⟨rfl,rfl⟩) rfl (by omega) ?_
  repeat' first|refine st ?_|refine⟨λ_=>?_,λ_=>?_⟩|fail
  intro j h6
  have hKl:=s4 ks (λc=>A6 c i) j h6
  cases hy:ks[j]? with
  |some c=>
   obtain⟨hlt2,he2⟩:=A7.1 hy
   have hkf:kn=false:=by
    cases kn with
    |false=>rfl
    |true=>rw[hkn rfl] at hlt2;simp at hlt2
   subst hkf
   have hg:=K5 (s0 (λc=>A6 c i) hy)
   have hset:=s5 (λc=>A6 c i) hy
   obtain⟨cb1,cb2⟩:=hkb c (B9 hy)
   have hB:=W7 c i (by omega) (by omega)
   have hks:=B4 ks
   obtain⟨y,hyy⟩:∃y,y=A6 c i:=⟨_,rfl⟩
   rw[<- hyy] at hB hset
   have hset2:(A0 (D2 ks (λc=>A6 c i) j)).set j [eI y]=A0 (D2 ks (λc=>A6 c i) (j+1)):=by rw[p7,hset]
   have hml:=B4 (D2 ks (λc=>A6 c i) j)
   have hmm2:=C9 (D2 ks (λc=>A6 c i) j)
   obtain⟨X,hX⟩:∃X,X=A0 (D2 ks (λc=>A6 c i) j):=⟨_,rfl⟩
   rw[<- hX] at hg hset2 hml hmm2 ⊢
   repeat' first|refine st ?_|refine⟨λ_=>?_,λ_=>?_⟩|fail
   refine⟨j+1,rfl,rfl,?_,by omega,by omega⟩
   rw[show((j:Int)).toNat=j from G7 j,hset2]
  |none=>
   have hge:=C8.1 hy
   have hjk:j=ks.length:=by omega
   subst hjk
   rw[r9]
   have hks:=B4 ks
   obtain⟨K',hK'⟩:∃K,K=A0 (ks.map λc=>A6 c i):=⟨_,rfl⟩
   rw[<- hK']
   repeat' first|refine st ?_|refine⟨λ_=>?_,λ_=>?_⟩|fail
   refine A26 1 ?_
   refine Q5 A4 ?_
   repeat' first|refine st ?_|refine⟨λ_=>?_,λ_=>?_⟩|fail
   have hAe:A.isEmpty=false:=by cases A with
    |nil=>simp at hAl;omega
    |cons a l=>rfl
   rw[hAe]
   have hXl:=I7 xs
   refine A2F 4 (id:=5) (len:=A.length) (sz:=7) (frz:=0) (nl:=false) (es:=A) rfl rfl rfl ?_
   rw[if_neg (by decide:¬(false=true))]
   repeat' first|refine st ?_|refine⟨λ_=>?_,λ_=>?_⟩|fail
   refine F2 A4 A5F A5A (λ(q:Nat)=>[.d (eI q)]) (λq=>[.cells [.d (.str nm),.d (.sl es'),.arr 2 (A0 ks).length,.rs 3 0,.arr 4 (xL xs).length],.arr (es'++[M3]) 3 (es.length-1) false,.arr K' 1 0 kn,.rarr [] 2 true,.arr (xL (L7 xs (D8 M0) q)) 7 0 xn,.arr A 7 A.length false]) (λq=>q<=xs.length) (λq=>xs.length-q) 0 rfl rfl rfl (by rw[A6E];rfl) (λ_ _=>⟨rfl,rfl⟩) rfl (by omega) ?_
   repeat' first|refine st ?_|refine⟨λ_=>?_,λ_=>?_⟩|fail
   intro q h7
   have hMb:∀a∈M0,a.bk<=1048576:=by
    intro a ha
    rw[hM0] at ha
    obtain⟨b,_,rfl⟩:=D9.1 ha
    unfold mvE Ex.bk
    rw[Ex.ds_mk]
    exact P5 rfl
   have hXql:=A6C xs (D8 M0) q h7
   cases hx:xs[q]? with
   |some x=>
    obtain⟨hlt3,he3⟩:=A7.1 hx
    have hxf:xn=false:=by
     cases xn with
     |false=>rfl
     |true=>rw[hxn rfl] at hlt3;simp at hlt3
    subst hxf
    have hg:=A6B (D8 M0) hx
    have hset:=A6D (D8 M0) hx
    have hS:=A5g M0 hMl hMb (.sl A) (by rw[h5];exact J7) x (hxb x (B9 hx))
    have hq1:=I7 (L7 xs (D8 M0) q)
    have hq2:=O7 (L7 xs (D8 M0) q)
    obtain⟨z,hz⟩:∃z,z=D8 M0 x:=⟨_,rfl⟩
    rw[<- hz] at hS hset
    have hset2:(xL (L7 xs (D8 M0) q)).set q z.ds=xL (L7 xs (D8 M0) (q+1)):=by rw[<- hset];unfold xL;rw[W8]
    obtain⟨o1,n1,v1,m1,l1,a1⟩:=x
    obtain⟨o2,n2,v2,m2,l2,a2⟩:=z
    have hg:=o3 _ _ _ _ _ _ _ hg
    rw[Ex.av_mk,Ex.av_mk] at hS
    rw[Ex.ds_mk] at hset2
    obtain⟨X,hX⟩:∃X,X=xL (L7 xs (D8 M0) q):=⟨_,rfl⟩
    rw[<- hX] at hg hset2 hq1 hq2 ⊢
    repeat' first|refine st ?_|refine⟨λ_=>?_,λ_=>?_⟩|fail
    refine⟨q+1,rfl,rfl,?_,by omega,by omega⟩
    rw[show((q:Int)).toNat=q from G7 q,hset2]
   |none=>
    have hge:=C8.1 hx
    have hqk:q=xs.length:=by omega
    subst hqk
    rw[A6A]
    repeat' first|refine st ?_|refine⟨λ_=>?_,λ_=>?_⟩|fail
    exact⟨rfl,rfl⟩
theorem A5a(nm:List UInt8)(dc dk df dx:D)(Cs Ks:List (List D))(cn kn:Bool)(hC:B0 Tryz.prog A3w [.d dc] [] (λr os=>r=.arr 0 Cs.length/\os=[.arr Cs 3 0 cn]))(hK:B0 Tryz.prog W9 [.d dk] [] (λr os=>r=.arr 0 Ks.length/\os=[.arr Ks 1 0 kn]))
  (hd:B3 df []) (l:List Ex) (hb:∀x∈l,x.bk<=1048576) (hl:l.length<=1048576) (hdx:B3 dx (xL l)) :
  B0 Tryz.prog A0Z [eT nm dc dk df dx] [] (λr os=>r=.agg (oB nm Cs.length Ks.length 0 (xL (l.map (B7 0))).length)/\os=j6 [.d (.str nm),.d dc,.d dk,.d df,.d dx] (oB nm Cs.length Ks.length 0 (xL (l.map (B7 0))).length) nm Cs Ks cn kn [] (xL (l.map (B7 0))) (xL (l.map (B7 0))).isEmpty):=by
 have h1:=I7 l
 have hm:=O7 l
 have hg0:=o3 (args:=l)
 obtain⟨R,hR⟩:∃R,R=xL (l.map (B7 0)):=⟨_,rfl⟩
 rw[<- hR]
 obtain⟨es,hes⟩:∃es,es=xL l:=⟨_,rfl⟩
 rw[<- hes] at h1 hm hdx hg0
 refine A5u.goO A4 rfl ?_
 repeat' first|refine st ?_|refine⟨λ_=>?_,λ_=>?_⟩|fail
 refine A7i 4 3 2 rfl rfl rfl ?_
 refine A7h 4 4 7 rfl rfl rfl ?_
 refine A26 1 ?_
 refine Q5 A4 ?_
 repeat' first|refine st ?_|refine⟨λ_=>?_,λ_=>?_⟩|fail
 refine A7j [2,3,37,38,39] [.ptr 1 0,.ptr 4 0,.d dx,.d (.int .i64 es.length),.d (eI 0)] [0,1,2,3,4,5,6] (j6 [.d (.str nm),.d dc,.d dk,.d df,.d dx] [.d (.str []),.d .nil,.d .nil,.d .nil,.d .nil] nm Cs Ks cn kn [] [] true) rfl rfl (by decide) rfl rfl rfl rfl rfl ?_
 refine I2 A4 A5G A5B (λ(i:Nat) (w:List (List D)×Bool)=>[.d (eI i)]) (λi w=>j6 [.d (.str nm),.d dc,.d dk,.d df,.d dx] [.d (.str []),.d .nil,.d .nil,.d .nil,.d .nil] nm Cs Ks cn kn [] w.1 w.2) (λi w=>i<=l.length/\w.1=Mt (B7 0) l i/\w.2=w.1.isEmpty) (λi w=>l.length-i) 0 ([],true) rfl rfl rfl rfl (λ_ _ _=>⟨rfl,rfl⟩) rfl ⟨by omega,rfl,rfl⟩ ?_
 repeat' first|refine st ?_|refine⟨λ_=>?_,λ_=>?_⟩|fail
 intro i w ⟨h4,h5,h6⟩
 obtain⟨A,b⟩:=w
 dsimp only at h5 h6 ⊢
 have hAl:A.length=i:=by rw[h5];exact A05 _ l i (by omega)
 have hAm:∀e∈A,e.length=7:=by rw[h5];exact A06 _ _ _
 cases hx:l[i]? with
 |some x=>
  have hlt:=(A7.1 hx).1
  have hs:=A07 (φ:=B7 0) hx
  have hS:=A5f x (hb x (B9 hx)) 0
  rw[<- h5] at hs
  obtain⟨z,hz⟩:∃z,z=B7 0 x:=⟨_,rfl⟩
  rw[<- hz] at hs hS
  obtain⟨o1,n1,v1,m1,l1,a1⟩:=x
  obtain⟨o2,n2,v2,m2,l2,a2⟩:=z
  have hg:=hg0 _ _ _ _ _ _ _ hx
  rw[Ex.ds_mk] at hs
  rw[Ex.av_mk,Ex.av_mk] at hS
  repeat' first|refine st ?_|refine⟨λ_=>?_,λ_=>?_⟩|fail
  exact⟨i+1,(A++[W6 o2 n2 v2 m2 (ng l2 (xL a2))],false),rfl,rfl,rfl,by omega,by omega,hs,by simp⟩
 |none=>
  have hge:=C8.1 hx
  rw[A04 hge,<- hR] at h5
  subst h5
  subst h6
  repeat' first|refine st ?_|refine⟨λ_=>?_,λ_=>?_⟩|fail
  all_goals exact⟨rfl,rfl⟩
theorem A5b(nm:List UInt8)(dc dk df dx:D)(Cs Ks:List (List D))(cn kn:Bool)(hC:B0 Tryz.prog A3w [.d dc] [] (λr os=>r=.arr 0 Cs.length/\os=[.arr Cs 3 0 cn]))(hK:B0 Tryz.prog W9 [.d dk] [] (λr os=>r=.arr 0 Ks.length/\os=[.arr Ks 1 0 kn]))
  (f0:Fi) (hf0:f0.ok) (hd:df=.sl (R6 [f0])) (l:List Ex) (hb:∀x∈l,x.bk<=1048576) (hl:l.length<=1048576) (hdx:B3 dx (xL l)) :
  B0 Tryz.prog A0Z [eT nm dc dk df dx] [] (λr os=>r=.agg (oB nm Cs.length Ks.length 1 (xL (l.map (B7 0))).length)/\os=j6 [.d (.str nm),.d dc,.d dk,.d df,.d dx] (oB nm Cs.length Ks.length 1 (xL (l.map (B7 0))).length) nm Cs Ks cn kn [f0] (xL (l.map (B7 0))) (xL (l.map (B7 0))).isEmpty):=by
 have h1:=I7 l
 have hm:=O7 l
 have hg0:=o3 (args:=l)
 obtain⟨R,hR⟩:∃R,R=xL (l.map (B7 0)):=⟨_,rfl⟩
 rw[<- hR]
 obtain⟨es,hes⟩:∃es,es=xL l:=⟨_,rfl⟩
 rw[<- hes] at h1 hm hdx hg0
 subst hd
 obtain⟨fd0,fe0,fn0,ft0⟩:=f0
 have hf0:B0 Tryz.prog W9 [.d fd0] [] (λr os=>r=.arr 0 fe0.length/\os=[.arr fe0 1 0 fn0]):=hf0
 rw[show R6 [⟨fd0,fe0,fn0,ft0⟩]=[[fd0,.str ft0]] from rfl]
 refine A5u.goO A4 rfl ?_
 repeat' first|refine st ?_|refine⟨λ_=>?_,λ_=>?_⟩|fail
 refine A7i 4 3 2 rfl rfl rfl ?_
 refine A7h 4 4 7 rfl rfl rfl ?_
 refine A26 2 ?_
 refine Q5 A4 ?_
 repeat' first|refine st ?_|refine⟨λ_=>?_,λ_=>?_⟩|fail
 refine Q5 A4 ?_
 repeat' first|refine st ?_|refine⟨λ_=>?_,λ_=>?_⟩|fail
 refine A7j [2,3,37,38,39] [.ptr 1 0,.ptr 4 0,.d dx,.d (.int .i64 es.length),.d (eI 0)] [0,1,2,3,4,5,6,8] (j6 [.d (.str nm),.d dc,.d dk,.d (.sl [[fd0,.str ft0]]),.d dx] [.d (.str []),.d .nil,.d .nil,.d .nil,.d .nil] nm Cs Ks cn kn [⟨fd0,fe0,fn0,ft0⟩] [] true) rfl rfl (by decide) rfl rfl rfl rfl rfl ?_
 refine I2 A4 A5G A5B (λ(i:Nat) (w:List (List D)×Bool)=>[.d (eI i)]) (λi w=>j6 [.d (.str nm),.d dc,.d dk,.d (.sl [[fd0,.str ft0]]),.d dx] [.d (.str []),.d .nil,.d .nil,.d .nil,.d .nil] nm Cs Ks cn kn [⟨fd0,fe0,fn0,ft0⟩] w.1 w.2) (λi w=>i<=l.length/\w.1=Mt (B7 0) l i/\w.2=w.1.isEmpty) (λi w=>l.length-i) 0 ([],true) rfl rfl rfl rfl (λ_ _ _=>⟨rfl,rfl⟩) rfl ⟨by omega,rfl,rfl⟩ ?_
 repeat' first|refine st ?_|refine⟨λ_=>?_,λ_=>?_⟩|fail
 intro i w ⟨h4,h5,h6⟩
 obtain⟨A,b⟩:=w
 dsimp only at h5 h6 ⊢
 have hAl:A.length=i:=by rw[h5];exact A05 _ l i (by omega)
 have hAm:∀e∈A,e.length=7:=by rw[h5];exact A06 _ _ _
 cases hx:l[i]? with
 |some x=>
  have hlt:=(A7.1 hx).1
  have hs:=A07 (φ:=B7 0) hx
  have hS:=A5f x (hb x (B9 hx)) 0
  rw[<- h5] at hs
  obtain⟨z,hz⟩:∃z,z=B7 0 x:=⟨_,rfl⟩
  rw[<- hz] at hs hS
  obtain⟨o1,n1,v1,m1,l1,a1⟩:=x
  obtain⟨o2,n2,v2,m2,l2,a2⟩:=z
  have hg:=hg0 _ _ _ _ _ _ _ hx
  rw[Ex.ds_mk] at hs
  rw[Ex.av_mk,Ex.av_mk] at hS
  repeat' first|refine st ?_|refine⟨λ_=>?_,λ_=>?_⟩|fail
  exact⟨i+1,(A++[W6 o2 n2 v2 m2 (ng l2 (xL a2))],false),rfl,rfl,rfl,by omega,by omega,hs,by simp⟩
 |none=>
  have hge:=C8.1 hx
  rw[A04 hge,<- hR] at h5
  subst h5
  subst h6
  repeat' first|refine st ?_|refine⟨λ_=>?_,λ_=>?_⟩|fail
  all_goals exact⟨rfl,rfl⟩
theorem A5c(nm:List UInt8)(dc dk df dx:D)(Cs Ks:List (List D))(cn kn:Bool)(hC:B0 Tryz.prog A3w [.d dc] [] (λr os=>r=.arr 0 Cs.length/\os=[.arr Cs 3 0 cn]))(hK:B0 Tryz.prog W9 [.d dk] [] (λr os=>r=.arr 0 Ks.length/\os=[.arr Ks 1 0 kn]))
  (f0 f1:Fi) (hf0:f0.ok) (hf1:f1.ok) (hd:df=.sl (R6 [f0,f1])) (l:List Ex) (hb:∀x∈l,x.bk<=1048576) (hl:l.length<=1048576) (hdx:B3 dx (xL l)) :
  B0 Tryz.prog A0Z [eT nm dc dk df dx] [] (λr os=>r=.agg (oB nm Cs.length Ks.length 2 (xL (l.map (B7 0))).length)/\os=j6 [.d (.str nm),.d dc,.d dk,.d df,.d dx] (oB nm Cs.length Ks.length 2 (xL (l.map (B7 0))).length) nm Cs Ks cn kn [f0,f1] (xL (l.map (B7 0))) (xL (l.map (B7 0))).isEmpty):=by
 have h1:=I7 l
 have hm:=O7 l
 have hg0:=o3 (args:=l)
 obtain⟨R,hR⟩:∃R,R=xL (l.map (B7 0)):=⟨_,rfl⟩
 rw[<- hR]
 obtain⟨es,hes⟩:∃es,es=xL l:=⟨_,rfl⟩
 rw[<- hes] at h1 hm hdx hg0
 subst hd
 obtain⟨fd0,fe0,fn0,ft0⟩:=f0
 have hf0:B0 Tryz.prog W9 [.d fd0] [] (λr os=>r=.arr 0 fe0.length/\os=[.arr fe0 1 0 fn0]):=hf0
 obtain⟨fd1,fe1,fn1,ft1⟩:=f1
 have hf1:B0 Tryz.prog W9 [.d fd1] [] (λr os=>r=.arr 0 fe1.length/\os=[.arr fe1 1 0 fn1]):=hf1
 rw[show R6 [⟨fd0,fe0,fn0,ft0⟩,⟨fd1,fe1,fn1,ft1⟩]=[[fd0,.str ft0],[fd1,.str ft1]] from rfl]
 refine A5u.goO A4 rfl ?_
 repeat' first|refine st ?_|refine⟨λ_=>?_,λ_=>?_⟩|fail
 refine A7i 4 3 2 rfl rfl rfl ?_
 refine A7h 4 4 7 rfl rfl rfl ?_
 refine A26 3 ?_
 refine Q5 A4 ?_
 repeat' first|refine st ?_|refine⟨λ_=>?_,λ_=>?_⟩|fail
 refine Q5 A4 ?_
 repeat' first|refine st ?_|refine⟨λ_=>?_,λ_=>?_⟩|fail
 refine Q5 A4 ?_
 repeat' first|refine st ?_|refine⟨λ_=>?_,λ_=>?_⟩|fail
 refine A7j [2,3,37,38,39] [.ptr 1 0,.ptr 4 0,.d dx,.d (.int .i64 es.length),.d (eI 0)] [0,1,2,3,4,5,6,8,11] (j6 [.d (.str nm),.d dc,.d dk,.d (.sl [[fd0,.str ft0],[fd1,.str ft1]]),.d dx] [.d (.str []),.d .nil,.d .nil,.d .nil,.d .nil] nm Cs Ks cn kn [⟨fd0,fe0,fn0,ft0⟩,⟨fd1,fe1,fn1,ft1⟩] [] true) rfl rfl (by decide) rfl rfl rfl rfl rfl ?_
 refine I2 A4 A5G A5B (λ(i:Nat) (w:List (List D)×Bool)=>[.d (eI i)]) (λi w=>j6 [.d (.str nm),.d dc,.d dk,.d (.sl [[fd0,.str ft0],[fd1,.str ft1]]),.d dx] [.d (.str []),.d .nil,.d .nil,.d .nil,.d .nil] nm Cs Ks cn kn [⟨fd0,fe0,fn0,ft0⟩,⟨fd1,fe1,fn1,ft1⟩] w.1 w.2) (λi w=>i<=l.length/\w.1=Mt (B7 0) l i/\w.2=w.1.isEmpty) (λi w=>l.length-i) 0 ([],true) rfl rfl rfl rfl (λ_ _ _=>⟨rfl,rfl⟩) rfl ⟨by omega,rfl,rfl⟩ ?_
 repeat' first|refine st ?_|refine⟨λ_=>?_,λ_=>?_⟩|fail
 intro i w ⟨h4,h5,h6⟩
 obtain⟨A,b⟩:=w
 dsimp only at h5 h6 ⊢
 have hAl:A.length=i:=by rw[h5];exact A05 _ l i (by omega)
 have hAm:∀e∈A,e.length=7:=by rw[h5];exact A06 _ _ _
 cases hx:l[i]? with
 |some x=>
  have hlt:=(A7.1 hx).1
  have hs:=A07 (φ:=B7 0) hx
  have hS:=A5f x (hb x (B9 hx)) 0
  rw[<- h5] at hs
  obtain⟨z,hz⟩:∃z,z=B7 0 x:=⟨_,rfl⟩
  rw[<- hz] at hs hS
  obtain⟨o1,n1,v1,m1,l1,a1⟩:=x
  obtain⟨o2,n2,v2,m2,l2,a2⟩:=z
  have hg:=hg0 _ _ _ _ _ _ _ hx
  rw[Ex.ds_mk] at hs
  rw[Ex.av_mk,Ex.av_mk] at hS
  repeat' first|refine st ?_|refine⟨λ_=>?_,λ_=>?_⟩|fail
  exact⟨i+1,(A++[W6 o2 n2 v2 m2 (ng l2 (xL a2))],false),rfl,rfl,rfl,by omega,by omega,hs,by simp⟩
 |none=>
  have hge:=C8.1 hx
  rw[A04 hge,<- hR] at h5
  subst h5
  subst h6
  repeat' first|refine st ?_|refine⟨λ_=>?_,λ_=>?_⟩|fail
  all_goals exact⟨rfl,rfl⟩
end Go.Proofs
end
section
namespace Go.Bi
open Go
section
variable {P:Program}{n nb:Nat}{M:C2}{G:Gh}{os:List AO}{w:World}{ρ:C5}{a:Act}
def A6V(Q:AV->List AO->Prop)(rs:List RV)(ρ:C5)(os:List AO):Prop:=k7 ρ os rs λl=>match l with
 |[x,y]=>x.one=true/\y.one=true/\Q (.tup [x,y]) os
 |_=>False
def A6T(Q:AV->List AO->Prop)(rs:List RV)(L:Sl)(os:List AO):Prop:=A47 L os rs λl=>match l with
 |[x,y]=>F1 (x.one=true) (F1 (y.one=true) (Q (.tup [x,y]) os))
 |_=>False
theorem B20{ρ:C5}{os:List AO}{K K':List AV->Prop}(hk:∀l,K l->K' l):∀{rs:List RV},k7 ρ os rs K->k7 ρ os rs K'
 |[],h=>hk _ h
 |.t s::rs,h=>B20 (rs:=rs) (λl hl=>hk _ hl) h
 |.cell s m g::rs,h=>by
  simp only[k7] at h ⊢
  obtain⟨r,h1,h2⟩:=A8I h
  exact h2 _ (B20 (rs:=rs) (λl hl=>hk _ hl) h1)
theorem C1v{Q:AV->List AO->Prop}{rs:List RV}{L:Sl}{os:List AO}(h:A6T Q rs L os):A6V Q rs (D1 L) os:=by
 have h1:=A57 h
 refine B20 (λl hl=>?_) h1
 match l,hl with
 |[x,y],hl=>exact⟨hl.1,hl.2.1,hl.2.2⟩
theorem D6y{c:u5}(hR:X0 n nb c M G os w ρ a){fn:Func}{rs:List RV}(hrs:fn.results.toList.mapM (cRV P)=some rs){Q:AV->List AO->Prop}(h:A6V Q rs ρ os) :
  ∃v,(results fn a.tmps).run P w=.ok v w/\∃M' G' r os',C0 M' G' os' w/\D6 c.M c.G c.os c.w M' G' os' w/\VA M' G' os' r v/\Q r os':=by
 obtain⟨l,vs,h1,h2,h3,h4⟩:=A90 hR.env hR.tmps _ rs hrs _ h
 match l,h1,h3,h4 with
 |[x,y],h1,h3,h4=>
  simp only[H7,P9] at h3
  refine⟨_,B28 h2,M,G,.tup [x,y],os,hR.env,hR.since,?_,h1.2.2⟩
  rw[dif_neg (by omega)]
  refine⟨vs.toArray,rfl,by simpa using h3,λj c u hc hu=>?_⟩
  have hu:vs[j]?=some u:=by simpa using hu
  match j,hc with
  |0,hc=>cases hc;exact B1T (h4 0 _ u rfl hu) h1.1
  |1,hc=>cases hc;exact B1T (h4 1 _ u rfl hu) h1.2.1
  |j+2,hc=>simp at hc
theorem D4A(hm:P.follows .mixedOrders=true){f:FuncId}{fn:Func}{code:Code}{ic:IC}{rs:List RV}(hf:P.funcs[f]?=some fn)(hname:fn.name≠ "runtime.NumGoroutine")(hb:fn.body=some code)(hc:cC P fn.ntmps code=some ic)
  (hrs:fn.results.toList.mapM (cRV P)=some rs) {args:List AV} {bs:List AO} (hargs:args.length<=fn.ntmps) {Q:AV->List AO->Prop}
  (h:W5 P fn.ntmps bs.length ic {norm:=A6V Q rs,exit:=λ_ _ _=>False,ret:=A6V Q rs} (A1B args) bs):B0 P f args bs Q:=by
 refine⟨⟨fn,hf,by rw[hb];rfl,hname⟩,λM G w vs he hl hv=>?_⟩
 refine calls_of_wp hf hb (wp_mono (A7f hm code ic hc _ _ _ h ⟨M,G,bs,w⟩ M G w {tmps:=vs++Array.replicate (fn.ntmps-vs.size) undef,defers:=[]} ?_) λe a' w' hp=>?_)
 ·exact {
   env:=he,since:=D6.refl ..,size:=by simp;omega,defers:=rfl,base:=rfl
   tmps:=λt=>by
    unfold A1B
    by_cases ht:t<args.length
    ·have h1:(vs++Array.replicate (fn.ntmps-vs.size) undef).getD t undef=vs[t]:=by
      simp[A27 (show t<vs.size by omega),show t<vs.size by omega]
     have h2:args.getD t .junk=args[t]:=by simp[ht]
     show VA M G bs (args.getD t .junk) ((vs++Array.replicate (fn.ntmps-vs.size) undef).getD t undef)
     rw[h1,h2]
     have:=hv t args[t] vs[t] (C3 ht) (J4 (by omega))
     generalize args[t]=c at this
     cases c with
     |tup cs=>exact this.elim
     |junk=>trivial
     |_=>exact this
    ·have:args.getD t .junk=.junk:=by simp[E8,A0p (Nat.le_of_not_lt ht)]
     rw[this]
     trivial}
 ·have fin:A0o fn.ntmps bs.length ⟨M,G,bs,w⟩ (A6V Q rs) a' w'->a'.defers=[]/\∃v,(results fn a'.tmps).run P w'=.ok v w'/\∃v',Ending.returned v=.returned v'/\∃M' G' r os',C0 M' G' os' w'/\D6 M G bs w M' G' os' w'/\VA M' G' os' r v'/\Q r os':=by
   rintro⟨M',G',os',ρ',hR,hk⟩
   obtain⟨v,h1,h2⟩:=D6y hR hrs hk
   exact⟨hR.defers,v,h1,v,rfl,h2⟩
  cases e with
  |normal=>exact fin hp
  |ret=>exact fin hp
  |exit id=>obtain⟨_,_,_,_,_,hk⟩:=hp;exact hk.elim
  |_=>exact hp.elim
end
theorem B2.goO2{P:Program}(hm:P.follows .mixedOrders=true){f n:Nat}{ic:IC}{rs:List RV}(h:B2 P f n ic rs){args:List AV}{bs:List AO}(hargs:Nat.ble args.length n=true){Q:AV->List AO->Prop}
  (hw:Go (xI P n bs.length ic (A6T Q rs) (λ_ _ _=>False) (A6T Q rs) (A15 0 args) bs)):B0 P f args bs Q:=by
 obtain⟨fn,h1,h2,h3,h4,h5⟩:=h
 obtain⟨code,hb,hc⟩:=Z2.1 h4
 subst h2
 refine D4A hm h1 (by simpa using h3) hb hc h5 (P5 hargs) ?_
 rw[B1Q]
 exact A46 (K:=⟨A6T Q rs,λ_ _ _=>False,A6T Q rs⟩) ⟨λL os h=>C1v h,λ_ _ _ h=>h,λL os h=>C1v h⟩ hw
end Go.Bi
end
section
namespace Go.Proofs
open Go.Bi
theorem C34(t:Tb)(dc dk df dx:D)(h:N6 t dc dk df dx)(c:Ch)(hc:H6 c)(hq:C7 t c≠0):Pure Tryz.prog Q9 [eT t.nm dc dk df dx,c.av] (.tup [eT [] .nil .nil .nil .nil,.d (eI (C7 t c))]):=by
 have hC:=U4 t dc dk df dx h c hc
 obtain⟨q,hqq⟩:∃q,q=C7 t c:=⟨_,rfl⟩
 rw[<- hqq] at hC hq ⊢
 obtain⟨k,nm,to,⟨cn,ck,cl⟩,⟨vk,vn,vs⟩⟩:=c
 refine V5.go A4 rfl ?_
 repeat' first|refine st ?_|refine⟨λ_=>?_,λ_=>?_⟩|fail
 all_goals rfl
end Go.Proofs
end
