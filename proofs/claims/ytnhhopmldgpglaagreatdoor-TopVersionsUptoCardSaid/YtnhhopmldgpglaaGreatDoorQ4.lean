/- Texts of this claim, joined. No condition. -/
import Derived.Test.YtnhhopmldgpglaaGreatDoorQ3
import Derived.WalkKit
import Derived.Deep.RegionLaw
import Derived.Lib.SliceRun
import Derived.Lib.ReflectliteSwap
import Derived.Test.YtnhhopmldgpglaaGreatDoorRows
set_option linter.unusedSimpArgs false
set_option linter.unusedVariables false
set_option maxRecDepth 10000
set_option maxHeartbeats 4000000
section
namespace Go.Proofs
open Go.RowKit Go.Lib
theorem D2n:Bi.tz Tryz.prog 31=some [.str [],.int .i64 0,.bool false]:=by kernel_rfl
theorem B8X:Tryz.prog.underlying 22=some (.slice 31):=by kernel_rfl
theorem C9C:(Tryz.prog.info? 31).map (λi=>i.size)=some 3:=by kernel_rfl
theorem D39(z:Array Value)(h:0<z.size):(Builtin.zeroCells z 1).toList=z.toList:=by
 apply A3w
 intro i
 simp only[Builtin.zeroCells,Nat.one_mul,A6q,Array.getElem?_map,Array.getElem?_range]
 by_cases hi:i<z.size
 ·simp[hi,Nat.mod_eq_of_lt hi]
 ·simp[hi]
theorem D1G(w:World)(ty:TypeId)(z:Value)(hv:∀w,(zeroValue 31).run Tryz.prog w=.ok z w)(hz:z.cells.size=3)(h1:∀u∈z.cells.toList,u.oneCell'=true)(b o c:Nat)(hc:∀j,j<3->(w.cell? ⟨b,o+j,none⟩).isSome=true)(hf:∀j,j<3->w.frozen? ⟨b,o+j,none⟩=false) :
  (Builtin.clear_ #[22] ty #[.slice (some ⟨b,o,none⟩) 1 c]).run Tryz.prog w=.ok (.tuple #[]) (w.setCells b o z.cells.toList):=by
 have hzc:=D39 z.cells (by omega)
 have hst:=run_storeCells_cells (P:=Tryz.prog) b o z.cells.toList 0 w (by simpa[hz] using hc) (by simpa[hz] using hf) h1
 simp only[A1G] at hst
 simp[Builtin.clear_,run_underlying B8X,hv,hzc,hst]
set_option maxHeartbeats 4000000 in
set_option maxRecDepth 1000000 in
theorem C8A(z:Value)(hv:∀w,(zeroValue 31).run Tryz.prog w=.ok z w)(hz:z.cells.size=3)(hz1:∀u∈z.cells.toList,u.oneCell'=true)(blk n cap i:Nat)(ca:Array Value)(w:World)(hi:i<n)(hl:n<=cap)(hm:cap<=9223372036854775807)(hsz:ca.size=cap*3)
  (hc:∀k,w.cell? ⟨blk,k,none⟩=ca[k]?) (hf:∀k,k<ca.size->w.frozen? ⟨blk,k,none⟩=false) (hone:∀k u,k<n*3->ca[k]?=some u->u.oneCell'=true) :
  Calls Tryz.prog 179 #[.slice (some ⟨blk,0,none⟩) n cap,.int .i64 i,.int .i64 ((i:Int)+1)] w λe w'=>e=.returned (.slice (some ⟨blk,0,none⟩) (n-1) cap)/\
   w'=(w.drew.setCells blk (0+i*3) ((ca.toList.drop ((i+1)*3)).take ((n-(i+1))*3))).setCells blk ((i+(n-(i+1)))*3) z.cells.toList:=by
 obtain⟨i0,hi0,hz1'⟩:=G4.1 C9C
 obtain⟨news,hnews⟩:∃news,news=(ca.toList.drop ((i+1)*3)).take ((n-(i+1))*3):=⟨_,rfl⟩
 have hlen:news.length=(n-(i+1))*3:=by rw[hnews];simp;omega
 have hget:∀t,t<(n-(i+1))*3->news[t]?=ca[(i+1)*3+t]?:=by
  intro t ht
  rw[hnews,Z2,if_pos ht,A0Y,A6q]
 obtain⟨A,hA,hsrc⟩:∃A:Addr,(if cap=i+1 then some (⟨blk,0,none⟩:Addr) else some ⟨blk,(i+1)*3,none⟩)=some A/\Hid (∀t u,news[t]?=some u->w.drew.cell? (A.add t)=some u):=by
  by_cases h:cap=i+1
  ·refine⟨⟨blk,0,none⟩,by simp[h],λt u hu=>?_⟩
   have h0:news.length=0:=by rw[hlen];omega
   rw[A2K.1 h0] at hu
   simp at hu
  ·refine⟨⟨blk,(i+1)*3,none⟩,by simp[h],λt u hu=>?_⟩
   have ht:t<(n-(i+1))*3:=by
    have:=(B2.1 hu).1
    rwa [hlen] at this
   rw[hget t ht] at hu
   rw[Addr.add_lit]
   exact(hc _).trans hu
 have s1:Hid (news.length=(n-(i+1))*3):=hlen
 have s2:Hid (∀u∈news,u.oneCell'=true):=by
  intro u hu
  obtain⟨t,ht⟩:=A12.1 hu
  have htl:t<(n-(i+1))*3:=by
   have:=(B2.1 ht).1
   rwa [hlen] at this
  rw[hget t htl] at ht
  exact hone _ u (by omega) ht
 have s3:Hid (∀t,t<news.length->(w.drew.cell? ⟨blk,0+i*3+t,none⟩).isSome=true/\w.drew.frozen? ⟨blk,0+i*3+t,none⟩=false):=by
  intro t ht
  rw[hlen] at ht
  have hk:0+i*3+t<ca.size:=by omega
  refine⟨?_,hf _ hk⟩
  show(w.cell? _).isSome=true
  rw[hc,J1 hk];rfl
 obtain⟨W1,hW1⟩:∃W1,W1=w.drew.setCells blk (0+i*3) news:=⟨_,rfl⟩
 have hcl:∀ty,(Builtin.clear_ #[22] ty #[.slice (some ⟨blk,(i+(n-(i+1)))*3,none⟩) (n-(i+(n-(i+1)))) (cap-(i+(n-(i+1))))]).run Tryz.prog W1=.ok (.tuple #[]) (W1.setCells blk ((i+(n-(i+1)))*3) z.cells.toList):=λty=>by
  rw[show n-(i+(n-(i+1)))=1 by omega]
  refine D1G W1 ty z hv hz hz1 blk _ _ (λj hj=>?_) (λj hj=>?_)
  ·rw[hW1]
   have hk:(i+(n-(i+1)))*3+j<ca.size:=by omega
   refine isSome_setCells blk _ _ _ _ ?_
   show(w.cell? _).isSome=true
   rw[hc,J1 hk];rfl
  ·rw[hW1,World.frozen?_setCells]
   exact hf _ (by omega)
 rw[<- hnews]
 obtain⟨zs,hzs⟩:∃zs,zs=z.cells.toList:=⟨_,rfl⟩
 rw[<- hzs] at hcl ⊢
 clear hzs hz1 hz hv
 have hW:Hid (W1=w.drew.setCells blk (0+i*3) news):=hW1
 have hic:i<=cap:=by omega
 have hjc:i+1<=cap:=by omega
 have hp0:(0:Int)<=(i:Int)+1:=by omega
 have U8:(i:Int)+1<=(n:Int):=by omega
 have hp2:((i:Int)+1).toNat=i+1:=by omega
 have hne:¬((i:Int)=(i:Int)+1):=by omega
 clear hW1 hc hf hget hnews hlen hone
 go_enter Tryz.func179,Tryz.ntmps179
 go_wp2_with fail
 go_region_law (refine step_append_room rfl (.tmp 22) (.tmp 25) 22 rfl 31 i0 3 B8X hi0 hz1' blk 0 i cap (by simp[Act.eval,Act.put]) A (n-(i+1)) (cap-(i+1)) news (by simp[Act.eval,Act.put]) s1.out hsrc.out s2.out (by omega) s3.out ?_;rw[<- hW.out])
 go_wp2
 go_ret
 exact⟨by rw[show n-1=i+(n-(i+1)) by omega];rfl,by rw[hW.out]⟩
end Go.Proofs
end
section
namespace Go.Bi
open Go
theorem A9W(b:Nat):∀(vs:List Value)(o:Nat)(w:World)(ca:Array Value)(t:TypeId),w.heap[b]?=some (.cells ca t (0,0))->
  ∃ca',(w.setCells b o vs).heap[b]?=some (.cells ca' t (0,0))/\ca'.size=ca.size/\(∀k,ca'[k]?=if o<=k/\k<o+vs.length/\k<ca.size then vs[k-o]? else ca[k]?)/\
   (∀b',b'≠b->(w.setCells b o vs).heap[b']?=w.heap[b']?)/\(w.setCells b o vs).os=w.os/\(w.setCells b o vs).tape=w.tape/\(w.setCells b o vs).output=w.output/\(w.setCells b o vs).heap.size=w.heap.size
 |[],o,w,ca,t,h=>⟨ca,h,rfl,λk=>by rw[if_neg (by simp;omega)],λ_ _=>rfl,rfl,rfl,rfl,rfl⟩
 |v::vs,o,w,ca,t,h=>by
  have h1:(w.setCell ⟨b,o,none⟩ v).heap[b]?=some (.cells (ca.setIfInBounds o v) t (0,0)):=by
   simp[World.setCell,A4v,h]
  obtain⟨ca',a1,a2,a3,a4,a5,a6,a7,a8⟩:=A9W b vs (o+1) (w.setCell ⟨b,o,none⟩ v) _ t h1
  refine⟨ca',a1,by rw[a2];simp,λk=>?_,λb' hb=>?_,a5,a6,a7,by rw[World.setCells,a8];simp[World.setCell]⟩
  ·rw[a3 k]
   simp only[Array.size_setIfInBounds,L0]
   by_cases hk:k=o
   ·subst hk
    rw[if_neg (by omega)]
    by_cases hs:k<ca.size
    ·rw[if_pos (by omega),A2U,Array.getElem?_setIfInBounds_self_of_lt hs];rfl
    ·rw[if_neg (by omega),Array.getElem?_eq_none (by simp;omega),Array.getElem?_eq_none (by omega)]
   ·rw[A0p (λe=>hk e.symm)]
    by_cases hc:o+1<=k/\k<o+1+vs.length/\k<ca.size
    ·rw[if_pos hc,if_pos (by omega),show k-o=(k-(o+1))+1 by omega,Z1]
    ·rw[if_neg hc,if_neg (by omega)]
  ·rw[World.setCells,a4 b' hb]
   simp[World.setCell,A4v,Ne.symm hb]
section
variable {P:Program}{M:C4}{G:Gh}{os:List AO}{w w':World}
theorem D1D(he:C1 M G os w){id sz:Nat}{es es':List (List D)}(ho:os[id]?=some (.arr es sz 0 false))(hlen:es'.length=es.length)(hsz:∀e∈es',e.length=sz)(hos:w'.os=w.os)(htp:w'.tape=w.tape)(hout:w'.output=w.output)(hs:w'.heap.size=w.heap.size)
  (hoth:∀b,b≠G.blk id->w'.heap[b]?=w.heap[b]?) (hca:∀ca t,w.heap[G.blk id]?=some (.cells ca t (0,0))->∃ca',w'.heap[G.blk id]?=some (.cells ca' t (0,0))/\ca'.size=ca.size/\∀(i j:Nat) e x,es'[i]?=some e->e[j]?=some x->∃u,ca'[i*sz+j]?=some u/\Rd M x u) :
  C1 M G (os.set id (.arr es' sz 0 false)) w'/\D9 M G os w M G (os.set id (.arr es' sz 0 false)) w':=by
 obtain⟨h1,h2,h3,h4,h5⟩:=he.obj id _ ho
 obtain⟨ca,t,h6,h7,h8,h9,h10,h11⟩:=h5 rfl
 obtain⟨ca',k1,k2,k3⟩:=hca ca t h6
 have hlt:=(B2.1 ho).1
 have hno:∀a v,M a=some v->a.block=G.blk id->False:=λa v ha hb=>by
  obtain⟨es',sz',frz',nl',h12,h13⟩:=he.sep id a v (E5.arr ho) ha hb
  rw[ho] at h12
  cases h12
  omega
 have hk:L9 G G id (os.set id (.arr es' sz 0 false)) (.arr es sz 0 false):=⟨es',0,false,by simp[hlt],by omega,λ_=>⟨rfl,rfl,rfl⟩⟩
 have hsu:=l9 he (w':=w') (M':=M) ho rfl hos htp hout hs hoth (λ_ _ h=>h) (λ_ _ h=>.inl h) hk
 refine⟨u5 he ho rfl hos htp hout hs hoth (λ_ _ h=>h) (λ_ _ h=>.inl h) hk (λ_ _=>rfl) (λa v ha hb=>(hno a v ha hb).elim) (λa v ha hb=>(hno a v ha hb).elim) ?_,hsu⟩
 exact⟨h1,hsz,S8 _,λh=>(by cases h),λ_=>⟨ca',t,k1,by rw[k2];exact h7,by omega,h9,k3,λo ho=>by omega⟩⟩
end
end Go.Bi
end
section
namespace Go.Proofs
open Go.Bi
def L7:List D:=[.str [],.int .i64 0,.bool false]
theorem C97{α:Type}(l:List α)(i:Nat)(hi:i<l.length)(r:Nat):(l.eraseIdx i)[r]?=if r<i then l[r]? else l[r+1]?:=by
 rw[A3z]
theorem A4F(es:List (List D))(hm:∀e∈es,e.length=3)(i:Nat)(hi:i<es.length){os:List AO}{id:Nat}(ho:os[id]?=some (.arr es 3 0 false)) :
  B4 Tryz.prog C51 [.arr id es.length,.d (eI i),.d (eI ((i:Int)+1))] os (λr os'=>r=.d (.sl (es.eraseIdx i))/\os'=os.set id (.arr (es.eraseIdx i++[L7]) 3 (es.length-1) false)):=by
 refine⟨⟨_,Tryz.func179,rfl,by decide⟩,λM G w vs hE hl hv=>?_⟩
 obtain⟨v0,v1,v2,rfl⟩:∃v0 v1 v2,vs=#[v0,v1,v2]:=by
  obtain⟨l⟩:=vs
  match l,hl with
  |[x,y,z],_=>exact⟨x,y,z,rfl⟩
 have hv0:=hv 0 _ v0 rfl rfl
 have hv1:Rd M (eI i) v1:=hv 1 _ v1 rfl rfl
 have hv2:Rd M (eI ((i:Int)+1)) v2:=hv 2 _ v2 rfl rfl
 cases hv1
 cases hv2
 obtain⟨h0,es0,sz0,frz0,nl0,h1,h2,h3⟩:=hv0
 rw[ho] at h1
 cases h1
 have hv:=h3 rfl
 subst hv
 unfold Gh.slv
 rw[if_neg (by decide)]
 obtain⟨z,hz1,hz2,hz3⟩:=A1s (M:=M) D2n
 have hzs:z.cells.size=3:=hz2
 have hzone:∀u∈z.cells.toList,u.oneCell'=true:=by
  intro u hu
  obtain⟨j,hj⟩:=A12.1 hu
  have hjl:j<3:=by have:=(B2.1 hj).1;simpa[hzs] using this
  have hr:=hz3 j ([D.str [],.int .i64 0,.bool false][j]) u (C5 (by simpa using hjl)) (by simpa using hj)
  exact Rd.oneCell hr
 obtain⟨k1,k2,k3,k4,k5⟩:=hE.obj id _ ho
 obtain⟨ca,t,h6,h7,h8,h9,h10,h11⟩:=k5 rfl
 have hcell:∀k,w.cell? ⟨G.blk id,k,none⟩=ca[k]?:=λk=>by simp[World.cell?,h6]
 have hfr:∀k,k<ca.size->w.frozen? ⟨G.blk id,k,none⟩=false:=λk _=>by simp[World.frozen?,h6]
 have hone:∀k u,k<es.length*3->ca[k]?=some u->u.oneCell'=true:=by
  intro k u hk hu
  have hr:k / 3<es.length:=by omega
  have he:es[k / 3]?=some es[k / 3]:=C5 hr
  have hlen:=hm _ (C3 he)
  have hx:es[k / 3][k % 3]?=some es[k / 3][k % 3]:=C5 (by omega)
  obtain⟨u',hu',hrd⟩:=h10 _ _ _ _ he hx
  rw[show k / 3*3+k % 3=k by omega,hu] at hu'
  cases hu'
  exact Rd.oneCell hrd
 refine(C8A z hz1 hzs hzone (G.blk id) es.length (G.cap id) i ca w hi h8 (by unfold maxLen at h9;omega) h7 hcell hfr hone).mono ?_
 rintro e w' ⟨rfl,rfl⟩
 obtain⟨news,hnews⟩:∃news,news=(ca.toList.drop ((i+1)*3)).take ((es.length-(i+1))*3):=⟨_,rfl⟩
 have hnl:news.length=(es.length-(i+1))*3:=by rw[hnews];simp;omega
 have hget:∀t,t<(es.length-(i+1))*3->news[t]?=ca[(i+1)*3+t]?:=by
  intro t ht
  rw[hnews,Z2,if_pos ht,A0Y,A6q]
 rw[<- hnews]
 have hd:w.drew.heap[G.blk id]?=some (.cells ca t (0,0)):=h6
 obtain⟨ca1,a1,a2,a3,a4,a5,a6,a7,a8⟩:=A9W (G.blk id) news (0+i*3) w.drew ca t hd
 obtain⟨ca2,b1,b2,b3,b4,b5,b6,b7,b8⟩:=A9W (G.blk id) z.cells.toList ((i+(es.length-(i+1)))*3) _ ca1 t a1
 have hel:(es.eraseIdx i).length=es.length-1:=by rw[A1D,if_pos hi]
 obtain⟨e1,s1⟩:=D1D (w':=(w.drew.setCells (G.blk id) (0+i*3) news).setCells (G.blk id) ((i+(es.length-(i+1)))*3) z.cells.toList) hE.drew (id:=id) (sz:=3) (es':=es.eraseIdx i++[L7]) ho (by rw[M7,hel,A3A];omega) (λe he=>by
   rcases R3.1 he with he|he
   ·exact hm e (A8p he)
   ·cases Z3.1 he;rfl) (by rw[b5,a5]) (by rw[b6,a6]) (by rw[b7,a7]) (by rw[b8,a8]) (λb hb=>by rw[b4 b hb,a4 b hb]) (λca0 t0 hh=>by
   rw[hd] at hh
   cases hh
   refine⟨ca2,b1,by rw[b2,a2],λr j e x hr hj=>?_⟩
   have hrl:=(B2.1 hr).1
   rw[M7,hel,A3A] at hrl
   have hjl:j<3:=by
    have h:=(B2.1 hj).1
    rcases R3.1 (C3 hr) with he|he
    ·rwa [hm e (A8p he)] at h
    ·cases Z3.1 he;exact h
   rw[b3,a2]
   have hzl:z.cells.toList.length=3:=by simpa using hzs
   rw[hzl]
   by_cases hlast:r=es.length-1
   ·rw[if_pos (by omega)]
    rw[P6 (by omega),hel,show r-(es.length-1)=0 by omega] at hr
    cases hr
    rw[show r*3+j-(i+(es.length-(i+1)))*3=j by omega]
    have hju:z.cells[j]?=some z.cells[j]:=J1 (by omega)
    exact⟨z.cells[j],by rw[A6q];exact hju,hz3 j x _ hj hju⟩
   ·rw[if_neg (by omega),a3,hnl]
    rw[J5 (by omega),C97 es i hi] at hr
    by_cases hri:r<i
    ·rw[if_pos hri] at hr
     rw[if_neg (by omega)]
     exact h10 r j e x hr hj
    ·rw[if_neg hri] at hr
     rw[if_pos (by omega),hget _ (by omega),show(i+1)*3+(r*3+j-(0+i*3))=(r+1)*3+j by omega]
     exact h10 (r+1) j e x hr hj)
 have ho2:(os.set id (.arr (es.eraseIdx i++[L7]) 3 0 false))[id]?=some (.arr (es.eraseIdx i++[L7]) 3 0 false):=U1 ho
 obtain⟨e2,s2,r2⟩:=B6V e1 (id:=id) (m:=es.length-1) ho2 (by rw[M7,hel];omega)
 rw[List.set_set] at e2 s2
 refine⟨_,rfl,_,G,.d (.sl (es.eraseIdx i)),_,e2,((A1X ..).trans s1).trans s2,?_,rfl,rfl⟩
 have ht:(es.eraseIdx i++[L7]).take (es.length-1)=es.eraseIdx i:=by rw[<- hel,List.take_left]
 rw[ht] at r2
 exact r2
end Go.Proofs
end
section
namespace Go.Bi
open Go
theorem A6p{P:Program}{n nb:Nat}{cd:IC}{N:Sl->List AO->Prop}{E0:Nat->Sl->List AO->Prop}{R:Sl->List AO->Prop}{L:Sl}{os:List AO}(ts:List Nat)(vs:List AV)(σ:List Nat)(os2:List AO)(h1:R1 L ts=vs.map (mA (sg σ)))(hlv:vs.length=ts.length)(hn:σ.Nodup)
  (hσ:σ.take nb=List.range nb) (ho:σ.map (λs=>os[s]?)=os2.map (λo=>some (mO (sg σ) o))) (hid:(os2.take nb).map (mO (sg σ))=os2.take nb)
  (hb:vs.all (λv=>v.bndB os2.length)=true) (hb3:os2.all (λo=>o.bndB os2.length)=true) (k:s6 P n nb cd N E0 R (O5 ts vs) os2):s6 P n nb cd N E0 R L os:=by
 have hw:=D2M (n:=n) (nb:=nb) (ks:=[]) (ws:=[]) σ h1 rfl hlv hn hσ ho hid hb rfl hb3
 rw[show O5 ts vs++O5 [] []=O5 ts vs by show O5 ts vs++[]=_;rw[A1C]] at hw
 refine⟨λcode hc c M G w a hR=>?_⟩
 obtain⟨M',G',hR'⟩:=hw c M G w a hR
 exact k.h code hc c M' G' w a hR'
end Go.Bi
namespace Go.Proofs
open Go.Bi
def A7:D->Bool
 |.nil=>true
 |_=>false
theorem G7(l:List (List D))(hl:l.length<=1048577)(hm:∀e∈l,e.length=1)(d:D)(hd:B8 d l):B4 Tryz.prog W3 [.d d] [] (λr os=>r=.arr 0 l.length/\os=[.arr l 1 0 (A7 d)]):=by
 rcases hd with ⟨rfl,rfl⟩|rfl
 ·refine B4.own_nil 1 (by decide) ?_
  refine A6B.go A6 rfl ?_
  repeat' first|refine st ?_|((with_reducible apply D1);conv=>whnf)|(with_reducible first|apply A5|apply A4)<;>intro _
 ·refine A6B.goO A6 rfl ?_
  have h0:([]:List (List D)).length=0:=rfl
  have h00:(([]:List (List D))++l).length=l.length:=rfl
  have hb:(([]:List (List D)).length+l.length)*8<=140737488355328/\([]:List (List D)).length+l.length<=9223372036854775807:=by rw[h0];omega
  repeat' first|refine st ?_|((with_reducible apply D1);conv=>whnf)|(with_reducible first|apply A5|apply A4)<;>intro _
  all_goals (refine⟨rfl,?_⟩;cases l<;>rfl)
theorem V0(l:List (List D))(hl:l.length<=1048577)(hm:∀e∈l,e.length=3)(d:D)(hd:B8 d l):B4 Tryz.prog A2T [.d d] [] (λr os=>r=.arr 0 l.length/\os=[.arr l 3 0 (A7 d)]):=by
 rcases hd with ⟨rfl,rfl⟩|rfl
 ·refine B4.own_nil 3 (by decide) ?_
  refine B1I.go A6 rfl ?_
  repeat' first|refine st ?_|((with_reducible apply D1);conv=>whnf)|(with_reducible first|apply A5|apply A4)<;>intro _
 ·refine B1I.goO A6 rfl ?_
  have h0:([]:List (List D)).length=0:=rfl
  have h00:(([]:List (List D))++l).length=l.length:=rfl
  have hb:(([]:List (List D)).length+l.length)*32<=140737488355328/\([]:List (List D)).length+l.length<=9223372036854775807:=by rw[h0];omega
  repeat' first|refine st ?_|((with_reducible apply D1);conv=>whnf)|(with_reducible first|apply A5|apply A4)<;>intro _
  all_goals (refine⟨rfl,?_⟩;cases l<;>rfl)
structure Fi where
 d:D
 es:List (List D)
 nl:Bool
 tb:List UInt8
def Fi.ok(f:Fi):Prop:=B4 Tryz.prog W3 [.d f.d] [] (λr os=>r=.arr 0 f.es.length/\os=[.arr f.es 1 0 f.nl])
def R4(l:List Fi):List (List D):=l.map λf=>[f.d,.str f.tb]
def A3c:Nat->List Fi->List (List AV)
 |_,[]=>[]
 |k,f::fs=>[.arr k f.es.length,.d (.str f.tb)]::A3c (k+1) fs
def A9X(fs:List Fi):List AO:=fs.map λf=>.arr f.es 1 0 f.nl
def oB(nm:List UInt8)(lc lk lf lx:Nat):List AV:=[.d (.str nm),.arr 2 lc,.arr 3 lk,.rs 5 lf,.arr 6 lx]
def Z7(tab out:List AV)(nm:List UInt8)(C K:List (List D))(cn kn:Bool)(fs:List Fi)(A:List (List D))(an:Bool):List AO:=
 [.cells tab,.cells out,.arr C 3 0 cn,.arr K 1 0 kn,.cells (oB nm C.length K.length fs.length A.length),.rarr (A3c 7 fs) 2 fs.isEmpty,.arr A 7 0 an]++A9X fs
end Go.Proofs
end
section
namespace Go.Proofs
open Go.Bi
theorem A4A(nm:List UInt8)(dc dk df dx:D)(Cs Ks:List (List D))(cn kn:Bool)(hC:B4 Tryz.prog A2T [.d dc] [] (λr os=>r=.arr 0 Cs.length/\os=[.arr Cs 3 0 cn]))(hK:B4 Tryz.prog W3 [.d dk] [] (λr os=>r=.arr 0 Ks.length/\os=[.arr Ks 1 0 kn]))
  (f0 f1 f2:Fi) (hf0:f0.ok) (hf1:f1.ok) (hf2:f2.ok) (hd:df=.sl (R4 [f0,f1,f2])) (l:List Ex) (hb:∀x∈l,x.bk<=1048576) (hl:l.length<=1048576) (hdx:B8 dx (xL l)) :
  B4 Tryz.prog A0s [eT nm dc dk df dx] [] (λr os=>r=.agg (oB nm Cs.length Ks.length 3 (xL (l.map (C0 0))).length)/\os=Z7 [.d (.str nm),.d dc,.d dk,.d df,.d dx] (oB nm Cs.length Ks.length 3 (xL (l.map (C0 0))).length) nm Cs Ks cn kn [f0,f1,f2] (xL (l.map (C0 0))) (xL (l.map (C0 0))).isEmpty):=by
 have h1:=I8 l
 have hm:=P0 l
 have hg0:=y9 (args:=l)
 obtain⟨R,hR⟩:∃R,R=xL (l.map (C0 0)):=⟨_,rfl⟩
 rw[<- hR]
 obtain⟨es,hes⟩:∃es,es=xL l:=⟨_,rfl⟩
 rw[<- hes] at h1 hm hdx hg0
 subst hd
 obtain⟨fd0,fe0,fn0,ft0⟩:=f0
 have hf0:B4 Tryz.prog W3 [.d fd0] [] (λr os=>r=.arr 0 fe0.length/\os=[.arr fe0 1 0 fn0]):=hf0
 obtain⟨fd1,fe1,fn1,ft1⟩:=f1
 have hf1:B4 Tryz.prog W3 [.d fd1] [] (λr os=>r=.arr 0 fe1.length/\os=[.arr fe1 1 0 fn1]):=hf1
 obtain⟨fd2,fe2,fn2,ft2⟩:=f2
 have hf2:B4 Tryz.prog W3 [.d fd2] [] (λr os=>r=.arr 0 fe2.length/\os=[.arr fe2 1 0 fn2]):=hf2
 rw[show R4 [⟨fd0,fe0,fn0,ft0⟩,⟨fd1,fe1,fn1,ft1⟩,⟨fd2,fe2,fn2,ft2⟩]=[[fd0,.str ft0],[fd1,.str ft1],[fd2,.str ft2]] from rfl]
 refine A4K.goO A6 rfl ?_
 repeat' first|refine st ?_|((with_reducible apply V7);(·first|exact hC|exact hK|exact hf0|exact hf1|exact hf2))|(with_reducible first|apply A5|apply A4)<;>intro _
 refine A6o 4 3 2 rfl rfl rfl ?_
 refine A6n 4 4 7 rfl rfl rfl ?_
 refine A1A 4 ?_
 refine Q3 A6 ?_
 repeat' first|refine st ?_|((with_reducible apply V7);(·first|exact hC|exact hK|exact hf0|exact hf1|exact hf2))|(with_reducible first|apply A5|apply A4)<;>intro _
 refine Q3 A6 ?_
 repeat' first|refine st ?_|((with_reducible apply V7);(·first|exact hC|exact hK|exact hf0|exact hf1|exact hf2))|(with_reducible first|apply A5|apply A4)<;>intro _
 refine Q3 A6 ?_
 repeat' first|refine st ?_|((with_reducible apply V7);(·first|exact hC|exact hK|exact hf0|exact hf1|exact hf2))|(with_reducible first|apply A5|apply A4)<;>intro _
 refine Q3 A6 ?_
 repeat' first|refine st ?_|((with_reducible apply V7);(·first|exact hC|exact hK|exact hf0|exact hf1|exact hf2))|(with_reducible first|apply A5|apply A4)<;>intro _
 refine A6p [2,3,37,38,39] [.ptr 1 0,.ptr 4 0,.d dx,.d (.int .i64 es.length),.d (eI 0)] [0,1,2,3,4,5,6,8,11,14] (Z7 [.d (.str nm),.d dc,.d dk,.d (.sl [[fd0,.str ft0],[fd1,.str ft1],[fd2,.str ft2]]),.d dx] [.d (.str []),.d .nil,.d .nil,.d .nil,.d .nil] nm Cs Ks cn kn [⟨fd0,fe0,fn0,ft0⟩,⟨fd1,fe1,fn1,ft1⟩,⟨fd2,fe2,fn2,ft2⟩] [] true) rfl rfl (by decide) rfl rfl rfl rfl rfl ?_
 refine P5 A6 A4X A4S (λ(i:Nat) (w:List (List D)×Bool)=>[.d (eI i)]) (λi w=>Z7 [.d (.str nm),.d dc,.d dk,.d (.sl [[fd0,.str ft0],[fd1,.str ft1],[fd2,.str ft2]]),.d dx] [.d (.str []),.d .nil,.d .nil,.d .nil,.d .nil] nm Cs Ks cn kn [⟨fd0,fe0,fn0,ft0⟩,⟨fd1,fe1,fn1,ft1⟩,⟨fd2,fe2,fn2,ft2⟩] w.1 w.2) (λi w=>i<=l.length/\w.1=Mt (C0 0) l i/\w.2=w.1.isEmpty) (λi w=>l.length-i) 0 ([],true) rfl rfl rfl rfl (λ_ _ _=>⟨rfl,rfl⟩) rfl ⟨by omega,rfl,rfl⟩ ?_
 repeat' first|refine st ?_|(with_reducible first|apply A5|apply A4)<;>intro _
 intro i w ⟨h4,h5,h6⟩
 obtain⟨A,b⟩:=w
 dsimp only at h5 h6 ⊢
 have hAl:A.length=i:=by rw[h5];exact A2P _ l i (by omega)
 have hAm:∀e∈A,e.length=7:=by rw[h5];exact A2Q _ _ _
 cases hx:l[i]? with
 |some x=>
  have hlt:=(B2.1 hx).1
  have hs:=A2R (φ:=C0 0) hx
  have hS:=A4C x (hb x (C3 hx)) 0
  rw[<- h5] at hs
  obtain⟨z,hz⟩:∃z,z=C0 0 x:=⟨_,rfl⟩
  rw[<- hz] at hs hS
  obtain⟨o1,n1,v1,m1,l1,a1⟩:=x
  obtain⟨o2,n2,v2,m2,l2,a2⟩:=z
  have hg:=hg0 _ _ _ _ _ _ _ hx
  rw[Ex.ds_mk] at hs
  rw[Ex.av_mk,Ex.av_mk] at hS
  repeat' first|refine st ?_|((with_reducible first|apply A9|apply A8);(·exact hS))|(with_reducible first|apply A5|apply A4)<;>intro _
  exact⟨i+1,(A++[m6 o2 n2 v2 m2 (ng l2 (xL a2))],false),rfl,rfl,rfl,by omega,by omega,hs,by simp⟩
 |none=>
  have hge:=E4.1 hx
  rw[A2O hge,<- hR] at h5
  subst h5
  subst h6
  repeat' first|refine st ?_|(with_reducible first|apply A5|apply A4)<;>intro _
  all_goals exact⟨rfl,rfl⟩
theorem A4B(nm:List UInt8)(dc dk df dx:D)(Cs Ks:List (List D))(cn kn:Bool)(hC:B4 Tryz.prog A2T [.d dc] [] (λr os=>r=.arr 0 Cs.length/\os=[.arr Cs 3 0 cn]))(hK:B4 Tryz.prog W3 [.d dk] [] (λr os=>r=.arr 0 Ks.length/\os=[.arr Ks 1 0 kn]))
  (f0 f1 f2 f3:Fi) (hf0:f0.ok) (hf1:f1.ok) (hf2:f2.ok) (hf3:f3.ok) (hd:df=.sl (R4 [f0,f1,f2,f3])) (l:List Ex) (hb:∀x∈l,x.bk<=1048576) (hl:l.length<=1048576) (hdx:B8 dx (xL l)) :
  B4 Tryz.prog A0s [eT nm dc dk df dx] [] (λr os=>r=.agg (oB nm Cs.length Ks.length 4 (xL (l.map (C0 0))).length)/\os=Z7 [.d (.str nm),.d dc,.d dk,.d df,.d dx] (oB nm Cs.length Ks.length 4 (xL (l.map (C0 0))).length) nm Cs Ks cn kn [f0,f1,f2,f3] (xL (l.map (C0 0))) (xL (l.map (C0 0))).isEmpty):=by
 have h1:=I8 l
 have hm:=P0 l
 have hg0:=y9 (args:=l)
 obtain⟨R,hR⟩:∃R,R=xL (l.map (C0 0)):=⟨_,rfl⟩
 rw[<- hR]
 obtain⟨es,hes⟩:∃es,es=xL l:=⟨_,rfl⟩
 rw[<- hes] at h1 hm hdx hg0
 subst hd
 obtain⟨fd0,fe0,fn0,ft0⟩:=f0
 have hf0:B4 Tryz.prog W3 [.d fd0] [] (λr os=>r=.arr 0 fe0.length/\os=[.arr fe0 1 0 fn0]):=hf0
 obtain⟨fd1,fe1,fn1,ft1⟩:=f1
 have hf1:B4 Tryz.prog W3 [.d fd1] [] (λr os=>r=.arr 0 fe1.length/\os=[.arr fe1 1 0 fn1]):=hf1
 obtain⟨fd2,fe2,fn2,ft2⟩:=f2
 have hf2:B4 Tryz.prog W3 [.d fd2] [] (λr os=>r=.arr 0 fe2.length/\os=[.arr fe2 1 0 fn2]):=hf2
 obtain⟨fd3,fe3,fn3,ft3⟩:=f3
 have hf3:B4 Tryz.prog W3 [.d fd3] [] (λr os=>r=.arr 0 fe3.length/\os=[.arr fe3 1 0 fn3]):=hf3
 rw[show R4 [⟨fd0,fe0,fn0,ft0⟩,⟨fd1,fe1,fn1,ft1⟩,⟨fd2,fe2,fn2,ft2⟩,⟨fd3,fe3,fn3,ft3⟩]=[[fd0,.str ft0],[fd1,.str ft1],[fd2,.str ft2],[fd3,.str ft3]] from rfl]
 refine A4K.goO A6 rfl ?_
 repeat' first|refine st ?_|((with_reducible apply V7);(·first|exact hC|exact hK|exact hf0|exact hf1|exact hf2|exact hf3))|(with_reducible first|apply A5|apply A4)<;>intro _
 refine A6o 4 3 2 rfl rfl rfl ?_
 refine A6n 4 4 7 rfl rfl rfl ?_
 refine A1A 5 ?_
 refine Q3 A6 ?_
 repeat' first|refine st ?_|((with_reducible apply V7);(·first|exact hC|exact hK|exact hf0|exact hf1|exact hf2|exact hf3))|(with_reducible first|apply A5|apply A4)<;>intro _
 refine Q3 A6 ?_
 repeat' first|refine st ?_|((with_reducible apply V7);(·first|exact hC|exact hK|exact hf0|exact hf1|exact hf2|exact hf3))|(with_reducible first|apply A5|apply A4)<;>intro _
 refine Q3 A6 ?_
 repeat' first|refine st ?_|((with_reducible apply V7);(·first|exact hC|exact hK|exact hf0|exact hf1|exact hf2|exact hf3))|(with_reducible first|apply A5|apply A4)<;>intro _
 refine Q3 A6 ?_
 repeat' first|refine st ?_|((with_reducible apply V7);(·first|exact hC|exact hK|exact hf0|exact hf1|exact hf2|exact hf3))|(with_reducible first|apply A5|apply A4)<;>intro _
 refine Q3 A6 ?_
 repeat' first|refine st ?_|((with_reducible apply V7);(·first|exact hC|exact hK|exact hf0|exact hf1|exact hf2|exact hf3))|(with_reducible first|apply A5|apply A4)<;>intro _
 refine A6p [2,3,37,38,39] [.ptr 1 0,.ptr 4 0,.d dx,.d (.int .i64 es.length),.d (eI 0)] [0,1,2,3,4,5,6,8,11,14,17] (Z7 [.d (.str nm),.d dc,.d dk,.d (.sl [[fd0,.str ft0],[fd1,.str ft1],[fd2,.str ft2],[fd3,.str ft3]]),.d dx] [.d (.str []),.d .nil,.d .nil,.d .nil,.d .nil] nm Cs Ks cn kn [⟨fd0,fe0,fn0,ft0⟩,⟨fd1,fe1,fn1,ft1⟩,⟨fd2,fe2,fn2,ft2⟩,⟨fd3,fe3,fn3,ft3⟩] [] true) rfl rfl (by decide) rfl rfl rfl rfl rfl ?_
 refine P5 A6 A4X A4S (λ(i:Nat) (w:List (List D)×Bool)=>[.d (eI i)]) (λi w=>Z7 [.d (.str nm),.d dc,.d dk,.d (.sl [[fd0,.str ft0],[fd1,.str ft1],[fd2,.str ft2],[fd3,.str ft3]]),.d dx] [.d (.str []),.d .nil,.d .nil,.d .nil,.d .nil] nm Cs Ks cn kn [⟨fd0,fe0,fn0,ft0⟩,⟨fd1,fe1,fn1,ft1⟩,⟨fd2,fe2,fn2,ft2⟩,⟨fd3,fe3,fn3,ft3⟩] w.1 w.2) (λi w=>i<=l.length/\w.1=Mt (C0 0) l i/\w.2=w.1.isEmpty) (λi w=>l.length-i) 0 ([],true) rfl rfl rfl rfl (λ_ _ _=>⟨rfl,rfl⟩) rfl ⟨by omega,rfl,rfl⟩ ?_
 repeat' first|refine st ?_|(with_reducible first|apply A5|apply A4)<;>intro _
 intro i w ⟨h4,h5,h6⟩
 obtain⟨A,b⟩:=w
 dsimp only at h5 h6 ⊢
 have hAl:A.length=i:=by rw[h5];exact A2P _ l i (by omega)
 have hAm:∀e∈A,e.length=7:=by rw[h5];exact A2Q _ _ _
 cases hx:l[i]? with
 |some x=>
  have hlt:=(B2.1 hx).1
  have hs:=A2R (φ:=C0 0) hx
  have hS:=A4C x (hb x (C3 hx)) 0
  rw[<- h5] at hs
  obtain⟨z,hz⟩:∃z,z=C0 0 x:=⟨_,rfl⟩
  rw[<- hz] at hs hS
  obtain⟨o1,n1,v1,m1,l1,a1⟩:=x
  obtain⟨o2,n2,v2,m2,l2,a2⟩:=z
  have hg:=hg0 _ _ _ _ _ _ _ hx
  rw[Ex.ds_mk] at hs
  rw[Ex.av_mk,Ex.av_mk] at hS
  repeat' first|refine st ?_|((with_reducible first|apply A9|apply A8);(·exact hS))|(with_reducible first|apply A5|apply A4)<;>intro _
  exact⟨i+1,(A++[m6 o2 n2 v2 m2 (ng l2 (xL a2))],false),rfl,rfl,rfl,by omega,by omega,hs,by simp⟩
 |none=>
  have hge:=E4.1 hx
  rw[A2O hge,<- hR] at h5
  subst h5
  subst h6
  repeat' first|refine st ?_|(with_reducible first|apply A5|apply A4)<;>intro _
  all_goals exact⟨rfl,rfl⟩
abbrev B56:TypeId:=3
abbrev B4Y:TypeId:=4
abbrev B58:TypeId:=9
abbrev B59:TypeId:=40
abbrev B57:TypeId:=23
abbrev B5a:TypeId:=29
theorem A79:Tryz.prog.cellsOf B56=1:=by kernel_rfl
theorem A3N:Tryz.prog.cellsOf B58=1:=by kernel_rfl
theorem A9i:Tryz.prog.cellsOf B59=3:=by kernel_rfl
theorem C7U:Tryz.prog.cellsOf B4Y=1:=by kernel_rfl
theorem D2P{ds:List D}(h:WT Tryz.prog B4Y ds):∃b,ds=[.bool b]:=h.bool' Tryz.underlying4
theorem A4s{ds:List D}(h:WT Tryz.prog B56 ds):∃n,ds=[eI n]:=by
 obtain⟨a,ha,_,_⟩:=h.int' Tryz.underlying3
 exact⟨a,ha⟩
theorem A3n{ds:List D}(h:WT Tryz.prog B58 ds):∃s,ds=[.str s]:=by
 obtain⟨a,ha,_⟩:=h.str' Tryz.underlying9
 exact⟨a,ha⟩
theorem B0Q{ds:List D}(h:WT Tryz.prog B59 ds):∃v:Vl,ds=v.ds:=by
 obtain⟨hl,hf⟩:=h.st' Tryz.underlying40
 rw[A9i] at hl
 match ds,hl with
 |[x,y,z],_=>
  have h0:=hf _ (U4 ..)
  have h1:=hf _ (M6 _ (U4 ..))
  have h2:=hf _ (M6 _ (M6 _ (U4 ..)))
  dsimp only at h0 h1 h2
  rw[A79] at h0 h1
  rw[A3N] at h2
  obtain⟨a,ha⟩:=A4s h0
  obtain⟨b,hb⟩:=A4s h1
  obtain⟨s,hs⟩:=A3n h2
  simp at ha hb hs
  exact⟨⟨a,b,s⟩,by rw[ha,hb,hs]⟩
theorem B9c{ds:List D}(h:WT Tryz.prog B57 ds):∃d ks,ds=[d]/\B8 d (A0 ks):=by
 obtain⟨d,es,h1,h2,h4,h3⟩:=h.sl' Tryz.underlying23
 have:∃ks,es=A0 ks:=by
  clear h1 h2 h4
  induction es with
  |nil=>exact⟨[],rfl⟩
  |cons x es ih=>
   obtain⟨n,hn⟩:=A4s (h3 x (by simp))
   obtain⟨ks,hk⟩:=ih λy hy=>h3 y (by simp[hy])
   exact⟨n::ks,by rw[hn,hk];rfl⟩
 obtain⟨ks,rfl⟩:=this
 exact⟨d,ks,h1,h2⟩
theorem D2Y{ds:List D}(h:WT Tryz.prog B5a ds):∃d row,ds=[d]/\B8 d (D6 row):=by
 obtain⟨d,es,h1,h2,h4,h3⟩:=h.sl' Tryz.underlying29
 have:∃row,es=D6 row:=by
  clear h1 h2 h4
  induction es with
  |nil=>exact⟨[],rfl⟩
  |cons x es ih=>
   obtain⟨n,hn⟩:=B0Q (h3 x (by simp))
   obtain⟨ks,hk⟩:=ih λy hy=>h3 y (by simp[hy])
   exact⟨n::ks,by rw[hn,hk];rfl⟩
 obtain⟨ks,rfl⟩:=this
 exact⟨d,ks,h1,h2⟩
theorem C7p(d:D):w6 Tryz.prog B5a [d]=.d d:=by unfold w6;rw[Tryz.underlying29]
theorem A4i{d:D}{es:List (List D)}(h:B8 d es):J6 es<=F2 [d]:=by
 rcases h with ⟨rfl,rfl⟩|rfl
 ·simp[J6]
 ·simp only[F2,U7];omega
theorem B76{d:D}{ks:List Int}(h:B8 d (A0 ks)):ks.length<=F2 [d]:=by
 have h1:=A4i h
 have h2:(A0 ks).length<=J6 (A0 ks):=A3K λx hx=>by
  obtain⟨k,_,rfl⟩:=E6.1 hx
  simp[F2,U7]
 rw[B6] at h2
 omega
theorem D2E{d:D}{row:List Vl}(h:B8 d (D6 row)):row.length<=F2 [d]/\∀v∈row,v.s.length<=F2 [d]:=by
 have h1:=A4i h
 have h2:(D6 row).length<=J6 (D6 row):=A3K λx hx=>by
  obtain⟨k,_,rfl⟩:=E6.1 hx
  simp only[Vl.ds,F2,U7];omega
 rw[Y5] at h2
 refine⟨by omega,λv hv=>?_⟩
 have h3:F2 v.ds<=J6 (D6 row):=A2Z (E6.2 ⟨v,hv,rfl⟩)
 have h4:v.s.length<=F2 v.ds:=by simp only[Vl.ds,F2,U7];omega
 omega
theorem C7G(H:Type):A3s (H:=H) Go.Proofs.YtnhhopmldgpglaaGreatDoor.Rows.uptoBulk Go.Proofs.YtnhhopmldgpglaaGreatDoor.Rows.uptoBulkAll where
 lit l:=by unfold Go.Proofs.YtnhhopmldgpglaaGreatDoor.Rows.uptoBulk;split<;>simp_all
 str b:=by simp[Go.Proofs.YtnhhopmldgpglaaGreatDoor.Rows.uptoBulk]
 nil:=by simp[Go.Proofs.YtnhhopmldgpglaaGreatDoor.Rows.uptoBulk]
 sl es sp:=by simp[Go.Proofs.YtnhhopmldgpglaaGreatDoor.Rows.uptoBulk]
 agg ps:=by simp[Go.Proofs.YtnhhopmldgpglaaGreatDoor.Rows.uptoBulk]
 cons x l:=by simp[Go.Proofs.YtnhhopmldgpglaaGreatDoor.Rows.uptoBulkAll]
abbrev A93:TypeId:=25
abbrev B53:TypeId:=101
theorem B5G:Tryz.prog.cellsOf A93=1:=by kernel_rfl
theorem C7X:Tryz.prog.cellsOf B53=7:=by kernel_rfl
def nuE(n:Int):Ex:=.mk 1 0 ⟨1,n,[]⟩ [] true []
def aE:Ex:=.mk 1 0 ⟨2,0,[97]⟩ [] true []
def twE(op:Int)(a b:Ex):Ex:=.mk op 0 K4 [] false [a,b]
def ckT(ks:List Int)(e:Ex):Int×Int:=if 24<L5 e then (0,26) else F8 ks e
theorem ck2:ckT [] (twE 13 (nuE 1) aE)=(0,7):=by decide +kernel
end Go.Proofs
end
section
namespace Go.Proofs
open Go.Bi
mutual
def x8:Ex->Ex->Bool
 |.mk op n v name nl args,.mk op' n' v' name' nl' args'=>decide (op=op')&&decide (n=n')&&decide (v=v')&&decide (name=name')&&smL args args'
def smL:List Ex->List Ex->Bool
 |[],[]=>true
 |a::l,b::m=>x8 a b&&smL l m
 |[],_::_=>false
 |_::_,[]=>false
end
theorem A7Q:∀l m,smL l m=(decide (l.length=m.length)&&(l.zip m).all λp=>x8 p.1 p.2)
 |[],[]=>by simp[smL]
 |a::l,b::m=>by
  rw[smL,A7Q l m]
  simp only[L0,List.zip_cons_cons,Y3]
  cases x8 a b<;>simp
 |[],_::_=>by simp[smL]
 |_::_,[]=>by simp[smL]
theorem B8H(op n:Int)(v:Vl)(name:List UInt8)(nl:Bool)(args:List Ex)(op' n':Int)(v':Vl)(name':List UInt8)(nl':Bool)(args':List Ex):x8 (.mk op n v name nl args) (.mk op' n' v' name' nl' args')=(decide (op=op')&&decide (n=n')&&decide (v=v')&&decide (name=name')&&smL args args'):=by rw[x8]
theorem C7g{α:Type}{p:α->Bool}{l:List α}{i:Nat}{x:α}(h:l[i]?=some x):(l.take (i+1)).all p=((l.take i).all p&&p x):=by
 rw[S0,h];simp
theorem C7d{α:Type}{p:α->Bool}{l:List α}{i:Nat}{x:α}(h:l[i]?=some x)(hx:p x=false):l.all p=false:=by
 rw[A4w]
 intro e
 have:=N9.1 e x (C3 h)
 rw[hx] at this;cases this
theorem A84{args:List Ex}(i:Nat)(op' n':Int)(v':Vl)(name':List UInt8)(nl':Bool)(args':List Ex)(h:args[i]?=some (.mk op' n' v' name' nl' args')):(xL args)[i]?=some (m6 op' n' v' name' (ng nl' (xL args'))):=by
 rw[<- Ex.ds_mk];exact A1y h
end Go.Proofs
end
section
namespace Go.Proofs
open Go.Bi
inductive Ex.Rg:Ex->Prop
 |mk {op n:Int} {v:Vl} {nm:List UInt8} {nl:Bool} {args:List Ex} (h1:IntKind.i64.min<=n) (h2:n<=IntKind.i64.max) (h:∀a∈args,Ex.Rg a):Ex.Rg (.mk op n v nm nl args)
theorem D2T{t:TypeId}{ds:List D}(h:WT Tryz.prog t ds):(t=B53->∃e:Ex,ds=e.ds/\e.Rg)/\(t=A93->∃nl args,ds=[ng nl (xL args)]/\∀a∈args,Ex.Rg a):=by
 induction h with
 |int h=>exact⟨λe=>(by subst e;rw[Tryz.underlying101] at h;cases h),λe=>(by subst e;rw[Tryz.underlying25] at h;cases h)⟩
 |bool h=>exact⟨λe=>(by subst e;rw[Tryz.underlying101] at h;cases h),λe=>(by subst e;rw[Tryz.underlying25] at h;cases h)⟩
 |str h=>exact⟨λe=>(by subst e;rw[Tryz.underlying101] at h;cases h),λe=>(by subst e;rw[Tryz.underlying25] at h;cases h)⟩
 |nil h=>exact⟨λe=>(by subst e;rw[Tryz.underlying101] at h;cases h),λe=>⟨true,[],rfl,by simp⟩⟩
 |@sl t e es h hl hs he ih=>
  refine⟨λe=>(by subst e;rw[Tryz.underlying101] at h;cases h),λe'=>?_⟩
  subst e'
  rw[Tryz.underlying25] at h
  cases h
  have hq:∃l,es=xL l/\∀a∈l,Ex.Rg a:=by
   clear he hs hl
   induction es with
   |nil=>exact⟨[],rfl,by simp⟩
   |cons x es ihh=>
    obtain⟨n,hn,hr⟩:=(ih x (by simp)).1 rfl
    obtain⟨ks,hk,hrs⟩:=ihh λy hy=>ih y (by simp[hy])
    refine⟨n::ks,by rw[hn,hk];rfl,λa ha=>?_⟩
    rcases L4.1 ha with rfl|ha
    ·exact hr
    ·exact hrs a ha
  obtain⟨l,rfl,hlr⟩:=hq
  exact⟨false,l,rfl,hlr⟩
 |@st t fs ds h hl hf ih=>
  refine⟨λe=>?_,λe=>(by subst e;rw[Tryz.underlying25] at h;cases h)⟩
  subst e
  rw[Tryz.underlying101] at h
  cases h
  rw[C7X] at hl
  match ds,hl with
  |[d0,d1,d2,d3,d4,d5,d6],_=>
   have h0:=hf _ (U4 ..)
   have h1:=hf _ (M6 _ (U4 ..))
   have h2:=hf _ (M6 _ (M6 _ (U4 ..)))
   have h3:=hf _ (M6 _ (M6 _ (M6 _ (U4 ..))))
   have h4:=(ih _ (M6 _ (M6 _ (M6 _ (M6 _ (U4 ..)))))).2 rfl
   dsimp only at h0 h1 h2 h3 h4
   rw[A79] at h0 h1
   rw[A9i] at h2
   rw[A3N] at h3
   rw[B5G] at h4
   obtain⟨a,ha⟩:=A4s h0
   obtain⟨b,hb,hb1,hb2⟩:=h1.int' Tryz.underlying3
   obtain⟨v,hv⟩:=B0Q h2
   obtain⟨s,hs⟩:=A3n h3
   obtain⟨nl,args,hx,hr⟩:=h4
   simp at ha hb hs hx
   refine⟨.mk a b v s nl args,?_,.mk hb1 hb2 hr⟩
   rw[Ex.ds_mk,ha,hb,hs,hx]
   have hv:[d2,d3,d4]=[eI v.k,eI v.n,.str v.s]:=hv
   simp only[List.cons.injEq,and_true] at hv
   rw[hv.1,hv.2.1,hv.2.2]
theorem D2U{ds:List D}(h:WT Tryz.prog A93 ds):∃nl args,ds=[ng nl (xL args)]/\∀a∈args,Ex.Rg a:=(D2T h).2 rfl
theorem C7H(nl:Bool)(l:List (List D)):U7 (ng nl l)=J6 l+1:=by
 unfold ng
 split
 ·rename_i h
  simp only[K7,s5] at h
  rw[h.2];rfl
 ·rfl
theorem B5y(f:Ex->Ex)(l:List Ex)(h:∀a∈l,(f a).bk<=a.bk):J6 (xL (l.map f))<=J6 (xL l):=by
 induction l with
 |nil=>exact I4 _
 |cons a l ih=>
  have h1:=h a (by simp)
  have h2:=ih λx hx=>h x (by simp[hx])
  unfold Ex.bk at h1
  simp only[R6,xL,J6] at h2 ⊢
  omega
theorem C0F(l m:List Ex)(hlen:l.length=m.length)(hl:l.length<=1048576)(h:∀(i:Nat)(x y:Ex),l[i]?=some x->m[i]?=some y->Pure Tryz.prog A50 [x.av,y.av] (.d (.bool true)))(d d':D)(hd:B8 d (xL l))(hd':B8 d' (xL m)):Pure Tryz.prog A8w [.d d,.d d'] (.d (.bool true)):=by
 have h1:=I8 l
 have hm:=P0 l
 have h1':=I8 m
 have hm':=P0 m
 have hg0:=A84 (args:=l)
 have hg1:=A84 (args:=m)
 obtain⟨es,hes⟩:∃es,es=xL l:=⟨_,rfl⟩
 obtain⟨es',hes'⟩:∃es,es=xL m:=⟨_,rfl⟩
 rw[<- hes] at h1 hm hd hg0
 rw[<- hes'] at h1' hm' hd' hg1
 have hee:(es.length:Int)=es'.length:=by omega
 refine C1I.go A6 rfl ?_
 repeat' first|refine st ?_|(with_reducible first|apply A5|apply A4)<;>intro _
 refine G6 A6 C4c C3m (λ(i:Nat)=>[.d (eI i)]) (λi=>[]) (λi=>i<=l.length) (λi=>l.length-i) 0 rfl rfl rfl rfl (λ_ _=>⟨rfl,rfl⟩) rfl (by omega) ?_
 repeat' first|refine st ?_|(with_reducible first|apply A5|apply A4)<;>intro _
 intro i h4
 cases hx:l[i]? with
 |some x=>
  have hlt:=(B2.1 hx).1
  obtain⟨y,hy⟩:∃y,m[i]?=some y:=⟨_,C5 (by omega)⟩
  have hS:=h i x y hx hy
  obtain⟨o1,n1,v1,m1,l1,a1⟩:=x
  obtain⟨o2,n2,v2,m2,l2,a2⟩:=y
  rw[Ex.av_mk,Ex.av_mk] at hS
  have hg:=hg0 _ _ _ _ _ _ _ hx
  have hg':es'[((i:Nat):Int).toNat]?=_:=hg1 i _ _ _ _ _ _ hy
  have hlt':(i:Int)<es'.length:=by omega
  repeat' first|refine st ?_|((with_reducible first|apply A9|apply A8);(·exact hS))|(with_reducible first|apply A5|apply A4)<;>intro _
  exact⟨i+1,rfl,rfl,rfl,by omega,by omega⟩
 |none=>
  have hge:=E4.1 hx
  repeat' first|refine st ?_|(with_reducible first|apply A5|apply A4)<;>intro _
  all_goals rfl
end Go.Proofs
end
