/- Texts of this claim, joined. No condition. -/
import Derived.Test.YthaildbjjlpdgaaGreatQ3
set_option linter.unusedSimpArgs false
set_option linter.unusedVariables false
set_option maxRecDepth 10000
set_option maxHeartbeats 4000000
section
namespace Go.Proofs
open Go.Bi
def SZ(s:List UInt8):Prop:=s.length<=1048576
def FkI(f:Fk):Prop:=f.cs.length<=1048576/\SZ f.tb
def TaI(t:Ta):Prop:=SZ t.nm/\(t.cs.length<=1048576/\∀c∈t.cs,SZ c.nm)/\t.ks.length<=1048576/\(t.fs.length<=1048576/\∀f∈t.fs,FkI f)/\t.xs.length<=1048576/\∀x∈t.xs,x.bk<=1048576
def coB(c:Co):Bool:=wordB c.nm&&decide (1<=c.k/\c.k<=3)
def fkB(f:Fk):Bool:=idxB f.cs&&wordB f.tb
def taB(t:Ta):Bool:=wordB t.nm&&(decide ((1:Int)<=t.cs.length/\(t.cs.length:Int)<=12)&&(idxB t.ks&&(decide (t.fs.length<=4)&&(decide (t.xs.length<=4)&&(t.cs.all coB&&(t.fs.all fkB&&t.xs.all λe=>stB e 1))))))
theorem all_drop{α:Type}{p:α->Bool}{l:List α}{i:Nat}{x:α}(h:l[i]?=some x):(l.drop i).all p=(p x&&(l.drop (i+1)).all p):=by
 obtain⟨h1,h2⟩:=List.getElem?_eq_some_iff.1 h
 rw[List.drop_eq_getElem_cons h1,h2,List.all_cons]
theorem C.record_storedTable(t:Ta)(h:TaI t):Pure Tryz.prog N.record_storedTable [av t.ds] (.d (.bool (taB t))):=by
 obtain⟨nm,n1,cs,n2,ks,n3,fs,n4,xs⟩:=t
 obtain⟨h0,⟨h1,h1'⟩,h2,⟨h3,h3'⟩,h4,h4'⟩:=h
 simp only at h0 h1 h1' h2 h3 h3' h4 h4'
 have e1:=eCs_len cs
 have m1:=eCs_mem cs
 have g1:=λi x=>@eCs_get cs i x
 have e3:=eFk_len fs
 have m3:=eFk_mem fs
 have g3:=λi x=>@eFk_get fs i x
 have e4:=xL_len xs
 have m4:=xL_mem xs
 have g4:=λi x=>@xL_get xs i x
 have d1:SlD (ng n1 (eCs cs)) (eCs cs):=sld_ng
 have d2:SlD (ng n2 (eIs ks)) (eIs ks):=sld_ng
 have d3:SlD (ng n3 (eFk fs)) (eFk fs):=sld_ng
 have d4:SlD (ng n4 (xL xs)) (xL xs):=sld_ng
 have w0:=C.record_word nm h0
 have w1:=C.record_within (eCs cs).length 1 12
 have w2:=C.record_indexes ks h2 _ d2
 unfold taB Ta.ds
 simp only
 rw[<- e1,<- e3,<- e4]
 generalize ng n1 (eCs cs)=y1 at *
 generalize ng n2 (eIs ks)=y2 at *
 generalize ng n3 (eFk fs)=y3 at *
 generalize ng n4 (xL xs)=y4 at *
 generalize eCs cs=z1 at *
 generalize eIs ks=z2 at *
 generalize eFk fs=z3 at *
 generalize xL xs=z4 at *
 generalize wordB nm=b0 at *
 generalize decide ((1:Int)<=z1.length/\(z1.length:Int)<=12)=b1 at *
 generalize idxB ks=b2 at *
 refine F.record_storedTable.go mixed rfl ?_
 cases b0 with
 |false=>
  repeat' first|refine st ?_|((with_reducible apply go_i);conv=>whnf)|refine⟨λ_=>?_,λ_=>?_⟩|fail
  all_goals rfl
 |true=>
 cases b1 with
 |false=>
  repeat' first|refine st ?_|((with_reducible apply go_i);conv=>whnf)|refine⟨λ_=>?_,λ_=>?_⟩|fail
  all_goals rfl
 |true=>
 cases b2 with
 |false=>
  repeat' first|refine st ?_|((with_reducible apply go_i);conv=>whnf)|refine⟨λ_=>?_,λ_=>?_⟩|fail
  all_goals rfl
 |true=>
 simp only[Bool.true_and]
 by_cases hf:z3.length<=4
 ·rw[decide_eq_true hf,Bool.true_and]
  by_cases hx:z4.length<=4
  ·rw[decide_eq_true hx,Bool.true_and]
   obtain⟨R3,hR3⟩:∃R,R=xs.all λe=>stB e 1:=⟨_,rfl⟩
   rw[<- hR3]
   obtain⟨R2,hR2⟩:∃R,R=(fs.all fkB&&R3):=⟨_,rfl⟩
   rw[<- hR2]
   obtain⟨R1,hR1⟩:∃R,R=(cs.all coB&&R2):=⟨_,rfl⟩
   rw[<- hR1]
   repeat' first|refine st ?_|((with_reducible apply go_i);conv=>whnf)|refine⟨λ_=>?_,λ_=>?_⟩|fail
   refine x_loop1 mixed Lt.record_storedTable_l0 Lk.record_storedTable_l0 (λ(i:Nat)=>[.d (eI i)]) (λi=>[.cells [.d (.str nm),.d y1,.d y2,.d y3,.d y4]]) (λi=>i<=z1.length/\R1=((cs.drop i).all coB&&R2)) (λi=>z1.length-i) 0 rfl rfl rfl rfl (λ_ _=>⟨rfl,rfl⟩) rfl ⟨by omega,hR1⟩ ?_
   repeat' first|refine st ?_|((with_reducible apply go_i);conv=>whnf)|refine⟨λ_=>?_,λ_=>?_⟩|fail
   intro i ⟨i1,i2⟩
   cases hc:cs[i]? with
   |some c=>
    have hlt:=(List.getElem?_eq_some_iff.1 hc).1
    have hg:=g1 i c hc
    have k1:=C.record_word c.nm (h1' c (List.mem_of_getElem? hc))
    have k2:=C.record_within c.k 1 3
    rw[all_drop hc,coB] at i2
    generalize wordB c.nm=a1 at *
    generalize decide (1<=c.k/\c.k<=3)=a2 at *
    cases a1 with
    |false=>
     rw[i2]
     repeat' first|refine st ?_|((with_reducible apply go_i);conv=>whnf)|refine⟨λ_=>?_,λ_=>?_⟩|fail
     all_goals rfl
    |true=>
    cases a2 with
    |false=>
     rw[i2]
     repeat' first|refine st ?_|((with_reducible apply go_i);conv=>whnf)|refine⟨λ_=>?_,λ_=>?_⟩|fail
     all_goals rfl
    |true=>
     rw[Bool.true_and,Bool.true_and] at i2
     repeat' first|refine st ?_|((with_reducible apply go_i);conv=>whnf)|refine⟨λ_=>?_,λ_=>?_⟩|fail
     all_goals exact⟨i+1,rfl,rfl,rfl,by omega,by omega,i2⟩
   |none=>
    have hge:=List.getElem?_eq_none_iff.1 hc
    rw[List.drop_eq_nil_of_le hge,List.all_nil,Bool.true_and] at i2
    rw[i2]
    repeat' first|refine st ?_|((with_reducible apply go_i);conv=>whnf)|refine⟨λ_=>?_,λ_=>?_⟩|fail
    refine x_loop1 mixed Lt.record_storedTable_l1 Lk.record_storedTable_l1 (λ(i:Nat)=>[.d (eI i)]) (λi=>[.cells [.d (.str nm),.d y1,.d y2,.d y3,.d y4]]) (λi=>i<=z3.length/\R2=((fs.drop i).all fkB&&R3)) (λi=>z3.length-i) 0 rfl rfl rfl rfl (λ_ _=>⟨rfl,rfl⟩) rfl ⟨by omega,hR2⟩ ?_
    repeat' first|refine st ?_|((with_reducible apply go_i);conv=>whnf)|refine⟨λ_=>?_,λ_=>?_⟩|fail
    intro i ⟨i1,i2⟩
    cases hc:fs[i]? with
    |some c=>
     have hlt:=(List.getElem?_eq_some_iff.1 hc).1
     have hg:=g3 i c hc
     obtain⟨hI1,hI2⟩:=h3' c (List.mem_of_getElem? hc)
     have sd:SlD (ng c.nl (eIs c.cs)) (eIs c.cs):=sld_ng
     have k1:=C.record_indexes c.cs hI1 _ sd
     have k2:=C.record_word c.tb hI2
     rw[all_drop hc,fkB] at i2
     obtain⟨v1,hv1⟩:∃v,v=ng c.nl (eIs c.cs):=⟨_,rfl⟩
     rw[Fk.ds,<- hv1] at hg
     rw[<- hv1] at k1
     clear sd hv1
     generalize idxB c.cs=a1 at *
     generalize wordB c.tb=a2 at *
     cases a1 with
     |false=>
      rw[i2]
      repeat' first|refine st ?_|((with_reducible apply go_i);conv=>whnf)|refine⟨λ_=>?_,λ_=>?_⟩|fail
      all_goals rfl
     |true=>
     cases a2 with
     |false=>
      rw[i2]
      repeat' first|refine st ?_|((with_reducible apply go_i);conv=>whnf)|refine⟨λ_=>?_,λ_=>?_⟩|fail
      all_goals rfl
     |true=>
      rw[Bool.true_and,Bool.true_and] at i2
      repeat' first|refine st ?_|((with_reducible apply go_i);conv=>whnf)|refine⟨λ_=>?_,λ_=>?_⟩|fail
      all_goals exact⟨i+1,rfl,rfl,rfl,by omega,by omega,i2⟩
    |none=>
     have hge:=List.getElem?_eq_none_iff.1 hc
     rw[List.drop_eq_nil_of_le hge,List.all_nil,Bool.true_and] at i2
     rw[i2]
     repeat' first|refine st ?_|((with_reducible apply go_i);conv=>whnf)|refine⟨λ_=>?_,λ_=>?_⟩|fail
     refine x_loop1 mixed Lt.record_storedTable_l2 Lk.record_storedTable_l2 (λ(i:Nat)=>[.d (eI i)]) (λi=>[.cells [.d (.str nm),.d y1,.d y2,.d y3,.d y4]]) (λi=>i<=z4.length/\R3=((xs.drop i).all λe=>stB e 1)) (λi=>z4.length-i) 0 rfl rfl rfl rfl (λ_ _=>⟨rfl,rfl⟩) rfl ⟨by omega,hR3⟩ ?_
     repeat' first|refine st ?_|((with_reducible apply go_i);conv=>whnf)|refine⟨λ_=>?_,λ_=>?_⟩|fail
     intro i ⟨i1,i2⟩
     cases hc:xs[i]? with
     |some y=>
      have hlt:=(List.getElem?_eq_some_iff.1 hc).1
      have hg:=g4 i y hc
      have hcy:=C.record_storedExpr y (h4' y (List.mem_of_getElem? hc)) 1 (by omega)
      rw[all_drop hc] at i2
      obtain⟨q,hq⟩:∃q,q=stB y 1:=⟨_,rfl⟩
      rw[<- hq] at hcy i2
      obtain⟨yop,yn,yv,ynm,ynl,yas⟩:=y
      rw[Ex.av_mk] at hcy
      rw[Ex.ds_mk] at hg
      obtain⟨yd,hyd⟩:∃z,z=ng ynl (xL yas):=⟨_,rfl⟩
      rw[<- hyd] at hcy hg
      cases q with
      |true=>
       rw[Bool.true_and] at i2
       repeat' first|refine st ?_|((with_reducible apply go_i);conv=>whnf)|refine⟨λ_=>?_,λ_=>?_⟩|fail
       all_goals exact⟨i+1,rfl,rfl,rfl,by omega,by omega,i2⟩
      |false=>
       rw[Bool.false_and] at i2
       rw[i2]
       repeat' first|refine st ?_|((with_reducible apply go_i);conv=>whnf)|refine⟨λ_=>?_,λ_=>?_⟩|fail
       all_goals rfl
     |none=>
      have hge:=List.getElem?_eq_none_iff.1 hc
      rw[List.drop_eq_nil_of_le hge,List.all_nil] at i2
      rw[i2]
      repeat' first|refine st ?_|((with_reducible apply go_i);conv=>whnf)|refine⟨λ_=>?_,λ_=>?_⟩|fail
      all_goals rfl
  ·rw[decide_eq_false hx]
   repeat' first|refine st ?_|((with_reducible apply go_i);conv=>whnf)|refine⟨λ_=>?_,λ_=>?_⟩|fail
   all_goals first|rfl|(exfalso;omega)
 ·rw[decide_eq_false hf]
  repeat' first|refine st ?_|((with_reducible apply go_i);conv=>whnf)|refine⟨λ_=>?_,λ_=>?_⟩|fail
  all_goals first|rfl|(exfalso;omega)
end Go.Proofs
end
section
namespace Go.Proofs
open Go.Bi
def CgI(c:Cg):Prop:=SZ c.nm/\SZ c.to/\SZ c.co.nm/\SZ c.df.s
def EyI(e:Ey):Prop:=SZ e.tb/\TaI e.cr/\CgI e.ch
def nwB(s:List UInt8):Bool:=decide (s=[])||wordB s
def cgB(c:Cg):Bool:=nwB c.nm&&(nwB c.to&&(nwB c.co.nm&&(decide (1<=c.k/\c.k<=4)&&(decide (0<=c.co.k/\c.co.k<=3)&&vValid c.df))))
theorem C.record_storedChange(c:Cg)(h:CgI c):Pure Tryz.prog N.record_storedChange [av c.ds] (.d (.bool (cgB c))):=by
 obtain⟨k,nm,to,co,df⟩:=c
 obtain⟨h1,h2,h3,h4⟩:=h
 simp only at h1 h2 h3 h4
 have w1:=C.record_word nm h1
 have w2:=C.record_word to h2
 have w3:=C.record_word co.nm h3
 have w4:=C.record_within k 1 4
 have w5:=C.record_within co.k 0 3
 have w6:=C.value_Valid df (by unfold SZ at h4;omega)
 obtain⟨cn,ck,cl⟩:=co
 simp only at w3 w5 h3
 unfold cgB Cg.ds
 simp only
 obtain⟨R,hR⟩:∃R,R=(decide (1<=k/\k<=4)&&(decide (0<=ck/\ck<=3)&&vValid df)):=⟨_,rfl⟩
 rw[<- hR]
 obtain⟨dk,dn,dS⟩:=df
 generalize decide (1<=k/\k<=4)=b4 at *
 generalize decide (0<=ck/\ck<=3)=b5 at *
 generalize vValid ⟨dk,dn,dS⟩=b6 at *
 refine F.record_storedChange.go mixed rfl ?_
 obtain⟨R0,hR0⟩:∃Z,Z=(nwB nm&&(nwB to&&(nwB cn&&R))):=⟨_,rfl⟩
 rw[<- hR0]
 have key:∀(i:Nat) (s:List UInt8),[nm,to,cn][i]?=some s->([[D.str nm],[.str to],[.str cn]]:List (List D))[i]?=some [.str s]/\Pure Tryz.prog N.record_word [.d (.str s)] (.d (.bool (wordB s))):=by
  intro i s hs
  match i,hs with
  |0,hs=>cases hs;exact⟨rfl,w1⟩
  |1,hs=>cases hs;exact⟨rfl,w2⟩
  |2,hs=>cases hs;exact⟨rfl,w3⟩
  |i+3,hs=>simp at hs
 obtain⟨L3,hL3⟩:∃L,L=[nm,to,cn]:=⟨_,rfl⟩
 rw[<- hL3] at key
 have hal:R0=(L3.all nwB&&R):=by rw[hR0,hL3];simp[Bool.and_assoc]
 have hlen:L3.length=3:=by rw[hL3];rfl
 clear hL3 hR0
 obtain⟨LL,hLL⟩:∃L,L=([[D.str nm],[.str to],[.str cn]]:List (List D)):=⟨_,rfl⟩
 have hll:LL.length=3:=by rw[hLL];rfl
 have hlm:∀e∈LL,e.length=1:=by rw[hLL];simp
 repeat' first|((with_reducible apply k_lk2))|refine st ?_|((with_reducible apply go_i);conv=>whnf)|refine⟨λ_=>?_,λ_=>?_⟩|fail
 rw[<- hLL] at key ⊢
 clear hLL
 refine x_loop1 mixed Lt.record_storedChange_l0 Lk.record_storedChange_l0 (λ(i:Nat)=>[.d (eI i)]) (λi=>[.cells [.d (eI k),.d (.str nm),.d (.str to),.d (.str cn),.d (eI ck),.d (.bool cl),.d (eI dk),.d (eI dn),.d (.str dS)]]) (λi=>i<=3/\R0=((L3.drop i).all nwB&&R)) (λi=>3-i) 0 rfl rfl rfl rfl (λ_ _=>⟨rfl,rfl⟩) rfl ⟨by omega,hal⟩ ?_
 repeat' first|refine st ?_|((with_reducible apply go_i);conv=>whnf)|refine⟨λ_=>?_,λ_=>?_⟩|fail
 intro i ⟨i1,i2⟩
 cases hc:L3[i]? with
 |some s=>
  have hlt:=(List.getElem?_eq_some_iff.1 hc).1
  obtain⟨hg,hw⟩:=key i s hc
  rw[all_drop hc,nwB] at i2
  by_cases hs:s=[]
  ·rw[decide_eq_true hs,Bool.true_or,Bool.true_and] at i2
   repeat' first|refine st ?_|((with_reducible apply go_i);conv=>whnf)|refine⟨λ_=>?_,λ_=>?_⟩|fail
   all_goals exact⟨i+1,rfl,rfl,rfl,by omega,by omega,i2⟩
  ·rw[decide_eq_false hs,Bool.false_or] at i2
   generalize wordB s=a1 at *
   cases a1 with
   |false=>
    rw[i2]
    repeat' first|refine st ?_|((with_reducible apply go_i);conv=>whnf)|refine⟨λ_=>?_,λ_=>?_⟩|fail
    all_goals rfl
   |true=>
    rw[Bool.true_and] at i2
    repeat' first|refine st ?_|((with_reducible apply go_i);conv=>whnf)|refine⟨λ_=>?_,λ_=>?_⟩|fail
    all_goals exact⟨i+1,rfl,rfl,rfl,by omega,by omega,i2⟩
 |none=>
  have hge:=List.getElem?_eq_none_iff.1 hc
  rw[List.drop_eq_nil_of_le hge,List.all_nil,Bool.true_and] at i2
  rw[i2,hR]
  cases b4 with
  |false=>
   repeat' first|refine st ?_|((with_reducible apply go_i);conv=>whnf)|refine⟨λ_=>?_,λ_=>?_⟩|fail
   all_goals first|rfl|(exfalso;omega)
  |true=>
  cases b5 with
  |false=>
   repeat' first|refine st ?_|((with_reducible apply go_i);conv=>whnf)|refine⟨λ_=>?_,λ_=>?_⟩|fail
   all_goals first|rfl|(exfalso;omega)
  |true=>
  cases b6
  ·repeat' first|refine st ?_|((with_reducible apply go_i);conv=>whnf)|refine⟨λ_=>?_,λ_=>?_⟩|fail
   all_goals first|rfl|(exfalso;omega)
  ·repeat' first|refine st ?_|((with_reducible apply go_i);conv=>whnf)|refine⟨λ_=>?_,λ_=>?_⟩|fail
   all_goals first|rfl|(exfalso;omega)
end Go.Proofs
end
section
namespace Go.Proofs
open Go.Bi
def insB(n:Int):Bool:=decide (0<=n/\n<=1099511627775)
def cgZ(c:Cg):Bool:=decide (c.k=0/\c.nm=[]/\c.to=[]/\c.co.nm=[]/\c.co.k=0/\c.co.nl=false/\c.df.k=0/\c.df.n=0/\c.df.s=[])
def eyB(e:Ey):Bool:=insB e.tm&&(wordB e.tb&&(if e.ch.k=0 then cgZ e.ch&&(taB e.cr&&decide (e.cr.nm=e.tb)) else cgB e.ch&&blB e.cr))
theorem C.record_validEntry(e:Ey)(h:EyI e):Pure Tryz.prog N.record_validEntry [av e.ds] (.d (.bool (eyB e))):=by
 obtain⟨tm,tb,cr,ch⟩:=e
 obtain⟨h1,h2,h3⟩:=h
 simp only at h1 h2 h3
 have w1:=C.record_instant tm
 have w2:=C.record_word tb h1
 have w3:=C.record_storedTable cr h2
 have w4:=C.record_storedChange ch h3
 have w5:=C.record_blank cr h2.2.1.1 h2.2.2.1 h2.2.2.2.1.1 h2.2.2.2.2.1
 unfold eyB insB
 simp only
 obtain⟨k,nm,to,⟨cn,ck,cl⟩,⟨dk,dn,dS⟩⟩:=ch
 obtain⟨a1,n1,b1,n2,c1,n3,d1,n4,e1⟩:=cr
 unfold Ta.ds at w3 w5
 unfold Cg.ds at w4
 unfold Ey.ds
 simp only at *
 generalize taB _=r3 at *
 generalize cgB _=r4 at *
 generalize blB _=r5 at *
 generalize decide (0<=tm/\tm<=1099511627775)=r1 at *
 generalize wordB tb=r2 at *
 generalize ng n1 (eCs b1)=y1 at *
 generalize ng n2 (eIs c1)=y2 at *
 generalize ng n3 (eFk d1)=y3 at *
 generalize ng n4 (xL e1)=y4 at *
 clear h1 h2 h3
 refine F.record_validEntry.go mixed rfl ?_
 cases r1 with
 |false=>
  repeat' first|refine st ?_|((with_reducible apply go_i);conv=>whnf)|refine⟨λ_=>?_,λ_=>?_⟩|fail
  all_goals first|rfl|(exfalso;omega)
 |true=>
 cases r2 with
 |false=>
  repeat' first|refine st ?_|((with_reducible apply go_i);conv=>whnf)|refine⟨λ_=>?_,λ_=>?_⟩|fail
  all_goals first|rfl|(exfalso;omega)
 |true=>
 simp only[Bool.true_and]
 by_cases hk:k=0
 ·rw[if_pos hk]
  subst hk
  by_cases hz:cgZ ⟨0,nm,to,⟨cn,ck,cl⟩,⟨dk,dn,dS⟩⟩=true
  ·rw[hz,Bool.true_and]
   simp only[cgZ,decide_eq_true_eq,true_and] at hz
   obtain⟨rfl,rfl,rfl,rfl,rfl,rfl,rfl,rfl⟩:=hz
   cases r3
   ·repeat' first|refine st ?_|((with_reducible apply go_i);conv=>whnf)|refine⟨λ_=>?_,λ_=>?_⟩|fail
    all_goals first|rfl|(exfalso;omega)
   ·by_cases ht:a1=tb
    ·rw[decide_eq_true ht]
     repeat' first|refine st ?_|((with_reducible apply go_i);conv=>whnf)|refine⟨λ_=>?_,λ_=>?_⟩|fail
     all_goals first|rfl|(exfalso;omega)|simp_all
    ·rw[decide_eq_false ht]
     repeat' first|refine st ?_|((with_reducible apply go_i);conv=>whnf)|refine⟨λ_=>?_,λ_=>?_⟩|fail
     all_goals first|rfl|(exfalso;omega)|simp_all
  ·rw[Bool.eq_false_iff.2 hz,Bool.false_and]
   simp only[cgZ,decide_eq_true_eq,true_and] at hz
   repeat' first|refine st ?_|((with_reducible apply go_i);conv=>whnf)|refine⟨λ_=>?_,λ_=>?_⟩|fail
   all_goals first|rfl|(exfalso;omega)|(exfalso;simp_all;done)
 ·rw[if_neg hk]
  cases r4
  ·repeat' first|refine st ?_|((with_reducible apply go_i);conv=>whnf)|refine⟨λ_=>?_,λ_=>?_⟩|fail
   all_goals first|rfl|(exfalso;omega)
  ·repeat' first|refine st ?_|((with_reducible apply go_i);conv=>whnf)|refine⟨λ_=>?_,λ_=>?_⟩|fail
   all_goals first|rfl|(exfalso;omega)
end Go.Proofs
end
section
namespace Go.Proofs
open Go.Bi
def leB(s t:List UInt8):Bool:=Op.bytesLess s t||s==t
def nmF{α:Type}(nm:α->List UInt8)(ok:α->Bool):Option (List UInt8)->List α->Int
 |_,[]=>0
 |p,x::l=>if ok x=true then (if (match p with|some q=>leB (nm x) q|none=>false)=true then 9 else nmF nm ok (some (nm x)) l) else 8
def pvO{α:Type}(nm:α->List UInt8)(l:List α):Nat->Option (List UInt8)
 |0=>none
 |j+1=>l[j]?.map nm
theorem nmF_step{α:Type}{nm:α->List UInt8}{ok:α->Bool}{l:List α}{i:Nat}{x:α}(h:l[i]?=some x):nmF nm ok (pvO nm l i) (l.drop i)=if ok x=true then (if (match pvO nm l i with|some q=>leB (nm x) q|none=>false)=true then 9 else nmF nm ok (pvO nm l (i+1)) (l.drop (i+1))) else 8:=by
 obtain⟨h1,h2⟩:=List.getElem?_eq_some_iff.1 h
 have e:pvO nm l (i+1)=some (nm x):=by simp only[pvO,h,Option.map_some]
 rw[List.drop_eq_getElem_cons h1,h2,e]
 generalize pvO nm l i=p
 cases p<;>rfl
theorem C.named_api_Hold(l:List Ho)(hl:l.length<=1048576)(d:D)(hd:SlD d (eHo l))(f g:FuncId)(nm:Ho->List UInt8)(ok:Ho->Bool)(hf:∀x,Pure Tryz.prog f [av x.ds] (.d (.str (nm x))))(hg:∀x∈l,Pure Tryz.prog g [av x.ds] (.d (.bool (ok x)))):Pure Tryz.prog N.record_named_api_Hold [.d d,.d (.fn f),.d (.fn g)] (.d (eI (nmF nm ok none l))):=by
 have e1:=eHo_len l
 have m1:=eHo_mem l
 have g1:=λi x=>@eHo_get l i x
 generalize eHo l=z at *
 obtain⟨R,hR⟩:∃R,R=nmF nm ok none l:=⟨_,rfl⟩
 rw[<- hR]
 refine F.record_named_api_Hold.go mixed rfl ?_
 repeat' first|refine st ?_|((with_reducible apply go_i);conv=>whnf)|refine⟨λ_=>?_,λ_=>?_⟩|fail
 refine x_loop1 mixed Lt.record_named_api_Hold_l0 Lk.record_named_api_Hold_l0 (λ(i:Nat)=>[.d (eI i)]) (λi=>[]) (λi=>i<=z.length/\R=nmF nm ok (pvO nm l i) (l.drop i)) (λi=>z.length-i) 0 rfl rfl rfl rfl (λ_ _=>⟨rfl,rfl⟩) rfl ⟨by omega,hR⟩ ?_
 repeat' first|refine st ?_|((with_reducible apply go_i);conv=>whnf)|refine⟨λ_=>?_,λ_=>?_⟩|fail
 intro i ⟨i1,i2⟩
 cases hc:l[i]? with
 |some x=>
  have hlt:=(List.getElem?_eq_some_iff.1 hc).1
  have hx:=g1 i x hc
  have k1:=hf x
  have k2:=hg x (List.mem_of_getElem? hc)
  rw[nmF_step hc] at i2
  generalize ok x=o at *
  cases o with
  |false=>
   rw[if_neg (by simp)] at i2
   rw[i2]
   repeat' first|refine st ?_|((with_reducible apply go_i);conv=>whnf)|refine⟨λ_=>?_,λ_=>?_⟩|fail
   all_goals rfl
  |true=>
   rw[if_pos rfl] at i2
   cases i with
   |zero=>
    have i2:R=nmF nm ok (pvO nm l 1) (l.drop 1):=i2
    repeat' first|refine st ?_|((with_reducible apply go_i);conv=>whnf)|refine⟨λ_=>?_,λ_=>?_⟩|fail
    all_goals first|(exfalso;omega)|exact⟨0+1,rfl,rfl,rfl,by omega,by omega,i2⟩
   |succ j=>
    have hj:l[j]?=some l[j]:=List.getElem?_eq_getElem (by omega)
    obtain⟨y,hy⟩:∃y,y=l[j]:=⟨_,rfl⟩
    rw[<- hy] at hj
    have k3:=hf y
    have hgy:=g1 j y hj
    have ej:(((j+1:Nat):Int)-1).toNat=j:=by omega
    rw[<- ej] at hgy
    simp only[pvO,hj,Option.map_some] at i2
    by_cases hL:leB (nm x) (nm y)=true
    ·rw[if_pos hL] at i2
     rw[i2]
     simp only[leB] at hL
     repeat' first|refine st ?_|((with_reducible apply go_i);conv=>whnf)|refine⟨λ_=>?_,λ_=>?_⟩|fail
     all_goals first|rfl|(exfalso;omega)|(exfalso;simp_all;done)
    ·rw[if_neg hL] at i2
     simp only[leB] at hL
     repeat' first|refine st ?_|((with_reducible apply go_i);conv=>whnf)|refine⟨λ_=>?_,λ_=>?_⟩|fail
     all_goals first|(exfalso;omega)|exact⟨j+1+1,rfl,rfl,rfl,by omega,by omega,i2⟩|(exfalso;simp_all;done)
 |none=>
  have hge:=List.getElem?_eq_none_iff.1 hc
  rw[List.drop_eq_nil_of_le hge,show nmF nm ok (pvO nm l i) []=0 by(generalize pvO nm l i=p;cases p<;>rfl)] at i2
  rw[i2]
  repeat' first|refine st ?_|((with_reducible apply go_i);conv=>whnf)|refine⟨λ_=>?_,λ_=>?_⟩|fail
  all_goals first|rfl|(exfalso;omega)
theorem C.named_string(l:List (List UInt8))(hl:l.length<=1048576)(d:D)(hd:SlD d (eSt l))(f g:FuncId)(nm:(List UInt8)->List UInt8)(ok:(List UInt8)->Bool)(hf:∀x,Pure Tryz.prog f [.d (.str x)] (.d (.str (nm x))))(hg:∀x∈l,Pure Tryz.prog g [.d (.str x)] (.d (.bool (ok x)))):Pure Tryz.prog N.record_named_string [.d d,.d (.fn f),.d (.fn g)] (.d (eI (nmF nm ok none l))):=by
 have e1:=eSt_len l
 have m1:=eSt_mem l
 have g1:=λi x=>@eSt_get l i x
 generalize eSt l=z at *
 obtain⟨R,hR⟩:∃R,R=nmF nm ok none l:=⟨_,rfl⟩
 rw[<- hR]
 refine F.record_named_string.go mixed rfl ?_
 repeat' first|refine st ?_|((with_reducible apply go_i);conv=>whnf)|refine⟨λ_=>?_,λ_=>?_⟩|fail
 refine x_loop1 mixed Lt.record_named_string_l0 Lk.record_named_string_l0 (λ(i:Nat)=>[.d (eI i)]) (λi=>[]) (λi=>i<=z.length/\R=nmF nm ok (pvO nm l i) (l.drop i)) (λi=>z.length-i) 0 rfl rfl rfl rfl (λ_ _=>⟨rfl,rfl⟩) rfl ⟨by omega,hR⟩ ?_
 repeat' first|refine st ?_|((with_reducible apply go_i);conv=>whnf)|refine⟨λ_=>?_,λ_=>?_⟩|fail
 intro i ⟨i1,i2⟩
 cases hc:l[i]? with
 |some x=>
  have hlt:=(List.getElem?_eq_some_iff.1 hc).1
  have hx:=g1 i x hc
  have k1:=hf x
  have k2:=hg x (List.mem_of_getElem? hc)
  rw[nmF_step hc] at i2
  generalize ok x=o at *
  cases o with
  |false=>
   rw[if_neg (by simp)] at i2
   rw[i2]
   repeat' first|refine st ?_|((with_reducible apply go_i);conv=>whnf)|refine⟨λ_=>?_,λ_=>?_⟩|fail
   all_goals rfl
  |true=>
   rw[if_pos rfl] at i2
   cases i with
   |zero=>
    have i2:R=nmF nm ok (pvO nm l 1) (l.drop 1):=i2
    repeat' first|refine st ?_|((with_reducible apply go_i);conv=>whnf)|refine⟨λ_=>?_,λ_=>?_⟩|fail
    all_goals first|(exfalso;omega)|exact⟨0+1,rfl,rfl,rfl,by omega,by omega,i2⟩
   |succ j=>
    have hj:l[j]?=some l[j]:=List.getElem?_eq_getElem (by omega)
    obtain⟨y,hy⟩:∃y,y=l[j]:=⟨_,rfl⟩
    rw[<- hy] at hj
    have k3:=hf y
    have hgy:=g1 j y hj
    have ej:(((j+1:Nat):Int)-1).toNat=j:=by omega
    rw[<- ej] at hgy
    simp only[pvO,hj,Option.map_some] at i2
    by_cases hL:leB (nm x) (nm y)=true
    ·rw[if_pos hL] at i2
     rw[i2]
     simp only[leB] at hL
     repeat' first|refine st ?_|((with_reducible apply go_i);conv=>whnf)|refine⟨λ_=>?_,λ_=>?_⟩|fail
     all_goals first|rfl|(exfalso;omega)|(exfalso;simp_all;done)
    ·rw[if_neg hL] at i2
     simp only[leB] at hL
     repeat' first|refine st ?_|((with_reducible apply go_i);conv=>whnf)|refine⟨λ_=>?_,λ_=>?_⟩|fail
     all_goals first|(exfalso;omega)|exact⟨j+1+1,rfl,rfl,rfl,by omega,by omega,i2⟩|(exfalso;simp_all;done)
 |none=>
  have hge:=List.getElem?_eq_none_iff.1 hc
  rw[List.drop_eq_nil_of_le hge,show nmF nm ok (pvO nm l i) []=0 by(generalize pvO nm l i=p;cases p<;>rfl)] at i2
  rw[i2]
  repeat' first|refine st ?_|((with_reducible apply go_i);conv=>whnf)|refine⟨λ_=>?_,λ_=>?_⟩|fail
  all_goals first|rfl|(exfalso;omega)
theorem C.named_api_Policy(l:List Pk)(hl:l.length<=1048576)(d:D)(hd:SlD d (ePk l))(f g:FuncId)(nm:Pk->List UInt8)(ok:Pk->Bool)(hf:∀x,Pure Tryz.prog f [av x.ds] (.d (.str (nm x))))(hg:∀x∈l,Pure Tryz.prog g [av x.ds] (.d (.bool (ok x)))):Pure Tryz.prog N.record_named_api_Policy [.d d,.d (.fn f),.d (.fn g)] (.d (eI (nmF nm ok none l))):=by
 have e1:=ePk_len l
 have m1:=ePk_mem l
 have g1:=λi x=>@ePk_get l i x
 generalize ePk l=z at *
 obtain⟨R,hR⟩:∃R,R=nmF nm ok none l:=⟨_,rfl⟩
 rw[<- hR]
 refine F.record_named_api_Policy.go mixed rfl ?_
 repeat' first|refine st ?_|((with_reducible apply go_i);conv=>whnf)|refine⟨λ_=>?_,λ_=>?_⟩|fail
 refine x_loop1 mixed Lt.record_named_api_Policy_l0 Lk.record_named_api_Policy_l0 (λ(i:Nat)=>[.d (eI i)]) (λi=>[]) (λi=>i<=z.length/\R=nmF nm ok (pvO nm l i) (l.drop i)) (λi=>z.length-i) 0 rfl rfl rfl rfl (λ_ _=>⟨rfl,rfl⟩) rfl ⟨by omega,hR⟩ ?_
 repeat' first|refine st ?_|((with_reducible apply go_i);conv=>whnf)|refine⟨λ_=>?_,λ_=>?_⟩|fail
 intro i ⟨i1,i2⟩
 cases hc:l[i]? with
 |some x=>
  have hlt:=(List.getElem?_eq_some_iff.1 hc).1
  have hx:=g1 i x hc
  have k1:=hf x
  have k2:=hg x (List.mem_of_getElem? hc)
  rw[nmF_step hc] at i2
  generalize ok x=o at *
  cases o with
  |false=>
   rw[if_neg (by simp)] at i2
   rw[i2]
   repeat' first|refine st ?_|((with_reducible apply go_i);conv=>whnf)|refine⟨λ_=>?_,λ_=>?_⟩|fail
   all_goals rfl
  |true=>
   rw[if_pos rfl] at i2
   cases i with
   |zero=>
    have i2:R=nmF nm ok (pvO nm l 1) (l.drop 1):=i2
    repeat' first|refine st ?_|((with_reducible apply go_i);conv=>whnf)|refine⟨λ_=>?_,λ_=>?_⟩|fail
    all_goals first|(exfalso;omega)|exact⟨0+1,rfl,rfl,rfl,by omega,by omega,i2⟩
   |succ j=>
    have hj:l[j]?=some l[j]:=List.getElem?_eq_getElem (by omega)
    obtain⟨y,hy⟩:∃y,y=l[j]:=⟨_,rfl⟩
    rw[<- hy] at hj
    have k3:=hf y
    have hgy:=g1 j y hj
    have ej:(((j+1:Nat):Int)-1).toNat=j:=by omega
    rw[<- ej] at hgy
    simp only[pvO,hj,Option.map_some] at i2
    by_cases hL:leB (nm x) (nm y)=true
    ·rw[if_pos hL] at i2
     rw[i2]
     simp only[leB] at hL
     repeat' first|refine st ?_|((with_reducible apply go_i);conv=>whnf)|refine⟨λ_=>?_,λ_=>?_⟩|fail
     all_goals first|rfl|(exfalso;omega)|(exfalso;simp_all;done)
    ·rw[if_neg hL] at i2
     simp only[leB] at hL
     repeat' first|refine st ?_|((with_reducible apply go_i);conv=>whnf)|refine⟨λ_=>?_,λ_=>?_⟩|fail
     all_goals first|(exfalso;omega)|exact⟨j+1+1,rfl,rfl,rfl,by omega,by omega,i2⟩|(exfalso;simp_all;done)
 |none=>
  have hge:=List.getElem?_eq_none_iff.1 hc
  rw[List.drop_eq_nil_of_le hge,show nmF nm ok (pvO nm l i) []=0 by(generalize pvO nm l i=p;cases p<;>rfl)] at i2
  rw[i2]
  repeat' first|refine st ?_|((with_reducible apply go_i);conv=>whnf)|refine⟨λ_=>?_,λ_=>?_⟩|fail
  all_goals first|rfl|(exfalso;omega)
theorem C.named_api_Horizon(l:List Pk)(hl:l.length<=1048576)(d:D)(hd:SlD d (ePk l))(f g:FuncId)(nm:Pk->List UInt8)(ok:Pk->Bool)(hf:∀x,Pure Tryz.prog f [av x.ds] (.d (.str (nm x))))(hg:∀x∈l,Pure Tryz.prog g [av x.ds] (.d (.bool (ok x)))):Pure Tryz.prog N.record_named_api_Horizon [.d d,.d (.fn f),.d (.fn g)] (.d (eI (nmF nm ok none l))):=by
 have e1:=ePk_len l
 have m1:=ePk_mem l
 have g1:=λi x=>@ePk_get l i x
 generalize ePk l=z at *
 obtain⟨R,hR⟩:∃R,R=nmF nm ok none l:=⟨_,rfl⟩
 rw[<- hR]
 refine F.record_named_api_Horizon.go mixed rfl ?_
 repeat' first|refine st ?_|((with_reducible apply go_i);conv=>whnf)|refine⟨λ_=>?_,λ_=>?_⟩|fail
 refine x_loop1 mixed Lt.record_named_api_Horizon_l0 Lk.record_named_api_Horizon_l0 (λ(i:Nat)=>[.d (eI i)]) (λi=>[]) (λi=>i<=z.length/\R=nmF nm ok (pvO nm l i) (l.drop i)) (λi=>z.length-i) 0 rfl rfl rfl rfl (λ_ _=>⟨rfl,rfl⟩) rfl ⟨by omega,hR⟩ ?_
 repeat' first|refine st ?_|((with_reducible apply go_i);conv=>whnf)|refine⟨λ_=>?_,λ_=>?_⟩|fail
 intro i ⟨i1,i2⟩
 cases hc:l[i]? with
 |some x=>
  have hlt:=(List.getElem?_eq_some_iff.1 hc).1
  have hx:=g1 i x hc
  have k1:=hf x
  have k2:=hg x (List.mem_of_getElem? hc)
  rw[nmF_step hc] at i2
  generalize ok x=o at *
  cases o with
  |false=>
   rw[if_neg (by simp)] at i2
   rw[i2]
   repeat' first|refine st ?_|((with_reducible apply go_i);conv=>whnf)|refine⟨λ_=>?_,λ_=>?_⟩|fail
   all_goals rfl
  |true=>
   rw[if_pos rfl] at i2
   cases i with
   |zero=>
    have i2:R=nmF nm ok (pvO nm l 1) (l.drop 1):=i2
    repeat' first|refine st ?_|((with_reducible apply go_i);conv=>whnf)|refine⟨λ_=>?_,λ_=>?_⟩|fail
    all_goals first|(exfalso;omega)|exact⟨0+1,rfl,rfl,rfl,by omega,by omega,i2⟩
   |succ j=>
    have hj:l[j]?=some l[j]:=List.getElem?_eq_getElem (by omega)
    obtain⟨y,hy⟩:∃y,y=l[j]:=⟨_,rfl⟩
    rw[<- hy] at hj
    have k3:=hf y
    have hgy:=g1 j y hj
    have ej:(((j+1:Nat):Int)-1).toNat=j:=by omega
    rw[<- ej] at hgy
    simp only[pvO,hj,Option.map_some] at i2
    by_cases hL:leB (nm x) (nm y)=true
    ·rw[if_pos hL] at i2
     rw[i2]
     simp only[leB] at hL
     repeat' first|refine st ?_|((with_reducible apply go_i);conv=>whnf)|refine⟨λ_=>?_,λ_=>?_⟩|fail
     all_goals first|rfl|(exfalso;omega)|(exfalso;simp_all;done)
    ·rw[if_neg hL] at i2
     simp only[leB] at hL
     repeat' first|refine st ?_|((with_reducible apply go_i);conv=>whnf)|refine⟨λ_=>?_,λ_=>?_⟩|fail
     all_goals first|(exfalso;omega)|exact⟨j+1+1,rfl,rfl,rfl,by omega,by omega,i2⟩|(exfalso;simp_all;done)
 |none=>
  have hge:=List.getElem?_eq_none_iff.1 hc
  rw[List.drop_eq_nil_of_le hge,show nmF nm ok (pvO nm l i) []=0 by(generalize pvO nm l i=p;cases p<;>rfl)] at i2
  rw[i2]
  repeat' first|refine st ?_|((with_reducible apply go_i);conv=>whnf)|refine⟨λ_=>?_,λ_=>?_⟩|fail
  all_goals first|rfl|(exfalso;omega)
end Go.Proofs
end
section
namespace Go.Proofs
open Go.Bi
def hoB(h:Ho):Bool:=wordB h.nm&&(wordB h.tb&&(valid h.va h.vb&&valid h.sa h.sb))
def poB(p:Pk):Bool:=wordB p.tb&&decide (0<=p.n/\p.n<=1099511627776)
def hzB(p:Pk):Bool:=wordB p.tb&&insB p.n
theorem C.checkHolds_c1(h:Ho):Pure Tryz.prog N.record_checkHolds_c1 [av h.ds] (.d (.str h.nm)):=by
 refine F.record_checkHolds_c1.go mixed rfl ?_
 repeat' first|refine st ?_|((with_reducible apply go_i);conv=>whnf)|refine⟨λ_=>?_,λ_=>?_⟩|fail
 all_goals rfl
theorem C.checkHolds_c2(h:Ho)(h1:SZ h.nm)(h2:SZ h.tb):Pure Tryz.prog N.record_checkHolds_c2 [av h.ds] (.d (.bool (hoB h))):=by
 have w1:=C.record_word _ h1
 have w2:=C.record_word _ h2
 have w3:=C.period_Valid h.va h.vb
 have w4:=C.period_Valid h.sa h.sb
 unfold hoB
 generalize wordB h.nm=b1 at *
 generalize wordB h.tb=b2 at *
 generalize valid h.va h.vb=b3 at *
 generalize valid h.sa h.sb=b4 at *
 obtain⟨nm,tb,va,vb,sa,sb⟩:=h
 unfold Ho.ds
 simp only at *
 clear h1 h2
 refine F.record_checkHolds_c2.go mixed rfl ?_
 cases b1
 ·repeat' first|refine st ?_|((with_reducible apply go_i);conv=>whnf)|refine⟨λ_=>?_,λ_=>?_⟩|fail
  all_goals rfl
 cases b2
 ·repeat' first|refine st ?_|((with_reducible apply go_i);conv=>whnf)|refine⟨λ_=>?_,λ_=>?_⟩|fail
  all_goals rfl
 cases b3
 ·repeat' first|refine st ?_|((with_reducible apply go_i);conv=>whnf)|refine⟨λ_=>?_,λ_=>?_⟩|fail
  all_goals rfl
 repeat' first|refine st ?_|((with_reducible apply go_i);conv=>whnf)|refine⟨λ_=>?_,λ_=>?_⟩|fail
 all_goals rfl
theorem C.Check_c1(s:List UInt8):Pure Tryz.prog N.record_Check_c1 [.d (.str s)] (.d (.str s)):=by
 refine F.record_Check_c1.go mixed rfl ?_
 repeat' first|refine st ?_|((with_reducible apply go_i);conv=>whnf)|refine⟨λ_=>?_,λ_=>?_⟩|fail
 all_goals rfl
theorem C.checkRest_c1(h:Pk):Pure Tryz.prog N.record_checkRest_c1 [av h.ds] (.d (.str h.tb)):=by
 refine F.record_checkRest_c1.go mixed rfl ?_
 repeat' first|refine st ?_|((with_reducible apply go_i);conv=>whnf)|refine⟨λ_=>?_,λ_=>?_⟩|fail
 all_goals rfl
theorem C.checkRest_c3(h:Pk):Pure Tryz.prog N.record_checkRest_c3 [av h.ds] (.d (.str h.tb)):=by
 refine F.record_checkRest_c3.go mixed rfl ?_
 repeat' first|refine st ?_|((with_reducible apply go_i);conv=>whnf)|refine⟨λ_=>?_,λ_=>?_⟩|fail
 all_goals rfl
theorem C.checkRest_c2(p:Pk)(h1:SZ p.tb):Pure Tryz.prog N.record_checkRest_c2 [av p.ds] (.d (.bool (poB p))):=by
 have w1:=C.record_word _ h1
 have w2:=C.record_within p.n 0 1099511627776
 unfold poB
 generalize wordB p.tb=b1 at *
 generalize decide (0<=p.n/\p.n<=1099511627776)=b2 at *
 refine F.record_checkRest_c2.go mixed rfl ?_
 cases b1
 ·repeat' first|refine st ?_|((with_reducible apply go_i);conv=>whnf)|refine⟨λ_=>?_,λ_=>?_⟩|fail
  all_goals rfl
 repeat' first|refine st ?_|((with_reducible apply go_i);conv=>whnf)|refine⟨λ_=>?_,λ_=>?_⟩|fail
 all_goals rfl
theorem C.checkRest_c4(p:Pk)(h1:SZ p.tb):Pure Tryz.prog N.record_checkRest_c4 [av p.ds] (.d (.bool (hzB p))):=by
 have w1:=C.record_word _ h1
 have w2:=C.record_instant p.n
 unfold hzB insB
 generalize wordB p.tb=b1 at *
 generalize decide (0<=p.n/\p.n<=1099511627775)=b2 at *
 refine F.record_checkRest_c4.go mixed rfl ?_
 cases b1
 ·repeat' first|refine st ?_|((with_reducible apply go_i);conv=>whnf)|refine⟨λ_=>?_,λ_=>?_⟩|fail
  all_goals rfl
 repeat' first|refine st ?_|((with_reducible apply go_i);conv=>whnf)|refine⟨λ_=>?_,λ_=>?_⟩|fail
 all_goals rfl
def hoE(l:List Ho):Int:=nmF Ho.nm hoB none l
def stE(l:List (List UInt8)):Int:=nmF id wordB none l
def poE(l:List Pk):Int:=nmF Pk.tb poB none l
def hzE(l:List Pk):Int:=nmF Pk.tb hzB none l
def rsE(p h:List Pk):Int:=if poE p≠0 then poE p else hzE h
theorem C.record_checkHolds(l:List Ho)(hl:l.length<=1048576)(hs:∀h∈l,SZ h.nm/\SZ h.tb)(d:D)(hd:SlD d (eHo l)):Pure Tryz.prog N.record_checkHolds [.d d] (.d (eI (hoE l))):=by
 have w:=C.named_api_Hold l hl d hd N.record_checkHolds_c1 N.record_checkHolds_c2 Ho.nm hoB C.checkHolds_c1 (λx hx=>C.checkHolds_c2 x (hs x hx).1 (hs x hx).2)
 unfold hoE
 generalize nmF Ho.nm hoB none l=r at *
 clear hd
 refine F.record_checkHolds.go mixed rfl ?_
 repeat' first|refine st ?_|((with_reducible apply go_i);conv=>whnf)|refine⟨λ_=>?_,λ_=>?_⟩|fail
 all_goals rfl
theorem C.record_checkRest(p h:List Pk)(hp:p.length<=1048576)(hh:h.length<=1048576)(hps:∀x∈p,SZ x.tb)(hhs:∀x∈h,SZ x.tb)(d d':D)(hd:SlD d (ePk p))(hd':SlD d' (ePk h)):Pure Tryz.prog N.record_checkRest [.d d,.d d'] (.d (eI (rsE p h))):=by
 have w1:=C.named_api_Policy p hp d hd N.record_checkRest_c1 N.record_checkRest_c2 Pk.tb poB C.checkRest_c1 (λx hx=>C.checkRest_c2 x (hps x hx))
 have w2:=C.named_api_Horizon h hh d' hd' N.record_checkRest_c3 N.record_checkRest_c4 Pk.tb hzB C.checkRest_c3 (λx hx=>C.checkRest_c4 x (hhs x hx))
 unfold rsE poE hzE
 generalize nmF Pk.tb poB none p=r at *
 generalize nmF Pk.tb hzB none h=r' at *
 clear hd hd'
 refine F.record_checkRest.go mixed rfl ?_
 by_cases hr:r=0
 ·rw[if_neg (by simpa using hr)]
  subst hr
  repeat' first|refine st ?_|((with_reducible apply go_i);conv=>whnf)|refine⟨λ_=>?_,λ_=>?_⟩|fail
  all_goals rfl
 ·rw[if_pos hr]
  repeat' first|refine st ?_|((with_reducible apply go_i);conv=>whnf)|refine⟨λ_=>?_,λ_=>?_⟩|fail
  all_goals rfl
end Go.Proofs
end
section
namespace Go.Proofs
open Go.Bi
def FaI(f:Fa):Prop:=f.r.length<=1048576/\∀v∈f.r,SZ v.s
def DeI(d:De):Prop:=SZ d.tb/\d.cl.length<=1048576/\d.op.length<=1048576/\∀f∈d.op,FaI f
def faB(f:Fa):Bool:=rowB f.r&&valid f.a f.b
def clF(m:Int):Option Int->List Int->Int
 |_,[]=>0
 |p,n::l=>if decide (1<=n/\n<=m)=true then (if (match p with|some q=>decide (n<=q)|none=>false)=true then 9 else clF m (some n) l) else 6
def pvI(l:List Int):Nat->Option Int
 |0=>none
 |j+1=>l[j]?
theorem clF_nil{m:Int}{p:Option Int}:clF m p []=0:=by cases p<;>rfl
theorem clF_step{m:Int}{l:List Int}{i:Nat}{x:Int}(h:l[i]?=some x):clF m (pvI l i) (l.drop i)=if decide (1<=x/\x<=m)=true then (if (match pvI l i with|some q=>decide (x<=q)|none=>false)=true then 9 else clF m (pvI l (i+1)) (l.drop (i+1))) else 6:=by
 obtain⟨h1,h2⟩:=List.getElem?_eq_some_iff.1 h
 have e:pvI l (i+1)=some x:=h
 rw[List.drop_eq_getElem_cons h1,h2,e]
 generalize pvI l i=p
 cases p<;>rfl
def deE(d:De)(m:Int):Int:=if clF (m-1) none d.cl≠0 then clF (m-1) none d.cl else if d.op.all faB=true then 0 else 8
theorem C.record_checkDelta(x:De)(h:DeI x)(m:Int)(hm:0<=m/\m<=1125899906842624):Pure Tryz.prog N.record_checkDelta [av x.ds,.d (eI m)] (.d (eI (deE x m))):=by
 obtain⟨tb,n1,cl,n2,op⟩:=x
 obtain⟨h1,h2,h3,h4⟩:=h
 simp only at h1 h2 h3 h4
 have e1:=eIs_len cl
 have m1:=eIs_mem cl
 have g1:=λi x=>@eIs_get cl i x
 have e2:=eFa_len op
 have m2:=eFa_mem op
 have g2:=λi x=>@eFa_get op i x
 have d1:SlD (ng n1 (eIs cl)) (eIs cl):=sld_ng
 have d2:SlD (ng n2 (eFa op)) (eFa op):=sld_ng
 unfold deE De.ds
 simp only
 generalize ng n1 (eIs cl)=y1 at *
 generalize ng n2 (eFa op)=y2 at *
 generalize eIs cl=z1 at *
 generalize eFa op=z2 at *
 obtain⟨R,hR⟩:∃R,R=if clF (m-1) none cl≠0 then clF (m-1) none cl else if op.all faB=true then 0 else 8:=⟨_,rfl⟩
 rw[<- hR]
 refine F.record_checkDelta.go mixed rfl ?_
 repeat' first|refine st ?_|((with_reducible apply go_i);conv=>whnf)|refine⟨λ_=>?_,λ_=>?_⟩|fail
 refine x_loop1 mixed Lt.record_checkDelta_l0 Lk.record_checkDelta_l0 (λ(i:Nat)=>[.d (eI i)]) (λi=>[.cells [.d (.str tb),.d y1,.d y2]]) (λi=>i<=z1.length/\clF (m-1) none cl=clF (m-1) (pvI cl i) (cl.drop i)) (λi=>z1.length-i) 0 rfl rfl rfl rfl (λ_ _=>⟨rfl,rfl⟩) rfl ⟨by omega,rfl⟩ ?_
 repeat' first|refine st ?_|((with_reducible apply go_i);conv=>whnf)|refine⟨λ_=>?_,λ_=>?_⟩|fail
 intro i ⟨i1,i2⟩
 cases hc:cl[i]? with
 |some x=>
  have hlt:=(List.getElem?_eq_some_iff.1 hc).1
  have hx:=g1 i x hc
  have w1:=C.record_within x 1 (m-1)
  rw[clF_step hc] at i2
  generalize decide (1<=x/\x<=m-1)=o at *
  cases o with
  |false=>
   rw[if_neg (by simp)] at i2
   rw[i2,if_pos (by decide)] at hR
   rw[hR]
   repeat' first|refine st ?_|((with_reducible apply go_i);conv=>whnf)|refine⟨λ_=>?_,λ_=>?_⟩|fail
   all_goals first|rfl|(exfalso;omega)
  |true=>
   rw[if_pos rfl] at i2
   cases i with
   |zero=>
    have i2:clF (m-1) none cl=clF (m-1) (pvI cl 1) (cl.drop 1):=i2
    repeat' first|refine st ?_|((with_reducible apply go_i);conv=>whnf)|refine⟨λ_=>?_,λ_=>?_⟩|fail
    all_goals first|(exfalso;omega)|exact⟨0+1,rfl,rfl,rfl,by omega,by omega,i2⟩
   |succ j=>
    have hj:cl[j]?=some cl[j]:=List.getElem?_eq_getElem (by omega)
    obtain⟨y,hy⟩:∃y,y=cl[j]:=⟨_,rfl⟩
    rw[<- hy] at hj
    have hgy:=g1 j y hj
    have ej:(((j+1:Nat):Int)-1).toNat=j:=by omega
    rw[<- ej] at hgy
    simp only[pvI,hj] at i2
    by_cases hL:x<=y
    ·rw[if_pos (decide_eq_true hL)] at i2
     rw[i2,if_pos (by decide)] at hR
     rw[hR]
     repeat' first|refine st ?_|((with_reducible apply go_i);conv=>whnf)|refine⟨λ_=>?_,λ_=>?_⟩|fail
     all_goals first|rfl|(exfalso;omega)
    ·rw[if_neg (by simpa using hL)] at i2
     repeat' first|refine st ?_|((with_reducible apply go_i);conv=>whnf)|refine⟨λ_=>?_,λ_=>?_⟩|fail
     all_goals first|(exfalso;omega)|exact⟨j+1+1,rfl,rfl,rfl,by omega,by omega,i2⟩
 |none=>
  have hge:=List.getElem?_eq_none_iff.1 hc
  rw[List.drop_eq_nil_of_le hge,clF_nil] at i2
  rw[i2,if_neg (by simp)] at hR
  repeat' first|refine st ?_|((with_reducible apply go_i);conv=>whnf)|refine⟨λ_=>?_,λ_=>?_⟩|fail
  refine x_loop1 mixed Lt.record_checkDelta_l1 Lk.record_checkDelta_l1 (λ(i:Nat)=>[.d (eI i)]) (λi=>[.cells [.d (.str tb),.d y1,.d y2]]) (λi=>i<=z2.length/\R=if (op.drop i).all faB=true then 0 else 8) (λi=>z2.length-i) 0 rfl rfl rfl rfl (λ_ _=>⟨rfl,rfl⟩) rfl ⟨by omega,hR⟩ ?_
  repeat' first|refine st ?_|((with_reducible apply go_i);conv=>whnf)|refine⟨λ_=>?_,λ_=>?_⟩|fail
  intro i ⟨i1,i2⟩
  cases hc:op[i]? with
  |some f=>
   have hlt:=(List.getElem?_eq_some_iff.1 hc).1
   have hx:=g2 i f hc
   have hI:=h4 f (List.mem_of_getElem? hc)
   obtain⟨fn,fr,fa,fb⟩:=f
   have sd:SlD (ng fn (eVs fr)) (eVs fr):=sld_ng
   have w1:=C.record_validRow fr hI.1 hI.2 _ sd
   have w2:=C.period_Valid fa fb
   rw[all_drop hc,faB] at i2
   unfold Fa.ds at hx
   simp only at hx i2
   generalize ng fn (eVs fr)=v1 at *
   clear sd
   generalize rowB fr=a1 at *
   generalize valid fa fb=a2 at *
   cases a1 with
   |false=>
    rw[if_neg (by simp)] at i2
    rw[i2]
    repeat' first|refine st ?_|((with_reducible apply go_i);conv=>whnf)|refine⟨λ_=>?_,λ_=>?_⟩|fail
    all_goals first|rfl|(exfalso;omega)
   |true=>
   cases a2 with
   |false=>
    rw[if_neg (by simp)] at i2
    rw[i2]
    repeat' first|refine st ?_|((with_reducible apply go_i);conv=>whnf)|refine⟨λ_=>?_,λ_=>?_⟩|fail
    all_goals first|rfl|(exfalso;omega)
   |true=>
    rw[Bool.true_and,Bool.true_and] at i2
    repeat' first|refine st ?_|((with_reducible apply go_i);conv=>whnf)|refine⟨λ_=>?_,λ_=>?_⟩|fail
    all_goals first|(exfalso;omega)|exact⟨i+1,rfl,rfl,rfl,by omega,by omega,i2⟩
  |none=>
   have hge:=List.getElem?_eq_none_iff.1 hc
   rw[List.drop_eq_nil_of_le hge,List.all_nil,if_pos rfl] at i2
   rw[i2]
   repeat' first|refine st ?_|((with_reducible apply go_i);conv=>whnf)|refine⟨λ_=>?_,λ_=>?_⟩|fail
   all_goals first|rfl|(exfalso;omega)
end Go.Proofs
end
section
namespace Go.Proofs
open Go.Bi
structure Cm where
 tx:Int
 tm:Int
 wl:Int
 fs:Int
 n1:Bool
 es:List Ey
 n2:Bool
 ds:List De
 n3:Bool
 pl:List Ho
 n4:Bool
 rl:List (List UInt8)
 n5:Bool
 ps:List Pk
 n6:Bool
 hs:List Pk
abbrev Cm.dl(x:Cm):List D:=[eI x.tx,eI x.tm,eI x.wl,eI x.fs,ng x.n1 (eEy x.es),ng x.n2 (eDe x.ds),ng x.n3 (eHo x.pl),ng x.n4 (eSt x.rl),ng x.n5 (ePk x.ps),ng x.n6 (ePk x.hs)]
def CmI(x:Cm):Prop:=(x.es.length<=1048576/\∀e∈x.es,EyI e)/\(x.ds.length<=1048576/\∀d∈x.ds,DeI d)/\(x.pl.length<=1048576/\∀h∈x.pl,SZ h.nm/\SZ h.tb)/\(x.rl.length<=1048576/\∀s∈x.rl,SZ s)/\(x.ps.length<=1048576/\∀p∈x.ps,SZ p.tb)/\(x.hs.length<=1048576/\∀p∈x.hs,SZ p.tb)
def dhB(d:De):Bool:=wordB d.tb&&!decide (d.cl.length+d.op.length=0)
def dlF(m:Int):Option (List UInt8)->List De->Int
 |_,[]=>0
 |p,x::l=>if dhB x=true then (if (match p with|some q=>leB x.tb q|none=>false)=true then 9 else if deE x m≠0 then deE x m else dlF m (some x.tb) l) else 8
theorem dlF_nil{m:Int}{p:Option (List UInt8)}:dlF m p []=0:=by cases p<;>rfl
theorem dlF_step{m:Int}{l:List De}{i:Nat}{x:De}(h:l[i]?=some x):dlF m (pvO De.tb l i) (l.drop i)=if dhB x=true then (if (match pvO De.tb l i with|some q=>leB x.tb q|none=>false)=true then 9 else if deE x m≠0 then deE x m else dlF m (pvO De.tb l (i+1)) (l.drop (i+1))) else 8:=by
 obtain⟨h1,h2⟩:=List.getElem?_eq_some_iff.1 h
 have e:pvO De.tb l (i+1)=some x.tb:=by simp only[pvO,h,Option.map_some]
 rw[List.drop_eq_getElem_cons h1,h2,e]
 generalize pvO De.tb l i=p
 cases p<;>rfl
def hdB(x:Cm):Bool:=decide (1<=x.tx/\x.tx<=1125899906842624)&&(decide (1<=x.fs/\x.fs<=1125899906842624)&&(decide (1<=x.tm/\x.tm<=1099511627775)&&decide (0<=x.wl/\x.wl<=x.tm)))
def etB(t:Int)(e:Ey):Bool:=eyB e&&decide (e.tm=t)
def ckE(x:Cm):Int:=if hdB x=true then (if x.es.all (etB x.tm)=true then (if dlF x.fs none x.ds≠0 then dlF x.fs none x.ds else if hoE x.pl≠0 then hoE x.pl else if stE x.rl≠0 then stE x.rl else rsE x.ps x.hs) else 8) else 6
theorem C.record_Check(x:Cm)(h:CmI x):Pure Tryz.prog N.record_Check [av x.dl] (.d (eI (ckE x))):=by
 obtain⟨tx,tm,wl,fs,n1,es,n2,ds,n3,pl,n4,rl,n5,ps,n6,hs⟩:=x
 obtain⟨⟨h1,h1'⟩,⟨h2,h2'⟩,⟨h3,h3'⟩,⟨h4,h4'⟩,⟨h5,h5'⟩,⟨h6,h6'⟩⟩:=h
 simp only at h1 h1' h2 h2' h3 h3' h4 h4' h5 h5' h6 h6'
 have e1:=eEy_len es
 have m1:=eEy_mem es
 have g1:=λi x=>@eEy_get es i x
 have e2:=eDe_len ds
 have m2:=eDe_mem ds
 have g2:=λi x=>@eDe_get ds i x
 have s1:SlD (ng n1 (eEy es)) (eEy es):=sld_ng
 have s2:SlD (ng n2 (eDe ds)) (eDe ds):=sld_ng
 have w1:=C.record_within tx 1 1125899906842624
 have w2:=C.record_within fs 1 1125899906842624
 have w3:=C.record_within tm 1 1099511627775
 have w4:=C.record_within wl 0 tm
 have c3:=C.record_checkHolds pl h3 h3' (ng n3 (eHo pl)) sld_ng
 have c4:=C.named_string rl h4 (ng n4 (eSt rl)) sld_ng N.record_Check_c1 N.record_word id wordB C.Check_c1 (λs hx=>C.record_word s (h4' s hx))
 have c5:=C.record_checkRest ps hs h5 h6 h5' h6' (ng n5 (ePk ps)) (ng n6 (ePk hs)) sld_ng sld_ng
 unfold ckE Cm.dl hdB stE
 simp only
 have hfs:decide (1<=fs/\fs<=1125899906842624)=true->0<=fs/\fs<=1125899906842624:=λh=>by
  have:=of_decide_eq_true h
  omega
 generalize ng n1 (eEy es)=y1 at *
 generalize ng n2 (eDe ds)=y2 at *
 generalize ng n3 (eHo pl)=y3 at *
 generalize ng n4 (eSt rl)=y4 at *
 generalize ng n5 (ePk ps)=y5 at *
 generalize ng n6 (ePk hs)=y6 at *
 generalize eEy es=z1 at *
 generalize eDe ds=z2 at *
 generalize hoE pl=r3 at *
 generalize nmF id wordB none rl=r4 at *
 generalize rsE ps hs=r5 at *
 generalize decide (1<=tx/\tx<=1125899906842624)=b1 at *
 generalize decide (1<=fs/\fs<=1125899906842624)=b2 at *
 generalize decide (1<=tm/\tm<=1099511627775)=b3 at *
 generalize decide (0<=wl/\wl<=tm)=b4 at *
 clear h3' h4' h5' h6'
 refine F.record_Check.go mixed rfl ?_
 cases b1 with
 |false=>
  repeat' first|refine st ?_|((with_reducible apply go_i);conv=>whnf)|refine⟨λ_=>?_,λ_=>?_⟩|fail
  all_goals rfl
 |true=>
 cases b2 with
 |false=>
  repeat' first|refine st ?_|((with_reducible apply go_i);conv=>whnf)|refine⟨λ_=>?_,λ_=>?_⟩|fail
  all_goals rfl
 |true=>
 cases b3 with
 |false=>
  repeat' first|refine st ?_|((with_reducible apply go_i);conv=>whnf)|refine⟨λ_=>?_,λ_=>?_⟩|fail
  all_goals rfl
 |true=>
 cases b4 with
 |false=>
  repeat' first|refine st ?_|((with_reducible apply go_i);conv=>whnf)|refine⟨λ_=>?_,λ_=>?_⟩|fail
  all_goals rfl
 |true=>
 have hfs:=hfs rfl
 rw[if_pos (by rfl)]
 obtain⟨R2,hR2⟩:∃R,R=if dlF fs none ds≠0 then dlF fs none ds else if r3≠0 then r3 else if r4≠0 then r4 else r5:=⟨_,rfl⟩
 rw[<- hR2]
 obtain⟨R1,hR1⟩:∃R,R=if es.all (etB tm)=true then R2 else 8:=⟨_,rfl⟩
 rw[<- hR1]
 repeat' first|refine st ?_|((with_reducible apply go_i);conv=>whnf)|refine⟨λ_=>?_,λ_=>?_⟩|fail
 refine x_loop1 mixed Lt.record_Check_l0 Lk.record_Check_l0 (λ(i:Nat)=>[.d (eI i)]) (λi=>[.cells [.d (eI tx),.d (eI tm),.d (eI wl),.d (eI fs),.d y1,.d y2,.d y3,.d y4,.d y5,.d y6]]) (λi=>i<=z1.length/\R1=if (es.drop i).all (etB tm)=true then R2 else 8) (λi=>z1.length-i) 0 rfl rfl rfl rfl (λ_ _=>⟨rfl,rfl⟩) rfl ⟨by omega,hR1⟩ ?_
 repeat' first|refine st ?_|((with_reducible apply go_i);conv=>whnf)|refine⟨λ_=>?_,λ_=>?_⟩|fail
 intro i ⟨i1,i2⟩
 cases hc:es[i]? with
 |some x=>
  have hlt:=(List.getElem?_eq_some_iff.1 hc).1
  have hx:=g1 i x hc
  have k1:=C.record_validEntry x (h1' x (List.mem_of_getElem? hc))
  rw[all_drop hc,etB] at i2
  generalize eyB x=o at *
  obtain⟨xtm,xtb,⟨a1,v1,b1,v2,c1,v3,d1,v4,f1⟩,⟨k,nm,to,⟨cn,ck,cl⟩,⟨dk,dn,dS⟩⟩⟩:=x
  unfold Ey.ds at hx k1
  simp only at hx k1 i2
  generalize ng v1 (eCs b1)=q1 at *
  generalize ng v2 (eIs c1)=q2 at *
  generalize ng v3 (eFk d1)=q3 at *
  generalize ng v4 (xL f1)=q4 at *
  cases o with
  |false=>
   rw[if_neg (by simp)] at i2
   rw[i2]
   repeat' first|refine st ?_|((with_reducible apply go_i);conv=>whnf)|refine⟨λ_=>?_,λ_=>?_⟩|fail
   all_goals first|rfl|(exfalso;omega)
  |true=>
   by_cases ht:xtm=tm
   ·rw[decide_eq_true ht,Bool.true_and,Bool.true_and] at i2
    repeat' first|refine st ?_|((with_reducible apply go_i);conv=>whnf)|refine⟨λ_=>?_,λ_=>?_⟩|fail
    all_goals first|(exfalso;omega)|exact⟨i+1,rfl,rfl,rfl,by omega,by omega,i2⟩
   ·rw[decide_eq_false ht,if_neg (by simp)] at i2
    rw[i2]
    repeat' first|refine st ?_|((with_reducible apply go_i);conv=>whnf)|refine⟨λ_=>?_,λ_=>?_⟩|fail
    all_goals first|rfl|(exfalso;omega)
 |none=>
  have hge:=List.getElem?_eq_none_iff.1 hc
  rw[List.drop_eq_nil_of_le hge,List.all_nil,if_pos rfl] at i2
  rw[i2]
  repeat' first|refine st ?_|((with_reducible apply go_i);conv=>whnf)|refine⟨λ_=>?_,λ_=>?_⟩|fail
  refine x_loop1 mixed Lt.record_Check_l1 Lk.record_Check_l1 (λ(i:Nat)=>[.d (eI i)]) (λi=>[.cells [.d (eI tx),.d (eI tm),.d (eI wl),.d (eI fs),.d y1,.d y2,.d y3,.d y4,.d y5,.d y6]]) (λi=>i<=z2.length/\dlF fs none ds=dlF fs (pvO De.tb ds i) (ds.drop i)) (λi=>z2.length-i) 0 rfl rfl rfl rfl (λ_ _=>⟨rfl,rfl⟩) rfl ⟨by omega,rfl⟩ ?_
  repeat' first|refine st ?_|((with_reducible apply go_i);conv=>whnf)|refine⟨λ_=>?_,λ_=>?_⟩|fail
  intro i ⟨i1,i2⟩
  cases hc:ds[i]? with
  |some x=>
   have hlt:=(List.getElem?_eq_some_iff.1 hc).1
   have hx:=g2 i x hc
   have hI:=h2' x (List.mem_of_getElem? hc)
   have k1:=C.record_word x.tb hI.1
   have k2:=C.record_checkDelta x hI fs hfs
   rw[dlF_step hc,dhB] at i2
   have l1:=eIs_len x.cl
   have l2:=eFa_len x.op
   have t1:SlD (ng x.n1 (eIs x.cl)) (eIs x.cl):=sld_ng
   have t2:SlD (ng x.n2 (eFa x.op)) (eFa x.op):=sld_ng
   obtain⟨hI1,hI2,hI3,hI4⟩:=hI
   unfold De.ds at hx k2
   generalize deE x fs=r at *
   generalize ng x.n1 (eIs x.cl)=q1 at *
   generalize ng x.n2 (eFa x.op)=q2 at *
   generalize eIs x.cl=u1 at *
   generalize eFa x.op=u2 at *
   generalize wordB x.tb=o at *
   clear hI4
   cases o with
   |false=>
    rw[Bool.false_and,if_neg (by simp)] at i2
    rw[i2,if_pos (by decide)] at hR2
    rw[hR2]
    repeat' first|refine st ?_|((with_reducible apply go_i);conv=>whnf)|refine⟨λ_=>?_,λ_=>?_⟩|fail
    all_goals first|rfl|(exfalso;omega)
   |true=>
    rw[Bool.true_and,<- l1,<- l2] at i2
    by_cases hz:u1.length+u2.length=0
    ·rw[decide_eq_true hz,if_neg (by simp)] at i2
     rw[i2,if_pos (by decide)] at hR2
     rw[hR2]
     repeat' first|refine st ?_|((with_reducible apply go_i);conv=>whnf)|refine⟨λ_=>?_,λ_=>?_⟩|fail
     all_goals first|rfl|(exfalso;omega)
    ·rw[decide_eq_false hz,if_pos (show(!false)=true from rfl)] at i2
     cases i with
     |zero=>
      have i2:dlF fs none ds=if r≠0 then r else dlF fs (pvO De.tb ds 1) (ds.drop 1):=i2
      by_cases hr:r=0
      ·rw[if_neg (by simpa using hr)] at i2
       subst hr
       repeat' first|refine st ?_|((with_reducible apply go_i);conv=>whnf)|refine⟨λ_=>?_,λ_=>?_⟩|fail
       all_goals first|(exfalso;omega)|exact⟨0+1,rfl,rfl,rfl,by omega,by omega,i2⟩
      ·rw[if_pos hr] at i2
       rw[i2,if_pos hr] at hR2
       rw[hR2]
       repeat' first|refine st ?_|((with_reducible apply go_i);conv=>whnf)|refine⟨λ_=>?_,λ_=>?_⟩|fail
       all_goals first|rfl|(exfalso;omega)
     |succ j=>
      have hj:ds[j]?=some ds[j]:=List.getElem?_eq_getElem (by omega)
      obtain⟨y,hy⟩:∃y,y=ds[j]:=⟨_,rfl⟩
      rw[<- hy] at hj
      have hgy:=g2 j y hj
      have ej:(((j+1:Nat):Int)-1).toNat=j:=by omega
      rw[<- ej] at hgy
      simp only[pvO,hj,Option.map_some] at i2
      unfold De.ds at hgy
      generalize ng y.n1 (eIs y.cl)=q3 at *
      generalize ng y.n2 (eFa y.op)=q4 at *
      by_cases hL:leB x.tb y.tb=true
      ·rw[if_pos hL] at i2
       rw[i2,if_pos (by decide)] at hR2
       rw[hR2]
       simp only[leB] at hL
       repeat' first|refine st ?_|((with_reducible apply go_i);conv=>whnf)|refine⟨λ_=>?_,λ_=>?_⟩|fail
       all_goals first|rfl|(exfalso;omega)|(exfalso;simp_all;done)
      ·rw[if_neg hL] at i2
       simp only[leB] at hL
       by_cases hr:r=0
       ·rw[if_neg (by simpa using hr)] at i2
        subst hr
        repeat' first|refine st ?_|((with_reducible apply go_i);conv=>whnf)|refine⟨λ_=>?_,λ_=>?_⟩|fail
        all_goals first|(exfalso;omega)|exact⟨j+1+1,rfl,rfl,rfl,by omega,by omega,i2⟩|(exfalso;simp_all;done)
       ·rw[if_pos hr] at i2
        rw[i2,if_pos hr] at hR2
        rw[hR2]
        repeat' first|refine st ?_|((with_reducible apply go_i);conv=>whnf)|refine⟨λ_=>?_,λ_=>?_⟩|fail
        all_goals first|rfl|(exfalso;omega)|(exfalso;simp_all;done)
  |none=>
   have hge:=List.getElem?_eq_none_iff.1 hc
   rw[List.drop_eq_nil_of_le hge,dlF_nil] at i2
   rw[i2,if_neg (by simp)] at hR2
   by_cases hr3:r3=0
   ·rw[if_neg (by simpa using hr3)] at hR2
    subst hr3
    by_cases hr4:r4=0
    ·rw[if_neg (by simpa using hr4)] at hR2
     subst hr4
     rw[hR2]
     repeat' first|refine st ?_|((with_reducible apply go_i);conv=>whnf)|refine⟨λ_=>?_,λ_=>?_⟩|fail
     all_goals first|rfl|(exfalso;omega)
    ·rw[if_pos hr4] at hR2
     rw[hR2]
     repeat' first|refine st ?_|((with_reducible apply go_i);conv=>whnf)|refine⟨λ_=>?_,λ_=>?_⟩|fail
     all_goals first|rfl|(exfalso;omega)
   ·rw[if_pos hr3] at hR2
    rw[hR2]
    repeat' first|refine st ?_|((with_reducible apply go_i);conv=>whnf)|refine⟨λ_=>?_,λ_=>?_⟩|fail
    all_goals first|rfl|(exfalso;omega)
end Go.Proofs
end
section
namespace Go.Proofs
open Go.Bi
theorem wordB_TK{s:List UInt8}(h:wordB s=true):TK s:=by
 cases s with
 |nil=>cases h
 |cons c s=>
  rw[wordB,Bool.and_eq_true,Bool.and_eq_true] at h
  have:=of_decide_eq_true h.1.1
  unfold TK;omega
theorem nwB_TK{s:List UInt8}(h:nwB s=true):TK s:=by
 rw[nwB,Bool.or_eq_true] at h
 rcases h with h|h
 ·rw[of_decide_eq_true h];exact Nat.zero_le _
 ·exact wordB_TK h
theorem stB_mk(op n:Int)(v:Vl)(nm:List UInt8)(nl:Bool)(args:List Ex)(k:Nat):stB (.mk op n v nm nl args) k=(decide (k<=24)&&(decide (1<=op/\op<=26)&&(decide (-1125899906842624<=n/\n<=1125899906842624)&&(vValid v&&(decide (nm.length<=49)&&(nm.all pxC&&args.all λe=>stB e (k+1))))))):=by
 rw[stB,stBs_eq]
theorem XKs_of:∀{l:List Ex},(∀e∈l,XK e)->XKs l
 |[],_=>trivial
 |e::l,h=>⟨h e (by simp),XKs_of λa ha=>h a (by simp[ha])⟩
theorem DKs_of:∀{l:List Ex} {k:Nat},(∀e∈l,DK e k)->DKs l k
 |[],_,_=>by rw[DKs];trivial
 |e::l,k,h=>by rw[DKs];exact⟨h e (by simp),DKs_of λa ha=>h a (by simp[ha])⟩
theorem stB_ok:∀e:Ex,e.bk<=1048576->∀k:Nat,stB e k=true->XK e/\DK e k:=by
 refine Ex.ind λop n v nm nl args ih hb k h=>?_
 rw[stB_mk] at h
 simp only[Bool.and_eq_true,decide_eq_true_eq,List.all_eq_true] at h
 obtain⟨h1,h2,h3,h4,h5,h6,h7⟩:=h
 obtain⟨b1,b2,b3,b4⟩:=Ex.bk_bounds hb
 have h8:=λa ha=>ih a ha (b4 a ha) (k+1) (h7 a ha)
 refine⟨?_,?_⟩
 ·rw[XK]
  exact⟨⟨⟨by omega,by omega⟩,⟨by omega,by omega⟩,h4,by unfold TK;omega,b1⟩,XKs_of λa ha=>(h8 a ha).1⟩
 ·rw[DK]
  exact⟨h1,DKs_of λa ha=>(h8 a ha).2⟩
theorem all_map_eq{α β:Type}{p:α->Bool}{q:β->Bool}{f:α->β}:∀{l:List α},(∀a∈l,q (f a)=p a)->(l.map f).all q=l.all p
 |[],_=>rfl
 |a::l,h=>by
  rw[List.map_cons,List.all_cons,List.all_cons,h a (by simp),all_map_eq λb hb=>h b (by simp[hb])]
theorem stB_rd:∀e:Ex,∀k:Nat,stB (rdX e) k=stB e k:=by
 refine Ex.ind λop n v nm nl args ih k=>?_
 rw[rdX_mk,stB_mk,stB_mk,all_map_eq λa ha=>ih a ha (k+1)]
theorem bulk_ng(b c:Bool)(l:List (List D)):bulkD (ng b l)=bulkD (ng c l):=by
 cases l with
 |nil=>cases b<;>cases c<;>rfl
 |cons=>cases b<;>cases c<;>rfl
theorem bulkLL_map{α:Type}{f g:α->List D}:∀{l:List α},(∀a∈l,bulkL (f a)=bulkL (g a))->bulkLL (l.map f)=bulkLL (l.map g)
 |[],_=>rfl
 |a::l,h=>by
  simp only[List.map_cons,bulkLL]
  rw[h a (by simp),bulkLL_map λb hb=>h b (by simp[hb])]
theorem bulk_ng2(b:Bool){l m:List (List D)}(h:bulkLL l=bulkLL m)(hl:l.length=m.length):bulkD (ng b l)=bulkD (ng b m):=by
 cases l with
 |nil=>
  cases m with
  |nil=>rfl
  |cons=>simp at hl
 |cons x l=>
  cases m with
  |nil=>simp at hl
  |cons y m=>
   cases b<;>simp only[ng,List.isEmpty_cons,Bool.and_false,Bool.false_and,Bool.false_eq_true,if_false,bulkD,h]
theorem bk_rd:∀e:Ex,(rdX e).bk=e.bk:=by
 refine Ex.ind λop n v nm nl args ih=>?_
 rw[rdX_mk,Ex.bk,Ex.bk,Ex.ds_mk,Ex.ds_mk]
 have h:bulkD (ng true (xL (args.map rdX)))=bulkD (ng nl (xL args)):=by
  rw[bulk_ng true nl]
  refine bulk_ng2 nl ?_ (by simp[xL])
  unfold xL
  rw[List.map_map]
  exact bulkLL_map λa ha=>ih a ha
 simp only[bulkL,h]
theorem inC_I64{l:List Int}(h:idxB l=true):l.length<=1048576/\∀n∈l,I64 n:=by
 rw[idxB,Bool.and_eq_true] at h
 have h1:=of_decide_eq_true h.1
 refine⟨by omega,λn hn=>?_⟩
 have:=of_decide_eq_true (List.all_eq_true.1 h.2 n hn)
 exact⟨by omega,by omega⟩
theorem taB_ok{t:Ta}(hI:TaI t)(h:taB t=true):TaR t:=by
 unfold taB at h
 simp only[Bool.and_eq_true,decide_eq_true_eq,List.all_eq_true] at h
 obtain⟨h1,h2,h3,h4,h5,h6,h7,h8⟩:=h
 obtain⟨i1,⟨i2,i2'⟩,i3,⟨i4,i4'⟩,i5,i6⟩:=hI
 have h9:=λe he=>stB_ok e (i6 e he) 1 (h8 e he)
 refine⟨⟨wordB_TK h1,⟨i2,λc hc=>?_⟩,inC_I64 h3,⟨i4,λf hf=>?_⟩,i5,λe he=>(h9 e he).1⟩,λe he=>(h9 e he).2⟩
 ·have:=h6 c hc
  rw[coB,Bool.and_eq_true] at this
  have h10:=of_decide_eq_true this.2
  exact⟨wordB_TK this.1,by omega,by omega⟩
 ·have:=h7 f hf
  rw[fkB,Bool.and_eq_true] at this
  exact⟨inC_I64 this.1,wordB_TK this.2⟩
theorem taB_rd(t:Ta):taB (rdTa t)=taB t:=by
 unfold taB rdTa
 simp only[List.length_map]
 rw[all_map_eq (p:=fkB) (q:=fkB) (f:=rdFk) (λa _=>rfl),all_map_eq (p:=λe=>stB e 1) (q:=λe=>stB e 1) (f:=rdX) (λa _=>stB_rd a 1)]
theorem TaI_rd{t:Ta}(h:TaI t):TaI (rdTa t):=by
 obtain⟨i1,⟨i2,i2'⟩,i3,⟨i4,i4'⟩,i5,i6⟩:=h
 refine⟨i1,⟨i2,i2'⟩,i3,⟨by simpa[rdTa] using i4,λf hf=>?_⟩,by simpa[rdTa] using i5,λe he=>?_⟩
 ·obtain⟨g,hg,rfl⟩:=List.mem_map.1 hf
  exact i4' g hg
 ·obtain⟨g,hg,rfl⟩:=List.mem_map.1 he
  rw[bk_rd]
  exact i6 g hg
theorem eyB_ok{e:Ey}(hI:EyI e)(h:eyB e=true):EyR e:=by
 unfold eyB at h
 rw[Bool.and_eq_true,Bool.and_eq_true] at h
 obtain⟨h1,h2,h3⟩:=h
 have h1:=of_decide_eq_true h1
 by_cases hk:e.ch.k=0
 ·rw[if_pos hk,Bool.and_eq_true,Bool.and_eq_true] at h3
  have h4:=taB_ok hI.2.1 h3.2.1
  refine⟨⟨⟨by omega,by omega⟩,wordB_TK h2,by rw[hk];exact⟨by decide,by decide⟩,by rw[if_pos hk];exact h4.1⟩,λ_=>h4.2⟩
 ·rw[if_neg hk,Bool.and_eq_true] at h3
  have h4:=h3.1
  unfold cgB at h4
  simp only[Bool.and_eq_true,decide_eq_true_eq] at h4
  obtain⟨g1,g2,g3,g4,g5,g6⟩:=h4
  exact⟨⟨⟨by omega,by omega⟩,wordB_TK h2,⟨by omega,by omega⟩,by rw[if_neg hk];exact⟨nwB_TK g1,nwB_TK g2,⟨nwB_TK g3,by omega,by omega⟩,g6⟩⟩,λh=>absurd h hk⟩
theorem cgZ_eq{c:Cg}(h:cgZ c=true):c=zCg:=by
 obtain⟨k,nm,to,⟨cn,ck,cl⟩,⟨dk,dn,dS⟩⟩:=c
 have h:=of_decide_eq_true h
 simp only at h
 obtain⟨rfl,rfl,rfl,rfl,rfl,rfl,rfl,rfl,rfl⟩:=h
 rfl
theorem blB_eq{t:Ta}(h:blB t=true):t.nm=[]/\t.cs=[]/\t.ks=[]/\t.fs=[]/\t.xs=[]:=by
 rw[blB,Bool.and_eq_true] at h
 have h1:=of_decide_eq_true h.1
 have h2:=of_decide_eq_true h.2
 exact⟨h1,List.length_eq_zero_iff.1 (by omega),List.length_eq_zero_iff.1 (by omega),List.length_eq_zero_iff.1 (by omega),List.length_eq_zero_iff.1 (by omega)⟩
theorem eyB_rd{e:Ey}(h:eyB e=true):eyB (rdEy e)=true:=by
 unfold eyB at h
 rw[Bool.and_eq_true,Bool.and_eq_true] at h
 obtain⟨h1,h2,h3⟩:=h
 by_cases hk:e.ch.k=0
 ·rw[if_pos hk,Bool.and_eq_true,Bool.and_eq_true] at h3
  rw[rdEy,if_pos hk]
  unfold eyB
  simp only[h1,h2,Bool.true_and]
  rw[if_pos (by rfl),taB_rd,h3.2.1]
  have:=of_decide_eq_true h3.2.2
  simp[cgZ,zCg,rdTa,this]
 ·rw[if_neg hk,Bool.and_eq_true] at h3
  rw[rdEy,if_neg hk]
  unfold eyB
  simp only[h1,h2,Bool.true_and]
  rw[if_neg hk,h3.1]
  rfl
theorem EyI_rd{e:Ey}(h:EyI e):EyI (rdEy e):=by
 unfold rdEy
 split
 ·refine⟨h.1,TaI_rd h.2.1,?_⟩
  exact⟨Nat.zero_le _,Nat.zero_le _,Nat.zero_le _,Nat.zero_le _⟩
 ·refine⟨h.1,⟨Nat.zero_le _,⟨Nat.zero_le _,λc hc=>by cases hc⟩,Nat.zero_le _,⟨Nat.zero_le _,λc hc=>by cases hc⟩,Nat.zero_le _,λc hc=>by cases hc⟩,h.2.2⟩
end Go.Proofs
end
section
namespace Go.Proofs
open Go.Bi
def rdCm(x:Cm):Cm:=⟨x.tx,x.tm,x.wl,x.fs,true,x.es.map rdEy,true,x.ds.map rdDe,true,x.pl,true,x.rl,true,x.ps,true,x.hs⟩
def encCm(x:Cm):List UInt8:=encI x.tx++encI x.tm++encI x.wl++encI x.fs++encL encEy x.es++encL encDe x.ds++encL encHo x.pl++encL encT x.rl++encL encPk x.ps++encL encPk x.hs
def CmK(x:Cm):Prop:=(I64 x.tx/\I64 x.tm/\I64 x.wl/\I64 x.fs)/\(∀e∈x.es,EyR e)/\(∀d∈x.ds,DeK d)/\(∀h∈x.pl,HoK h)/\(∀s∈x.rl,TK s)/\(∀p∈x.ps,PkK p)/\(∀p∈x.hs,PkK p)
theorem nmF_cons{α:Type}{nm:α->List UInt8}{ok:α->Bool}(a:α)(l:List α)(p:Option (List UInt8)):nmF nm ok p (a::l)=if ok a=true then (if (match p with|some q=>leB (nm a) q|none=>false)=true then 9 else nmF nm ok (some (nm a)) l) else 8:=by cases p<;>rfl
theorem clF_cons{m:Int}(a:Int)(l:List Int)(p:Option Int):clF m p (a::l)=if decide (1<=a/\a<=m)=true then (if (match p with|some q=>decide (a<=q)|none=>false)=true then 9 else clF m (some a) l) else 6:=by cases p<;>rfl
theorem nmF_ok{α:Type}{nm:α->List UInt8}{ok:α->Bool}:∀{l:List α} {p:Option (List UInt8)},nmF nm ok p l=0->∀x∈l,ok x=true
 |[],_,_,x,hx=>by cases hx
 |a::l,p,h,x,hx=>by
  rw[nmF_cons] at h
  generalize (match p with|some q=>leB (nm a) q|none=>false)=b at h
  split at h
  ·rename_i ho
   split at h
   ·exact absurd h (by decide)
   ·rcases List.mem_cons.1 hx with rfl|hx
    ·exact ho
    ·exact nmF_ok h x hx
  ·exact absurd h (by decide)
theorem clF_ok{m:Int}:∀{l:List Int} {p:Option Int},clF m p l=0->∀x∈l,1<=x/\x<=m
 |[],_,_,x,hx=>by cases hx
 |a::l,p,h,x,hx=>by
  rw[clF_cons] at h
  generalize (match p with|some q=>decide (a<=q)|none=>false)=b at h
  split at h
  ·rename_i ho
   split at h
   ·exact absurd h (by decide)
   ·rcases List.mem_cons.1 hx with rfl|hx
    ·exact of_decide_eq_true ho
    ·exact clF_ok h x hx
  ·exact absurd h (by decide)
theorem dlF_cons{m:Int}(a:De)(l:List De)(p:Option (List UInt8)):dlF m p (a::l)=if dhB a=true then (if (match p with|some q=>leB a.tb q|none=>false)=true then 9 else if deE a m≠0 then deE a m else dlF m (some a.tb) l) else 8:=by cases p<;>rfl
theorem dlF_ok{m:Int}:∀{l:List De} {p:Option (List UInt8)},dlF m p l=0->∀x∈l,dhB x=true/\deE x m=0
 |[],_,_,x,hx=>by cases hx
 |a::l,p,h,x,hx=>by
  rw[dlF_cons] at h
  generalize (match p with|some q=>leB a.tb q|none=>false)=b at h
  split at h
  ·rename_i ho
   split at h
   ·exact absurd h (by decide)
   ·split at h
    ·rename_i h1
     exact absurd h h1
    ·rename_i h1
     rcases List.mem_cons.1 hx with rfl|hx
     ·exact⟨ho,by simpa using h1⟩
     ·exact dlF_ok h x hx
  ·exact absurd h (by decide)
theorem deE_rd(d:De)(m:Int):deE (rdDe d) m=deE d m:=by
 unfold deE rdDe
 simp only
 rw[all_map_eq (p:=faB) (q:=faB) (f:=rdFa) (λa _=>rfl)]
theorem dlF_rd(m:Int):∀(l:List De) (p:Option (List UInt8)),dlF m p (l.map rdDe)=dlF m p l
 |[],p=>by rw[List.map_nil]
 |a::l,p=>by
  have e:dhB (rdDe a)=dhB a:=by simp[dhB,rdDe]
  rw[List.map_cons,dlF_cons,dlF_cons,deE_rd,e,show(rdDe a).tb=a.tb from rfl,dlF_rd]
theorem deE_ok{d:De}{m:Int}(hI:DeI d)(hw:wordB d.tb=true)(h:deE d m=0)(hm:m<=1125899906842624):DeK d:=by
 unfold deE at h
 split at h
 ·rename_i h1
  exact absurd h h1
 ·rename_i h1
  have h1:clF (m-1) none d.cl=0:=by simpa using h1
  split at h
  ·rename_i h2
   refine⟨wordB_TK hw,⟨hI.2.1,λn hn=>?_⟩,hI.2.2.1,λf hf=>?_⟩
   ·have:=clF_ok h1 n hn
    exact⟨by omega,by omega⟩
   ·have h3:=List.all_eq_true.1 h2 f hf
    rw[faB,rowB,Bool.and_eq_true,Bool.and_eq_true] at h3
    exact⟨⟨of_decide_eq_true h3.1.1,List.all_eq_true.1 h3.1.2⟩,h3.2⟩
  ·exact absurd h (by decide)
theorem ck_parts{x:Cm}(h:ckE x=0):hdB x=true/\x.es.all (etB x.tm)=true/\dlF x.fs none x.ds=0/\hoE x.pl=0/\stE x.rl=0/\poE x.ps=0/\hzE x.hs=0:=by
 unfold ckE at h
 split at h
 ·rename_i h1
  split at h
  ·rename_i h2
   split at h
   ·rename_i h3;exact absurd h h3
   ·rename_i h3
    split at h
    ·rename_i h4;exact absurd h h4
    ·rename_i h4
     split at h
     ·rename_i h5;exact absurd h h5
     ·rename_i h5
      unfold rsE at h
      split at h
      ·rename_i h6;exact absurd h h6
      ·rename_i h6
       exact⟨h1,h2,by simpa using h3,by simpa using h4,by simpa using h5,by simpa using h6,h⟩
  ·exact absurd h (by decide)
 ·exact absurd h (by decide)
theorem ck_rd{x:Cm}(h:ckE x=0):ckE (rdCm x)=0:=by
 obtain⟨h1,h2,h3,h4,h5,h6,h7⟩:=ck_parts h
 have e2:(x.es.map rdEy).all (etB x.tm)=true:=by
  rw[List.all_eq_true]
  intro e he
  obtain⟨g,hg,rfl⟩:=List.mem_map.1 he
  have h8:=List.all_eq_true.1 h2 g hg
  rw[etB,Bool.and_eq_true] at h8
  rw[etB,eyB_rd h8.1,Bool.true_and]
  have:(rdEy g).tm=g.tm:=by unfold rdEy;split<;>rfl
  rw[this]
  exact h8.2
 unfold ckE
 rw[if_pos (show hdB (rdCm x)=true from h1)]
 rw[if_pos (show(rdCm x).es.all (etB (rdCm x).tm)=true from e2)]
 rw[show dlF (rdCm x).fs none (rdCm x).ds=0 by rw[<- h3];exact dlF_rd _ _ _,show hoE (rdCm x).pl=0 from h4,show stE (rdCm x).rl=0 from h5]
 simp only[ne_eq,not_true_eq_false,if_false]
 unfold rsE
 rw[show poE (rdCm x).ps=0 from h6]
 simp only[ne_eq,not_true_eq_false,if_false]
 exact h7
theorem ck_ok{x:Cm}(hI:CmI x)(h:ckE x=0):CmK x:=by
 obtain⟨h1,h2,h3,h4,h5,h6,h7⟩:=ck_parts h
 unfold hdB at h1
 simp only[Bool.and_eq_true,decide_eq_true_eq] at h1
 refine⟨⟨⟨by omega,by omega⟩,⟨by omega,by omega⟩,⟨by omega,by omega⟩,⟨by omega,by omega⟩⟩,λe he=>?_,λd hd=>?_,λg hg=>?_,λs hs=>wordB_TK (nmF_ok h5 s hs),λp hp=>?_,λp hp=>?_⟩
 ·have h8:=List.all_eq_true.1 h2 e he
  rw[etB,Bool.and_eq_true] at h8
  exact eyB_ok (hI.1.2 e he) h8.1
 ·obtain⟨h8,h9⟩:=dlF_ok h3 d hd
  rw[dhB,Bool.and_eq_true] at h8
  exact deE_ok (hI.2.1.2 d hd) h8.1 h9 h1.2.1.2
 ·have h8:=nmF_ok h4 g hg
  simp only[hoB,Bool.and_eq_true] at h8
  exact⟨wordB_TK h8.1,wordB_TK h8.2.1,h8.2.2.1,h8.2.2.2⟩
 ·have h8:=nmF_ok h6 p hp
  simp only[poB,Bool.and_eq_true,decide_eq_true_eq] at h8
  exact⟨wordB_TK h8.1,by omega,by omega⟩
 ·have h8:=nmF_ok h7 p hp
  simp only[hzB,insB,Bool.and_eq_true,decide_eq_true_eq] at h8
  exact⟨wordB_TK h8.1,by omega,by omega⟩
theorem bulk_ngE(b:Bool)(l:List (List D)):bulkD (ng b l)=bulkLL l+1:=by
 cases l<;>cases b<;>rfl
theorem flat_bulk{α:Type}{f:α->List UInt8}{g:α->List D}:∀{l:List α},(∀a∈l,(f a).length<=71*bulkL (g a))->(l.flatMap f).length<=71*bulkLL (l.map g)
 |[],_=>by simp
 |a::l,h=>by
  have h1:=h a (by simp)
  have h2:=flat_bulk (l:=l) λb hb=>h b (by simp[hb])
  rw[List.flatMap_cons,List.length_append,List.map_cons]
  simp only[bulkLL]
  omega
theorem encL_bulk{α:Type}{f:α->List UInt8}{g:α->List D}(b:Bool){l:List α}(hl:l.length<=1048576)(h:∀a∈l,(f a).length<=71*bulkL (g a)):(encL f l).length<=71*bulkD (ng b (l.map g)):=by
 have h1:=flat_bulk h
 have h2:=encI_len (n:=l.length) ⟨by omega,by omega⟩
 rw[encL,List.length_append,bulk_ngE]
 omega
theorem encT_bulk{s:List UInt8}(h:TK s):(encT s).length<=71*bulkD (.str s):=by
 have h2:=encI_len (n:=s.length) ⟨by omega,by unfold TK at h;omega⟩
 rw[encT,List.length_append,bulkD]
 omega
theorem encP_bulk{a b:Int}(h:valid a b=true):(encP a b).length<=20:=by
 have h1:=encI_len (valid_I64 h).1
 have h2:=encI_len (valid_I64 h).2
 rw[encP,List.length_append]
 omega
theorem encI_bulk{n:Int}(h:I64 n):(encI n).length<=71*bulkL [eI n]:=by
 have:=encI_len h
 simp only[bulkL,bulkD]
 omega
theorem encCo_bulk{c:Co}(h:CoK c):(encCo c).length<=71*bulkL [.str c.nm,eI c.k,.bool c.nl]:=by
 have h1:=encT_bulk h.1
 have h2:=encI_len h.2
 have h3:=encI_len (b2i_I c.nl)
 rw[encCo,List.length_append,List.length_append]
 simp only[bulkL,bulkD] at *
 omega
theorem encFk_bulk{c:Fk}(h:FkK c):(encFk c).length<=71*bulkL c.ds:=by
 have h1:=encL_bulk (f:=encI) (g:=λn=>[eI n]) c.nl h.1.1 λn hn=>encI_bulk (h.1.2 n hn)
 have h2:=encT_bulk h.2
 rw[encFk,List.length_append]
 unfold Fk.ds eIs
 simp only[bulkL]
 omega
theorem encX_bulk:∀e:Ex,XK e->(encX e).length<=71*e.bk:=by
 refine Ex.ind λop n v nm nl args ih h=>?_
 rw[XK] at h
 obtain⟨⟨h1,h2,h3,h4,h5⟩,h6⟩:=h
 have k1:=encI_len h1
 have k2:=encI_len h2
 have k3:=encV_len h3
 have k4:=encT_bulk h4
 have k5:=encL_bulk (f:=encX) (g:=Ex.ds) nl h5 λa ha=>ih a ha (XKs_mem h6 a ha)
 rw[encX_mk,Ex.bk,Ex.ds_mk]
 simp only[List.length_append]
 unfold xL
 simp only[bulkL]
 simp only[show ∀n:Int,bulkD (eI n)=1 from λ_=>rfl]
 generalize bulkD (ng nl (args.map Ex.ds))=z at *
 generalize bulkD (.str nm)=y at *
 omega
theorem encTa_bulk{t:Ta}(h:TaK t):(encTa t).length<=71*bulkL t.ds:=by
 obtain⟨h1,⟨h2,h2'⟩,⟨h3,h3'⟩,⟨h4,h4'⟩,h5,h5'⟩:=h
 have k1:=encT_bulk h1
 have k2:=encL_bulk (f:=encCo) (g:=Co.ds) t.n1 h2 λn hn=>encCo_bulk (h2' n hn)
 have k3:=encL_bulk (f:=encI) (g:=λn=>[eI n]) t.n2 h3 λn hn=>encI_bulk (h3' n hn)
 have k4:=encL_bulk (f:=encFk) (g:=Fk.ds) t.n3 h4 λn hn=>encFk_bulk (h4' n hn)
 have k5:=encL_bulk (f:=encX) (g:=Ex.ds) t.n4 h5 λn hn=>encX_bulk n (h5' n hn)
 unfold encTa Ta.ds eCs eIs eFk xL
 simp only[List.length_append,bulkL]
 omega
theorem encEy_bulk{e:Ey}(h:EyK e):(encEy e).length<=71*bulkL e.ds:=by
 obtain⟨h1,h2,h3,h4⟩:=h
 have k1:=encI_len h1
 have k2:=encT_bulk h2
 have k3:=encI_len h3
 have hp:∀d:D,1<=bulkD d:=λd=>by cases d<;>simp[bulkD]
 unfold encEy Ey.ds
 split at h4
 ·rename_i hk
  rw[if_pos hk]
  have k4:=encTa_bulk h4
  unfold Ta.ds at k4
  simp only[List.length_append,bulkL] at k4 ⊢
  simp only[show ∀n:Int,bulkD (eI n)=1 from λ_=>rfl]
  omega
 ·rename_i hk
  rw[if_neg hk]
  obtain⟨g1,g2,g3,g4⟩:=h4
  have k4:=encT_bulk g1
  have k5:=encT_bulk g2
  have k6:=encCo_bulk g3
  have k7:=encV_len g4
  have q1:=hp (.str e.ch.df.s)
  simp only[List.length_append,bulkL] at k6 ⊢
  simp only[show ∀n:Int,bulkD (eI n)=1 from λ_=>rfl] at k6 ⊢
  omega
theorem encR_bulk{l:List Vl}(b:Bool)(hl:l.length<=12)(h:∀v∈l,vValid v=true):(encR l).length<=71*bulkD (ng b (eVs l)):=by
 have k:=encL_bulk (f:=encV) (g:=λv:Vl=>[eI v.k,eI v.n,D.str v.s]) b (l:=l) (by omega) λv hv=>by
  have:=encV_len (h v hv)
  simp only[bulkL,bulkD]
  omega
 exact k
theorem encFa_bulk{f:Fa}(h:FaK f):(encFa f).length<=71*bulkL f.ds:=by
 have k1:=encR_bulk f.nl h.1.1 h.1.2
 have k2:=encP_bulk h.2
 rw[encFa,List.length_append]
 unfold Fa.ds
 simp only[bulkL]
 simp only[show ∀n:Int,bulkD (eI n)=1 from λ_=>rfl]
 omega
theorem encDe_bulk{d:De}(h:DeK d):(encDe d).length<=71*bulkL d.ds:=by
 obtain⟨h1,⟨h2,h2'⟩,h3,h3'⟩:=h
 have k1:=encT_bulk h1
 have k3:=encL_bulk (f:=encI) (g:=λn=>[eI n]) d.n1 h2 λn hn=>encI_bulk (h2' n hn)
 have k4:=encL_bulk (f:=encFa) (g:=Fa.ds) d.n2 h3 λn hn=>encFa_bulk (h3' n hn)
 unfold encDe De.ds eIs eFa
 simp only[List.length_append,bulkL]
 omega
theorem encHo_bulk{d:Ho}(h:HoK d):(encHo d).length<=71*bulkL d.ds:=by
 have k1:=encT_bulk h.1
 have k2:=encT_bulk h.2.1
 have k3:=encP_bulk h.2.2.1
 have k4:=encP_bulk h.2.2.2
 unfold encHo Ho.ds
 simp only[List.length_append,bulkL]
 simp only[show ∀n:Int,bulkD (eI n)=1 from λ_=>rfl]
 omega
theorem encPk_bulk{d:Pk}(h:PkK d):(encPk d).length<=71*bulkL d.ds:=by
 have k1:=encT_bulk h.1
 have k2:=encI_len h.2
 unfold encPk Pk.ds
 simp only[List.length_append,bulkL]
 simp only[show ∀n:Int,bulkD (eI n)=1 from λ_=>rfl]
 omega
theorem encCm_bulk{x:Cm}(hI:CmI x)(h:CmK x):(encCm x).length<=71*bulkL x.dl:=by
 obtain⟨⟨a1,a2,a3,a4⟩,h1,h2,h3,h4,h5,h6⟩:=h
 obtain⟨⟨i1,_⟩,⟨i2,_⟩,⟨i3,_⟩,⟨i4,_⟩,⟨i5,_⟩,⟨i6,_⟩⟩:=hI
 have b1:=encI_len a1
 have b2:=encI_len a2
 have b3:=encI_len a3
 have b4:=encI_len a4
 have k1:=encL_bulk (f:=encEy) (g:=Ey.ds) x.n1 i1 λn hn=>encEy_bulk (h1 n hn).1
 have k2:=encL_bulk (f:=encDe) (g:=De.ds) x.n2 i2 λn hn=>encDe_bulk (h2 n hn)
 have k3:=encL_bulk (f:=encHo) (g:=Ho.ds) x.n3 i3 λn hn=>encHo_bulk (h3 n hn)
 have k4:=encL_bulk (f:=encT) (g:=λs=>[D.str s]) x.n4 i4 λn hn=>by
  have:=encT_bulk (h4 n hn)
  simp only[bulkL]
  omega
 have k5:=encL_bulk (f:=encPk) (g:=Pk.ds) x.n5 i5 λn hn=>encPk_bulk (h5 n hn)
 have k6:=encL_bulk (f:=encPk) (g:=Pk.ds) x.n6 i6 λn hn=>encPk_bulk (h6 n hn)
 unfold encCm Cm.dl eEy eDe eHo eSt ePk
 simp only[List.length_append,bulkL]
 simp only[show ∀n:Int,bulkD (eI n)=1 from λ_=>rfl]
 omega
end Go.Proofs
end
section
namespace Go.Bi
open Go
section
variable {P:Program}{n nb:Nat}{M:Mem}{G:Gh}{os:List AO}{w:World}{ρ:Rho}{a:Act}
def retOI2(Q:AV->List AO->Prop)(rs:List RV)(ρ:Rho)(os:List AO):Prop:=resI ρ os rs λl=>match l with
 |[x,y]=>x.one=true/\y.one=true/\Q (.tup [x,y]) os
 |_=>False
def retO2(Q:AV->List AO->Prop)(rs:List RV)(L:Sl)(os:List AO):Prop:=xRes L os rs λl=>match l with
 |[x,y]=>Chk (x.one=true) (Chk (y.one=true) (Q (.tup [x,y]) os))
 |_=>False
theorem resI_mono2{ρ:Rho}{os:List AO}{K K':List AV->Prop}(hk:∀l,K l->K' l):∀{rs:List RV},resI ρ os rs K->resI ρ os rs K'
 |[],h=>hk _ h
 |.t s::rs,h=>resI_mono2 (rs:=rs) (λl hl=>hk _ hl) h
 |.cell s m g::rs,h=>by
  simp only[resI] at h ⊢
  obtain⟨r,h1,h2⟩:=loadI_iff h
  exact h2 _ (resI_mono2 (rs:=rs) (λl hl=>hk _ hl) h1)
theorem retO2_ok{Q:AV->List AO->Prop}{rs:List RV}{L:Sl}{os:List AO}(h:retO2 Q rs L os):retOI2 Q rs (ofL L) os:=by
 have h1:=xRes_ok h
 refine resI_mono2 (λl hl=>?_) h1
 match l,hl with
 |[x,y],hl=>exact⟨hl.1,hl.2.1,hl.2.2⟩
theorem own_ok2{c:Ctx}(hR:Rel n nb c M G os w ρ a){fn:Func}{rs:List RV}(hrs:fn.results.toList.mapM (cRV P)=some rs){Q:AV->List AO->Prop}(h:retOI2 Q rs ρ os) :
  ∃v,(results fn a.tmps).run P w=.ok v w/\∃M' G' r os',Env M' G' os' w/\Since c.M c.G c.os c.w M' G' os' w/\VA M' G' os' r v/\Q r os':=by
 obtain⟨l,vs,h1,h2,h3,h4⟩:=resI_run hR.env hR.tmps _ rs hrs _ h
 match l,h1,h3,h4 with
 |[x,y],h1,h3,h4=>
  simp only[List.length_cons,List.length_nil] at h3
  refine⟨_,run_results h2,M,G,.tup [x,y],os,hR.env,hR.since,?_,h1.2.2⟩
  rw[dif_neg (by omega)]
  refine⟨vs.toArray,rfl,by simpa using h3,λj c u hc hu=>?_⟩
  have hu:vs[j]?=some u:=by simpa using hu
  match j,hc with
  |0,hc=>cases hc;exact one_vg (h4 0 _ u rfl hu) h1.1
  |1,hc=>cases hc;exact one_vg (h4 1 _ u rfl hu) h1.2.1
  |j+2,hc=>simp at hc
theorem fn_own2(hm:P.follows .mixedOrders=true){f:FuncId}{fn:Func}{code:Code}{ic:IC}{rs:List RV}(hf:P.funcs[f]?=some fn)(hname:fn.name≠ "runtime.NumGoroutine")(hb:fn.body=some code)(hc:cC P fn.ntmps code=some ic)
  (hrs:fn.results.toList.mapM (cRV P)=some rs) {args:List AV} {bs:List AO} (hargs:args.length<=fn.ntmps) {Q:AV->List AO->Prop}
  (h:wpI P fn.ntmps bs.length ic {norm:=retOI2 Q rs,exit:=λ_ _ _=>False,ret:=retOI2 Q rs} (argsRho args) bs):CallSpec P f args bs Q:=by
 refine⟨⟨fn,hf,by rw[hb];rfl,hname⟩,λM G w vs he hl hv=>?_⟩
 refine calls_of_wp hf hb (wp_mono (wpI_tri hm code ic hc _ _ _ h ⟨M,G,bs,w⟩ M G w {tmps:=vs++Array.replicate (fn.ntmps-vs.size) undef,defers:=[]} ?_) λe a' w' hp=>?_)
 ·exact {
   env:=he,since:=Since.refl ..,size:=by simp;omega,defers:=rfl,base:=rfl
   tmps:=λt=>by
    unfold argsRho
    by_cases ht:t<args.length
    ·have h1:(vs++Array.replicate (fn.ntmps-vs.size) undef).getD t undef=vs[t]:=by
      simp[Array.getElem?_append_left (show t<vs.size by omega),show t<vs.size by omega]
     have h2:args.getD t .junk=args[t]:=by simp[ht]
     show VA M G bs (args.getD t .junk) ((vs++Array.replicate (fn.ntmps-vs.size) undef).getD t undef)
     rw[h1,h2]
     have:=hv t args[t] vs[t] (List.getElem?_eq_getElem ht) (Array.getElem?_eq_getElem (by omega))
     generalize args[t]=c at this
     cases c with
     |tup cs=>exact this.elim
     |junk=>trivial
     |_=>exact this
    ·have:args.getD t .junk=.junk:=by simp[List.getD_eq_getElem?_getD,List.getElem?_eq_none (Nat.le_of_not_lt ht)]
     rw[this]
     trivial}
 ·have fin:Fits fn.ntmps bs.length ⟨M,G,bs,w⟩ (retOI2 Q rs) a' w'->a'.defers=[]/\∃v,(results fn a'.tmps).run P w'=.ok v w'/\∃v',Ending.returned v=.returned v'/\∃M' G' r os',Env M' G' os' w'/\Since M G bs w M' G' os' w'/\VA M' G' os' r v'/\Q r os':=by
   rintro⟨M',G',os',ρ',hR,hk⟩
   obtain⟨v,h1,h2⟩:=own_ok2 hR hrs hk
   exact⟨hR.defers,v,h1,v,rfl,h2⟩
  cases e with
  |normal=>exact fin hp
  |ret=>exact fin hp
  |exit id=>obtain⟨_,_,_,_,_,hk⟩:=hp;exact hk.elim
  |_=>exact hp.elim
end
theorem IsFn.goO2{P:Program}(hm:P.follows .mixedOrders=true){f n:Nat}{ic:IC}{rs:List RV}(h:IsFn P f n ic rs){args:List AV}{bs:List AO}(hargs:Nat.ble args.length n=true){Q:AV->List AO->Prop}
  (hw:Go (xI P n bs.length ic (retO2 Q rs) (λ_ _ _=>False) (retO2 Q rs) (argsL 0 args) bs)):CallSpec P f args bs Q:=by
 obtain⟨fn,h1,h2,h3,h4,h5⟩:=h
 obtain⟨code,hb,hc⟩:=Option.bind_eq_some_iff.1 h4
 subst h2
 refine fn_own2 hm h1 (by simpa using h3) hb hc h5 (Nat.le_of_ble_eq_true hargs) ?_
 rw[ofL_args]
 exact xI_ok (K:=⟨retO2 Q rs,λ_ _ _=>False,retO2 Q rs⟩) ⟨λL os h=>retO2_ok h,λ_ _ _ h=>h,λL os h=>retO2_ok h⟩ hw
end Go.Bi
end
section
namespace Go.Proofs
open Go.Bi
abbrev WS1(o:AO)(s:List UInt8):List AO:=[o,.cells [.arr 2 (byteL s).length],.arr (byteL s) 1 0 s.isEmpty]
theorem Wr.at1{f:FuncId}{xs:List AV}{s t:List UInt8}(h:Wr f xs s t)(has:xs.all AV.isDB=true)(o:AO):CallSpec Tryz.prog f (.ptr 1 0::xs) (WS1 o s) (λr os=>r=.tup []/\os=WS1 o (s++t)):=by
 have h2:=CallSpec.frame (K:=λr os=>r=.tup []/\os=WS1 o (s++t)) h [1,2] (WS1 o s) rfl (by decide) (λi o ho=>by
   match i with
   |0=>simp at ho;subst ho;rfl
   |1=>simp at ho;subst ho;rfl
   |i+2=>simp at ho) (λa ha=>by
   rcases List.mem_cons.1 ha with rfl|ha
   ·exact Nat.zero_lt_succ 1
   ·exact bnd_data (List.all_eq_true.1 has a ha)) (λo ho=>by
   rcases List.mem_cons.1 ho with rfl|ho
   ·intro c hc;cases List.mem_singleton.1 hc;exact Nat.lt_succ_self 1
   ·cases List.mem_singleton.1 ho;trivial) (λr bs' hq=>by
   obtain⟨rfl,rfl⟩:=hq
   exact⟨rfl,rfl⟩)
 have e:(AV.ptr 0 0::xs).map (mG (rn [1,2] (WS1 o s).length))=.ptr 1 0::xs:=by
  rw[List.map_cons]
  congr 1
  conv=>rhs;rw[<- List.map_id xs]
  exact List.map_congr_left λa ha=>mG_data (List.all_eq_true.1 has a ha)
 rw[e] at h2
 exact h2
def encRes(x:Cm):AV:=if ckE x=0 then (if (encCm x).length<=1048576 then .tup [.d (.sl (byteL (encCm x))),.d (eI 0)] else .tup [.d .nil,.d (eI 5)]) else .tup [.d .nil,.d (eI (ckE x))]
theorem C.record_Encode(x:Cm)(hI:CmI x)(hb:bulkL x.dl<=1048576):Pure Tryz.prog N.record_Encode [av x.dl] (encRes x):=by
 have hc:=C.record_Check x hI
 by_cases h0:ckE x=0
 ·have hK:=ck_ok hI h0
  have hlen:=encCm_bulk hI hK
  have hlen:(encCm x).length<=74448896:=by omega
  rw[h0] at hc
  rw[encRes,if_pos h0]
  obtain⟨⟨a1,a2,a3,a4⟩,k1,k2,k3,k4,k5,k6⟩:=hK
  obtain⟨⟨i1,_⟩,⟨i2,_⟩,⟨i3,_⟩,⟨i4,_⟩,⟨i5,_⟩,⟨i6,_⟩⟩:=hI
  clear h0 hb
  obtain⟨tx,tm,wl,fs,n1,es,n2,ds,n3,pl,n4,rl,n5,ps,n6,hs⟩:=x
  unfold encCm at hlen ⊢
  unfold Cm.dl at hc ⊢
  dsimp only at hc ⊢
  simp only[List.length_append] at hlen
  dsimp only at a1 a2 a3 a4 i1 i2 i3 i4 i5 i6 k1 k2 k3 k4 k5 k6
  obtain⟨s4,hs4⟩:∃s,s=encI tx++encI tm++encI wl++encI fs:=⟨_,rfl⟩
  have hl4:s4.length=(encI tx).length+(encI tm).length+(encI wl).length+(encI fs).length:=by rw[hs4];simp only[List.length_append]
  have p1:=Wr.at1 (C.put_Entry es encEy N.precord_writer_entry (ng n1 (eEy es)) sld_ng i1 s4 (by omega) (λe he s hs=>C.writer_entry s e (k1 e he).1 hs)) rfl
  have p2:=Wr.at1 (C.put_Delta ds encDe N.precord_writer_delta (ng n2 (eDe ds)) sld_ng i2 (s4++encL encEy es) (by simp only[List.length_append];omega) (λe he s hs=>C.writer_delta s e (k2 e he) hs)) rfl
  have p3:=Wr.at1 (C.put_Hold pl encHo N.precord_writer_hold (ng n3 (eHo pl)) sld_ng i3 (s4++encL encEy es++encL encDe ds) (by simp only[List.length_append];omega) (λe he s hs=>C.writer_hold s e (k3 e he) hs)) rfl
  have p4:=Wr.at1 (C.put_string rl encT N.precord_writer_name (ng n4 (eSt rl)) sld_ng i4 (s4++encL encEy es++encL encDe ds++encL encHo pl) (by simp only[List.length_append];omega) (λe he s hs=>C.writer_name s e (k4 e he) hs)) rfl
  have p5:=Wr.at1 (C.put_Policy ps encPk N.precord_writer_policy (ng n5 (ePk ps)) sld_ng i5 (s4++encL encEy es++encL encDe ds++encL encHo pl++encL encT rl) (by simp only[List.length_append];omega) (λe he s hs=>C.writer_policy s e (k5 e he) hs)) rfl
  have p6:=Wr.at1 (C.put_Horizon hs encPk N.precord_writer_horizon (ng n6 (ePk hs)) sld_ng i6 (s4++encL encEy es++encL encDe ds++encL encHo pl++encL encT rl++encL encPk ps) (by simp only[List.length_append];omega) (λe he s hs=>C.writer_horizon s e (k6 e he) hs)) rfl
  rw[<- hs4]
  obtain⟨BF,hF⟩:∃z,z=s4++encL encEy es++encL encDe ds++encL encHo pl++encL encT rl++encL encPk ps++encL encPk hs:=⟨_,rfl⟩
  rw[<- hF] at p6 ⊢
  have hFl:BF.length<=74448896:=by rw[hF];simp only[List.length_append];omega
  have hne:BF≠[]:=by
   rw[hF,hs4]
   intro h
   have:=encI_pos tx
   simp[this] at h
  clear hF hlen
  generalize s4++encL encEy es++encL encDe ds++encL encHo pl++encL encT rl++encL encPk ps=t5 at *
  generalize s4++encL encEy es++encL encDe ds++encL encHo pl++encL encT rl=t4 at *
  generalize s4++encL encEy es++encL encDe ds++encL encHo pl=t3 at *
  generalize s4++encL encEy es++encL encDe ds=t2 at *
  generalize s4++encL encEy es=t1 at *
  generalize ng n1 (eEy es)=y1 at *
  generalize ng n2 (eDe ds)=y2 at *
  generalize ng n3 (eHo pl)=y3 at *
  generalize ng n4 (eSt rl)=y4 at *
  generalize ng n5 (ePk ps)=y5 at *
  generalize ng n6 (ePk hs)=y6 at *
  have hbl:=byteL_l BF
  have hFe:BF.isEmpty=false:=by cases BF with|nil=>exact absurd rfl hne|cons=>rfl
  refine CallSpec.deepP (Q:=λr os=>(BF.length<=1048576->r=.tup [.arr 2 (byteL BF).length,.d (eI 0)]/\os[2]?=some (.arr (byteL BF) 1 0 false))/\(¬BF.length<=1048576->r=.tup [.d .nil,.d (eI 5)])) ?_ (λr os hq=>?_)
  ·have key:∀(i:Nat) (n:Int),[tx,tm,wl,fs][i]?=some n->([[eI tx],[eI tm],[eI wl],[eI fs]]:List (List D))[i]?=some [eI n]/\I64 n:=by
    intro i n h
    match i,h with
    |0,h=>cases h;exact⟨rfl,a1⟩
    |1,h=>cases h;exact⟨rfl,a2⟩
    |2,h=>cases h;exact⟨rfl,a3⟩
    |3,h=>cases h;exact⟨rfl,a4⟩
    |i+4,h=>simp at h
   obtain⟨L4,hL4⟩:∃L,L=[tx,tm,wl,fs]:=⟨_,rfl⟩
   have hll:L4.length=4:=by rw[hL4];rfl
   have hfl:s4=L4.flatMap encI:=by rw[hs4,hL4];simp
   have hl40:(L4.flatMap encI).length<=40:=by
    have q1:=encI_len a1
    have q2:=encI_len a2
    have q3:=encI_len a3
    have q4:=encI_len a4
    rw[<- hfl,hl4];omega
   rw[<- hL4] at key
   obtain⟨LL,hLL⟩:∃L,L=([[eI tx],[eI tm],[eI wl],[eI fs]]:List (List D)):=⟨_,rfl⟩
   have hle:LL.length=4:=by rw[hLL];rfl
   have hlm:∀e∈LL,e.length=1:=by rw[hLL];simp
   clear hs4 hL4 hl4
   refine F.record_Encode.goO2 mixed rfl ?_
   repeat' first|((with_reducible apply k_lk2))|refine st ?_|((with_reducible apply go_i);conv=>whnf)|refine⟨λ_=>?_,λ_=>?_⟩|fail
   rw[<- hLL] at key ⊢
   clear hLL
   refine x_nilcc 1 0 1 rfl rfl rfl ?_
   refine x_loop2 mixed Lt.record_Encode_l0 Lk.record_Encode_l0 (λ(i:Nat) (w:List UInt8)=>[.d (eI i)]) (λi w=>WS1 (.cells [.d (eI tx),.d (eI tm),.d (eI wl),.d (eI fs),.d y1,.d y2,.d y3,.d y4,.d y5,.d y6]) w) (λi w=>i<=4/\w=(L4.take i).flatMap encI) (λi w=>4-i) 0 [] rfl rfl rfl rfl (λ_ _ _=>⟨rfl,rfl⟩) rfl ⟨by omega,by simp⟩ ?_
   repeat' first|refine st ?_|((with_reducible apply go_i);conv=>whnf)|refine⟨λ_=>?_,λ_=>?_⟩|fail
   intro i w ⟨i1,i2⟩
   cases hc:L4[i]? with
   |some n=>
    obtain⟨hg,hn⟩:=key i n hc
    have hlt:=(List.getElem?_eq_some_iff.1 hc).1
    have hw:w.length<=40:=by
     have:=flat_le encI L4 i
     rw[i2];omega
    have hB:=Wr.at1 (C.buffer_int w (by omega) n hn) rfl
    have htk:=flat_take (f:=encI) hc
    repeat' first|refine st ?_|((with_reducible apply go_i);conv=>whnf)|((with_reducible first|apply k_nc|apply k_cs);(·exact hB _);(try rintro _ _ ⟨rfl,rfl⟩))|((with_reducible apply k_pr);(·exact hB _))|refine⟨λ_=>?_,λ_=>?_⟩|fail
    all_goals exact⟨i+1,w++encI n,rfl,rfl,rfl,by omega,by omega,by rw[htk,i2]⟩
   |none=>
    have hge:=List.getElem?_eq_none_iff.1 hc
    rw[List.take_of_length_le hge,<- hfl] at i2
    subst i2
    by_cases hbig:BF.length<=1048576
    ·repeat' first|refine st ?_|((with_reducible apply go_i);conv=>whnf)|((with_reducible first|apply k_nc|apply k_cs);(·first|exact p1 _|exact p2 _|exact p3 _|exact p4 _|exact p5 _|exact p6 _);(try rintro _ _ ⟨rfl,rfl⟩))|((with_reducible apply k_pr);(·first|exact p1 _|exact p2 _|exact p3 _|exact p4 _|exact p5 _|exact p6 _))|refine⟨λ_=>?_,λ_=>?_⟩|fail
     all_goals first|(exfalso;omega)|exact⟨rfl,by rw[<- hFe];rfl⟩
    ·repeat' first|refine st ?_|((with_reducible apply go_i);conv=>whnf)|((with_reducible first|apply k_nc|apply k_cs);(·first|exact p1 _|exact p2 _|exact p3 _|exact p4 _|exact p5 _|exact p6 _);(try rintro _ _ ⟨rfl,rfl⟩))|((with_reducible apply k_pr);(·first|exact p1 _|exact p2 _|exact p3 _|exact p4 _|exact p5 _|exact p6 _))|refine⟨λ_=>?_,λ_=>?_⟩|fail
     all_goals first|(exfalso;omega)|rfl
  ·by_cases hbig:BF.length<=1048576
   ·rw[if_pos hbig]
    obtain⟨rfl,h2⟩:=hq.1 hbig
    refine .inr ⟨_,_,rfl,rfl,rfl,λj c y hc hy=>?_⟩
    match j,hc,hy with
    |0,hc,hy=>cases hc;cases hy;exact .inl ⟨_,.inl (.inr ⟨2,_,_,_,_,rfl,h2,rfl⟩),rfl⟩
    |1,hc,hy=>cases hc;cases hy;exact .inl ⟨_,.inl (.inl rfl),rfl⟩
    |j+2,hc,hy=>simp at hc
   ·rw[if_neg hbig]
    obtain rfl:=hq.2 hbig
    refine .inr ⟨_,_,rfl,rfl,rfl,λj c y hc hy=>?_⟩
    match j,hc,hy with
    |0,hc,hy=>cases hc;cases hy;exact .inl ⟨_,.inl (.inl rfl),rfl⟩
    |1,hc,hy=>cases hc;cases hy;exact .inl ⟨_,.inl (.inl rfl),rfl⟩
    |j+2,hc,hy=>simp at hc
 ·rw[encRes,if_neg h0]
  generalize ckE x=r at *
  unfold Cm.dl at hc ⊢
  clear hb hI
  obtain⟨tx,tm,wl,fs,n1,es,n2,ds,n3,pl,n4,rl,n5,ps,n6,hs⟩:=x
  simp only at hc ⊢
  generalize ng n1 (eEy es)=y1 at *
  generalize ng n2 (eDe ds)=y2 at *
  generalize ng n3 (eHo pl)=y3 at *
  generalize ng n4 (eSt rl)=y4 at *
  generalize ng n5 (ePk ps)=y5 at *
  generalize ng n6 (ePk hs)=y6 at *
  refine F.record_Encode.go mixed rfl ?_
  repeat' first|refine st ?_|((with_reducible apply go_i);conv=>whnf)|refine⟨λ_=>?_,λ_=>?_⟩|fail
  all_goals rfl
end Go.Proofs
end
section
namespace Go.Proofs
open Go.Bi
theorem CmI_rd{x:Cm}(h:CmI x):CmI (rdCm x):=by
 obtain⟨⟨i1,j1⟩,⟨i2,j2⟩,i3,i4,i5,i6⟩:=h
 refine⟨⟨by simpa[rdCm] using i1,λe he=>?_⟩,⟨by simpa[rdCm] using i2,λd hd=>?_⟩,i3,i4,i5,i6⟩
 ·obtain⟨g,hg,rfl⟩:=List.mem_map.1 he
  exact EyI_rd (j1 g hg)
 ·obtain⟨g,hg,rfl⟩:=List.mem_map.1 hd
  obtain⟨k1,k2,k3,k4⟩:=j2 g hg
  refine⟨k1,k2,by simpa[rdDe] using k3,λf hf=>?_⟩
  obtain⟨u,hu,rfl⟩:=List.mem_map.1 hf
  exact k4 u hu
theorem C.record_Decode(x:Cm)(hI:CmI x)(h0:ckE x=0)(hl:(encCm x).length<=1048576):Pure Tryz.prog N.record_Decode [.d (.sl (byteL (encCm x)))] (.tup [av (rdCm x).dl,.d (eI 0)]):=by
 have hK:=ck_ok hI h0
 have hc:=C.record_Check (rdCm x) (CmI_rd hI)
 rw[ck_rd h0] at hc
 obtain⟨⟨a1,a2,a3,a4⟩,k1,k2,k3,k4,k5,k6⟩:=hK
 obtain⟨⟨i1,_⟩,⟨i2,_⟩,⟨i3,_⟩,⟨i4,_⟩,⟨i5,_⟩,⟨i6,_⟩⟩:=hI
 clear h0
 obtain⟨tx,tm,wl,fs,n1,es,n2,ds,n3,pl,n4,rl,n5,ps,n6,hs⟩:=x
 obtain⟨B,hBe⟩:∃B,B=encCm ⟨tx,tm,wl,fs,n1,es,n2,ds,n3,pl,n4,rl,n5,ps,n6,hs⟩:=⟨_,rfl⟩
 rw[<- hBe] at hl ⊢
 have hB:B.length<=1073741824:=by omega
 have hd:B.drop 0=encCm ⟨tx,tm,wl,fs,n1,es,n2,ds,n3,pl,n4,rl,n5,ps,n6,hs⟩++[]:=by rw[List.drop_zero,List.append_nil,hBe]
 have hend:=congrArg List.length hBe
 unfold encCm at hd hend
 dsimp only at a1 a2 a3 a4 i1 i2 i3 i4 i5 i6 k1 k2 k3 k4 k5 k6 hd hend
 simp only[List.append_assoc] at hd
 simp only[List.length_append] at hend
 have h1:=C.source_int B hB 0 tx a1 _ hd
 obtain⟨p1,hp1⟩:∃z,z=0+(encI tx).length:=⟨_,rfl⟩
 have d1:=drop_more hd
 rw[<- hp1] at d1 h1
 have h2:=C.source_int B hB p1 tm a2 _ d1
 obtain⟨p2,hp2⟩:∃z,z=p1+(encI tm).length:=⟨_,rfl⟩
 have d2:=drop_more d1
 rw[<- hp2] at d2 h2
 have h3:=C.source_int B hB p2 wl a3 _ d2
 obtain⟨p3,hp3⟩:∃z,z=p2+(encI wl).length:=⟨_,rfl⟩
 have d3:=drop_more d2
 rw[<- hp3] at d3 h3
 have h4:=C.source_int B hB p3 fs a4 _ d3
 obtain⟨p4,hp4⟩:∃z,z=p3+(encI fs).length:=⟨_,rfl⟩
 have d4:=drop_more d3
 rw[<- hp4] at d4 h4
 have h5:=(λpost hd=>C.get_Entry es encEy N.precord_reader_entry i1 B hB p4 post hd (λx hx a post hd=>C.reader_entry B hB a x (k1 x hx) post hd)) _ d4
 obtain⟨p5,hp5⟩:∃z,z=p4+(encL encEy es).length:=⟨_,rfl⟩
 have d5:=drop_more d4
 rw[<- hp5] at d5 h5
 have h6:=(λpost hd=>C.get_Delta ds encDe N.precord_reader_delta i2 B hB p5 post hd (λx hx a post hd=>C.reader_delta B hB a x (k2 x hx) post hd)) _ d5
 obtain⟨p6,hp6⟩:∃z,z=p5+(encL encDe ds).length:=⟨_,rfl⟩
 have d6:=drop_more d5
 rw[<- hp6] at d6 h6
 have h7:=(λpost hd=>C.get_Hold pl encHo N.precord_reader_hold i3 B hB p6 post hd (λx hx a post hd=>C.reader_hold B hB a x (k3 x hx) post hd)) _ d6
 obtain⟨p7,hp7⟩:∃z,z=p6+(encL encHo pl).length:=⟨_,rfl⟩
 have d7:=drop_more d6
 rw[<- hp7] at d7 h7
 have h8:=(λpost hd=>C.get_string rl encT N.precord_reader_name i4 B hB p7 post hd (λx hx a post hd=>C.reader_name B hB a x (k4 x hx) post hd)) _ d7
 obtain⟨p8,hp8⟩:∃z,z=p7+(encL encT rl).length:=⟨_,rfl⟩
 have d8:=drop_more d7
 rw[<- hp8] at d8 h8
 have h9:=(λpost hd=>C.get_Policy ps encPk N.precord_reader_policy i5 B hB p8 post hd (λx hx a post hd=>C.reader_policy B hB a x (k5 x hx) post hd)) _ d8
 obtain⟨p9,hp9⟩:∃z,z=p8+(encL encPk ps).length:=⟨_,rfl⟩
 have d9:=drop_more d8
 rw[<- hp9] at d9 h9
 have h10:=(λpost hd=>C.get_Horizon hs encPk N.precord_reader_horizon i6 B hB p9 post hd (λx hx a post hd=>C.reader_horizon B hB a x (k6 x hx) post hd)) _ d9
 obtain⟨p10,hp10⟩:∃z,z=p9+(encL encPk hs).length:=⟨_,rfl⟩
 rw[<- hp10] at h10
 have h11:=C.source_end B p10 (by omega) hB
 have q1:=λos ho=>Rd.at h1 rfl rfl 1 os ho
 have q2:=λos ho=>Rd.at h2 rfl rfl 1 os ho
 have q3:=λos ho=>Rd.at h3 rfl rfl 1 os ho
 have q4:=λos ho=>Rd.at h4 rfl rfl 1 os ho
 have q5:=λos ho=>Rd.at h5 rfl rfl 1 os ho
 have q6:=λos ho=>Rd.at h6 rfl rfl 1 os ho
 have q7:=λos ho=>Rd.at h7 rfl rfl 1 os ho
 have q8:=λos ho=>Rd.at h8 rfl rfl 1 os ho
 have q9:=λos ho=>Rd.at h9 rfl rfl 1 os ho
 have q10:=λos ho=>Rd.at h10 rfl rfl 1 os ho
 have q11:=λos ho=>Rd.at h11 rfl rfl 1 os ho
 have hbl:=byteL_l B
 unfold rdCm Cm.dl at hc ⊢
 dsimp only at hc ⊢
 clear h1 h2 h3 h4 h5 h6 h7 h8 h9 h10 h11 d1 d2 d3 d4 d5 d6 d7 d8 d9 hd hp1 hp2 hp3 hp4 hp5 hp6 hp7 hp8 hp9 hp10 hend hBe
 generalize ng true (eEy (es.map rdEy))=y1 at *
 generalize ng true (eDe (ds.map rdDe))=y2 at *
 generalize ng true (eHo pl)=y3 at *
 generalize ng true (eSt rl)=y4 at *
 generalize ng true (ePk ps)=y5 at *
 generalize ng true (ePk hs)=y6 at *
 unfold SR at q1 q2 q3 q4 q5 q6 q7 q8 q9 q10 q11
 obtain⟨Z,hZ⟩:∃z,z=byteL B:=⟨_,rfl⟩
 rw[<- hZ] at q1 q2 q3 q4 q5 q6 q7 q8 q9 q10 q11 hbl ⊢
 clear hZ
 refine F.record_Decode.go mixed rfl ?_
 repeat' first|refine st ?_|((with_reducible apply go_i);conv=>whnf)|((with_reducible apply k_pa);(·first|exact q1|exact q2|exact q3|exact q4))|((with_reducible first|apply k_nc|apply k_cs);(·first|exact q5 _ rfl|exact q6 _ rfl|exact q7 _ rfl|exact q8 _ rfl|exact q9 _ rfl|exact q10 _ rfl|exact q11 _ rfl);(try rintro _ _ ⟨rfl,rfl⟩))|((with_reducible apply k_pr);(·first|exact q5 _ rfl|exact q6 _ rfl|exact q7 _ rfl|exact q8 _ rfl|exact q9 _ rfl|exact q10 _ rfl|exact q11 _ rfl))|refine⟨λ_=>?_,λ_=>?_⟩|fail
 all_goals rfl
end Go.Proofs
end
section
namespace Go.Proofs
open Go.Bi
abbrev eU(n:Int):D:=.int .u32 n
def xorU(a b:Int):Int:=IntKind.u32.wrap ((BitVec.ofInt IntKind.u32.bits a ^^^ BitVec.ofInt IntKind.u32.bits b).toNat:Nat)
def andU(a b:Int):Int:=IntKind.u32.wrap ((BitVec.ofInt IntKind.u32.bits a &&& BitVec.ofInt IntKind.u32.bits b).toNat:Nat)
def shrU(a:Int):Int:=a.fdiv (2 ^ (min (Int.toNat 1) IntKind.u32.bits))
def stepU(r:Int):Int:=if andU r 1=1 then xorU (shrU r) 2197175160 else shrU r
def upN:Nat->Int->Int
 |0,r=>r
 |n+1,r=>upN n (stepU r)
def updU:Int->List UInt8->Int
 |r,[]=>r
 |r,c::s=>updU (upN 8 (xorU r (IntKind.u32.wrap (c.toNat:Int)))) s
theorem C.frame_update(r:Int)(s:List UInt8)(hs:s.length<=1073741824):Pure Tryz.prog N.frame_update [.d (eU r),.d (.sl (byteL s))] (.d (eU (updU r s))):=by
 have e1:=byteL_l s
 have m1:=byteL_1 s
 have g1:=λi x=>@byteL_get s i x
 generalize byteL s=z at *
 obtain⟨R,hR⟩:∃R,R=updU r s:=⟨_,rfl⟩
 rw[<- hR]
 refine F.frame_update.go mixed rfl ?_
 repeat' first|refine st ?_|((with_reducible apply go_i);conv=>whnf)|refine⟨λ_=>?_,λ_=>?_⟩|fail
 refine x_loop2 mixed Lt.frame_update_l1 Lk.frame_update_l1 (λ(i:Nat) (q:Int)=>[.d (eU q),.d (eI i)]) (λi q=>[]) (λi q=>i<=z.length/\R=updU q (s.drop i)) (λi q=>z.length-i) 0 r rfl rfl rfl rfl (λ_ _ _=>⟨rfl,rfl⟩) rfl ⟨by omega,hR⟩ ?_
 repeat' first|refine st ?_|((with_reducible apply go_i);conv=>whnf)|refine⟨λ_=>?_,λ_=>?_⟩|fail
 intro i q ⟨i1,i2⟩
 cases hc:s[i]? with
 |some c=>
  have hlt:=(List.getElem?_eq_some_iff.1 hc).1
  have hg:=g1 i c hc
  rw[List.drop_eq_getElem_cons hlt,(List.getElem?_eq_some_iff.1 hc).2,updU] at i2
  repeat' first|refine st ?_|((with_reducible apply go_i);conv=>whnf)|refine⟨λ_=>?_,λ_=>?_⟩|fail
  refine x_loop2 mixed Lt.frame_update_l0 Lk.frame_update_l0 (λ(j:Nat) (q:Int)=>[.d (eU q),.d (eI j)]) (λj q=>[]) (λj q=>j<=8/\R=updU (upN (8-j) q) (s.drop (i+1))) (λj q=>8-j) 0 (xorU q (IntKind.u32.wrap (c.toNat:Int))) rfl rfl rfl rfl (λ_ _ _=>⟨rfl,rfl⟩) rfl ⟨by omega,i2⟩ ?_
  repeat' first|refine st ?_|((with_reducible apply go_i);conv=>whnf)|refine⟨λ_=>?_,λ_=>?_⟩|fail
  intro j q ⟨j1,j2⟩
  by_cases hj:j<8
  ·rw[show 8-j=(8-(j+1))+1 by omega,upN,stepU] at j2
   by_cases ha:andU q 1=1
   ·rw[if_pos ha] at j2
    unfold andU at ha
    repeat' first|refine st ?_|((with_reducible apply go_i);conv=>whnf)|refine⟨λ_=>?_,λ_=>?_⟩|fail
    all_goals exact⟨j+1,_,rfl,rfl,rfl,by omega,by omega,j2⟩
   ·rw[if_neg ha] at j2
    unfold andU at ha
    repeat' first|refine st ?_|((with_reducible apply go_i);conv=>whnf)|refine⟨λ_=>?_,λ_=>?_⟩|fail
    all_goals exact⟨j+1,_,rfl,rfl,rfl,by omega,by omega,j2⟩
  ·rw[show 8-j=0 by omega,upN] at j2
   repeat' first|refine st ?_|((with_reducible apply go_i);conv=>whnf)|refine⟨λ_=>?_,λ_=>?_⟩|fail
   all_goals first|(exfalso;omega)|exact⟨i+1,q,rfl,rfl,rfl,by omega,by omega,j2⟩
 |none=>
  have hge:=List.getElem?_eq_none_iff.1 hc
  rw[List.drop_eq_nil_of_le hge,updU] at i2
  rw[i2]
  repeat' first|refine st ?_|((with_reducible apply go_i);conv=>whnf)|refine⟨λ_=>?_,λ_=>?_⟩|fail
  all_goals first|rfl|(exfalso;omega)
def notU(n:Int):Int:=IntKind.u32.wrap ((BitVec.ofInt IntKind.u32.bits (if IntKind.u32.signed then -1 else IntKind.u32.max) ^^^ BitVec.ofInt IntKind.u32.bits n).toNat:Nat)
def sumU(a b:List UInt8):Int:=notU (updU (updU 4294967295 a) b)
theorem C.frame_sum(a b:List UInt8)(ha:a.length<=1073741824)(hb:b.length<=1073741824):Pure Tryz.prog N.frame_sum [.d (.sl (byteL a)),.d (.sl (byteL b))] (.d (eU (sumU a b))):=by
 have h1:=C.frame_update 4294967295 a ha
 have h2:=C.frame_update (updU 4294967295 a) b hb
 unfold sumU
 generalize updU (updU 4294967295 a) b=r2 at *
 generalize updU 4294967295 a=r1 at *
 generalize byteL a=z1 at *
 generalize byteL b=z2 at *
 refine F.frame_sum.go mixed rfl ?_
 repeat' first|refine st ?_|((with_reducible apply go_i);conv=>whnf)|refine⟨λ_=>?_,λ_=>?_⟩|fail
 all_goals rfl
end Go.Proofs
end
