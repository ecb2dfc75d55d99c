/- Texts of this claim, joined. No condition. -/
import Derived.Test.YtnhhopmldgpglaaGreatDoorQ10
import Derived.Test.YtnhhopmldgpglaaGreatDoorIc0
import Derived.Test.YtnhhopmldgpglaaGreatDoorIc1
set_option linter.unusedSimpArgs false
set_option linter.unusedVariables false
set_option maxRecDepth 10000
set_option maxHeartbeats 4000000
section
namespace Go.Proofs
open Go.Bi
theorem u8w{x:Int}(h0:0<=x)(h1:x<256):IntKind.u8.wrap x=x:=by
 simp[IntKind.wrap,IntKind.bits,IntKind.signed]
 omega
theorem A7o{x:Int}(h0:0<=x)(h1:x<4611686018427387904):IntKind.i64.wrap x=x:=B9a (by omega) (by omega)
def A0l(n:Int):List UInt8->Option Int
 |[]=>some n
 |c::r=>if c.toNat<48\/57<c.toNat then none else A0l (min (10*n+((c.toNat:Int)-48)) 1125899906842625) r
def A2u(s:List UInt8):Vl×Int:=
 if (if U8 45 s then s.tail else s)=[]\/((if U8 45 s then s.tail else s).getD 0 0=48/\(U8 45 s=true\/1<(if U8 45 s then s.tail else s).length)) then (K4,1)
 else match A0l 0 (if U8 45 s then s.tail else s) with
  |none=>(K4,1)
  |some n=>if 1125899906842624<n then (K4,6) else (⟨1,if U8 45 s then 0-n else n,[]⟩,0)
theorem C1u (s : List UInt8) (hs : s.length ≤ 1048576) : Pure Tryz.prog A8Z [.d (.str s)] (.tup [eV (A2u s).1, .d (eI (A2u s).2)]) := by
  have hC := C1h s (by omega) 45
  have hN := A3t
  obtain ⟨q, hq⟩ : ∃ q, q = A2u s := ⟨_, rfl⟩
  rw [← hq]
  unfold A2u at hq
  obtain ⟨d, hd⟩ : ∃ d, d = (if U8 45 s then s.tail else s) := ⟨_, rfl⟩
  obtain ⟨g, hg⟩ : ∃ g, g = U8 45 s := ⟨_, rfl⟩
  have hdl : d.length ≤ 1048576 := by
    rw [hd]
    split
    · rw [List.length_tail]; omega
    · exact hs
  rw [← hd, ← hg] at hq hC
  clear hd hg
  cases d with
  | nil =>
    rw [if_pos (.inl rfl)] at hq
    subst hq
    refine A8n.go A6 rfl ?_
    repeat' first|refine st ?_|((with_reducible first|apply A9|apply A8);(·first|exact hC|exact hN))|(with_reducible first|apply A5|apply A4)<;>intro _
    all_goals first | rfl | (exfalso; simp_all; done)
  | cons c0 r =>
    have hl0 : (c0 :: r).length = r.length + 1 := rfl
    have hg0 : (c0 :: r).getD ((0 : Int)).toNat 0 = c0 := rfl
    have hg1 : (c0 :: r).getD 0 0 = c0 := rfl
    by_cases h0 : c0 = 48 ∧ (g = true ∨ 1 < (c0 :: r).length)
    · rw [if_pos (.inr h0)] at hq
      subst hq
      obtain ⟨rfl, h0⟩ := h0
      refine A8n.go A6 rfl ?_
      cases g with
      | true =>
        repeat' first|(rw [hg0])|refine st ?_|((with_reducible first|apply A9|apply A8);(·first|exact hC|exact hN))|(with_reducible first|apply A5|apply A4)<;>intro _
        all_goals first | rfl | (exfalso; simp_all; done)
      | false =>
        have h0 : 1 < r.length + 1 := by rcases h0 with h | h; · cases h
                                         exact h
        repeat' first|(rw [hg0])|refine st ?_|((with_reducible first|apply A9|apply A8);(·first|exact hC|exact hN))|(with_reducible first|apply A5|apply A4)<;>intro _
        all_goals first | rfl | (exfalso; simp_all; done)
    · rw [if_neg (by rintro (h | h); · cases h
                     exact h0 h)] at hq
      have hcase : (c0.toNat : Int) = 48 → g = false ∧ r = [] := by
        intro hc
        have hc2 : c0 = 48 := UInt8.toNat_inj.1 (by simpa using (by omega : c0.toNat = 48))
        refine ⟨?_, ?_⟩
        · cases g with
          | false => rfl
          | true => exact absurd ⟨hc2, .inl rfl⟩ h0
        · cases r with
          | nil => rfl
          | cons x y => exact absurd ⟨hc2, .inr (by simp)⟩ h0
      clear h0 hg1
      have fin : ∀ (K : Prop), (((c0.toNat : Int) = 48 ∧ g = false ∧ (c0 :: r).length = 1) → K) → (¬ (c0.toNat : Int) = 48 → K) → K := fun K k1 k2 => by
        by_cases hc : (c0.toNat : Int) = 48
        · obtain ⟨e1, e2⟩ := hcase hc
          exact k1 ⟨hc, e1, by rw [e2]; rfl⟩
        · exact k2 hc
      clear hcase
      refine A8n.go A6 rfl ?_
      obtain ⟨ds, hD⟩ : ∃ ds, ds = c0 :: r := ⟨_, rfl⟩
      have hDn : ¬ ds = [] := by rw [hD]; simp
      have hDl : 0 < ds.length := by rw [hD]; simp
      rw [← hD] at hC hq hdl hg0 fin
      clear hD hl0
      obtain ⟨F0, hF0⟩ : ∃ z, z = A0l 0 ds := ⟨_, rfl⟩
      rw [← hF0] at hq
      refine fin _ ?_ ?_
      all_goals intro hc
      all_goals clear fin
      · obtain ⟨hc, rfl, hc2⟩ := hc
        repeat' first|(rw [hg0])|refine st ?_|((with_reducible first|apply A9|apply A8);(·first|exact hC|exact hN))|(with_reducible first|apply A5|apply A4)<;>intro _
        refine P5 A6 B3U B3O (fun (i : Nat) (n : Int) => [.d (eI n), .d (eI i)]) (fun i n => [.cells [.d (eI 0), .d (eI 0), .d (.str [])]]) (fun i n => i ≤ ds.length ∧ 0 ≤ n ∧ n ≤ 1125899906842625 ∧ A0l n (ds.drop i) = F0) (fun i n => ds.length - i) 0 0 rfl rfl rfl rfl (fun _ _ _ => ⟨rfl, rfl⟩) rfl ⟨by omega, by omega, by omega, hF0.symm⟩ ?_
        clear hg0 hc hF0
        repeat' first|refine st ?_|(with_reducible first|apply A5|apply A4)<;>intro _
        intro i n ⟨g1, g2, g3, g4⟩
        cases hx : ds[i]? with
        | some c =>
          obtain ⟨hlt, he⟩ := B2.1 hx
          have hg : ds.getD ((i : Int)).toNat 0 = c := by simp [F7, hx]
          have h256 : c.toNat < 256 := UInt8.toNat_lt c
          rw [V2 hlt, he, A0l] at g4
          clear he
          by_cases hbad : c.toNat < 48 ∨ 57 < c.toNat
          · rw [if_pos hbad] at g4
            subst g4
            dsimp only at hq
            subst hq
            repeat' first|(rw [hg])|refine st ?_|((with_reducible first|apply A9|apply A8);(·exact hN))|(with_reducible first|apply A5|apply A4)<;>intro _
            all_goals first | rfl | (exfalso; omega)
          · rw [if_neg hbad] at g4
            repeat' first|(rw [hg])|refine st ?_|((with_reducible first|apply A9|apply A8);(·exact hN))|(with_reducible first|apply A5|apply A4)<;>intro _
            all_goals exact ⟨i + 1, min (10 * n + ((c.toNat : Int) - 48)) 1125899906842625, by rw [u8w (by omega) (by omega), A7o (x := (c.toNat : Int) - 48) (by omega) (by omega), A7o (by omega) (by omega)]; rfl, rfl, rfl, by omega, by omega, by omega, by omega, g4⟩
        | none =>
          have hge := E4.1 hx
          rw [List.drop_of_length_le hge, A0l] at g4
          subst g4
          dsimp only at hq
          by_cases hbig : 1125899906842624 < n
          · rw [if_pos hbig] at hq
            subst hq
            repeat' first|refine st ?_|((with_reducible first|apply A9|apply A8);(·exact hN))|(with_reducible first|apply A5|apply A4)<;>intro _
            all_goals rfl
          · rw [if_neg hbig] at hq
            subst hq
            repeat' first|refine st ?_|((with_reducible first|apply A9|apply A8);(·exact hN))|(with_reducible first|apply A5|apply A4)<;>intro _
            all_goals rfl
      · repeat' first|(rw [hg0])|refine st ?_|((with_reducible first|apply A9|apply A8);(·first|exact hC|exact hN))|(with_reducible first|apply A5|apply A4)<;>intro _
        refine P5 A6 B3U B3O (fun (i : Nat) (n : Int) => [.d (eI n), .d (eI i)]) (fun i n => [.cells [.d (eI 0), .d (eI 0), .d (.str [])]]) (fun i n => i ≤ ds.length ∧ 0 ≤ n ∧ n ≤ 1125899906842625 ∧ A0l n (ds.drop i) = F0) (fun i n => ds.length - i) 0 0 rfl rfl rfl rfl (fun _ _ _ => ⟨rfl, rfl⟩) rfl ⟨by omega, by omega, by omega, hF0.symm⟩ ?_
        clear hg0 hc hF0
        repeat' first|refine st ?_|(with_reducible first|apply A5|apply A4)<;>intro _
        intro i n ⟨g1, g2, g3, g4⟩
        cases hx : ds[i]? with
        | some c =>
          obtain ⟨hlt, he⟩ := B2.1 hx
          have hg : ds.getD ((i : Int)).toNat 0 = c := by simp [F7, hx]
          have h256 : c.toNat < 256 := UInt8.toNat_lt c
          rw [V2 hlt, he, A0l] at g4
          clear he
          by_cases hbad : c.toNat < 48 ∨ 57 < c.toNat
          · rw [if_pos hbad] at g4
            subst g4
            dsimp only at hq
            subst hq
            repeat' first|(rw [hg])|refine st ?_|((with_reducible first|apply A9|apply A8);(·exact hN))|(with_reducible first|apply A5|apply A4)<;>intro _
            all_goals first | rfl | (exfalso; omega)
          · rw [if_neg hbad] at g4
            repeat' first|(rw [hg])|refine st ?_|((with_reducible first|apply A9|apply A8);(·exact hN))|(with_reducible first|apply A5|apply A4)<;>intro _
            all_goals exact ⟨i + 1, min (10 * n + ((c.toNat : Int) - 48)) 1125899906842625, by rw [u8w (by omega) (by omega), A7o (x := (c.toNat : Int) - 48) (by omega) (by omega), A7o (by omega) (by omega)]; rfl, rfl, rfl, by omega, by omega, by omega, by omega, g4⟩
        | none =>
          have hge := E4.1 hx
          rw [List.drop_of_length_le hge, A0l] at g4
          subst g4
          dsimp only at hq
          by_cases hbig : 1125899906842624 < n
          · rw [if_pos hbig] at hq
            subst hq
            repeat' first|refine st ?_|((with_reducible first|apply A9|apply A8);(·exact hN))|(with_reducible first|apply A5|apply A4)<;>intro _
            all_goals rfl
          · rw [if_neg hbig] at hq
            subst hq
            cases g with
            | true =>
              repeat' first|refine st ?_|((with_reducible first|apply A9|apply A8);(·exact hN))|(with_reducible first|apply A5|apply A4)<;>intro _
              all_goals rfl
            | false =>
              repeat' first|refine st ?_|((with_reducible first|apply A9|apply A8);(·exact hN))|(with_reducible first|apply A5|apply A4)<;>intro _
              all_goals rfl
def y7(s:List UInt8):Vl×Int:=
 if s=[78,85,76,76] then (K4,0) else if s=[84,82,85,69] then (A4p true,0) else if s=[70,65,76,83,69] then (A4p false,0)
 else if U8 39 s=true then A1S s.tail else A2u s
theorem C1r(s:List UInt8)(hs:s.length<=1048576):Pure Tryz.prog B4T [.d (.str s)] (.tup [eV (y7 s).1,.d (eI (y7 s).2)]):=by
 have hN:=A3t
 have hT:=C1p (decide (s=[84,82,85,69]))
 have hP:=C1j s (by omega) 39
 have hI:=C1u s hs
 obtain⟨q,hq⟩:∃q,q=y7 s:=⟨_,rfl⟩
 rw[<- hq]
 unfold y7 at hq
 by_cases h1:s=[78,85,76,76]
 ·rw[if_pos h1] at hq
  subst hq
  refine A4L.go A6 rfl ?_
  repeat' first|refine st ?_|((with_reducible first|apply A9|apply A8);(·exact hN))|(with_reducible first|apply A5|apply A4)<;>intro _
  all_goals rfl
 rw[if_neg h1] at hq
 by_cases h2:s=[84,82,85,69]
 ·rw[if_pos h2] at hq
  subst hq
  rw[decide_eq_true h2] at hT
  have hT:Bi.Pure Tryz.prog A56 [.d (.bool (decide (s=[84,82,85,69])))] (eV (A4p true)):=by rw[decide_eq_true h2];exact hT
  refine A4L.go A6 rfl ?_
  repeat' first|refine st ?_|((with_reducible first|apply A9|apply A8);(·exact hT))|(with_reducible first|apply A5|apply A4)<;>intro _
  all_goals rfl
 rw[if_neg h2] at hq
 by_cases h3:s=[70,65,76,83,69]
 ·rw[if_pos h3] at hq
  subst hq
  rw[decide_eq_false h2] at hT
  have hT:Bi.Pure Tryz.prog A56 [.d (.bool (decide (s=[84,82,85,69])))] (eV (A4p false)):=by rw[decide_eq_false h2];exact hT
  refine A4L.go A6 rfl ?_
  repeat' first|refine st ?_|((with_reducible first|apply A9|apply A8);(·exact hT))|(with_reducible first|apply A5|apply A4)<;>intro _
  all_goals rfl
 rw[if_neg h3] at hq
 cases hb:U8 39 s with
 |true=>
  rw[hb] at hP hq
  rw[if_pos rfl] at hq
  cases s with
  |nil=>cases hb
  |cons c r=>
   have hl:(c::r).length=r.length+1:=rfl
   simp only[L0] at hs
   have hX:=C1v r (by omega)
   have hp:List.take (((c::r).length:Int).toNat-(1:Int).toNat) (List.drop (1:Int).toNat (c::r))=r:=by
    rw[hl]
    show List.take (r.length+1-1) r=r
    simp
   have hq:q=A1S r:=hq
   rw[<- hq] at hX
   clear hq hb hI
   refine A4L.go A6 rfl ?_
   repeat' first|(rw[hp])|refine st ?_|((with_reducible first|apply A9|apply A8);(·first|exact hP|exact hX))|(with_reducible first|apply A5|apply A4)<;>intro _
   all_goals rfl
 |false=>
  rw[hb] at hP hq
  rw[if_neg (by decide)] at hq
  rw[<- hq] at hI
  clear hq
  refine A4L.go A6 rfl ?_
  repeat' first|refine st ?_|((with_reducible first|apply A9|apply A8);(·first|exact hP|exact hI))|(with_reducible first|apply A5|apply A4)<;>intro _
  all_goals rfl
theorem B0K:∀(s t:List UInt8),Y2 s=some t->c9 t=c9 s
 |[],t,h=>by simp[Y2] at h;subst h;rfl
 |[c],t,h=>by
  unfold Y2 at h
  split at h
  ·cases h
  ·cases h;rfl
 |c::d::s,t,h=>by
  rw[Y2] at h
  split at h
  ·rename_i hc
   split at h
   ·rename_i hd
    obtain⟨u,hu,rfl⟩:=G4.1 h
    have ih:=B0K s u hu
    subst hc;subst hd
    unfold c9 at ih ⊢
    simp[Y3,ih,prC]
   ·cases h
  ·obtain⟨u,hu,rfl⟩:=G4.1 h
   have ih:=B0K (d::s) u hu
   unfold c9 at ih ⊢
   rw[Y3,Y3,ih]
theorem B7R:∀(s:List UInt8)(n m:Int),0<=n->A0l n s=some m->0<=m/\(m=0->n=0/\∀c∈s,c=48)
 |[],n,m,h,e=>by
  simp only[A0l,w5] at e
  subst e
  exact⟨h,λe=>⟨e,by simp⟩⟩
 |c::s,n,m,h,e=>by
  rw[A0l] at e
  split at e
  ·cases e
  ·rename_i hc
   obtain⟨h1,h2⟩:=B7R s _ m (by omega) e
   refine⟨h1,λhm=>?_⟩
   obtain⟨h3,h4⟩:=h2 hm
   have h5:c.toNat=48:=by omega
   refine⟨by omega,λd hd=>?_⟩
   rcases L4.1 hd with rfl|hd
   ·exact UInt8.toNat_inj.1 (by simpa using h5)
   ·exact h4 d hd
structure St where
 x:TD
 y:TD
 c:Ch
abbrev St.ds(s:St):List D:=[.str s.x.t.nm,s.x.dc,s.x.dk,s.x.df,s.x.dx,.str s.y.t.nm,s.y.dc,s.y.dk,s.y.df,s.y.dx,eI s.c.k,.str s.c.nm,.str s.c.to,.str s.c.co.nm,eI s.c.co.k,.bool s.c.co.nl,eI s.c.df.k,eI s.c.df.n,.str s.c.df.s]
abbrev St.av(s:St):AV:=.agg [.d (.str s.x.t.nm),.d s.x.dc,.d s.x.dk,.d s.x.df,.d s.x.dx,.d (.str s.y.t.nm),.d s.y.dc,.d s.y.dk,.d s.y.df,.d s.y.dx,.d (eI s.c.k),.d (.str s.c.nm),.d (.str s.c.to),.d (.str s.c.co.nm),.d (eI s.c.co.k),.d (.bool s.c.co.nl),.d (eI s.c.df.k),.d (eI s.c.df.n),.d (.str s.c.df.s)]
def TD.to(x:TD)(c:Ch):TD:=if D7 x.t c=0 then x.evo c else P1
theorem TD.to_ok{x:TD}(h:x.ok){c:Ch}(hc:I1 c):(x.to c).ok:=by
 unfold TD.to
 split
 ·exact TD.evo_ok h hc (by assumption)
 ·exact A2E
theorem C0z(x:TD)(h:x.ok)(c:Ch)(hc:I1 c):Pure Tryz.prog A6T [x.av,c.av] (.tup [(St.mk x (x.to c) c).av,.d (.bool (decide (D7 x.t c=0)))]):=by
 have hA:Bi.Pure Tryz.prog Q6 [x.av,c.av] (.tup [(x.to c).av,.d (eI (D7 x.t c))]):=by
  unfold TD.to
  by_cases hq:D7 x.t c=0
  ·rw[if_pos hq,hq];exact B14 x h c hc hq
  ·rw[if_neg hq];exact B15 x h c hc hq
 obtain⟨y,hy⟩:∃y,y=x.to c:=⟨_,rfl⟩
 rw[<- hy] at hA ⊢
 obtain⟨e,he⟩:∃e,e=D7 x.t c:=⟨_,rfl⟩
 rw[<- he] at hA ⊢
 have hA:Bi.Pure Tryz.prog Q6 [x.av,c.av] (.tup [eT y.t.nm y.dc y.dk y.df y.dx,.d (eI e)]):=hA
 obtain⟨⟨nm,cs,ks,fs,xs⟩,dc,dk,df,dx⟩:=x
 obtain⟨k,cnm,to,⟨cn,ck,cl⟩,⟨vk,vn,vs⟩⟩:=c
 clear he hy
 refine C2w.go A6 rfl ?_
 repeat' first|refine st ?_|((with_reducible first|apply A9|apply A8);(·exact hA))|(with_reducible first|apply A5|apply A4)<;>intro _
 all_goals rfl
def plI(t:Tb)(c:Ch):Int:=if c.k=1 then t.cs.length else D8 c.nm t.cs
theorem B1c(s:St)(h:s.x.ok):Pure Tryz.prog B4C [s.av] (.d (eI (plI s.x.t s.c))):=by
 have hF:=S6 s.x.t.nm s.x.t.cs h.tok.hl s.x.dc s.x.dk s.x.df s.x.dx h.tok.dc s.c.nm
 have hdc:=h.tok.dc
 have hcl:=G8 s.x.t.cs
 have hl:=h.tok.hl
 obtain⟨q,hq⟩:∃q,q=plI s.x.t s.c:=⟨_,rfl⟩
 rw[<- hq]
 unfold plI at hq
 obtain⟨f,hf⟩:∃f,f=D8 s.c.nm s.x.t.cs:=⟨_,rfl⟩
 rw[<- hf] at hF hq
 obtain⟨Cs,hCs⟩:∃z,z=B3 s.x.t.cs:=⟨_,rfl⟩
 rw[<- hCs] at hdc hcl
 clear hf hCs h
 obtain⟨⟨⟨nm,cs,ks,fs,xs⟩,dc,dk,df,dx⟩,y,⟨k,cnm,to,⟨cn,ck,cl⟩,⟨vk,vn,vs⟩⟩⟩:=s
 dsimp only at hq hF hdc hcl hl
 by_cases h1:k=1
 ·rw[if_pos h1] at hq
  subst hq
  refine B1G.go A6 rfl ?_
  repeat' first|refine st ?_|(with_reducible first|apply A5|apply A4)<;>intro _
  all_goals first|rfl|(rw[hcl];rfl)|rw[hcl]
 ·rw[if_neg h1] at hq
  subst hq
  refine B1G.go A6 rfl ?_
  repeat' first|refine st ?_|((with_reducible first|apply A9|apply A8);(·exact hF))|(with_reducible first|apply A5|apply A4)<;>intro _
  all_goals rfl
def J9(x:TD):List Ch->List St
 |[]=>[]
 |c::r=>⟨x,x.to c,c⟩::J9 (x.to c) r
def N4(x:TD):List Ch->Bool
 |[]=>true
 |c::r=>decide (D7 x.t c=0)&&N4 (x.to c) r
def R0(x:TD)(l:List Ch):Bool:=decide (H8 x.t=0)&&N4 x l
theorem A4k:∀(l:List Ch)(x:TD),(J9 x l).length=l.length
 |[],_=>rfl
 |c::r,x=>by rw[J9,L0,L0,A4k r]
def S4(l:List St):List (List D):=l.map St.ds
theorem A9x(l:List St):(S4 l).length=l.length:=by simp[S4]
theorem B6a{l:List St}{i:Nat}{s:St}(h:l[i]?=some s):(S4 l)[i]?=some s.ds:=by simp[S4,h]
theorem A9y(l:List St):∀e∈S4 l,e.length=19:=by
 intro e he
 obtain⟨x,_,rfl⟩:=E6.1 he
 rfl
def O1(x:TD):List Ch->TD
 |[]=>x
 |c::r=>O1 (x.to c) r
theorem A3P:∀(l:List Ch){x:TD},x.ok->(∀c∈l,I1 c)->(O1 x l).ok
 |[],x,h,_=>h
 |c::r,x,h,hc=>A3P r (TD.to_ok h (hc c (by simp))) λd hd=>hc d (by simp[hd])
theorem A5k:∀(l:List Ch)(x:TD)(c:Ch),O1 x (l++[c])=(O1 x l).to c
 |[],x,c=>rfl
 |d::r,x,c=>A5k r (x.to d) c
theorem A0U:∀{l:List Ch}{x:TD}{i:Nat}{c:Ch},l[i]?=some c->(J9 x l)[i]?=some ⟨O1 x (l.take i),(O1 x (l.take i)).to c,c⟩
 |[],x,i,c,h=>by simp at h
 |a::r,x,0,c,h=>by simp at h;subst h;rfl
 |a::r,x,i+1,c,h=>by
  rw[Z1] at h
  rw[J9,Z1,A0U h];rfl
theorem D29{x:TD}{l:List Ch}{i:Nat}{c:Ch}(h:l[i]?=some c):N4 x (l.drop i)=(decide (D7 x.t c=0)&&N4 (x.to c) (l.drop (i+1))):=by
 obtain⟨hlt,he⟩:=B2.1 h
 rw[V2 hlt,he,N4]
theorem A7U{l:List Ch}{i:Nat}{c:Ch}(h:l[i]?=some c):l.take (i+1)=l.take i++[c]:=by rw[S0,h];rfl
theorem B1d(x:TD)(h:x.ok)(l:List Ch)(hl:l.length<=1048576)(hls:∀c∈l,I1 c)(d:D)(hd:B8 d (I2 l)) :
  Pure Tryz.prog B4D [x.av,.d d] (.tup [.d (if R0 x l then B9 (S4 (J9 x l)).isEmpty (S4 (J9 x l)) else .nil),.d (.bool (R0 x l))]):=by
 have hT:=A6v x.t x.dc x.dk x.df x.dx h.tok
 obtain⟨R,hR⟩:∃R,R=(if R0 x l then B9 (S4 (J9 x l)).isEmpty (S4 (J9 x l)) else .nil):=⟨_,rfl⟩
 obtain⟨b,hb⟩:∃R,R=R0 x l:=⟨_,rfl⟩
 rw[<- hR,<- hb]
 rw[<- hb] at hR
 unfold R0 at hb
 have h1:=A2i l
 have hm:=A5r l
 have hg0:=λi c=>@A9w l i c
 obtain⟨es,hes⟩:∃es,es=I2 l:=⟨_,rfl⟩
 rw[<- hes] at h1 hm hd hg0
 by_cases hq:H8 x.t=0
 rotate_left
 ·rw[decide_eq_false hq,Bool.false_and] at hb
  subst hb
  rw[if_neg (by decide)] at hR
  subst hR
  obtain⟨q,hqq⟩:∃q,q=H8 x.t:=⟨_,rfl⟩
  rw[<- hqq] at hT hq
  refine B1H.go A6 rfl ?_
  repeat' first|refine st ?_|((with_reducible first|apply A9|apply A8);(·exact hT))|(with_reducible first|apply A5|apply A4)<;>intro _
  all_goals rfl
 ·rw[decide_eq_true hq,s0] at hb
  rw[hq] at hT
  obtain⟨S,hS⟩:∃S,S=J9 x l:=⟨_,rfl⟩
  rw[<- hS] at hR
  have hSl:S.length=l.length:=by rw[hS];exact A4k l x
  obtain⟨x0,hx0⟩:∃z,z=x:=⟨_,rfl⟩
  have hSg:∀(i:Nat) c,l[i]?=some c->S[i]?=some ⟨O1 x0 (l.take i),(O1 x0 (l.take i)).to c,c⟩:=λi c hc=>by rw[hS,hx0];exact A0U hc
  have hok0:∀i,(O1 x0 (l.take i)).ok:=λi=>by rw[hx0];exact A3P _ h λc hc=>hls c (A27 hc)
  have hst:O1 x0 (l.take 0)=x:=by rw[hx0];rfl
  clear hx0 hS h
  refine B1H.go A6 rfl ?_
  obtain⟨⟨nm,cs,ks,fs,xs⟩,dc,dk,df,dx⟩:=x
  have hT:Bi.Pure Tryz.prog A6V [eT nm dc dk df dx] (.d (eI 0)):=hT
  repeat' first|refine st ?_|((with_reducible first|apply A9|apply A8);(·exact hT))|(with_reducible first|apply A5|apply A4)<;>intro _
  refine r8 6 19 rfl rfl ?_
  refine P5 A6 C4J C3T (λ(i:Nat) (w:List (List D)×TD)=>[.arr 1 w.1.length,.d (eI i)]) (λi w=>[.cells [.d (.str w.2.t.nm),.d w.2.dc,.d w.2.dk,.d w.2.df,.d w.2.dx],.arr w.1 19 0 w.1.isEmpty]) (λi w=>i<=l.length/\w.1=S4 (S.take i)/\w.2=O1 x0 (l.take i)/\b=N4 w.2 (l.drop i)) (λi w=>l.length-i) 0 ([],⟨⟨nm,cs,ks,fs,xs⟩,dc,dk,df,dx⟩) rfl rfl rfl rfl (λ_ _ _=>⟨rfl,rfl⟩) rfl ⟨by omega,rfl,hst.symm,hb⟩ ?_
  repeat' first|refine st ?_|(with_reducible first|apply A5|apply A4)<;>intro _
  intro i w ⟨g1,g2,g3,g4⟩
  obtain⟨A,y⟩:=w
  dsimp only at g2 g3 g4 ⊢
  have hAl:A.length=i:=by rw[g2,A9x,P8];omega
  have hAm:∀e∈A,e.length=19:=by rw[g2];exact A9y _
  cases hx:l[i]? with
  |some c=>
   have hlt:=(B2.1 hx).1
   have hcok:=hls c (C3 hx)
   have hg:=hg0 i c hx
   have hyok:=hok0 i
   have hSi:=hSg i c hx
   rw[<- g3] at hyok hSi
   rw[D29 hx] at g4
   have hN:=C0z y hyok c hcok
   have hs:A++[(St.mk y (y.to c) c).ds]=S4 (S.take (i+1)):=by rw[g2,S0,hSi];simp[S4]
   have hc1:O1 x0 (l.take (i+1))=y.to c:=by rw[A7U hx,A5k,<- g3]
   obtain⟨z,hz⟩:∃z,z=y.to c:=⟨_,rfl⟩
   rw[<- hz] at hN hs hc1 g4
   by_cases he:D7 y.t c=0
   ·rw[decide_eq_true he] at hN g4
    rw[s0] at g4
    obtain⟨ck,cnm,to,⟨cn,cck,cl⟩,⟨vk,vn,vs⟩⟩:=c
    have hN:Bi.Pure Tryz.prog A6T [eT y.t.nm y.dc y.dk y.df y.dx,chD ck cnm to cn cck cl vk vn vs] (.tup [(St.mk y z ⟨ck,cnm,to,⟨cn,cck,cl⟩,⟨vk,vn,vs⟩⟩).av,.d (.bool true)]):=hN
    clear g2 g3 hR hb
    repeat' first|refine st ?_|((with_reducible first|apply A9|apply A8);(·exact hN))|(with_reducible first|apply A5|apply A4)<;>intro _
    exact⟨i+1,(A++[_],z),rfl,rfl,by first|rfl|(simp;done),by omega,by omega,hs,hc1.symm,g4⟩
   ·rw[decide_eq_false he] at hN g4
    rw[Bool.false_and] at g4
    subst g4
    rw[if_neg (by decide)] at hR
    subst hR
    obtain⟨ck,cnm,to,⟨cn,cck,cl⟩,⟨vk,vn,vs⟩⟩:=c
    have hN:Bi.Pure Tryz.prog A6T [eT y.t.nm y.dc y.dk y.df y.dx,chD ck cnm to cn cck cl vk vn vs] (.tup [(St.mk y z ⟨ck,cnm,to,⟨cn,cck,cl⟩,⟨vk,vn,vs⟩⟩).av,.d (.bool false)]):=hN
    clear g2 g3
    repeat' first|refine st ?_|((with_reducible first|apply A9|apply A8);(·exact hN))|(with_reducible first|apply A5|apply A4)<;>intro _
    all_goals rfl
  |none=>
   have hge:=E4.1 hx
   rw[List.drop_of_length_le hge] at g4
   rw[P2 (by omega)] at g2
   have g4:b=true:=g4
   subst g4
   rw[if_pos rfl,<- g2] at hR
   subst hR
   clear g2 hb
   repeat' first|refine st ?_|(with_reducible first|apply A5|apply A4)<;>intro _
   all_goals first|rfl|(cases A<;>rfl)
def eTs(l:List TD):List (List D):=l.map λx=>[.str x.t.nm,x.dc,x.dk,x.df,x.dx]
theorem A9z(l:List TD):(eTs l).length=l.length:=by simp[eTs]
theorem A9A(l:List TD):∀e∈eTs l,e.length=5:=by
 intro e he
 obtain⟨x,_,rfl⟩:=E6.1 he
 rfl
theorem B6b{l:List TD}{i:Nat}{x:TD}(h:l[i]?=some x):(eTs l)[i]?=some [.str x.t.nm,x.dc,x.dk,x.df,x.dx]:=by simp[eTs,h]
def r7(x:TD)(l:List Ch):List TD:=x.cp::(J9 x l).map λs=>s.y.cp
def A6h(x:TD)(l:List Ch):D:=if R0 x l then .sl (eTs (r7 x l)) else .nil
theorem B0C:∀{l:List Ch}{x:TD},H8 x.t=0->N4 x l=true->∀i,i<=l.length->H8 (O1 x (l.take i)).t=0
 |[],x,h,_,i,hi=>by
  have:i=0:=by simpa using hi
  subst this;exact h
 |c::r,x,h,hb,0,hi=>h
 |c::r,x,h,hb,i+1,hi=>by
  rw[N4,K7] at hb
  have he:D7 x.t c=0:=of_decide_eq_true hb.1
  have h2:H8 (x.to c).t=0:=by unfold TD.to;rw[if_pos he];exact m5.2 (A7f he)
  exact B0C (l:=r) (x:=x.to c) h2 hb.2 i (by simpa using hi)
theorem A2y:∀{l:List Ch}{x:TD}{i:Nat}{c:Ch},N4 x l=true->l[i]?=some c->D7 (O1 x (l.take i)).t c=0
 |[],x,i,c,_,h=>by simp at h
 |a::r,x,0,c,hb,h=>by
  rw[N4,K7] at hb
  simp at h;subst h
  exact of_decide_eq_true hb.1
 |a::r,x,i+1,c,hb,h=>by
  rw[N4,K7] at hb
  rw[Z1] at h
  exact A2y (l:=r) (x:=x.to a) (i:=i) hb.2 h
theorem B1b(x:TD)(h:x.ok)(l:List Ch)(hl:l.length<=1048576)(hls:∀c∈l,I1 c)(d:D)(hd:B8 d (I2 l)) :
  Pure Tryz.prog A8O [x.av,.d d] (.d (A6h x l)):=by
 have hS:=B1d x h l hl hls d hd
 obtain⟨R,hR⟩:∃R,R=A6h x l:=⟨_,rfl⟩
 rw[<- hR]
 unfold A6h at hR
 cases hb:R0 x l with
 |false=>
  rw[hb] at hS hR
  rw[if_neg (by decide)] at hS hR
  subst hR
  clear hb hd
  obtain⟨⟨nm,cs,ks,fs,xs⟩,dc,dk,df,dx⟩:=x
  refine B1D.go A6 rfl ?_
  repeat' first|refine st ?_|((with_reducible first|apply A9|apply A8);(·exact hS))|(with_reducible first|apply A5|apply A4)<;>intro _
  all_goals rfl
 |true=>
  rw[hb] at hS hR
  rw[if_pos rfl] at hS hR
  unfold R0 at hb
  rw[K7] at hb
  have hq:H8 x.t=0:=of_decide_eq_true hb.1
  have hC:=A6s x h (m5.1 hq).fl
  obtain⟨S,hSS⟩:∃S,S=J9 x l:=⟨_,rfl⟩
  have hSl:S.length=l.length:=by rw[hSS];exact A4k l x
  have hSc:∀(i:Nat) s,S[i]?=some s->s.y.ok/\s.y.t.fs.length<=4:=λi s hs=>by
   have hi:=(B2.1 hs).1
   have hc:l[i]?=some (l[i]'(by omega)):=C5 (by omega)
   have h2:=A0U (x:=x) hc
   rw[<- hSS,hs] at h2
   have h3:=A03 h2
   have e:s.y=O1 x (l.take (i+1)):=by rw[h3,A7U hc,A5k]
   rw[e]
   exact⟨A3P _ h λc hc=>hls c (A27 hc),(m5.1 (B0C hq hb.2 (i+1) (by omega))).fl⟩
  unfold r7 at hR
  rw[<- hSS] at hS hR
  have hg0:=λi s=>@B6a S i s
  have h1:=A9x S
  have hm:=A9y S
  have hsd:B8 (B9 (S4 S).isEmpty (S4 S)) (S4 S):=V8 λe=>s5.1 e
  obtain⟨sd,hsd0⟩:∃z,z=B9 (S4 S).isEmpty (S4 S):=⟨_,rfl⟩
  rw[<- hsd0] at hS hsd
  obtain⟨Es,hEs⟩:∃z,z=S4 S:=⟨_,rfl⟩
  rw[<- hEs] at hg0 h1 hm hsd
  obtain⟨y,hy⟩:∃z,z=x.cp:=⟨_,rfl⟩
  rw[<- hy] at hC hR
  clear hd hb hq h hSS hsd0 hEs hy
  obtain⟨⟨nm,cs,ks,fs,xs⟩,dc,dk,df,dx⟩:=x
  have hC:Bi.Pure Tryz.prog A0s [eT nm dc dk df dx] (eT y.t.nm y.dc y.dk y.df y.dx):=hC
  refine B1D.go A6 rfl ?_
  repeat' first|refine st ?_|((with_reducible first|apply A9|apply A8);(·first|exact hS|exact hC))|(with_reducible first|apply A5|apply A4)<;>intro _
  refine P5 A6 C4I C3S (λ(i:Nat) (A:List (List D))=>[.arr 1 A.length,.d (eI i)]) (λi A=>[.cells [.d (.str nm),.d dc,.d dk,.d df,.d dx],.arr A 5 0 false]) (λi A=>i<=S.length/\A=eTs (y::(S.take i).map λs=>s.y.cp)) (λi A=>S.length-i) 0 [[.str y.t.nm,y.dc,y.dk,y.df,y.dx]] rfl rfl rfl rfl (λ_ _ _=>⟨rfl,rfl⟩) rfl ⟨by omega,rfl⟩ ?_
  repeat' first|refine st ?_|(with_reducible first|apply A5|apply A4)<;>intro _
  intro i A ⟨g1,g2⟩
  have hAl:A.length=i+1:=by rw[g2,A9z,L0,C7,P8];omega
  have hAm:∀e∈A,e.length=5:=by rw[g2];exact A9A _
  cases hx:S[i]? with
  |some s=>
   have hlt:=(B2.1 hx).1
   have hg:=hg0 i s hx
   obtain⟨k1,k2⟩:=hSc i s hx
   have hC2:=A6s s.y k1 k2
   have hs:A++[[.str s.y.cp.t.nm,s.y.cp.dc,s.y.cp.dk,s.y.cp.df,s.y.cp.dx]]=eTs (y::(S.take (i+1)).map λs=>s.y.cp):=by rw[g2,S0,hx];simp[eTs]
   obtain⟨z,hz⟩:∃z,z=s.y.cp:=⟨_,rfl⟩
   rw[<- hz] at hC2 hs
   obtain⟨x1,y1,c1⟩:=s
   have hC2:Bi.Pure Tryz.prog A0s [eT y1.t.nm y1.dc y1.dk y1.df y1.dx] (eT z.t.nm z.dc z.dk z.df z.dx):=hC2
   clear g2 hR
   unfold St.ds at hg
   dsimp only at hg
   repeat' first|refine st ?_|((with_reducible first|apply A9|apply A8);(·exact hC2))|(with_reducible first|apply A5|apply A4)<;>intro _
   exact⟨i+1,A++[[.str z.t.nm,z.dc,z.dk,z.df,z.dx]],rfl,rfl,rfl,by omega,by omega,hs⟩
  |none=>
   have hge:=E4.1 hx
   rw[P2 hge] at g2
   rw[<- g2] at hR
   subst hR
   clear g2
   repeat' first|refine st ?_|(with_reducible first|apply A5|apply A4)<;>intro _
   all_goals rfl
theorem C0C(f1 f2:FuncId)(S:List St)(hSl:S.length<=1048576)(d:D)(hd:B8 d (S4 S))(a b:Nat)(ha:a<=S.length)(hb:b<=S.length)(z:Nat->D)
  (hF:∀(i:Nat) s,a<=i->i<b->S[i]?=some s->B4 Tryz.prog f1 [s.av,.ptr 0 0] [.cells [.d (z i)]] (λr os=>r=.tup []/\os=[.cells [.d (z (i+1))]]))
  (hB:∀(i:Nat) s,b<=i->i<a->S[i]?=some s->B4 Tryz.prog f2 [s.av,.ptr 0 0] [.cells [.d (z (i+1))]] (λr os=>r=.tup []/\os=[.cells [.d (z i)]])) :
  B4 Tryz.prog A6U [.d d,.d (eI a),.d (eI b),.clo f1 [0],.clo f2 [0]] [.cells [.d (z a)]] (λr os=>r=.tup []/\os=[.cells [.d (z b)]]):=by
 have hg0:=λi s=>@B6a S i s
 have h1:=A9x S
 have hm:=A9y S
 obtain⟨Es,hEs⟩:∃q,q=S4 S:=⟨_,rfl⟩
 rw[<- hEs] at hd hg0 h1 hm
 refine C2x.goX A6 rfl ?_
 repeat' first|refine st ?_|(with_reducible first|apply A5|apply A4)<;>intro _
 refine G6 A6 C4K C3U (λ(p:Nat)=>[.d (eI p)]) (λp=>[.cells [.d (z p)]]) (λp=>a<=p/\(p<=b\/p=a)) (λp=>b-p) a rfl rfl rfl rfl (λ_ _=>⟨rfl,rfl⟩) rfl ⟨I4 _,.inr rfl⟩ ?_
 repeat' first|refine st ?_|(with_reducible first|apply A5|apply A4)<;>intro _
 intro p ⟨g1,g2⟩
 by_cases hp:p<b
 ·obtain⟨s,hs⟩:∃s,S[p]?=some s:=⟨_,C5 (by omega)⟩
  have hg:=hg0 p s hs
  have hC:=hF p s g1 hp hs
  obtain⟨x,y,c⟩:=s
  unfold St.ds at hg
  dsimp only at hg
  have hC:B4 Tryz.prog f1 [.agg [.d (.str x.t.nm),.d x.dc,.d x.dk,.d x.df,.d x.dx,.d (.str y.t.nm),.d y.dc,.d y.dk,.d y.df,.d y.dx,.d (eI c.k),.d (.str c.nm),.d (.str c.to),.d (.str c.co.nm),.d (eI c.co.k),.d (.bool c.co.nl),.d (eI c.df.k),.d (eI c.df.n),.d (.str c.df.s)],.ptr 0 0] [.cells [.d (z p)]] (λr os=>r=.tup []/\os=[.cells [.d (z (p+1))]]):=hC
  repeat' first|refine st ?_|((with_reducible first|apply I6|apply D5);(·exact hC);(try rintro _ _ ⟨rfl,rfl⟩))|((with_reducible apply I7);(·exact hC))|((with_reducible apply H6);refine st ?_;(with_reducible apply I5);(·exact rfl);refine st ?_;(with_reducible apply D5);(·exact hC);(try rintro _ _ ⟨rfl,rfl⟩))|(with_reducible first|apply A5|apply A4)<;>intro _
  exact⟨p+1,rfl,rfl,rfl,by omega,by omega,.inl (by omega)⟩
 ·repeat' first|refine st ?_|(with_reducible first|apply A5|apply A4)<;>intro _
  refine G6 A6 C4L C3V (λ(q:Nat)=>[.d (eI q)]) (λq=>[.cells [.d (z q)]]) (λq=>b<=q/\(q<=a\/q=b)) (λq=>q) p rfl rfl rfl rfl (λ_ _=>⟨rfl,rfl⟩) rfl ⟨by omega,by omega⟩ ?_
  repeat' first|refine st ?_|(with_reducible first|apply A5|apply A4)<;>intro _
  intro q ⟨g3,g4⟩
  by_cases hq:b<q
  ·obtain⟨k,rfl⟩:∃k,q=k+1:=⟨q-1,by omega⟩
   obtain⟨s,hs⟩:∃s,S[k]?=some s:=⟨_,C5 (by omega)⟩
   have hg:Es[((((k+1:Nat):Int))-1).toNat]?=some s.ds:=by rw[show((((k+1:Nat):Int))-1).toNat=k by omega];exact hg0 k s hs
   have hC:=hB k s (by omega) (by omega) hs
   obtain⟨x,y,c⟩:=s
   unfold St.ds at hg
   dsimp only at hg
   have hC:B4 Tryz.prog f2 [.agg [.d (.str x.t.nm),.d x.dc,.d x.dk,.d x.df,.d x.dx,.d (.str y.t.nm),.d y.dc,.d y.dk,.d y.df,.d y.dx,.d (eI c.k),.d (.str c.nm),.d (.str c.to),.d (.str c.co.nm),.d (eI c.co.k),.d (.bool c.co.nl),.d (eI c.df.k),.d (eI c.df.n),.d (.str c.df.s)],.ptr 0 0] [.cells [.d (z (k+1))]] (λr os=>r=.tup []/\os=[.cells [.d (z k)]]):=hC
   repeat' first|refine st ?_|((with_reducible first|apply I6|apply D5);(·exact hC);(try rintro _ _ ⟨rfl,rfl⟩))|((with_reducible apply I7);(·exact hC))|((with_reducible apply H6);refine st ?_;(with_reducible apply I5);(·exact rfl);refine st ?_;(with_reducible apply D5);(·exact hC);(try rintro _ _ ⟨rfl,rfl⟩))|(with_reducible first|apply A5|apply A4)<;>intro _
   refine⟨k,?_,rfl,rfl,by omega,by omega,.inl (by omega)⟩
   rw[show((k+1:Nat):Int)-1=k by omega]
  ·have hqb:q=b:=by omega
   subst hqb
   repeat' first|refine st ?_|(with_reducible first|apply A5|apply A4)<;>intro _
   all_goals exact⟨rfl,rfl⟩
def bkT(t:Tb)(c:Ch)(k:Int):Int:=if c.k=1/\k=(t.cs.length:Int) then -1 else if c.k=2/\D8 c.nm t.cs<=k then k+1 else k
def bkI(s:St)(k:Int):Int:=bkT s.x.t s.c k
def fwI(S:List St)(k:Int):Int:=S.foldl (λk s=>A2o s.x.t s.c k) k
def bwI(S:List St)(k:Int):Int:=S.foldr (λs k=>bkI s k) k
theorem C9q(S:List St)(a p:Nat)(s:St)(k:Int)(hap:a<=p)(h:S[p]?=some s):fwI ((S.drop a).take (p+1-a)) k=A2o s.x.t s.c (fwI ((S.drop a).take (p-a)) k):=by
 have e:(S.drop a)[p-a]?=some s:=by rw[A0Y,show a+(p-a)=p by omega];exact h
 unfold fwI
 rw[show p+1-a=(p-a)+1 by omega,S0,e,A3y]
 rfl
theorem C7I(S:List St)(a p:Nat)(s:St)(k:Int)(hpa:p<a)(h:S[p]?=some s):bwI ((S.drop p).take (a-p)) k=bkI s (bwI ((S.drop (p+1)).take (a-(p+1))) k):=by
 obtain⟨hlt,he⟩:=B2.1 h
 rw[V2 hlt,he,show a-p=(a-(p+1))+1 by omega,A2N]
 rfl
def A5o(x:TD)(l:List Ch)(a b k:Int):Int:=
 if R0 x l=false\/a<0\/b<0\/(l.length:Int)<a\/(l.length:Int)<b\/k<0\/((O1 x (l.take a.toNat)).t.cs.length:Int)<=k then -1
 else if a<=b then fwI (((J9 x l).drop a.toNat).take (b.toNat-a.toNat)) k else bwI (((J9 x l).drop b.toNat).take (a.toNat-b.toNat)) k
theorem D06{f1 f2:FuncId}{d x y u v:D}(h:B4 Tryz.prog A6U [.d d,.d x,.d y,.clo f1 [0],.clo f2 [0]] [.cells [.d u]] (λr os=>r=.tup []/\os=[.cells [.d v]])){os:List AO}{id:Nat}(ho:os[id]?=some (.cells [.d u])) :
  B4 Tryz.prog A6U [.d d,.d x,.d y,.clo f1 [id],.clo f2 [id]] os (λr os'=>r=.tup []/\os'=os.set id (.cells [.d v])):=by
 have:=B4.frame (K:=λr' os'=>r'=.tup []/\os'=os.set id (.cells [.d v])) h [id] os rfl (by simp) (λi o hx=>?_) (λz hz=>?_) (λo hx=>?_) ?_
 ·exact this
 ·cases i with
  |zero=>simp at hx;subst hx;exact ho
  |succ i=>simp at hx
 ·simp only[L4,m8,or_false] at hz
  rcases hz with rfl|rfl|rfl|rfl|rfl<;>simp[AV.bnd2,AV.bnd1]
 ·cases Z3.1 hx
  simp[AO.bnd,AV.bnd1]
 ·rintro _ _ ⟨rfl,rfl⟩
  refine⟨rfl,?_⟩
  simp[T6,mO,mC]
theorem B8R(x:TD)(l:List Ch)(a:Nat)(ha:a<=l.length):(r7 x l)[a]?=some (O1 x (l.take a)).cp:=by
 unfold r7
 cases a with
 |zero=>rfl
 |succ i=>
  have hc:l[i]?=some (l[i]'(by omega)):=C5 (by omega)
  rw[Z1,F4,A0U (x:=x) hc,A7U hc,A5k]
  rfl
theorem B6o{t u:Tb}(h:nf t=nf u)(c:Ch):D7 t c=D7 u c:=by rw[<- A2m,h,A2m]
theorem B8U{x y:TD}(h:nf x.t=nf y.t)(c:Ch):nf (x.to c).t=nf (y.to c).t:=by
 unfold TD.to
 rw[B6o h c]
 split
 ·show nf (F3 x.t c)=nf (F3 y.t c)
  rw[<- A4b,h,A4b]
 ·rfl
theorem A9n:∀(l:List Ch){x y:TD},nf x.t=nf y.t->N4 x l=N4 y l/\nf (O1 x l).t=nf (O1 y l).t
 |[],x,y,h=>⟨rfl,h⟩
 |c::r,x,y,h=>by
  have h1:=A9n r (B8U h c)
  exact⟨by rw[N4,N4,B6o h c,h1.1],h1.2⟩
theorem B0t:∀(l:List Ch)(x:TD)(i:Nat),((TD.run x i l).2.2=0↔N4 x l=true)/\(N4 x l=true->(TD.run x i l).1=O1 x l)
 |[],x,i=>⟨by simp[TD.run,N4],λ_=>rfl⟩
 |c::r,x,i=>by
  by_cases hq:D7 x.t c=0
  ·have e1:TD.run x i (c::r)=TD.run (x.evo c) (i+1) r:=by rw[TD.run,if_pos hq]
   have e2:x.to c=x.evo c:=by unfold TD.to;rw[if_pos hq]
   rw[e1,N4,decide_eq_true hq,s0,e2,O1,e2]
   exact B0t r _ _
  ·have e1:TD.run x i (c::r)=(P1,i,D7 x.t c):=by rw[TD.run,if_neg hq]
   rw[e1,N4,decide_eq_false hq,Bool.false_and]
   exact⟨⟨λh=>absurd h hq,λh=>by cases h⟩,λh=>by cases h⟩
theorem B0x(x:TD)(l:List Ch):(x.runsR l).2.2=0↔R0 x l=true:=by
 have h1:=(A4f x l).1
 rw[<- h1]
 unfold TD.runs R0
 by_cases hq:H8 x.t=0
 ·rw[if_pos hq,decide_eq_true hq,s0,(B0t l x.cp 0).1,(A9n l (A2s x)).1]
 ·rw[if_neg hq,decide_eq_false hq,Bool.false_and]
  exact⟨λh=>absurd h hq,λh=>by cases h⟩
theorem D1M(x:TD)(l:List Ch)(h:R0 x l=true):nf (x.runsR l).1.t=nf (O1 x l).t:=by
 rw[<- (A4f x l).2]
 unfold R0 at h
 rw[K7] at h
 have hq:H8 x.t=0:=of_decide_eq_true h.1
 have h2:=A9n l (A2s x)
 unfold TD.runs
 rw[if_pos hq,(B0t l x.cp 0).2 (by rw[h2.1];exact h.2),h2.2]
theorem B8L:∀(l:List Ch)(x:TD)(i:Nat),N4 x l=true->N4 x (l.take i)=true
 |[],x,i,h=>by simpa using h
 |c::r,x,0,h=>rfl
 |c::r,x,i+1,h=>by
  rw[N4,K7] at h
  rw[A2N,N4,h.1,B8L r _ i h.2];rfl
theorem D2a{x:TD}{l:List Ch}(i:Nat)(h:R0 x l=true):R0 x (l.take i)=true:=by
 unfold R0 at *
 rw[K7] at h
 rw[h.1,B8L l x i h.2];rfl
theorem C7z{t:Tb}{c:Ch}(h:D7 t c=0):bkT t c (-1)=-1:=by
 obtain⟨q1,q2,q3,q4,q5⟩:=A0d h
 unfold bkT
 rw[if_neg (by omega)]
 by_cases k2:c.k=2
 ·obtain⟨i,co,hi,_⟩:=A1L (q5 (by omega))
  rw[if_neg (by omega)]
 ·rw[if_neg (λe=>k2 e.1)]
end Go.Proofs
end
section
namespace Go.Bi
open Go Go.Proofs Go.Shelf
def dvn:D->Option Value
 |.nil=>some (.slice none 0 0)
 |d=>dv d
theorem D1s{M:C4}{d:D}{u v:Value}(h:dvn d=some u)(r:Rd M d v):v=u:=by
 cases r<;>simp[dvn,dv] at h<;>exact h
theorem B5m{M:C4}{G:Gh}{os:List AO}{ds:List D}{us:List Value}{vs:Array Value}(hl:ds.map dvn=us.map some)(hl':vs.size=(ds.map AV.d).length)(hv:∀(j:Nat) a v,(ds.map AV.d)[j]?=some a->vs[j]?=some v->VG M G os a v):vs=us.toArray:=by
 have hll:ds.length=us.length:=by have:=congrArg List.length hl;simpa using this
 have hsz:vs.size=us.length:=by rw[hl',C7,hll]
 refine Array.ext (by simpa using hsz) λj h1 h2=>?_
 have hj:j<ds.length:=by omega
 have hj2:j<us.length:=by omega
 have k1:=hv j (.d ds[j]) vs[j] (by simp[hj]) (J1 h1)
 have k2:dvn ds[j]=some us[j]:=by
  have:=congrArg (λl=>l[j]?) hl
  simpa[hj,hj2] using this
 have k3:=D1s k2 k1
 simpa using k3
end Go.Bi
namespace Go.Proofs
open Go.Bi Go.Shelf
theorem C9B:∃i z,Tryz.prog.info? (Tryz.growV_ren.t 25)=some i/\i.zero=some z/\i.size=3/\i.bytes=32/\z.cells.size=3:=by
 have h:(match Tryz.prog.info? (Tryz.growV_ren.t 25) with
  |some i=>(match i.zero with
   |some z=>decide (i.size=3)&&decide (i.bytes=32)&&decide (z.cells.size=3)
   |none=>false)
  |none=>false)=true:=by kernel_rfl
 split at h
 ·rename_i i hi
  split at h
  ·rename_i z hz
   simp only[K7,decide_eq_true_eq] at h
   exact⟨i,z,hi,hz,h.1.1,h.1.2,h.2⟩
  ·cases h
 ·cases h
theorem B6g:Bi.Enters Tryz.prog B4L:=⟨_,Tryz.func112,by kernel_rfl,by decide⟩
theorem C1b(n:Nat)(hn:n<=4194304):B4 Tryz.prog B4L [.d .nil,.d (eI n)] [] (λr os=>r=.arr 0 0/\os=[.arr [] 3 0 (decide (n=0))]):=by
 by_cases h0:n=0
 ·subst h0
  refine B4.own_nil 3 (by decide) ?_
  refine⟨B6g,λM G w vs hE hl hv=>?_⟩
  obtain rfl:=B5m (ds:=[.nil,eI (0:Nat)]) (us:=[.slice none 0 0,.int .i64 (0:Nat)]) rfl hl hv
  refine(Any8.slices_Grow_room Tryz.growV none 0 0 0 w (by omega) (by omega) (by omega) (by omega)).mono ?_
  rintro e w' ⟨rfl,rfl⟩
  exact⟨_,rfl,M,G,.d .nil,[],hE,D9.refl ..,.nil,rfl,rfl⟩
 ·rw[decide_eq_false h0]
  refine⟨B6g,λM G w vs hE hl hv=>?_⟩
  obtain rfl:=B5m (ds:=[.nil,eI (n:Nat)]) (us:=[.slice none 0 0,.int .i64 (n:Nat)]) rfl hl hv
  obtain⟨i,z,h1,h2,h3,h4,h5⟩:=C9B
  refine(Any8.slices_Grow_grow Tryz.growV i z h1 h2 (by omega) none 0 0 n [] w (by omega) (by omega) (by rw[h4];omega) (by omega) (by simp) (λ_=>rfl) (λa ha=>by cases ha)).mono ?_
  rintro e w' ⟨rfl,rfl⟩
  obtain⟨c,hc⟩:∃c,c=grownCap w (0+n) 0 (Tryz.growV_ren.t 25):=⟨_,rfl⟩
  have hge:0+n<=c:=by rw[hc];exact grownCap_ge ..
  have hle:c<=maxLen:=by rw[hc];exact grownCap_le_maxLen _ _ _ _ (by unfold maxLen;omega)
  rw[<- hc]
  obtain⟨ob,hob⟩:∃ob,ob=Obj.cells (([]:List Value).toArray++Builtin.zeroCells z.cells (0+n-0)++Builtin.zeroCells z.cells (c-(0+n))) (Tryz.growV_ren.t 25):=⟨_,rfl⟩
  rw[<- hob]
  have hor:OR M (G.ext ([]:List AO).length w.drew.heap.size c) ([]++[.arr [] 3 0 false]) (w.drew.alloc ob) ([]:List AO).length (.arr [] 3 0 false):=by
   refine⟨by omega,by simp,by simp,λh=>(by cases h),λ_=>⟨_,_,by rw[show(G.ext ([]:List AO).length w.drew.heap.size c).blk ([]:List AO).length=w.drew.heap.size by simp[Gh.ext],hob];exact u6 w.drew _,?_,by simp,by simpa[Gh.ext] using hle,λi j y x hi hj=>by simp at hi,λk hk=>by omega⟩⟩
   simp only[Array.size_append,size_zeroCells,h5,Gh.ext,if_true,A2M,m7]
   omega
  have e1:=A1O hE.drew (.arr [] 3 0 false) ob c (λa v h=>t6 a v h) hor (λ_ es sz frz nl h=>by cases h;rfl)
  have s1:=(A1X M G [] w).trans (A0T hE.drew (.arr [] 3 0 false) ob c)
  refine⟨_,rfl,M,_,.arr 0 0,_,e1,s1,⟨rfl,[],3,0,false,rfl,I4 _,λ_=>?_⟩,rfl,rfl⟩
  simp[Gh.slv,Gh.ext]
end Go.Proofs
end
section
namespace Go.Proofs
open Go.Bi
def S2(L:List (D×List (List D))):List (List D):=(L.map (·.2)).flatten
theorem B5C{L:List (D×List (List D))}{i:Nat}{p:D×List (List D)}(h:L[i]?=some p):S2 (L.take (i+1))=S2 (L.take i)++p.2:=by
 unfold S2
 rw[S0,h];simp
theorem C7R(L:List (D×List (List D)))(i:Nat):(S2 (L.take i)).length<=(S2 L).length:=by
 have e:S2 L=S2 (L.take i)++S2 (L.drop i):=by unfold S2;rw[<- List.flatten_append,<- A11,List.take_append_drop]
 rw[e,M7];omega
theorem B1n(L:List (D×List (List D)))(hLl:L.length<=1000)(hL:∀p∈L,B8 p.1 p.2/\∀e∈p.2,e.length=3)(hT:(S2 L).length<=4194304) :
  B4 Tryz.prog A71 [.d (.sl (L.map λp=>[p.1]))] [] (λr os=>r=.arr 0 (S2 L).length/\os=[.arr (S2 L) 3 0 (decide ((S2 L).length=0))]):=by
 have hG:=C1b (S2 L).length hT
 obtain⟨n,hn⟩:∃n,n=(S2 L).length:=⟨_,rfl⟩
 have hle:∀i,(S2 (L.take i)).length<=n:=λi=>by rw[hn];exact C7R L i
 rw[<- hn] at hG hT ⊢
 obtain⟨b,hb⟩:∃b,b=decide (n=0):=⟨_,rfl⟩
 rw[<- hb] at hG ⊢
 have hEl:(L.map λp=>[p.1]).length=L.length:=C7 ..
 have hEg:∀(i:Nat) p,L[i]?=some p->(L.map λp=>[p.1])[i]?=some [p.1]:=λi p h=>by rw[F4,h];rfl
 have hEm:∀e∈(L.map λp=>[p.1]),e.length=1:=λe he=>by obtain⟨p,_,rfl⟩:=E6.1 he;rfl
 obtain⟨Es,hEs⟩:∃z,z=L.map λp=>[p.1]:=⟨_,rfl⟩
 rw[<- hEs] at hEl hEg hEm ⊢
 clear hEs
 refine C2K.goO A6 rfl ?_
 repeat' first|refine st ?_|(with_reducible first|apply A5|apply A4)<;>intro _
 refine G6 A6 C4U C44 (λ(i:Nat)=>[.d (eI (S2 (L.take i)).length),.d (eI i)]) (λi=>[]) (λi=>i<=L.length) (λi=>L.length-i) 0 rfl rfl rfl rfl (λ_ _=>⟨rfl,rfl⟩) rfl (S8 _) ?_
 repeat' first|refine st ?_|(with_reducible first|apply A5|apply A4)<;>intro _
 intro i h4
 have hli:=hle i
 cases hx:L[i]? with
 |some p=>
  have hlt:=(B2.1 hx).1
  have hg:=hEg i p hx
  have hs:=B5C hx
  have hl2:=hle (i+1)
  obtain⟨h5,h6⟩:=hL p (C3 hx)
  have hs2:((S2 (L.take (i+1))).length:Int)=(S2 (L.take i)).length+p.2.length:=by rw[hs,M7];omega
  obtain⟨m,hm⟩:∃m,m=(S2 (L.take i)).length:=⟨_,rfl⟩
  rw[<- hm] at hs2 hli ⊢
  obtain⟨d,l⟩:=p
  dsimp only at hg hs2 h5 h6
  rcases h5 with ⟨rfl,rfl⟩|rfl
  ·repeat' first|refine st ?_|(with_reducible first|apply A5|apply A4)<;>intro _
   exact⟨i+1,by rw[hs2];rfl,rfl,rfl,by omega,by omega⟩
  ·repeat' first|refine st ?_|(with_reducible first|apply A5|apply A4)<;>intro _
   exact⟨i+1,by rw[hs2];rfl,rfl,rfl,by omega,by omega⟩
 |none=>
  have hge:=E4.1 hx
  rw[P2 hge,<- hn]
  repeat' first|refine st ?_|((with_reducible first|apply I6|apply D5);(·exact hG);(try rintro _ _ ⟨rfl,rfl⟩))|((with_reducible apply I7);(·exact hG))|((with_reducible apply H6);refine st ?_;(with_reducible apply I5);(·exact rfl);refine st ?_;(with_reducible apply D5);(·exact hG);(try rintro _ _ ⟨rfl,rfl⟩))|(with_reducible first|apply A5|apply A4)<;>intro _
  refine P5 A6 C4V C45 (λ(j:Nat) (A:List (List D))=>[.arr 0 A.length,.d (eI j)]) (λj A=>[.arr A 3 0 b]) (λj A=>j<=L.length/\A=S2 (L.take j)) (λj A=>L.length-j) 0 [] rfl rfl rfl rfl (λ_ _ _=>⟨rfl,rfl⟩) rfl ⟨S8 _,rfl⟩ ?_
  repeat' first|refine st ?_|(with_reducible first|apply A5|apply A4)<;>intro _
  intro j A ⟨g1,g2⟩
  have hlj:=hle j
  cases hy:L[j]? with
  |some p=>
   have hlt:=(B2.1 hy).1
   have hg:=hEg j p hy
   have hs:=B5C hy
   have hl2:=hle (j+1)
   obtain⟨h5,h6⟩:=hL p (C3 hy)
   rw[<- g2] at hs hlj
   rw[hs,M7] at hl2
   obtain⟨d,l⟩:=p
   dsimp only at hg hs h5 h6 hl2
   have hbd:(A.length+l.length)*32<=140737488355328/\A.length+l.length<=9223372036854775807:=by omega
   rcases h5 with ⟨rfl,rfl⟩|rfl
   ·repeat' first|refine st ?_|(with_reducible first|apply A5|apply A4)<;>intro _
    all_goals exact⟨j+1,A++[],by simp,by simp,rfl,by omega,by omega,by rw[hs]⟩
   ·cases l with
    |nil=>
     repeat' first|refine st ?_|(with_reducible first|apply A5|apply A4)<;>intro _
     all_goals exact⟨j+1,A++[],by simp,by simp,rfl,by omega,by omega,by rw[hs]⟩
    |cons e r=>
     have hb0:b=false:=by rw[hb];exact decide_eq_false (by simp at hl2;omega)
     subst hb0
     repeat' first|refine st ?_|(with_reducible first|apply A5|apply A4)<;>intro _
     all_goals exact⟨j+1,A++e::r,rfl,rfl,rfl,by omega,by omega,by rw[hs]⟩
  |none=>
   have hge2:=E4.1 hy
   rw[P2 hge2] at g2
   have hAl:A.length=n:=by rw[g2,hn]
   subst g2
   repeat' first|refine st ?_|(with_reducible first|apply A5|apply A4)<;>intro _
   all_goals exact⟨by rw[hAl],rfl⟩
theorem C1m(row:List Vl)(ks:List Int)(hr:row.length<=1048576)(hk:ks.length<=1048577)(hrs:∀v∈row,v.s.length<=1048576)(dr:D)(hdr:B8 dr (D6 row))(dk:D)(hdk:B8 dk (A0 ks)):Pure Tryz.prog B4R [.d dr,.d dk] (.d (.bool (K6 row ks))):=by
 refine C2R.go A6 rfl ?_
 have h1:=Y5 row
 have hm:=A0H row
 have h2:=B6 ks
 have hm2:=D4 ks
 obtain⟨q,hq⟩:∃q,q=K6 row ks:=⟨_,rfl⟩
 rw[<- hq]
 by_cases hl:row.length=ks.length
 rotate_left
 ·have:q=false:=by rw[hq,K6,decide_eq_false hl];rfl
  rw[this]
  repeat' first|refine st ?_|((with_reducible apply D1);conv=>whnf)|(with_reducible first|apply A5|apply A4)<;>intro _
  all_goals first|rfl|(exfalso;omega)
 unfold K6 at hq
 rw[decide_eq_true hl,s0] at hq
 have hl2:(D6 row).length=(A0 ks).length:=by omega
 repeat' first|refine st ?_|((with_reducible apply D1);conv=>whnf)|(with_reducible first|apply A5|apply A4)<;>intro _
 refine G6 A6 C4X C47 (λ(i:Nat)=>[.d (eI i)]) (λi=>[]) (λi=>i<=row.length/\((row.zip ks).take i).all (λp=>k8 p.1 p.2)=true) (λi=>row.length-i) 0 rfl rfl rfl rfl (λ_ _=>⟨rfl,rfl⟩) rfl ⟨by omega,rfl⟩ ?_
 repeat' first|refine st ?_|((with_reducible apply D1);conv=>whnf)|(with_reducible first|apply A5|apply A4)<;>intro _
 intro i ⟨h4,h5⟩
 cases hx:row[i]? with
 |some v=>
  have hlt:=(B2.1 hx).1
  obtain⟨k,hkx⟩:∃k,ks[i]?=some k:=⟨_,C5 (by omega)⟩
  have hz:(row.zip ks)[i]?=some (v,k):=A6F.2 ⟨hx,hkx⟩
  have hg:=A5u hx
  have hg2:=O2 hkx
  have hV:=A4G v (P3 (hrs v (C3 hx)) (by omega))
  have hs:=C7f (p:=λp=>k8 p.1 p.2) hz
  rw[h5,s0] at hs
  dsimp only at hs
  cases hv:N6 v with
  |false=>
   rw[hv] at hV
   have hb:k8 v k=false:=by rw[k8,hv];rfl
   have hf:=B5h (p:=λp=>k8 p.1 p.2) hz hb
   rw[hf] at hq
   repeat' first|refine st ?_|((with_reducible apply D1);conv=>whnf)|((with_reducible first|apply A9|apply A8);(·exact hV))|(with_reducible first|apply A5|apply A4)<;>intro _
   all_goals (rw[hq])
  |true=>
   rw[hv] at hV
   by_cases hk0:v.k=0
   ·have hb:k8 v k=true:=by rw[k8,hv,decide_eq_true hk0];rfl
    repeat' first|refine st ?_|((with_reducible apply D1);conv=>whnf)|((with_reducible first|apply A9|apply A8);(·exact hV))|(with_reducible first|apply A5|apply A4)<;>intro _
    all_goals exact⟨i+1,rfl,rfl,rfl,by omega,by omega,hs.trans hb⟩
   ·by_cases hkk:v.k=k
    ·have hb:k8 v k=true:=by rw[k8,hv,decide_eq_true hkk];simp
     repeat' first|refine st ?_|((with_reducible apply D1);conv=>whnf)|((with_reducible first|apply A9|apply A8);(·exact hV))|(with_reducible first|apply A5|apply A4)<;>intro _
     all_goals exact⟨i+1,rfl,rfl,rfl,by omega,by omega,hs.trans hb⟩
    ·have hb:k8 v k=false:=by rw[k8,hv,decide_eq_false hkk,decide_eq_false hk0];rfl
     have hf:=B5h (p:=λp=>k8 p.1 p.2) hz hb
     rw[hf] at hq
     repeat' first|refine st ?_|((with_reducible apply D1);conv=>whnf)|((with_reducible first|apply A9|apply A8);(·exact hV))|(with_reducible first|apply A5|apply A4)<;>intro _
     all_goals (rw[hq])
 |none=>
  have hge:=E4.1 hx
  rw[P2 (by rw[List.length_zip];omega)] at h5
  rw[h5] at hq
  repeat' first|refine st ?_|((with_reducible apply D1);conv=>whnf)|(with_reducible first|apply A5|apply A4)<;>intro _
  all_goals (rw[hq])
theorem A8e(l:List (List D))(hl:l.length<=1048577)(hm:∀e∈l,e.length=3)(d:D)(hd:B8 d l):B4 Tryz.prog A8S [.d d] [] (λr os=>r=.arr 0 l.length/\os=[.arr l 3 0 (A7 d)]):=by
 rcases hd with ⟨rfl,rfl⟩|rfl
 ·refine B4.own_nil 3 (by decide) ?_
  refine B1K.go A6 rfl ?_
  repeat' first|refine st ?_|((with_reducible apply D1);conv=>whnf)|(with_reducible first|apply A5|apply A4)<;>intro _
 ·refine B1K.goO A6 rfl ?_
  have h0:([]:List (List D)).length=0:=rfl
  have h00:(([]:List (List D))++l).length=l.length:=rfl
  have hb:(([]:List (List D)).length+l.length)*32<=140737488355328/\([]:List (List D)).length+l.length<=9223372036854775807:=by rw[h0];omega
  repeat' first|refine st ?_|((with_reducible apply D1);conv=>whnf)|(with_reducible first|apply A5|apply A4)<;>intro _
  all_goals (refine⟨rfl,?_⟩;cases l<;>rfl)
theorem A7D{P:Program}{f:FuncId}{args:List AV}{l:List (List D)}{sz frz:Nat}{nl:Bool}(h:B4 P f args [] (λr os=>r=.arr 0 l.length/\os=[.arr l sz frz nl])):Pure P f args (.d (B9 nl l)):=
 h.deepP λr os h1=>by
  obtain⟨rfl,rfl⟩:=h1
  exact .inl (.inl ⟨_,.inl (.inr ⟨0,l,sz,frz,nl,rfl,rfl,rfl⟩),rfl⟩)
theorem A6r(l:List (List D))(hl:l.length<=1048577)(hm:∀e∈l,e.length=3)(d:D)(hd:B8 d l):Pure Tryz.prog A8S [.d d] (.d d):=by
 have h:=A7D (A8e l hl hm d hd)
 rwa [O4 hd] at h
def jn(l:List (List D)):D:=B9 (decide (l.length=0)) l
theorem C04(d1 d2:D)(l1 l2:List (List D))(h1:B8 d1 l1)(h2:B8 d2 l2)(m1:∀e∈l1,e.length=3)(m2:∀e∈l2,e.length=3)(hT:l1.length+l2.length<=4194304) :
  Pure Tryz.prog A71 [.d (.sl [[d1],[d2]])] (.d (jn (l1++l2))):=by
 have e:S2 [(d1,l1),(d2,l2)]=l1++l2:=by simp[S2]
 have h:=A7D (B1n [(d1,l1),(d2,l2)] (by simp) (λp hp=>by simp at hp;rcases hp with rfl|rfl<;>first|exact⟨h1,m1⟩|exact⟨h2,m2⟩) (by rw[e,M7];exact hT))
 rw[e] at h
 exact h
theorem C05(d1 d2 d3:D)(l1 l2 l3:List (List D))(h1:B8 d1 l1)(h2:B8 d2 l2)(h3:B8 d3 l3)(m1:∀e∈l1,e.length=3)(m2:∀e∈l2,e.length=3)(m3:∀e∈l3,e.length=3)(hT:l1.length+l2.length+l3.length<=4194304) :
  Pure Tryz.prog A71 [.d (.sl [[d1],[d2],[d3]])] (.d (jn (l1++l2++l3))):=by
 have e:S2 [(d1,l1),(d2,l2),(d3,l3)]=l1++l2++l3:=by simp[S2]
 have h:=A7D (B1n [(d1,l1),(d2,l2),(d3,l3)] (by simp) (λp hp=>by simp at hp;rcases hp with rfl|rfl|rfl<;>first|exact⟨h1,m1⟩|exact⟨h2,m2⟩|exact⟨h3,m3⟩) (by rw[e,M7,M7];exact hT))
 rw[e] at h
 exact h
theorem B1o(d1 d2:D)(l1 l2:List (List D))(h1:B8 d1 l1)(h2:B8 d2 l2)(m1:∀e∈l1,e.length=3)(m2:∀e∈l2,e.length=3)(hT:l1.length+l2.length<=4194304) :
  Pure Tryz.prog B4Q [.d d1,.d d2] (.d (jn (l1++l2))):=by
 have h:=C04 d1 d2 l1 l2 h1 h2 m1 m2 hT
 obtain⟨q,hq⟩:∃q,q=jn (l1++l2):=⟨_,rfl⟩
 rw[<- hq] at h ⊢
 refine C2Q.go A6 rfl ?_
 repeat' first|refine st ?_|((with_reducible apply D1);conv=>whnf)|((with_reducible first|apply A9|apply A8);(·exact h))|(with_reducible first|apply A5|apply A4)<;>intro _
 all_goals rfl
theorem C0x(f:FuncId)(l:List (List D))(hl:l.length<=1048577)(hm:∀e∈l,e.length=3)(i:Nat)(v w:Vl)(hv:l[i]?=some v.ds)(hf:Pure Tryz.prog f [eV v] (eV w)):Pure Tryz.prog A8P [.d (.sl l),.d (eI i),.d (.fn f)] (.d (.sl (l.set i w.ds))):=by
 have hC:=A8e l hl hm (.sl l) (.inr rfl)
 have hlt:=(B2.1 hv).1
 have hsl:(l.set i w.ds).length=l.length:=by simp
 refine A7D (l:=l.set i w.ds) (sz:=3) (frz:=0) (nl:=false) ?_
 refine B1E.goO A6 rfl ?_
 repeat' first|refine st ?_|((with_reducible apply D1);conv=>whnf)|((with_reducible first|apply A9|apply A8);(·exact hf))|((with_reducible first|apply I6|apply D5);(·exact hC);(try rintro _ _ ⟨rfl,rfl⟩))|((with_reducible apply I7);(·exact hC))|((with_reducible apply H6);refine st ?_;(with_reducible apply I5);(·exact rfl);refine st ?_;(with_reducible apply D5);(·exact hC);(try rintro _ _ ⟨rfl,rfl⟩))|(with_reducible first|apply A5|apply A4)<;>intro _
 all_goals exact⟨by rw[hsl];rfl,rfl⟩
end Go.Proofs
end
