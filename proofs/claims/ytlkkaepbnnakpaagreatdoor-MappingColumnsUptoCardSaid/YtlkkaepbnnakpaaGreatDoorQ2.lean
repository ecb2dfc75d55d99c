/- Texts of this claim, joined. No condition. -/
import Derived.Test.YtlkkaepbnnakpaaGreatDoorQ1
set_option linter.unusedSimpArgs false
set_option linter.unusedVariables false
set_option maxRecDepth 10000
set_option maxHeartbeats 4000000
section
namespace Go.Proofs
open Go.Bi
theorem A83(old new:List UInt8)(h:new.length<=old.length):∀(n:Nat)(s:List UInt8),(P7 old new n s).length<=s.length
 |0,s=>G9 _
 |n+1,[]=>G9 _
 |n+1,c::s=>by
  rw[P7]
  split
  ·rename_i hp
   have h1:=A83 old new h n ((c::s).drop old.length)
   have h2:old.length<=(c::s).length:=by
    have:=List.isPrefixOf_iff_prefix.1 hp
    exact this.length_le
   rw[K4]
   rw[Y4] at h1
   omega
  ·have h1:=A83 old new h n s
   simp only[I7];omega
def y7(r:List UInt8):Vl×Int:=
 if S8 39 r=false\/V8 r.dropLast=false then (F2,1)
 else match N8 r.dropLast with
  |none=>(F2,1)
  |some t=>if 200<t.length then (F2,5) else (⟨2,0,t⟩,0)
theorem C2u(r:List UInt8)(hr:r.length<=1048576):Pure Tryz.prog A9y [.d (.str r)] (.tup [eV (y7 r).1,.d (eI (y7 r).2)]):=by
 have hC:=C2k r (by omega) 39
 have hN:=A3v
 obtain⟨q,hq⟩:∃q,q=y7 r:=⟨_,rfl⟩
 rw[<- hq]
 unfold y7 at hq
 cases hb:S8 39 r with
 |false=>
  rw[hb] at hC hq
  rw[if_pos (.inl rfl)] at hq
  subst hq
  refine A4T.go A6 rfl ?_
  repeat' first|refine st ?_|((with_reducible first|apply A8|apply A7);(·first|exact hC|exact hN))|(with_reducible first|apply A5|apply A4)<;>intro _
  all_goals rfl
 |true=>
  rw[hb] at hC hq
  rw[if_pos rfl] at hC
  have hl:r.dropLast.length<=1048576:=by rw[List.length_dropLast];omega
  obtain⟨s,hs⟩:∃s,s=r.dropLast:=⟨_,rfl⟩
  rw[<- hs] at hC hq hl
  clear hb hs
  have hP:=B27 s (by omega)
  simp only[A4A,false_or] at hq
  cases hp:V8 s with
  |false=>
   rw[hp] at hP hq
   rw[if_pos rfl] at hq
   subst hq
   refine A4T.go A6 rfl ?_
   repeat' first|refine st ?_|((with_reducible first|apply A8|apply A7);(·first|exact hC|exact hN|exact hP))|(with_reducible first|apply A5|apply A4)<;>intro _
   all_goals rfl
  |true=>
   rw[hp] at hP hq
   rw[if_neg (by decide)] at hq
   have hA:=A8D s [39,39] [] (by omega) (by decide) (by decide)
   have hB:=A8D s [39,39] [39] (by omega) (by decide) (by decide)
   rw[B9q _ _ _ (by decide) (by decide)] at hA hB
   have hl2:=A83 [39,39] [] (by decide) s.length s
   have hD:=C2i (P7 [39,39] [] s.length s) [39] (by omega)
   rw[C9S] at hD
   obtain⟨u1,u2⟩:=B0Y s.length s (G9 _)
   have hl3:=A83 [39,39] [39] (by decide) s.length s
   obtain⟨A,hAA⟩:∃A,A=P7 [39,39] [] s.length s:=⟨_,rfl⟩
   obtain⟨B,hBB⟩:∃A,A=P7 [39,39] [39] s.length s:=⟨_,rfl⟩
   rw[<- hAA] at hA hD u1 u2 hl2
   rw[<- hBB] at hB u2 hl3
   clear hAA hBB hp
   cases hu:N8 s with
   |none=>
    rw[hu] at hq
    dsimp only at hq
    subst hq
    rw[decide_eq_true (u1 hu)] at hD
    clear hu u1 u2
    refine A4T.go A6 rfl ?_
    repeat' first|refine st ?_|((with_reducible first|apply A8|apply A7);(·first|exact hC|exact hN|exact hP|exact hA|exact hD))|(with_reducible first|apply A5|apply A4)<;>intro _
    all_goals rfl
   |some t=>
    obtain⟨v1,rfl⟩:=u2 t hu
    rw[hu] at hq
    dsimp only at hq
    rw[decide_eq_false v1] at hD
    clear hu u1 u2
    by_cases ht:200<B.length
    ·rw[if_pos ht] at hq
     subst hq
     refine A4T.go A6 rfl ?_
     repeat' first|refine st ?_|((with_reducible first|apply A8|apply A7);(·first|exact hC|exact hN|exact hP|exact hA|exact hD|exact hB))|(with_reducible first|apply A5|apply A4)<;>intro _
     all_goals rfl
    ·rw[if_neg ht] at hq
     subst hq
     refine A4T.go A6 rfl ?_
     repeat' first|refine st ?_|((with_reducible first|apply A8|apply A7);(·first|exact hC|exact hN|exact hP|exact hA|exact hD|exact hB))|(with_reducible first|apply A5|apply A4)<;>intro _
     all_goals rfl
theorem u8w{x:Int}(h0:0<=x)(h1:x<256):IntKind.u8.wrap x=x:=by
 simp[IntKind.wrap,IntKind.bits,IntKind.signed]
 omega
theorem A5G{x:Int}(h0:0<=x)(h1:x<4611686018427387904):IntKind.i64.wrap x=x:=C0a (by omega) (by omega)
def V7(n:Int):List UInt8->Option Int
 |[]=>some n
 |c::r=>if c.toNat<48\/57<c.toNat then none else V7 (min (10*n+((c.toNat:Int)-48)) 1125899906842625) r
def A0n(s:List UInt8):Vl×Int:=
 if (if K9 45 s then s.tail else s)=[]\/((if K9 45 s then s.tail else s).getD 0 0=48/\(K9 45 s=true\/1<(if K9 45 s then s.tail else s).length)) then (F2,1)
 else match V7 0 (if K9 45 s then s.tail else s) with
  |none=>(F2,1)
  |some n=>if 1125899906842624<n then (F2,6) else (⟨1,if K9 45 s then 0-n else n,[]⟩,0)
theorem C2t (s : List UInt8) (hs : s.length ≤ 1048576) : Pure Tryz.prog A9x [.d (.str s)] (.tup [eV (A0n s).1, .d (eI (A0n s).2)]) := by
  have hC := C2j s (by omega) 45
  have hN := A3v
  obtain ⟨q, hq⟩ : ∃ q, q = A0n s := ⟨_, rfl⟩
  rw [← hq]
  unfold A0n at hq
  obtain ⟨d, hd⟩ : ∃ d, d = (if K9 45 s then s.tail else s) := ⟨_, rfl⟩
  obtain ⟨g, hg⟩ : ∃ g, g = K9 45 s := ⟨_, rfl⟩
  have hdl : d.length ≤ 1048576 := by
    rw [hd]
    split
    · rw [List.length_tail]; omega
    · exact hs
  rw [← hd, ← hg] at hq hC
  clear hd hg
  cases d with
  | nil =>
    rw [if_pos (.inl rfl)] at hq
    subst hq
    refine A8O.go A6 rfl ?_
    repeat' first|refine st ?_|((with_reducible first|apply A8|apply A7);(·first|exact hC|exact hN))|(with_reducible first|apply A5|apply A4)<;>intro _
    all_goals first | rfl | (exfalso; simp_all; done)
  | cons c0 r =>
    have hl0 : (c0 :: r).length = r.length + 1 := rfl
    have hg0 : (c0 :: r).getD ((0 : Int)).toNat 0 = c0 := rfl
    have hg1 : (c0 :: r).getD 0 0 = c0 := rfl
    by_cases h0 : c0 = 48 ∧ (g = true ∨ 1 < (c0 :: r).length)
    · rw [if_pos (.inr h0)] at hq
      subst hq
      obtain ⟨rfl, h0⟩ := h0
      refine A8O.go A6 rfl ?_
      cases g with
      | true =>
        repeat' first|(rw [hg0])|refine st ?_|((with_reducible first|apply A8|apply A7);(·first|exact hC|exact hN))|(with_reducible first|apply A5|apply A4)<;>intro _
        all_goals first | rfl | (exfalso; simp_all; done)
      | false =>
        have h0 : 1 < r.length + 1 := by rcases h0 with h | h; · cases h
                                         exact h
        repeat' first|(rw [hg0])|refine st ?_|((with_reducible first|apply A8|apply A7);(·first|exact hC|exact hN))|(with_reducible first|apply A5|apply A4)<;>intro _
        all_goals first | rfl | (exfalso; simp_all; done)
    · rw [if_neg (by rintro (h | h); · cases h
                     exact h0 h)] at hq
      have hcase : (c0.toNat : Int) = 48 → g = false ∧ r = [] := by
        intro hc
        have hc2 : c0 = 48 := A2f.1 (by simpa using (by omega : c0.toNat = 48))
        refine ⟨?_, ?_⟩
        · cases g with
          | false => rfl
          | true => exact absurd ⟨hc2, .inl rfl⟩ h0
        · cases r with
          | nil => rfl
          | cons x y => exact absurd ⟨hc2, .inr (by simp)⟩ h0
      clear h0 hg1
      have fin : ∀ (K : Prop), (((c0.toNat : Int) = 48 ∧ g = false ∧ (c0 :: r).length = 1) → K) → (¬ (c0.toNat : Int) = 48 → K) → K := fun K k1 k2 => by
        by_cases hc : (c0.toNat : Int) = 48
        · obtain ⟨e1, e2⟩ := hcase hc
          exact k1 ⟨hc, e1, by rw [e2]; rfl⟩
        · exact k2 hc
      clear hcase
      refine A8O.go A6 rfl ?_
      obtain ⟨ds, hD⟩ : ∃ ds, ds = c0 :: r := ⟨_, rfl⟩
      have hDn : ¬ ds = [] := by rw [hD]; simp
      have hDl : 0 < ds.length := by rw [hD]; simp
      rw [← hD] at hC hq hdl hg0 fin
      clear hD hl0
      obtain ⟨F0, hF0⟩ : ∃ z, z = V7 0 ds := ⟨_, rfl⟩
      rw [← hF0] at hq
      refine fin _ ?_ ?_
      all_goals intro hc
      all_goals clear fin
      · obtain ⟨hc, rfl, hc2⟩ := hc
        repeat' first|(rw [hg0])|refine st ?_|((with_reducible first|apply A8|apply A7);(·first|exact hC|exact hN))|(with_reducible first|apply A5|apply A4)<;>intro _
        refine J1 A6 B4X B4M (fun (i : Nat) (n : Int) => [.d (eI n), .d (eI i)]) (fun i n => [.cells [.d (eI 0), .d (eI 0), .d (.str [])]]) (fun i n => i ≤ ds.length ∧ 0 ≤ n ∧ n ≤ 1125899906842625 ∧ V7 n (ds.drop i) = F0) (fun i n => ds.length - i) 0 0 rfl rfl rfl rfl (fun _ _ _ => ⟨rfl, rfl⟩) rfl ⟨by omega, by omega, by omega, hF0.symm⟩ ?_
        clear hg0 hc hF0
        repeat' first|refine st ?_|(with_reducible first|apply A5|apply A4)<;>intro _
        intro i n ⟨g1, g2, g3, g4⟩
        cases hx : ds[i]? with
        | some c =>
          obtain ⟨hlt, he⟩ := B3.1 hx
          have hg : ds.getD ((i : Int)).toNat 0 = c := by simp [E7, hx]
          have h256 : c.toNat < 256 := UInt8.toNat_lt c
          rw [S5 hlt, he, V7] at g4
          clear he
          by_cases hbad : c.toNat < 48 ∨ 57 < c.toNat
          · rw [if_pos hbad] at g4
            subst g4
            dsimp only at hq
            subst hq
            repeat' first|(rw [hg])|refine st ?_|((with_reducible first|apply A8|apply A7);(·exact hN))|(with_reducible first|apply A5|apply A4)<;>intro _
            all_goals first | rfl | (exfalso; omega)
          · rw [if_neg hbad] at g4
            repeat' first|(rw [hg])|refine st ?_|((with_reducible first|apply A8|apply A7);(·exact hN))|(with_reducible first|apply A5|apply A4)<;>intro _
            all_goals exact ⟨i + 1, min (10 * n + ((c.toNat : Int) - 48)) 1125899906842625, by rw [u8w (by omega) (by omega), A5G (x := (c.toNat : Int) - 48) (by omega) (by omega), A5G (by omega) (by omega)]; rfl, rfl, rfl, by omega, by omega, by omega, by omega, g4⟩
        | none =>
          have hge := D8.1 hx
          rw [A1x hge, V7] at g4
          subst g4
          dsimp only at hq
          by_cases hbig : 1125899906842624 < n
          · rw [if_pos hbig] at hq
            subst hq
            repeat' first|refine st ?_|((with_reducible first|apply A8|apply A7);(·exact hN))|(with_reducible first|apply A5|apply A4)<;>intro _
            all_goals rfl
          · rw [if_neg hbig] at hq
            subst hq
            repeat' first|refine st ?_|((with_reducible first|apply A8|apply A7);(·exact hN))|(with_reducible first|apply A5|apply A4)<;>intro _
            all_goals rfl
      · repeat' first|(rw [hg0])|refine st ?_|((with_reducible first|apply A8|apply A7);(·first|exact hC|exact hN))|(with_reducible first|apply A5|apply A4)<;>intro _
        refine J1 A6 B4X B4M (fun (i : Nat) (n : Int) => [.d (eI n), .d (eI i)]) (fun i n => [.cells [.d (eI 0), .d (eI 0), .d (.str [])]]) (fun i n => i ≤ ds.length ∧ 0 ≤ n ∧ n ≤ 1125899906842625 ∧ V7 n (ds.drop i) = F0) (fun i n => ds.length - i) 0 0 rfl rfl rfl rfl (fun _ _ _ => ⟨rfl, rfl⟩) rfl ⟨by omega, by omega, by omega, hF0.symm⟩ ?_
        clear hg0 hc hF0
        repeat' first|refine st ?_|(with_reducible first|apply A5|apply A4)<;>intro _
        intro i n ⟨g1, g2, g3, g4⟩
        cases hx : ds[i]? with
        | some c =>
          obtain ⟨hlt, he⟩ := B3.1 hx
          have hg : ds.getD ((i : Int)).toNat 0 = c := by simp [E7, hx]
          have h256 : c.toNat < 256 := UInt8.toNat_lt c
          rw [S5 hlt, he, V7] at g4
          clear he
          by_cases hbad : c.toNat < 48 ∨ 57 < c.toNat
          · rw [if_pos hbad] at g4
            subst g4
            dsimp only at hq
            subst hq
            repeat' first|(rw [hg])|refine st ?_|((with_reducible first|apply A8|apply A7);(·exact hN))|(with_reducible first|apply A5|apply A4)<;>intro _
            all_goals first | rfl | (exfalso; omega)
          · rw [if_neg hbad] at g4
            repeat' first|(rw [hg])|refine st ?_|((with_reducible first|apply A8|apply A7);(·exact hN))|(with_reducible first|apply A5|apply A4)<;>intro _
            all_goals exact ⟨i + 1, min (10 * n + ((c.toNat : Int) - 48)) 1125899906842625, by rw [u8w (by omega) (by omega), A5G (x := (c.toNat : Int) - 48) (by omega) (by omega), A5G (by omega) (by omega)]; rfl, rfl, rfl, by omega, by omega, by omega, by omega, g4⟩
        | none =>
          have hge := D8.1 hx
          rw [A1x hge, V7] at g4
          subst g4
          dsimp only at hq
          by_cases hbig : 1125899906842624 < n
          · rw [if_pos hbig] at hq
            subst hq
            repeat' first|refine st ?_|((with_reducible first|apply A8|apply A7);(·exact hN))|(with_reducible first|apply A5|apply A4)<;>intro _
            all_goals rfl
          · rw [if_neg hbig] at hq
            subst hq
            cases g with
            | true =>
              repeat' first|refine st ?_|((with_reducible first|apply A8|apply A7);(·exact hN))|(with_reducible first|apply A5|apply A4)<;>intro _
              all_goals rfl
            | false =>
              repeat' first|refine st ?_|((with_reducible first|apply A8|apply A7);(·exact hN))|(with_reducible first|apply A5|apply A4)<;>intro _
              all_goals rfl
def Z2(s:List UInt8):Vl×Int:=
 if s=[78,85,76,76] then (F2,0) else if s=[84,82,85,69] then (w4 true,0) else if s=[70,65,76,83,69] then (w4 false,0)
 else if K9 39 s=true then y7 s.tail else A0n s
theorem C2q(s:List UInt8)(hs:s.length<=1048576):Pure Tryz.prog B67 [.d (.str s)] (.tup [eV (Z2 s).1,.d (eI (Z2 s).2)]):=by
 have hN:=A3v
 have hT:=C2o (decide (s=[84,82,85,69]))
 have hP:=C2l s (by omega) 39
 have hI:=C2t s hs
 obtain⟨q,hq⟩:∃q,q=Z2 s:=⟨_,rfl⟩
 rw[<- hq]
 unfold Z2 at hq
 by_cases h1:s=[78,85,76,76]
 ·rw[if_pos h1] at hq
  subst hq
  refine A4S.go A6 rfl ?_
  repeat' first|refine st ?_|((with_reducible first|apply A8|apply A7);(·exact hN))|(with_reducible first|apply A5|apply A4)<;>intro _
  all_goals rfl
 rw[if_neg h1] at hq
 by_cases h2:s=[84,82,85,69]
 ·rw[if_pos h2] at hq
  subst hq
  rw[decide_eq_true h2] at hT
  have hT:Bi.Pure Tryz.prog A5a [.d (.bool (decide (s=[84,82,85,69])))] (eV (w4 true)):=by rw[decide_eq_true h2];exact hT
  refine A4S.go A6 rfl ?_
  repeat' first|refine st ?_|((with_reducible first|apply A8|apply A7);(·exact hT))|(with_reducible first|apply A5|apply A4)<;>intro _
  all_goals rfl
 rw[if_neg h2] at hq
 by_cases h3:s=[70,65,76,83,69]
 ·rw[if_pos h3] at hq
  subst hq
  rw[decide_eq_false h2] at hT
  have hT:Bi.Pure Tryz.prog A5a [.d (.bool (decide (s=[84,82,85,69])))] (eV (w4 false)):=by rw[decide_eq_false h2];exact hT
  refine A4S.go A6 rfl ?_
  repeat' first|refine st ?_|((with_reducible first|apply A8|apply A7);(·exact hT))|(with_reducible first|apply A5|apply A4)<;>intro _
  all_goals rfl
 rw[if_neg h3] at hq
 cases hb:K9 39 s with
 |true=>
  rw[hb] at hP hq
  rw[if_pos rfl] at hq
  cases s with
  |nil=>cases hb
  |cons c r=>
   have hl:(c::r).length=r.length+1:=rfl
   simp only[I7] at hs
   have hX:=C2u r (by omega)
   have hp:List.take (((c::r).length:Int).toNat-(1:Int).toNat) (List.drop (1:Int).toNat (c::r))=r:=by
    rw[hl]
    show List.take (r.length+1-1) r=r
    simp
   have hq:q=y7 r:=hq
   rw[<- hq] at hX
   clear hq hb hI
   refine A4S.go A6 rfl ?_
   repeat' first|(rw[hp])|refine st ?_|((with_reducible first|apply A8|apply A7);(·first|exact hP|exact hX))|(with_reducible first|apply A5|apply A4)<;>intro _
   all_goals rfl
 |false=>
  rw[hb] at hP hq
  rw[if_neg (by decide)] at hq
  rw[<- hq] at hI
  clear hq
  refine A4S.go A6 rfl ?_
  repeat' first|refine st ?_|((with_reducible first|apply A8|apply A7);(·first|exact hP|exact hI))|(with_reducible first|apply A5|apply A4)<;>intro _
  all_goals rfl
def N6(s:List UInt8):Int×Bool:=
 if s=[]\/(s.getD 0 0=48/\1<s.length) then (0,false) else match V7 0 s with
  |none=>(0,false)
  |some n=>(n,true)
theorem A6H(ds:List UInt8)(hdl:ds.length<=1048576):Pure Tryz.prog A91 [.d (.str ds)] (.tup [.d (eI (N6 ds).1),.d (.bool (N6 ds).2)]):=by
 obtain⟨q,hq⟩:∃q,q=N6 ds:=⟨_,rfl⟩
 rw[<- hq]
 unfold N6 at hq
 by_cases hn:ds=[]
 ·rw[if_pos (.inl hn)] at hq
  subst hq
  refine A8K.go A6 rfl ?_
  repeat' first|refine st ?_|(with_reducible first|apply A5|apply A4)<;>intro _
  all_goals rfl
 have hDl:0<ds.length:=List.length_pos_iff.2 hn
 obtain⟨c0,hc0⟩:∃c,c=ds.getD 0 0:=⟨_,rfl⟩
 have hg0:ds.getD ((0:Int)).toNat 0=c0:=hc0.symm
 rw[<- hc0] at hq
 by_cases h0:c0=48/\1<ds.length
 ·rw[if_pos (.inr h0)] at hq
  subst hq
  obtain⟨rfl,h0⟩:=h0
  refine A8K.go A6 rfl ?_
  repeat' first|(rw[hg0])|refine st ?_|(with_reducible first|apply A5|apply A4)<;>intro _
  all_goals first|rfl|(exfalso;simp_all;done)
 rw[if_neg (λh=>h.elim hn h0)] at hq
 have hc:¬((c0.toNat:Int)=48)\/((c0.toNat:Int)=48/\ds.length=1):=by
  by_cases e:c0.toNat=48
  ·right
   have:c0=48:=A2f.1 (by simpa using e)
   have:¬1<ds.length:=λh=>h0 ⟨this,h⟩
   exact⟨by omega,by omega⟩
  ·left;omega
 obtain⟨F0,hF0⟩:∃z,z=V7 0 ds:=⟨_,rfl⟩
 rw[<- hF0] at hq
 clear h0 hc0
 refine A8K.go A6 rfl ?_
 rcases hc with hc|⟨hc,hc2⟩
 all_goals (
  repeat' first|(rw[hg0])|refine st ?_|(with_reducible first|apply A5|apply A4)<;>intro _
  refine J1 A6 C5x C4D (λ(i:Nat) (n:Int)=>[.d (eI n),.d (eI i)]) (λi n=>[]) (λi n=>i<=ds.length/\0<=n/\n<=1125899906842625/\V7 n (ds.drop i)=F0) (λi n=>ds.length-i) 0 0 rfl rfl rfl rfl (λ_ _ _=>⟨rfl,rfl⟩) rfl ⟨by omega,by omega,by omega,hF0.symm⟩ ?_
  clear hg0 hF0
  repeat' first|refine st ?_|(with_reducible first|apply A5|apply A4)<;>intro _
  intro i n ⟨g1,g2,g3,g4⟩
  cases hx:ds[i]? with
  |some c=>
   obtain⟨hlt,he⟩:=B3.1 hx
   have hg:ds.getD ((i:Int)).toNat 0=c:=by simp[E7,hx]
   have h256:c.toNat<256:=UInt8.toNat_lt c
   rw[S5 hlt,he,V7] at g4
   clear he
   by_cases hbad:c.toNat<48\/57<c.toNat
   ·rw[if_pos hbad] at g4
    subst g4
    dsimp only at hq
    subst hq
    repeat' first|(rw[hg])|refine st ?_|(with_reducible first|apply A5|apply A4)<;>intro _
    all_goals first|rfl|(exfalso;omega)
   ·rw[if_neg hbad] at g4
    have e1:IntKind.u8.wrap ((c.toNat:Int)-48)=(c.toNat:Int)-48:=u8w (by omega) (by omega)
    have e2:IntKind.i64.wrap ((c.toNat:Int)-48)=(c.toNat:Int)-48:=A5G (by omega) (by omega)
    by_cases hm:1125899906842624<n*10+((c.toNat:Int)-48)
    ·rw[show min (10*n+((c.toNat:Int)-48)) 1125899906842625=1125899906842625 by omega] at g4
     repeat' first|(rw[hg])|(rw[e1])|(rw[e2])|refine st ?_|(with_reducible first|apply A5|apply A4)<;>intro _
     all_goals exact⟨i+1,1125899906842625,rfl,rfl,rfl,by omega,by omega,by omega,by omega,g4⟩
    ·rw[show min (10*n+((c.toNat:Int)-48)) 1125899906842625=n*10+((c.toNat:Int)-48) by omega] at g4
     repeat' first|(rw[hg])|(rw[e1])|(rw[e2])|refine st ?_|(with_reducible first|apply A5|apply A4)<;>intro _
     all_goals exact⟨i+1,n*10+((c.toNat:Int)-48),rfl,rfl,rfl,by omega,by omega,by omega,by omega,g4⟩
  |none=>
   have hge:=D8.1 hx
   rw[A1x hge,V7] at g4
   subst g4
   dsimp only at hq
   subst hq
   repeat' first|refine st ?_|(with_reducible first|apply A5|apply A4)<;>intro _
   all_goals rfl)
theorem A8h:∀(s t:List UInt8),N8 s=some t->V8 t=V8 s
 |[],t,h=>by simp[N8] at h;subst h;rfl
 |[c],t,h=>by
  unfold N8 at h
  split at h
  ·cases h
  ·cases h;rfl
 |c::d::s,t,h=>by
  rw[N8] at h
  split at h
  ·rename_i hc
   split at h
   ·rename_i hd
    obtain⟨u,hu,rfl⟩:=F5.1 h
    have ih:=A8h s u hu
    subst hc;subst hd
    unfold V8 at ih ⊢
    simp[Z3,ih,prC]
   ·cases h
  ·obtain⟨u,hu,rfl⟩:=F5.1 h
   have ih:=A8h (d::s) u hu
   unfold V8 at ih ⊢
   rw[Z3,Z3,ih]
def Y1(s:List UInt8):List UInt8×Bool:=
 match s with
 |c::r=>if c=39/\S8 39 r=true then (match N8 r.dropLast with
  |none=>([],false)
  |some t=>(t,V8 t)) else ([],false)
 |[]=>([],false)
theorem D3x{c:UInt8}(hc:¬c=39):∀r,N8 (c::r)=(N8 r).map (c::·)
 |[]=>by unfold N8;rw[if_neg hc];rfl
 |d::r=>by rw[N8,if_neg hc]
theorem B8X{x:List UInt8}{j:Nat}{c:UInt8}(h:x[j]?=some c):List.take (j+1-j) (List.drop j x)=[c]:=by
 obtain⟨hlt,he⟩:=B3.1 h
 rw[show j+1-j=1 by omega,S5 hlt,he];rfl
theorem C25(s:List UInt8)(hs:s.length<=1048576):Pure Tryz.prog A92 [.d (.str s)] (.tup [.d (.str (Y1 s).1),.d (.bool (Y1 s).2)]):=by
 obtain⟨q,hq⟩:∃q,q=Y1 s:=⟨_,rfl⟩
 rw[<- hq]
 cases s with
 |nil=>
  have hl:([]:List UInt8).length=0:=rfl
  have hq:q=([],false):=hq
  subst hq
  refine A6L.go A6 rfl ?_
  repeat' first|refine st ?_|(with_reducible first|apply A5|apply A4)<;>intro _
  all_goals first|rfl|(exfalso;simp_all;done)
 |cons c r=>
  rcases B1g r with rfl|⟨x,l,rfl⟩
  ·have hl:([c]:List UInt8).length=1:=rfl
   have hq:q=([],false):=by rw[hq,Y1];simp[S8]
   subst hq
   refine A6L.go A6 rfl ?_
   repeat' first|refine st ?_|(with_reducible first|apply A5|apply A4)<;>intro _
   all_goals first|rfl|(exfalso;simp_all;done)
  ·have hl:(c::(x++[l])).length=x.length+2:=by simp
   have hg0:(c::(x++[l])).getD ((0:Int)).toNat 0=c:=rfl
   have hg1:(c::(x++[l])).getD (((c::(x++[l])).length:Int)-1).toNat 0=l:=by
    rw[hl,show(((x.length+2:Nat):Int)-1).toNat=x.length+1 by omega]
    simp[E7]
   have hp:List.take ((((c::(x++[l])).length:Int)-1).toNat-((1:Int)).toNat) (List.drop ((1:Int)).toNat (c::(x++[l])))=x:=by
    rw[hl,show(((x.length+2:Nat):Int)-1).toNat-((1:Int)).toNat=x.length by omega]
    show List.take x.length (x++[l])=x
    simp
   unfold Y1 at hq
   dsimp only at hq
   rw[B86,List.dropLast_concat] at hq
   rw[hl] at hs
   obtain⟨z,hz⟩:∃z,z=c::(x++[l]):=⟨_,rfl⟩
   rw[<- hz] at hl hg0 hg1 hp ⊢
   clear hz
   by_cases h0:c=39/\l=39
   rotate_left
   ·have hq:q=([],false):=by rw[hq,if_neg (λh=>h0 ⟨h.1,of_decide_eq_true h.2⟩)]
    subst hq
    have h0':¬(c.toNat:Int)=39\/¬(l.toNat:Int)=39:=by
     by_cases e:(c.toNat:Int)=39
     ·right
      intro e2
      exact h0 ⟨A2f.1 (by simpa using(by omega:c.toNat=39)),A2f.1 (by simpa using(by omega:l.toNat=39))⟩
     ·exact .inl e
    clear h0
    refine A6L.go A6 rfl ?_
    repeat' first|(rw[hg0])|(rw[hg1])|refine st ?_|(with_reducible first|apply A5|apply A4)<;>intro _
    all_goals first|rfl|(exfalso;omega)
   ·rw[if_pos ⟨h0.1,decide_eq_true h0.2⟩] at hq
    obtain⟨rfl,rfl⟩:=h0
    have h39:((39:UInt8).toNat:Int)=39:=rfl
    obtain⟨F0,hF0⟩:∃f,f=N8 x:=⟨_,rfl⟩
    rw[<- hF0] at hq
    refine A6L.go A6 rfl ?_
    repeat' first|(rw[hg0])|(rw[hg1])|(rw[hp])|refine st ?_|(with_reducible first|apply A5|apply A4)<;>intro _
    refine J1 A6 C5y C4E (λ(i:Nat) (o:List UInt8)=>[.d (.str o),.d (eI i)]) (λi o=>[]) (λi o=>i<=x.length/\o.length<=i/\(N8 (x.drop i)).map (o++·)=F0) (λi o=>x.length-i) 0 [] rfl rfl rfl rfl (λ_ _ _=>⟨rfl,rfl⟩) rfl ⟨T6 _,G9 _,by rw[hF0,List.drop_zero];cases N8 x<;>rfl⟩ ?_
    clear hg0 hg1 hp hF0
    repeat' first|refine st ?_|(with_reducible first|apply A5|apply A4)<;>intro _
    intro i o ⟨g1,g2,g4⟩
    cases hx:x[i]? with
    |some c=>
     obtain⟨hlt,he⟩:=B3.1 hx
     have hg:x.getD ((i:Int)).toNat 0=c:=by simp[E7,hx]
     rw[S5 hlt,he] at g4
     clear he
     by_cases hc:c=39
     ·subst hc
      cases hy:x[i+1]? with
      |none=>
       have hge:=D8.1 hy
       rw[A1x hge] at g4
       have g4:none=F0:=g4
       subst g4
       dsimp only at hq
       subst hq
       repeat' first|(rw[hg])|refine st ?_|(with_reducible first|apply A5|apply A4)<;>intro _
       all_goals first|rfl|(exfalso;omega)
      |some d=>
       obtain⟨hlt2,he2⟩:=B3.1 hy
       have hg2:x.getD ((i:Int)+1).toNat 0=d:=by rw[show((i:Int)+1).toNat=i+1 by omega];simp[E7,hy]
       have hp2:List.take ((((i:Int)+1)+1).toNat-((i:Int)+1).toNat) (List.drop ((i:Int)+1).toNat x)=[d]:=B8X hy
       have hdl:([d]:List UInt8).length=1:=rfl
       rw[S5 hlt2,he2] at g4
       clear he2
       by_cases hd:d=39
       ·subst hd
        rw[N8,if_pos rfl,if_pos rfl] at g4
        repeat' first|(rw[hg])|(rw[hg2])|(rw[hp2])|refine st ?_|(with_reducible first|apply A5|apply A4)<;>intro _
        all_goals exact⟨i+2,o++[39],by first|rfl|(congr 3;omega),rfl,rfl,by omega,by omega,by simp only[K4,I7,P9];omega,by rw[<- g4,Option.map_map];congr 1;funext t;simp⟩
       ·rw[N8,if_pos rfl,if_neg hd] at g4
        have g4:none=F0:=g4
        subst g4
        dsimp only at hq
        subst hq
        have hd2:¬(d.toNat:Int)=39:=λe=>hd (A2f.1 (by simpa using(by omega:d.toNat=39)))
        repeat' first|(rw[hg])|(rw[hg2])|refine st ?_|(with_reducible first|apply A5|apply A4)<;>intro _
        all_goals first|rfl|(exfalso;omega)
     ·rw[D3x hc] at g4
      have hc2:¬(c.toNat:Int)=39:=λe=>hc (A2f.1 (by simpa using(by omega:c.toNat=39)))
      have hp2:List.take (((i:Int)+1).toNat-((i:Int)).toNat) (List.drop ((i:Int)).toNat x)=[c]:=B8X hx
      have hdl:([c]:List UInt8).length=1:=rfl
      repeat' first|(rw[hg])|(rw[hp2])|refine st ?_|(with_reducible first|apply A5|apply A4)<;>intro _
      all_goals exact⟨i+1,o++[c],rfl,rfl,rfl,by omega,by omega,by simp only[K4,I7,P9];omega,by rw[<- g4,Option.map_map];congr 1;funext t;simp⟩
    |none=>
     have hge:=D8.1 hx
     rw[A1x hge] at g4
     have g4:some (o++[])=F0:=g4
     rw[A1w] at g4
     subst g4
     dsimp only at hq
     subst hq
     have hP:=B21 o (by omega)
     repeat' first|refine st ?_|((with_reducible first|apply A8|apply A7);(·exact hP))|(with_reducible first|apply A5|apply A4)<;>intro _
     all_goals rfl
theorem A5Y:∀(s:List UInt8)(n m:Int),0<=n->V7 n s=some m->0<=m/\(m=0->n=0/\∀c∈s,c=48)
 |[],n,m,h,e=>by
  simp only[V7,A0t] at e
  subst e
  exact⟨h,λe=>⟨e,by simp⟩⟩
 |c::s,n,m,h,e=>by
  rw[V7] at e
  split at e
  ·cases e
  ·rename_i hc
   obtain⟨h1,h2⟩:=A5Y s _ m (by omega) e
   refine⟨h1,λhm=>?_⟩
   obtain⟨h3,h4⟩:=h2 hm
   have h5:c.toNat=48:=by omega
   refine⟨by omega,λd hd=>?_⟩
   rcases I9.1 hd with rfl|hd
   ·exact A2f.1 (by simpa using h5)
   ·exact h4 d hd
theorem D1C (r : List UInt8) : N6 (39 :: r) = (0, false) := by
  unfold N6
  rw [if_neg (by rintro (h | h); · cases h
                 exact absurd h.1 (by show ¬ (39 : UInt8) = 48; decide))]
  rw [V7, if_pos (by decide)]
theorem B9Z(r:List UInt8):Y1 (39::r)=if S8 39 r=true then (match N8 r.dropLast with
  |none=>([],false)
  |some t=>(t,V8 t)) else ([],false):=by
 rw[Y1]
 by_cases hb:S8 39 r=true
 ·rw[if_pos ⟨rfl,hb⟩,if_pos hb]<;>rfl
 ·rw[if_neg (λh=>hb h.2),if_neg hb]
theorem D2w(r:List UInt8):((Y1 (39::r)).2=false->y7 r=(F2,1))/\((Y1 (39::r)).2=true->y7 r=if 200<(Y1 (39::r)).1.length then (F2,5) else (⟨2,0,(Y1 (39::r)).1⟩,0))/\((Y1 (39::r)).2=true->V8 (Y1 (39::r)).1=true):=by
 rw[B9Z]
 unfold y7
 by_cases hb:S8 39 r=true
 ·rw[if_pos hb]
  cases hu:N8 r.dropLast with
  |none=>simp
  |some t=>
   have hp:=A8h _ _ hu
   cases hq:V8 t with
   |false=>rw[hq] at hp;simp[<- hp,hb,hq]
   |true=>rw[hq] at hp;simp[<- hp,hb,hq]
 ·rw[if_neg hb]
  simp[hb]
theorem B1p:∀(s t:List UInt8),N8 s=some t->t.length<=s.length
 |[],t,h=>by simp[N8] at h;subst h;exact G9 _
 |[c],t,h=>by
  unfold N8 at h
  split at h
  ·cases h
  ·cases h;exact G9 _
 |c::d::s,t,h=>by
  rw[N8] at h
  split at h
  ·split at h
   ·obtain⟨u,hu,rfl⟩:=F5.1 h
    have ih:=B1p s u hu
    simp only[I7];omega
   ·cases h
  ·obtain⟨u,hu,rfl⟩:=F5.1 h
   have ih:=B1p (d::s) u hu
   simp only[I7] at ih ⊢;omega
theorem D3w(r:List UInt8):(Y1 (39::r)).1.length<=r.length:=by
 rw[B9Z]
 split
 ·cases hu:N8 r.dropLast with
  |none=>simp
  |some t=>
   have:=B1p _ _ hu
   rw[List.length_dropLast] at this
   show t.length<=_
   omega
 ·simp
theorem B9a(s d:List UInt8)(g:Bool)(hg:g=K9 45 s)(hd:d=if K9 45 s then s.tail else s) :
  A0n s=if (N6 d).2=false\/(g=true/\(N6 d).1=0) then (F2,1) else if 1125899906842624<(N6 d).1 then (F2,6) else (⟨1,if g then 0-(N6 d).1 else (N6 d).1,[]⟩,0):=by
 unfold A0n
 rw[<- hd,<- hg]
 clear hd hg
 by_cases h0:d=[]
 ·subst h0;simp[N6]
 by_cases h1:d.getD 0 0=48/\1<d.length
 ·have e:N6 d=(0,false):=by unfold N6;rw[if_pos (.inr h1)]
  rw[e,if_pos (.inr ⟨h1.1,.inr h1.2⟩)];simp
 have e:N6 d=match V7 0 d with
  |none=>(0,false)
  |some n=>(n,true):=by unfold N6;rw[if_neg (λh=>h.elim h0 h1)]<;>rfl
 rw[e]
 clear e
 cases hF:V7 0 d with
 |none=>simp
 |some n=>
  obtain⟨k1,k2⟩:=A5Y d 0 n (Int.le_refl _) hF
  by_cases h2:g=true/\n=0
  ·have h48:d.getD 0 0=48:=by
    cases d with
    |nil=>exact absurd rfl h0
    |cons c r=>exact(k2 h2.2).2 c (by simp)
   rw[if_pos (.inr ⟨h48,.inl h2.1⟩)]
   simp[h2.1,h2.2]
  ·rw[if_neg,if_neg (λh=>h.elim (by simp) h2)]
   rintro(h|⟨h3,h4|h4⟩)
   ·exact h0 h
   ·apply h2
    refine⟨h4,?_⟩
    cases d with
    |nil=>exact absurd rfl h0
    |cons c r=>
     have hr:r=[]:=by
      cases r with
      |nil=>rfl
      |cons x y=>exact absurd ⟨h3,by simp⟩ h1
     subst hr
     have hc:c=48:=h3
     subst hc
     have:V7 0 [48]=some 0:=by decide
     rw[this] at hF
     exact(j7 hF).symm
   ·exact h1 ⟨h3,h4⟩
theorem C22(s:List UInt8)(hs:s.length<=1048576):Pure Tryz.prog B53 [.d (.str s)] (.tup [eV (Z2 s).1,.d (eI (Z2 s).2)]):=by
 have hN:=w8
 have hT:=A6E true
 have hF:=A6E false
 have hU:=C25 s hs
 obtain⟨q,hq⟩:∃q,q=Z2 s:=⟨_,rfl⟩
 rw[<- hq]
 unfold Z2 at hq
 by_cases h1:s=[78,85,76,76]
 ·rw[if_pos h1] at hq
  subst hq
  refine s5.go A6 rfl ?_
  repeat' first|refine st ?_|((with_reducible first|apply A8|apply A7);(·exact hN))|(with_reducible first|apply A5|apply A4)<;>intro _
  all_goals rfl
 rw[if_neg h1] at hq
 by_cases h2:s=[84,82,85,69]
 ·rw[if_pos h2] at hq
  subst hq
  refine s5.go A6 rfl ?_
  repeat' first|refine st ?_|((with_reducible first|apply A8|apply A7);(·exact hT))|(with_reducible first|apply A5|apply A4)<;>intro _
  all_goals rfl
 rw[if_neg h2] at hq
 by_cases h3:s=[70,65,76,83,69]
 ·rw[if_pos h3] at hq
  subst hq
  refine s5.go A6 rfl ?_
  repeat' first|refine st ?_|((with_reducible first|apply A8|apply A7);(·exact hF))|(with_reducible first|apply A5|apply A4)<;>intro _
  all_goals rfl
 rw[if_neg h3] at hq
 cases hb:K9 39 s with
 |true=>
  rw[hb,if_pos rfl] at hq
  cases s with
  |nil=>cases hb
  |cons c r=>
   have hc:c=39:=by simpa[K9] using hb
   subst hc
   obtain⟨p1,p2,p3⟩:=D2w r
   have hR:=A6H (39::r) hs
   rw[D1C] at hR
   have hq:q=y7 r:=hq
   have hg0:(39::r).getD ((0:Int)).toNat 0=(39:UInt8):=rfl
   have h39:((39:UInt8).toNat:Int)=39:=rfl
   have hul:(Y1 (39::r)).1.length<=4611686018427387904:=by
    have:=D3w r
    simp only[I7] at hs
    omega
   have hX:=A6G (Y1 (39::r)).1 hul
   obtain⟨⟨t,b⟩,hu⟩:∃u,u=Y1 (39::r):=⟨_,rfl⟩
   rw[<- hu] at hU p1 p2 p3 hX hul
   dsimp only at hU p1 p2 p3 hX hul
   clear hu
   cases b with
   |false=>
    rw[p1 rfl] at hq
    subst hq
    refine s5.go A6 rfl ?_
    repeat' first|(rw[hg0])|refine st ?_|((with_reducible first|apply A8|apply A7);(·first|exact hU|exact hR))|(with_reducible first|apply A5|apply A4)<;>intro _
    all_goals first|rfl|(exfalso;simp_all;done)
   |true=>
    have hv:A4v t=if 200<t.length then F2 else ⟨2,0,t⟩:=by
     unfold A4v w5
     have:J9 ⟨2,0,t⟩=decide (t.length<=200):=by unfold J9;simp[p3 rfl]
     rw[this]
     by_cases h:200<t.length
     ·rw[if_pos h];simp[show ¬t.length<=200 by omega]
     ·rw[if_neg h];simp[show t.length<=200 by omega]
    rw[p2 rfl] at hq
    rw[hv] at hX
    by_cases h:200<t.length
    ·rw[if_pos h] at hq
     subst hq
     refine s5.go A6 rfl ?_
     repeat' first|refine st ?_|((with_reducible first|apply A8|apply A7);(·exact hU))|(with_reducible first|apply A5|apply A4)<;>intro _
     all_goals first|rfl|(exfalso;simp_all;done)
    ·rw[if_neg h] at hq hX
     subst hq
     refine s5.go A6 rfl ?_
     repeat' first|refine st ?_|((with_reducible first|apply A8|apply A7);(·first|exact hU|exact hX))|(with_reducible first|apply A5|apply A4)<;>intro _
     all_goals first|rfl|(exfalso;simp_all;done)
 |false=>
  rw[hb,if_neg (by decide)] at hq
  have hu:Y1 s=([],false):=by
   cases s with
   |nil=>rfl
   |cons c r=>
    have hc:¬c=39:=by simpa[K9] using hb
    rw[Y1,if_neg (λh=>hc h.1)]
  rw[hu] at hU
  dsimp only at hU
  cases s with
  |nil=>
   have hR:=A6H [] (by simp)
   have hq:q=(F2,1):=hq
   subst hq
   refine s5.go A6 rfl ?_
   repeat' first|refine st ?_|((with_reducible first|apply A8|apply A7);(·first|exact hU|exact hR))|(with_reducible first|apply A5|apply A4)<;>intro _
   all_goals first|rfl|(exfalso;simp_all;done)
  |cons c r=>
   clear hb
   by_cases hc:c=45
   ·subst hc
    have hlr:r.length<=1048576:=by simp only[I7] at hs;omega
    have hR:=A6H r hlr
    have hq:q=A0n (45::r):=hq
    rw[B9a (45::r) r true rfl rfl] at hq
    have hnn:(N6 r).2=true->0<=(N6 r).1:=by
     unfold N6
     split
     ·intro h;cases h
     ·split
      ·intro h;cases h
      ·rename_i n hF;intro _;exact(A5Y r 0 n (by omega) hF).1
    have hl:(45::r).length=r.length+1:=rfl
    have hg0:(45::r).getD ((0:Int)).toNat 0=(45:UInt8):=rfl
    have h45:((45:UInt8).toNat:Int)=45:=rfl
    have hp:List.take (((45::r).length:Int).toNat-(1:Int).toNat) (List.drop (1:Int).toNat (45::r))=r:=by
     rw[hl]
     show List.take (r.length+1-1) r=r
     simp
    have hI:=A6F (0-(N6 r).1)
    have hv:0<=(N6 r).1->(N6 r).1<=1125899906842624->A6q (0-(N6 r).1)=⟨1,0-(N6 r).1,[]⟩:=λh1 h2=>by
     unfold A6q w5
     have:J9 ⟨1,0-(N6 r).1,[]⟩=true:=by unfold J9;simp;omega
     rw[this,if_pos rfl]
    obtain⟨⟨n,b⟩,hn⟩:∃z,z=N6 r:=⟨_,rfl⟩
    rw[<- hn] at hR hq hnn hI hv
    dsimp only at hR hq hnn hI hv
    clear hn
    cases b with
    |false=>
     rw[if_pos (.inl rfl)] at hq
     subst hq
     refine s5.go A6 rfl ?_
     repeat' first|(rw[hg0])|(rw[hp])|refine st ?_|((with_reducible first|apply A8|apply A7);(·first|exact hU|exact hR))|(with_reducible first|apply A5|apply A4)<;>intro _
     all_goals first|rfl|(exfalso;simp_all;done)
    |true=>
     have h0:=hnn rfl
     by_cases h00:n=0
     ·subst h00
      rw[if_pos (.inr ⟨rfl,rfl⟩)] at hq
      subst hq
      refine s5.go A6 rfl ?_
      repeat' first|(rw[hg0])|(rw[hp])|refine st ?_|((with_reducible first|apply A8|apply A7);(·first|exact hU|exact hR))|(with_reducible first|apply A5|apply A4)<;>intro _
      all_goals first|rfl|(exfalso;simp_all;done)
     ·rw[if_neg (λh=>h.elim (by simp) (λh=>h00 h.2))] at hq
      by_cases hbig:1125899906842624<n
      ·rw[if_pos hbig] at hq
       subst hq
       refine s5.go A6 rfl ?_
       repeat' first|(rw[hg0])|(rw[hp])|refine st ?_|((with_reducible first|apply A8|apply A7);(·first|exact hU|exact hR))|(with_reducible first|apply A5|apply A4)<;>intro _
       all_goals first|rfl|(exfalso;simp_all;done)
      ·rw[if_neg hbig,if_pos rfl] at hq
       rw[hv h0 (by omega)] at hI
       subst hq
       refine s5.go A6 rfl ?_
       repeat' first|(rw[hg0])|(rw[hp])|refine st ?_|((with_reducible first|apply A8|apply A7);(·first|exact hU|exact hR|exact hI))|(with_reducible first|apply A5|apply A4)<;>intro _
       all_goals first|rfl|(exfalso;simp_all;done)
   ·have hR:=A6H (c::r) hs
    have h45:K9 45 (c::r)=false:=by simpa[K9] using hc
    have hq:q=A0n (c::r):=hq
    rw[B9a (c::r) (c::r) false h45.symm (by rw[h45,if_neg (by decide)])] at hq
    have hnn:(N6 (c::r)).2=true->0<=(N6 (c::r)).1:=by
     unfold N6
     split
     ·intro h;cases h
     ·split
      ·intro h;cases h
      ·rename_i n hF;intro _;exact(A5Y _ 0 n (by omega) hF).1
    have hg0:(c::r).getD ((0:Int)).toNat 0=c:=rfl
    have hc2:¬(c.toNat:Int)=45:=λe=>hc (A2f.1 (by simpa using(by omega:c.toNat=45)))
    have hI:=A6F (N6 (c::r)).1
    have hv:0<=(N6 (c::r)).1->(N6 (c::r)).1<=1125899906842624->A6q (N6 (c::r)).1=⟨1,(N6 (c::r)).1,[]⟩:=λh1 h2=>by
     unfold A6q w5
     have:J9 ⟨1,(N6 (c::r)).1,[]⟩=true:=by unfold J9;simp;omega
     rw[this,if_pos rfl]
    obtain⟨⟨n,b⟩,hn⟩:∃z,z=N6 (c::r):=⟨_,rfl⟩
    rw[<- hn] at hR hq hnn hI hv
    dsimp only at hR hq hnn hI hv
    clear hn
    have hl:(c::r).length=r.length+1:=rfl
    obtain⟨s,hss⟩:∃s,s=c::r:=⟨_,rfl⟩
    have hsn:s≠[]:=by rw[hss];simp
    rw[<- hss] at hR h1 h2 h3 hg0 hU hl hs ⊢
    clear hss h45 hc
    cases b with
    |false=>
     rw[if_pos (.inl rfl)] at hq
     subst hq
     refine s5.go A6 rfl ?_
     repeat' first|(rw[hg0])|refine st ?_|((with_reducible first|apply A8|apply A7);(·first|exact hU|exact hR))|(with_reducible first|apply A5|apply A4)<;>intro _
     all_goals first|rfl|(exfalso;simp_all;done)
    |true=>
     have h0:=hnn rfl
     rw[if_neg (by simp)] at hq
     by_cases hbig:1125899906842624<n
     ·rw[if_pos hbig] at hq
      subst hq
      refine s5.go A6 rfl ?_
      repeat' first|(rw[hg0])|refine st ?_|((with_reducible first|apply A8|apply A7);(·first|exact hU|exact hR))|(with_reducible first|apply A5|apply A4)<;>intro _
      all_goals first|rfl|(exfalso;simp_all;done)
     ·rw[if_neg hbig,if_neg (by decide)] at hq
      rw[hv h0 (by omega)] at hI
      subst hq
      refine s5.go A6 rfl ?_
      repeat' first|(rw[hg0])|refine st ?_|((with_reducible first|apply A8|apply A7);(·first|exact hU|exact hR|exact hI))|(with_reducible first|apply A5|apply A4)<;>intro _
      all_goals first|rfl|(exfalso;simp_all;done)
end Go.Proofs
end
section
set_option maxRecDepth 100000
set_option maxHeartbeats 8000000
namespace Go.Proofs
open Go.Bi
def A1p:List (List UInt8):=[[97,100,100],[97,102,116,101,114],[97,108,108],[97,108,116,101,114],[97,110,100],[97,115],[98,101,102,111,114,101],[98,101,103,105,110],[98,101,116,119,101,101,110],[98,111,111,108],[98,121],[99,104,101,99,107],[99,111,97,108,101,115,99,101],[99,111,109,109,105,116],[99,111,110,116,97,105,110,115],[99,111,117,110,116],[99,114,101,97,116,101],[100,101,102,97,117,108,116],[100,101,108,101,116,101],[100,101,115,99],[100,105,115,116,105,110,99,116],[100,114,111,112],[100,117,114,105,110,103],[101,113,117,97,108,115],[101,120,99,101,112,116],[102,97,108,115,101],[102,105,110,105,115,104,101,100,98,121],[102,105,110,105,115,104,101,115],[102,111,114,101,105,103,110],[102,111,114,101,118,101,114],[102,114,111,109],[103,114,111,117,112],[104,111,108,100],[105,102],[105,110,115,101,114,116],[105,110,116],[105,110,116,101,114,115,101,99,116],[105,110,116,111],[105,115],[106,111,105,110],[107,101,121],[108,101,102,116],[108,101,110,103,116,104],[108,105,109,105,116],[109,97,120],[109,101,101,116,115],[109,101,116,98,121],[109,105,110],[110,111,110,115,101,113,117,101,110,99,101,100],[110,111,116],[110,111,119],[110,117,108,108],[111,102],[111,110],[111,114],[111,114,100,101,114],[111,118,101,114,108,97,112,112,101,100,98,121],[111,118,101,114,108,97,112,115],[112,114,105,109,97,114,121],[112,114,117,110,101],[114,101,102,101,114,101,110,99,101,115],[114,101,108,101,97,115,101],[114,101,110,97,109,101],[114,101,116,97,105,110],[114,111,108,108,98,97,99,107],[115,101,108,101,99,116],[115,101,113,117,101,110,99,101,100],[115,101,116],[115,116,97,114,116,101,100,98,121],[115,116,97,114,116,115],[115,117,109],[115,121,115,116,101,109],[115,121,115,116,101,109,102,114,111,109],[115,121,115,116,101,109,116,111],[116,97,98,108,101],[116,101,120,116],[116,111],[116,114,117,101],[116,120],[117,110,100,101,114],[117,110,105,111,110],[117,112,100,97,116,101],[118,97,108,105,100],[118,97,108,105,100,102,114,111,109],[118,97,108,105,100,116,111],[118,97,108,117,101,115],[119,104,101,114,101]]
def eSs(l:List (List UInt8)):List (List D):=l.map λs=>[.str s]
theorem D0i(l:List (List UInt8)):(eSs l).length=l.length:=by simp[eSs]
theorem D0h{l:List (List UInt8)}{i:Nat}{s:List UInt8}(h:l[i]?=some s):(eSs l)[i]?=some [.str s]:=by simp[eSs,h]
theorem D0j(l:List (List UInt8)):∀e∈eSs l,e.length=1:=by
 intro e he
 obtain⟨x,_,rfl⟩:=F1.1 he
 rfl
theorem C2d(s:List UInt8):Pure Tryz.prog B60 [.d (.str s)] (.d (.bool (decide (s∈A1p)))):=by
 refine C3V.go A6 rfl ?_
 obtain⟨b,hb⟩:∃b,b=decide (s∈A1p):=⟨_,rfl⟩
 rw[<- hb]
 repeat' first|refine st ?_|(with_reducible first|apply A5|apply A4)<;>intro _
 all_goals first
  |(subst_vars;rfl)
  |(rw[hb,decide_eq_false];simp[A1p, *])
theorem C1F:Pure Tryz.prog B5h [] (.d (.sl (eSs A1p))):=by
 refine C32.go A6 rfl ?_
 repeat' first|refine st ?_|(with_reducible first|apply A5|apply A4)<;>intro _
 all_goals rfl
theorem C1J(l:List (List UInt8))(hl:l.length<=1048576)(d:D)(hd:B8 d (eSs l))(s:List UInt8):Pure Tryz.prog B5m [.d d,.d (.str s)] (.d (.bool (decide (s∈l)))):=by
 refine C37.go A6 rfl ?_
 have h1:=D0i l
 have hm:=D0j l
 obtain⟨b,hb⟩:∃b,b=decide (s∈l):=⟨_,rfl⟩
 rw[<- hb]
 repeat' first|refine st ?_|(with_reducible first|apply A5|apply A4)<;>intro _
 refine F7 A6 C5O C4U (λ(i:Nat)=>[.d (eI i)]) (λi=>[]) (λi=>i<=l.length/\¬s∈l.take i) (λi=>l.length-i) 0 rfl rfl rfl rfl (λ_ _=>⟨rfl,rfl⟩) rfl ⟨by omega,by simp⟩ ?_
 repeat' first|refine st ?_|(with_reducible first|apply A5|apply A4)<;>intro _
 intro i ⟨h2,h3⟩
 cases hx:l[i]? with
 |some x=>
  have hlt:=(B3.1 hx).1
  have hg:=D0h hx
  by_cases h:x=s
  ·rw[hb,decide_eq_true (h▸C4 hx)]
   repeat' first|refine st ?_|(with_reducible first|apply A5|apply A4)<;>intro _
   all_goals rfl
  ·repeat' first|refine st ?_|(with_reducible first|apply A5|apply A4)<;>intro _
   refine⟨i+1,rfl,rfl,rfl,by omega,by omega,?_⟩
   rw[Q9,hx]
   intro hmem
   rcases R9.1 hmem with hm2|hm2
   ·exact h3 hm2
   ·simp at hm2;exact h hm2.symm
 |none=>
  have hge:=D8.1 hx
  rw[M7 hge] at h3
  rw[hb,decide_eq_false h3]
  repeat' first|refine st ?_|(with_reducible first|apply A5|apply A4)<;>intro _
  all_goals rfl
def l7(p:UInt8×Nat):Bool:=decide (97<=p.1.toNat/\p.1.toNat<=122)||decide (p.1.toNat=95)||(decide (48<=p.1.toNat/\p.1.toNat<=57)&&decide (p.2≠0))
def okS(s:List UInt8):Bool:=s.zipIdx.all l7
def K7(s:List UInt8):Bool:=okS s&&decide (1<=s.length/\s.length<=24)&&!decide (s∈A1p)
theorem A8s{s:List UInt8}{i:Nat}{c:UInt8}(h:s[i]?=some c):s.zipIdx[i]?=some (c,i):=by
 rw[List.getElem?_zipIdx,h];simp
theorem D01{s:List UInt8}{p:Nat}{c:UInt8}(h:s[p]?=some c)(hc:c.toNat<128):Utf8.decode ⟨⟨s⟩⟩ p=(c.toNat,1):=by
 have e:(ByteArray.mk ⟨s⟩).get! (p+0)=c:=by
  obtain⟨hlt,he⟩:=B3.1 h
  show(⟨s⟩:Array UInt8)[p]! = c
  rw[getElem!_pos (⟨s⟩:Array UInt8) p hlt]
  exact he
 unfold Utf8.decode
 simp only[e]
 rw[if_pos hc]
theorem D00{s:List UInt8}{p:Nat}{c:UInt8}(h:s[p]?=some c)(hc:¬c.toNat<128):128<=(Utf8.decode ⟨⟨s⟩⟩ p).1/\(Utf8.decode ⟨⟨s⟩⟩ p).1<=1114111:=by
 have e:(ByteArray.mk ⟨s⟩).get! (p+0)=c:=by
  obtain⟨hlt,he⟩:=B3.1 h
  show(⟨s⟩:Array UInt8)[p]! = c
  rw[getElem!_pos (⟨s⟩:Array UInt8) p hlt]
  exact he
 unfold Utf8.decode
 simp only[e]
 rw[if_neg hc]
 have hv:∀n:Nat,Utf8.valid n=true->n<=1114111:=λn h=>by
  simp only[Utf8.valid,A3t,L2,decide_eq_true_eq] at h
  omega
 repeat' split
 all_goals simp only[Utf8.runeError]
 all_goals first|omega|(rename_i h1;simp only[L2,decide_eq_true_eq] at h1;exact⟨by omega,hv _ h1.2⟩)|skip
end Go.Proofs
end
section
namespace Go.Proofs
open Go.Bi
attribute [local irreducible] Go.Utf8.decode
theorem A2t(c:UInt8)(p:Nat):l7 (c,p)=true↔(97<=c.toNat/\c.toNat<=122)\/c.toNat=95\/(48<=c.toNat/\c.toNat<=57/\p≠0):=by
 simp only[l7,A3t,L2,decide_eq_true_eq]
 omega
theorem A60{s:List UInt8}{p:Nat}{c:UInt8}(h:s[p]?=some c)(hk:l7 (c,p)=false):K7 s=false:=by
 have:okS s=false:=A3M (A8s h) hk
 rw[K7,this];rfl
theorem A4M(s:List UInt8)(hs:s.length<=1048576):Pure Tryz.prog B5X [.d (.str s)] (.d (.bool (K7 s))):=by
 refine C3O.go A6 rfl ?_
 have hR:=C2d s
 obtain⟨b,hb⟩:∃b,b=K7 s:=⟨_,rfl⟩
 rw[<- hb]
 obtain⟨r,hr⟩:∃r,r=decide (s∈A1p):=⟨_,rfl⟩
 rw[<- hr] at hR
 repeat' first|refine st ?_|(with_reducible first|apply A5|apply A4)<;>intro _
 refine F7 A6 C6d C5j (λ(p:Nat)=>[]) (λp=>[.iter s p]) (λp=>p<=s.length/\(s.zipIdx.take p).all l7=true) (λp=>s.length-p) 0 rfl rfl rfl rfl (λ_ _=>⟨rfl,rfl⟩) rfl ⟨by omega,by simp⟩ ?_
 repeat' first|refine st ?_|(with_reducible first|apply A5|apply A4)<;>intro _
 intro p ⟨h1,h2⟩
 cases hx:s[p]? with
 |some c=>
  have hlt:=(B3.1 hx).1
  have hz:=A8s hx
  by_cases hc:c.toNat<128
  ·have e:=D01 hx hc
   have e1:(Utf8.decode ⟨⟨s⟩⟩ p).1=c.toNat:=by rw[e]
   have e2:(Utf8.decode ⟨⟨s⟩⟩ p).2=1:=by rw[e]
   cases hk:l7 (c,p) with
   |true=>
    have hs2:=A2Y (f:=l7) hz
    rw[h2,hk] at hs2
    have hk2:=(A2t c p).1 hk
    have hfin:∀q,q=p+(Utf8.decode ⟨⟨s⟩⟩ p).2->q<=s.length/\(s.zipIdx.take q).all l7=true/\s.length-q<s.length-p:=λq hq=>by
     rw[e2] at hq
     subst hq
     exact⟨by omega,hs2,by omega⟩
    clear hs2 hz e hk
    rcases hk2 with ⟨k1,k2⟩|k1|⟨k1,k2,k3⟩
    ·repeat' first|refine st ?_|(with_reducible first|apply A5|apply A4)<;>intro _
     obtain⟨f1,f2,f3⟩:=hfin _ rfl
     exact⟨_,rfl,rfl,rfl,f3,f1,f2⟩
    ·repeat' first|refine st ?_|(with_reducible first|apply A5|apply A4)<;>intro _
     obtain⟨f1,f2,f3⟩:=hfin _ rfl
     exact⟨_,rfl,rfl,rfl,f3,f1,f2⟩
    ·repeat' first|refine st ?_|(with_reducible first|apply A5|apply A4)<;>intro _
     obtain⟨f1,f2,f3⟩:=hfin _ rfl
     exact⟨_,rfl,rfl,rfl,f3,f1,f2⟩
   |false=>
    have hbf:b=false:=hb.trans (A60 hx hk)
    have hk2:¬_:=λh=>Bool.false_ne_true (hk▸(A2t c p).2 h)
    rw[hbf]
    clear hz e hk
    repeat' first|refine st ?_|(with_reducible first|apply A5|apply A4)<;>intro _
    all_goals first|rfl|(exfalso;omega)
  ·have e:=D00 hx hc
   have hk:l7 (c,p)=false:=by
    rw[Bool.eq_false_iff]
    intro h
    have:=(A2t c p).1 h
    omega
   have hbf:b=false:=hb.trans (A60 hx hk)
   rw[hbf]
   repeat' first|refine st ?_|(with_reducible first|apply A5|apply A4)<;>intro _
   all_goals first|rfl|(exfalso;omega)
 |none=>
  have hge:=D8.1 hx
  rw[M7 (by simpa using hge)] at h2
  have hb2:b=(decide (1<=s.length/\s.length<=24)&&!r):=by rw[hb,K7,okS,h2,hr];simp
  clear hb hr
  by_cases h:1<=s.length/\s.length<=24
  ·rw[decide_eq_true h] at hb2
   obtain⟨g1,g2⟩:=h
   rw[hb2]
   repeat' first|refine st ?_|((with_reducible first|apply A8|apply A7);(·exact hR))|(with_reducible first|apply A5|apply A4)<;>intro _
   all_goals first|rfl|(exfalso;omega)
  ·rw[decide_eq_false h] at hb2
   rw[hb2]
   repeat' first|refine st ?_|((with_reducible first|apply A8|apply A7);(·exact hR))|(with_reducible first|apply A5|apply A4)<;>intro _
   all_goals first|rfl|(exfalso;omega)
theorem A4J(s:List UInt8)(hs:s.length<=1048576):Pure Tryz.prog A97 [.d (.str s)] (.d (.bool (K7 s))):=by
 refine C31.go A6 rfl ?_
 have hR:=C1J A1p (by decide) (.sl (eSs A1p)) O6 s
 have hW:=C1F
 obtain⟨ew,hew⟩:∃ew,ew=eSs A1p:=⟨_,rfl⟩
 rw[<- hew] at hR hW
 obtain⟨b,hb⟩:∃b,b=K7 s:=⟨_,rfl⟩
 rw[<- hb]
 obtain⟨r,hr⟩:∃r,r=decide (s∈A1p):=⟨_,rfl⟩
 rw[<- hr] at hR
 by_cases hlen:1<=s.length/\s.length<=24
 rotate_left
 ·have hbf:b=false:=by rw[hb,K7,decide_eq_false hlen];simp
  rw[hbf]
  by_cases h0:s=[]
  ·subst h0
   repeat' first|refine st ?_|(with_reducible first|apply A5|apply A4)<;>intro _
   all_goals rfl
  ·have h1:¬s.length=0:=λh=>h0 (A2M.1 h)
   have h24:24<s.length:=by omega
   repeat' first|refine st ?_|(with_reducible first|apply A5|apply A4)<;>intro _
   all_goals rfl
 obtain⟨g1,g2⟩:=hlen
 have g0:¬s=[]:=λh=>by subst h;simp at g1
 obtain⟨c0,hc0⟩:∃c,s[0]?=some c:=⟨_,C8 (by omega)⟩
 have hg0:s.getD (0:Int).toNat 0=c0:=by simp[E7,hc0]
 by_cases hd:48<=c0.toNat/\c0.toNat<=57
 ·have hk:l7 (c0,0)=false:=by
   rw[Bool.eq_false_iff]
   intro h
   have:=(A2t c0 0).1 h
   omega
  have hbf:b=false:=hb.trans (A60 hc0 hk)
  rw[hbf]
  rw[<- hg0] at hd
  obtain⟨d1,d2⟩:=hd
  repeat' first|refine st ?_|(with_reducible first|apply A5|apply A4)<;>intro _
  all_goals first|rfl|(exfalso;omega)
 rcases(show c0.toNat<48\/57<c0.toNat by omega) with hd'|hd'
 all_goals rw[<- hg0] at hd'
 ·repeat' first|refine st ?_|(with_reducible first|apply A5|apply A4)<;>intro _
  refine F7 A6 B4T B4I (λ(p:Nat)=>[.d (eI p)]) (λp=>[]) (λp=>p<=s.length/\(s.zipIdx.take p).all l7=true) (λp=>s.length-p) 0 rfl rfl rfl rfl (λ_ _=>⟨rfl,rfl⟩) rfl ⟨by omega,by simp⟩ ?_
  repeat' first|refine st ?_|(with_reducible first|apply A5|apply A4)<;>intro _
  intro p ⟨h1,h2⟩
  cases hx:s[p]? with
  |some c=>
   have hlt:=(B3.1 hx).1
   have hg:s.getD ((p:Nat):Int).toNat 0=c:=by simp[E7,hx]
   have hz:=A8s hx
   have h0:p=0->c=c0:=λh=>by
    subst h
    rw[hx] at hc0
    exact j7 hc0
   have h0:p=0->c.toNat=c0.toNat:=λh=>by rw[h0 h]
   cases hk:l7 (c,p) with
   |true=>
    have hs2:=A2Y (f:=l7) hz
    rw[h2,hk] at hs2
    have hk2:=(A2t c p).1 hk
    rw[<- hg] at hk2
    clear hz hk
    rcases hk2 with ⟨k1,k2⟩|k1|⟨k1,k2,k3⟩
    ·repeat' first|refine st ?_|(with_reducible first|apply A5|apply A4)<;>intro _
     exact⟨p+1,rfl,rfl,rfl,by omega,by omega,hs2⟩
    ·repeat' first|refine st ?_|(with_reducible first|apply A5|apply A4)<;>intro _
     exact⟨p+1,rfl,rfl,rfl,by omega,by omega,hs2⟩
    ·repeat' first|refine st ?_|(with_reducible first|apply A5|apply A4)<;>intro _
     exact⟨p+1,rfl,rfl,rfl,by omega,by omega,hs2⟩
   |false=>
    have hbf:b=false:=hb.trans (A60 hx hk)
    have hk2:¬_:=λh=>Bool.false_ne_true (hk▸(A2t c p).2 h)
    rw[hbf]
    rw[<- hg] at hk2 h0
    rw[<- hg0] at h0
    clear hz hk
    repeat' first|refine st ?_|(with_reducible first|apply A5|apply A4)<;>intro _
    all_goals first|rfl|(exfalso;omega)
  |none=>
   have hge:=D8.1 hx
   rw[M7 (by simpa using hge)] at h2
   have hb2:b=!r:=by rw[hb,K7,okS,h2,hr,decide_eq_true (show 1<=s.length/\s.length<=24 from⟨g1,g2⟩)];simp
   rw[hb2]
   repeat' first|refine st ?_|((with_reducible first|apply A8|apply A7);(·first|exact hW|exact hR))|(with_reducible first|apply A5|apply A4)<;>intro _
   all_goals first|rfl|(exfalso;omega)
 ·repeat' first|refine st ?_|(with_reducible first|apply A5|apply A4)<;>intro _
  refine F7 A6 B4T B4I (λ(p:Nat)=>[.d (eI p)]) (λp=>[]) (λp=>p<=s.length/\(s.zipIdx.take p).all l7=true) (λp=>s.length-p) 0 rfl rfl rfl rfl (λ_ _=>⟨rfl,rfl⟩) rfl ⟨by omega,by simp⟩ ?_
  repeat' first|refine st ?_|(with_reducible first|apply A5|apply A4)<;>intro _
  intro p ⟨h1,h2⟩
  cases hx:s[p]? with
  |some c=>
   have hlt:=(B3.1 hx).1
   have hg:s.getD ((p:Nat):Int).toNat 0=c:=by simp[E7,hx]
   have hz:=A8s hx
   have h0:p=0->c=c0:=λh=>by
    subst h
    rw[hx] at hc0
    exact j7 hc0
   have h0:p=0->c.toNat=c0.toNat:=λh=>by rw[h0 h]
   cases hk:l7 (c,p) with
   |true=>
    have hs2:=A2Y (f:=l7) hz
    rw[h2,hk] at hs2
    have hk2:=(A2t c p).1 hk
    rw[<- hg] at hk2
    clear hz hk
    rcases hk2 with ⟨k1,k2⟩|k1|⟨k1,k2,k3⟩
    ·repeat' first|refine st ?_|(with_reducible first|apply A5|apply A4)<;>intro _
     exact⟨p+1,rfl,rfl,rfl,by omega,by omega,hs2⟩
    ·repeat' first|refine st ?_|(with_reducible first|apply A5|apply A4)<;>intro _
     exact⟨p+1,rfl,rfl,rfl,by omega,by omega,hs2⟩
    ·repeat' first|refine st ?_|(with_reducible first|apply A5|apply A4)<;>intro _
     exact⟨p+1,rfl,rfl,rfl,by omega,by omega,hs2⟩
   |false=>
    have hbf:b=false:=hb.trans (A60 hx hk)
    have hk2:¬_:=λh=>Bool.false_ne_true (hk▸(A2t c p).2 h)
    rw[hbf]
    rw[<- hg] at hk2 h0
    rw[<- hg0] at h0
    clear hz hk
    repeat' first|refine st ?_|(with_reducible first|apply A5|apply A4)<;>intro _
    all_goals first|rfl|(exfalso;omega)
  |none=>
   have hge:=D8.1 hx
   rw[M7 (by simpa using hge)] at h2
   have hb2:b=!r:=by rw[hb,K7,okS,h2,hr,decide_eq_true (show 1<=s.length/\s.length<=24 from⟨g1,g2⟩)];simp
   rw[hb2]
   repeat' first|refine st ?_|((with_reducible first|apply A8|apply A7);(·first|exact hW|exact hR))|(with_reducible first|apply A5|apply A4)<;>intro _
   all_goals first|rfl|(exfalso;omega)
end Go.Proofs
end
section
namespace Go.Proofs
open Go.Bi
structure Co where
 nm:List UInt8
 k:Int
 nl:Bool
abbrev Co.ds(c:Co):List D:=[.str c.nm,eI c.k,.bool c.nl]
def B2(l:List Co):List (List D):=l.map Co.ds
theorem F4(l:List Co):(B2 l).length=l.length:=by simp[B2]
theorem O2{l:List Co}{i:Nat}{c:Co}(h:l[i]?=some c):(B2 l)[i]?=some c.ds:=by simp[B2,h]
theorem I4(l:List Co):∀e∈B2 l,e.length=3:=by
 intro e he
 obtain⟨x,_,rfl⟩:=F1.1 he
 rfl
abbrev eT(n:List UInt8)(dc dk df dx:D):AV:=.agg [.d (.str n),.d dc,.d dk,.d df,.d dx]
def kd(l:List Co):List Int:=l.map Co.k
theorem O3(l:List Co):(kd l).length=l.length:=by simp[kd]
def Kt(l:List Co)(i:Nat):List (List D):=A0 (kd (l.take i))
theorem B4x(l:List Co)(i:Nat)(h:i<=l.length):(Kt l i).length=i:=by
 unfold Kt
 rw[B7,O3,L6]
 omega
theorem B4y{l:List Co}{i:Nat}{c:Co}(h:l[i]?=some c):Kt l i++[[eI c.k]]=Kt l (i+1):=by
 unfold Kt kd
 rw[Q9,h]
 simp[A0]
theorem B4w{l:List Co}{i:Nat}(h:l.length<=i):Kt l i=A0 (kd l):=by
 unfold Kt
 rw[M7 h]
def kdD(l:List Co):D:=if (A0 (kd l)).isEmpty then .nil else .sl (A0 (kd l))
theorem A7L(l:List Co):B8 (kdD l) (A0 (kd l)):=by
 unfold kdD
 split
 ·rename_i h;exact .inl ⟨rfl,by simpa using h⟩
 ·exact .inr rfl
theorem A6J(n:List UInt8)(l:List Co)(hl:l.length<=1048576)(dc dk df dx:D)(hc:B8 dc (B2 l)):Pure Tryz.prog B5W [eT n dc dk df dx] (.d (kdD l)):=by
 refine C3N.go A6 rfl ?_
 have h1:=F4 l
 have hm:=I4 l
 repeat' first|refine st ?_|(with_reducible first|apply A5|apply A4)<;>intro _
 refine A1t 3 1 rfl rfl ?_
 repeat' first|refine st ?_|(with_reducible first|apply A5|apply A4)<;>intro _
 refine J1 A6 C6c C5i (λ(i:Nat) (w:List (List D)×Bool)=>[.arr 1 w.1.length,.d (eI i)]) (λi w=>[.cells [.d (.str n),.d dc,.d dk,.d df,.d dx],.arr w.1 1 0 w.2]) (λi w=>i<=l.length/\w.1=Kt l i/\w.2=w.1.isEmpty) (λi _=>l.length-i) 0 ([],true) rfl rfl rfl rfl (λ_ _ _=>⟨rfl,rfl⟩) rfl ⟨by omega,rfl,rfl⟩ ?_
 repeat' first|refine st ?_|(with_reducible first|apply A5|apply A4)<;>intro _
 intro i w ⟨h4,h5,h6⟩
 obtain⟨A,b⟩:=w
 dsimp only at h5 h6 ⊢
 have hAl:A.length=i:=by rw[h5];exact B4x l i (by omega)
 have hAm:∀e∈A,e.length=1:=by rw[h5];exact D3 _
 cases hx:l[i]? with
 |some x=>
  have hlt:=(B3.1 hx).1
  have hs:=B4y hx
  have hg:=O2 hx
  rw[<- h5] at hs
  repeat' first|refine st ?_|(with_reducible first|apply A5|apply A4)<;>intro _
  exact⟨i+1,(A++[[eI x.k]],false),rfl,rfl,rfl,by omega,by omega,hs,by simp⟩
 |none=>
  have hge:=D8.1 hx
  rw[B4w hge] at h5
  unfold kdD
  rw[<- h5,<- h6]
  cases b with
  |true=>
   repeat' first|refine st ?_|(with_reducible first|apply A5|apply A4)<;>intro _
   all_goals rfl
  |false=>
   repeat' first|refine st ?_|(with_reducible first|apply A5|apply A4)<;>intro _
   all_goals rfl
theorem A4I(n:List UInt8)(l:List Co)(hl:l.length<=1048576)(dc dk df dx:D)(hc:B8 dc (B2 l)):Pure Tryz.prog B5g [eT n dc dk df dx] (.d (.sl (A0 (kd l)))):=by
 refine C30.go A6 rfl ?_
 have h1:=F4 l
 have hm:=I4 l
 repeat' first|refine st ?_|(with_reducible first|apply A5|apply A4)<;>intro _
 refine J1 A6 C5I C4O (λ(i:Nat) (A:List (List D))=>[.arr 1 A.length,.d (eI i)]) (λi A=>[.cells [.d (.str n),.d dc,.d dk,.d df,.d dx],.arr A 1 0 false]) (λi A=>i<=l.length/\A=Kt l i) (λi _=>l.length-i) 0 [] rfl rfl rfl rfl (λ_ _ _=>⟨rfl,rfl⟩) rfl ⟨by omega,rfl⟩ ?_
 repeat' first|refine st ?_|(with_reducible first|apply A5|apply A4)<;>intro _
 intro i A ⟨h4,h5⟩
 have hAl:A.length=i:=by rw[h5];exact B4x l i (by omega)
 have hAm:∀e∈A,e.length=1:=by rw[h5];exact D3 _
 cases hx:l[i]? with
 |some x=>
  have hlt:=(B3.1 hx).1
  have hs:=B4y hx
  have hg:=O2 hx
  rw[<- h5] at hs
  repeat' first|refine st ?_|(with_reducible first|apply A5|apply A4)<;>intro _
  exact⟨i+1,A++[[eI x.k]],rfl,rfl,rfl,by omega,by omega,hs⟩
 |none=>
  have hge:=D8.1 hx
  rw[B4w hge] at h5
  rw[<- h5]
  repeat' first|refine st ?_|(with_reducible first|apply A5|apply A4)<;>intro _
  all_goals rfl
def k9(nm:List UInt8):Nat->List Co->Int
 |_,[]=>-1
 |i,c::l=>if c.nm=nm then i else k9 nm (i+1) l
def D6(nm:List UInt8)(l:List Co):Int:=k9 nm 0 l
theorem B7E{nm:List UInt8}{l:List Co}{i:Nat}{c:Co}(h:l[i]?=some c):k9 nm i (l.drop i)=if c.nm=nm then (i:Int) else k9 nm (i+1) (l.drop (i+1)):=by
 obtain⟨hlt,he⟩:=B3.1 h
 rw[S5 hlt,he];rfl
theorem A1v(n:List UInt8)(l:List Co)(hl:l.length<=1048576)(dc dk df dx:D)(hc:B8 dc (B2 l))(nm:List UInt8):Pure Tryz.prog A56 [eT n dc dk df dx,.d (.str nm)] (.d (eI (D6 nm l))):=by
 refine C2Z.go A6 rfl ?_
 have h1:=F4 l
 have hm:=I4 l
 repeat' first|refine st ?_|(with_reducible first|apply A5|apply A4)<;>intro _
 refine F7 A6 C5H C4N (λ(i:Nat)=>[.d (eI i)]) (λi=>[.cells [.d (.str n),.d dc,.d dk,.d df,.d dx]]) (λi=>i<=l.length/\D6 nm l=k9 nm i (l.drop i)) (λi=>l.length-i) 0 rfl rfl rfl rfl (λ_ _=>⟨rfl,rfl⟩) rfl ⟨by omega,rfl⟩ ?_
 repeat' first|refine st ?_|(with_reducible first|apply A5|apply A4)<;>intro _
 intro i ⟨h4,h5⟩
 cases hx:l[i]? with
 |some x=>
  have hlt:=(B3.1 hx).1
  have hg:=O2 hx
  rw[B7E hx] at h5
  by_cases h:x.nm=nm
  ·rw[if_pos h] at h5
   rw[h5]
   repeat' first|refine st ?_|(with_reducible first|apply A5|apply A4)<;>intro _
   all_goals rfl
  ·rw[if_neg h] at h5
   repeat' first|refine st ?_|(with_reducible first|apply A5|apply A4)<;>intro _
   exact⟨i+1,rfl,rfl,rfl,by omega,by omega,h5⟩
 |none=>
  have hge:=D8.1 hx
  rw[Y2 hge] at h5
  rw[h5]
  repeat' first|refine st ?_|(with_reducible first|apply A5|apply A4)<;>intro _
  all_goals rfl
theorem C27(c:Co)(nm:List UInt8):B5 Tryz.prog A7a [.agg [.d (.str c.nm),.d (eI c.k),.d (.bool c.nl)],.ptr 0 0] [.cells [.d (.str nm)]] (λr os=>r=.d (.bool (decide (c.nm=nm)))/\os=[.cells [.d (.str nm)]]):=by
 refine C3M.goX A6 rfl ?_
 repeat' first|refine st ?_|(with_reducible first|apply A5|apply A4)<;>intro _
 all_goals exact⟨rfl,rfl⟩
theorem C1q(l:List Co)(hl:l.length<=1048576)(dc:D)(hc:B8 dc (B2 l))(nm:List UInt8):B5 Tryz.prog A9s [.d dc,.clo A7a [0]] [.cells [.d (.str nm)]] (λr os=>r=.d (eI (D6 nm l))/\os=[.cells [.d (.str nm)]]):=by
 refine C3X.goX A6 rfl ?_
 have h1:=F4 l
 have hm:=I4 l
 repeat' first|refine st ?_|(with_reducible first|apply A5|apply A4)<;>intro _
 refine F7 A6 C6l C5r (λ(i:Nat)=>[.d (eI i)]) (λi=>[.cells [.d (.str nm)]]) (λi=>i<=l.length/\D6 nm l=k9 nm i (l.drop i)) (λi=>l.length-i) 0 rfl rfl rfl rfl (λ_ _=>⟨rfl,rfl⟩) rfl ⟨by omega,rfl⟩ ?_
 repeat' first|refine st ?_|(with_reducible first|apply A5|apply A4)<;>intro _
 intro i ⟨h4,h5⟩
 cases hx:l[i]? with
 |some x=>
  have hlt:=(B3.1 hx).1
  have hg:=O2 hx
  have hC:=C27 x nm
  rw[B7E hx] at h5
  by_cases h:x.nm=nm
  ·rw[if_pos h] at h5
   rw[h5]
   rw[decide_eq_true h] at hC
   repeat' first|refine st ?_|((with_reducible first|apply I0|apply D7);(·exact hC);(try rintro _ _ ⟨rfl,rfl⟩))|((with_reducible apply I8);(·exact hC))|((with_reducible apply H8);refine st ?_;(with_reducible apply I5);(·exact rfl);refine st ?_;(with_reducible apply D7);(·exact hC);(try rintro _ _ ⟨rfl,rfl⟩))|(with_reducible first|apply A5|apply A4)<;>intro _
   all_goals exact⟨rfl,rfl⟩
  ·rw[if_neg h] at h5
   rw[decide_eq_false h] at hC
   repeat' first|refine st ?_|((with_reducible first|apply I0|apply D7);(·exact hC);(try rintro _ _ ⟨rfl,rfl⟩))|((with_reducible apply I8);(·exact hC))|((with_reducible apply H8);refine st ?_;(with_reducible apply I5);(·exact rfl);refine st ?_;(with_reducible apply D7);(·exact hC);(try rintro _ _ ⟨rfl,rfl⟩))|(with_reducible first|apply A5|apply A4)<;>intro _
   exact⟨i+1,rfl,rfl,rfl,by omega,by omega,h5⟩
 |none=>
  have hge:=D8.1 hx
  rw[Y2 hge] at h5
  rw[h5]
  repeat' first|refine st ?_|(with_reducible first|apply A5|apply A4)<;>intro _
  all_goals exact⟨rfl,rfl⟩
theorem R8(n:List UInt8)(l:List Co)(hl:l.length<=1048576)(dc dk df dx:D)(hc:B8 dc (B2 l))(nm:List UInt8):Pure Tryz.prog U5 [eT n dc dk df dx,.d (.str nm)] (.d (eI (D6 nm l))):=by
 refine C3L.go A6 rfl ?_
 have hF:B5 Tryz.prog A9s [.d dc,.clo A7a [1]] [.cells [.d (.str n),.d dc,.d dk,.d df,.d dx],.cells [.d (.str nm)]] (λr os=>r=.d (eI (D6 nm l))/\os=[.cells [.d (.str n),.d dc,.d dk,.d df,.d dx],.cells [.d (.str nm)]]):=
  B5.frame (C1q l hl dc hc nm) [1] [.cells [.d (.str n),.d dc,.d dk,.d df,.d dx],.cells [.d (.str nm)]] rfl (by decide)
   (λi o h=>by
    match i,h with
    |0,h=>cases h;rfl
    |i+1,h=>simp at h)
   (λa ha=>by simp at ha;rcases ha with rfl|rfl<;>simp[AV.bnd2,AV.bnd1])
   (λo ho=>by simp at ho;subst ho;simp[AO.bnd,AV.bnd1])
   (λr bs' h=>by obtain⟨rfl,rfl⟩:=h;exact⟨rfl,rfl⟩)
 repeat' first|refine st ?_|((with_reducible first|apply I0|apply D7);(·exact hF);(try rintro _ _ ⟨rfl,rfl⟩))|((with_reducible apply I8);(·exact hF))|((with_reducible apply H8);refine st ?_;(with_reducible apply I5);(·exact rfl);refine st ?_;(with_reducible apply D7);(·exact hF);(try rintro _ _ ⟨rfl,rfl⟩))|(with_reducible first|apply A5|apply A4)<;>intro _
 all_goals rfl
def b9(l:List Co):Option Int->List Int->Int
 |_,[]=>0
 |p,k::ks=>if 0<=k/\k<l.length then (match p with
  |some q=>if k<=q then 25 else if (l.getD k.toNat ⟨[],0,false⟩).nl then 12 else b9 l (some k) ks
  |none=>if (l.getD k.toNat ⟨[],0,false⟩).nl then 12 else b9 l (some k) ks) else 25
def A0i(l:List Co)(ks:List Int):Int:=if ks.length=0 then 25 else b9 l none ks
def o7(ks:List Int)(i:Nat):Option Int:=if i=0 then none else ks[i-1]?
theorem B8i{l:List Co}{ks:List Int}{i:Nat}{k:Int}(h:ks[i]?=some k):b9 l (o7 ks i) (ks.drop i)=if 0<=k/\k<l.length then (match o7 ks i with
  |some q=>if k<=q then 25 else if (l.getD k.toNat ⟨[],0,false⟩).nl then 12 else b9 l (o7 ks (i+1)) (ks.drop (i+1))
  |none=>if (l.getD k.toNat ⟨[],0,false⟩).nl then 12 else b9 l (o7 ks (i+1)) (ks.drop (i+1))) else 25:=by
 obtain⟨hlt,he⟩:=B3.1 h
 have hp:o7 ks (i+1)=some k:=by rw[o7,if_neg (by omega)];exact h
 rw[S5 hlt,he,hp]
 cases o7 ks i<;>rfl
theorem B24(n:List UInt8)(l:List Co)(hl:l.length<=1048576)(dc dk df dx:D)(hc:B8 dc (B2 l))(k:Int):Pure Tryz.prog B5Y [eT n dc dk df dx,.d (eI k)] (.d (.bool (decide (0<=k/\k<l.length)))):=by
 refine C3T.go A6 rfl ?_
 have h1:=F4 l
 repeat' first|refine st ?_|(with_reducible first|apply A5|apply A4)<;>intro _
 all_goals (simp_all<;>(intros;omega))
theorem B1Y(n:List UInt8)(l:List Co)(hl:l.length<=1048576)(dc dk df dx:D)(hc:B8 dc (B2 l))(k:Int):Pure Tryz.prog B5k [eT n dc dk df dx,.d (eI k)] (.d (.bool (decide (0<=k/\k<l.length)))):=by
 refine C35.go A6 rfl ?_
 have h1:=F4 l
 repeat' first|refine st ?_|(with_reducible first|apply A5|apply A4)<;>intro _
 all_goals (simp_all<;>(intros;omega))
theorem C2b(n:List UInt8)(l:List Co)(hl:l.length<=1048576)(dc dk df dx:D)(hc:B8 dc (B2 l))(ks:List Int)(hk:ks.length<=1048576)(hdk:B8 dk (A0 ks)):Pure Tryz.prog A7e [eT n dc dk df dx] (.d (eI (A0i l ks))):=by
 refine C3S.go A6 rfl ?_
 have h1:=F4 l
 have hm:=I4 l
 have h2:=B7 ks
 have hm2:=D3 ks
 unfold A0i
 by_cases h0:ks.length=0
 ·rw[if_pos h0]
  repeat' first|refine st ?_|(with_reducible first|apply A5|apply A4)<;>intro _
  all_goals first|rfl|(exfalso;omega)
 rw[if_neg h0]
 obtain⟨q,hq⟩:∃q,q=b9 l none ks:=⟨_,rfl⟩
 rw[<- hq]
 repeat' first|refine st ?_|(with_reducible first|apply A5|apply A4)<;>intro _
 refine F7 A6 C6i C5o (λ(i:Nat)=>[.d (eI i)]) (λi=>[.cells [.d (.str n),.d dc,.d dk,.d df,.d dx]]) (λi=>i<=ks.length/\q=b9 l (o7 ks i) (ks.drop i)) (λi=>ks.length-i) 0 rfl rfl rfl rfl (λ_ _=>⟨rfl,rfl⟩) rfl ⟨by omega,hq⟩ ?_
 repeat' first|refine st ?_|(with_reducible first|apply A5|apply A4)<;>intro _
 intro i ⟨h4,h5⟩
 cases hx:ks[i]? with
 |some k=>
  have hlt:=(B3.1 hx).1
  have hg:=N4 hx
  have hH:=B24 n l hl dc dk df dx hc k
  rw[B8i hx] at h5
  by_cases hin:0<=k/\k<l.length
  rotate_left
  ·rw[if_neg hin] at h5
   rw[decide_eq_false hin] at hH
   rw[h5]
   repeat' first|refine st ?_|((with_reducible first|apply A8|apply A7);(·exact hH))|(with_reducible first|apply A5|apply A4)<;>intro _
   all_goals rfl
  rw[if_pos hin] at h5
  rw[decide_eq_true hin] at hH
  obtain⟨i1,i2⟩:=hin
  obtain⟨c,hcx⟩:∃c,l[k.toNat]?=some c:=⟨_,C8 (by omega)⟩
  have hgc:=O2 hcx
  have hb2:k<(B2 l).length:=by omega
  rw[show l.getD k.toNat ⟨[],0,false⟩=c by rw[E7,hcx];rfl] at h5
  obtain⟨cn,ck,cl⟩:=c
  dsimp only at h5 hgc
  by_cases hi:i=0
  ·subst hi
   rw[show o7 ks 0=none from rfl] at h5
   dsimp only at h5
   cases cl with
   |true=>
    rw[if_pos rfl] at h5
    rw[h5]
    repeat' first|refine st ?_|((with_reducible first|apply A8|apply A7);(·exact hH))|(with_reducible first|apply A5|apply A4)<;>intro _
    all_goals rfl
   |false=>
    rw[if_neg (by simp)] at h5
    repeat' first|refine st ?_|((with_reducible first|apply A8|apply A7);(·exact hH))|(with_reducible first|apply A5|apply A4)<;>intro _
    exact⟨1,rfl,rfl,rfl,by omega,by omega,h5⟩
  ·obtain⟨k',hk'⟩:∃k',ks[i-1]?=some k':=⟨_,C8 (by omega)⟩
   have hg':(A0 ks)[((i:Int)-1).toNat]?=some [eI k']:=by
    rw[show((i:Int)-1).toNat=i-1 by omega]
    exact N4 hk'
   have hw:(0:Int)<i:=by omega
   rw[show o7 ks i=some k' by rw[o7,if_neg hi,hk']] at h5
   dsimp only at h5
   by_cases hle:k<=k'
   ·rw[if_pos hle] at h5
    rw[h5]
    repeat' first|refine st ?_|((with_reducible first|apply A8|apply A7);(·exact hH))|(with_reducible first|apply A5|apply A4)<;>intro _
    all_goals rfl
   ·rw[if_neg hle] at h5
    cases cl with
    |true=>
     rw[if_pos rfl] at h5
     rw[h5]
     repeat' first|refine st ?_|((with_reducible first|apply A8|apply A7);(·exact hH))|(with_reducible first|apply A5|apply A4)<;>intro _
     all_goals rfl
    |false=>
     rw[if_neg (by simp)] at h5
     repeat' first|refine st ?_|((with_reducible first|apply A8|apply A7);(·exact hH))|(with_reducible first|apply A5|apply A4)<;>intro _
     exact⟨i+1,rfl,rfl,rfl,by omega,by omega,h5⟩
 |none=>
  have hge:=D8.1 hx
  rw[Y2 hge] at h5
  rw[h5]
  repeat' first|refine st ?_|(with_reducible first|apply A5|apply A4)<;>intro _
  all_goals first|rfl|(unfold b9;rfl)
theorem C1K(n:List UInt8)(l:List Co)(hl:l.length<=1048576)(dc dk df dx:D)(hc:B8 dc (B2 l))(ks:List Int)(hk:ks.length<=1048576)(hdk:B8 dk (A0 ks)):Pure Tryz.prog B5n [eT n dc dk df dx] (.d (eI (A0i l ks))):=by
 refine C38.go A6 rfl ?_
 have h1:=F4 l
 have hm:=I4 l
 have h2:=B7 ks
 have hm2:=D3 ks
 unfold A0i
 by_cases h0:ks.length=0
 ·rw[if_pos h0]
  repeat' first|refine st ?_|(with_reducible first|apply A5|apply A4)<;>intro _
  all_goals first|rfl|(exfalso;omega)
 rw[if_neg h0]
 obtain⟨q,hq⟩:∃q,q=b9 l none ks:=⟨_,rfl⟩
 rw[<- hq]
 repeat' first|refine st ?_|(with_reducible first|apply A5|apply A4)<;>intro _
 refine F7 A6 C5P C4V (λ(i:Nat)=>[.d (eI i)]) (λi=>[.cells [.d (.str n),.d dc,.d dk,.d df,.d dx]]) (λi=>i<=ks.length/\q=b9 l (o7 ks i) (ks.drop i)) (λi=>ks.length-i) 0 rfl rfl rfl rfl (λ_ _=>⟨rfl,rfl⟩) rfl ⟨by omega,hq⟩ ?_
 repeat' first|refine st ?_|(with_reducible first|apply A5|apply A4)<;>intro _
 intro i ⟨h4,h5⟩
 cases hx:ks[i]? with
 |some k=>
  have hlt:=(B3.1 hx).1
  have hg:=N4 hx
  have hH:=B1Y n l hl dc dk df dx hc k
  rw[B8i hx] at h5
  by_cases hin:0<=k/\k<l.length
  rotate_left
  ·rw[if_neg hin] at h5
   rw[decide_eq_false hin] at hH
   rw[h5]
   repeat' first|refine st ?_|((with_reducible first|apply A8|apply A7);(·exact hH))|(with_reducible first|apply A5|apply A4)<;>intro _
   all_goals rfl
  rw[if_pos hin] at h5
  rw[decide_eq_true hin] at hH
  obtain⟨i1,i2⟩:=hin
  obtain⟨c,hcx⟩:∃c,l[k.toNat]?=some c:=⟨_,C8 (by omega)⟩
  have hgc:=O2 hcx
  have hb2:k<(B2 l).length:=by omega
  rw[show l.getD k.toNat ⟨[],0,false⟩=c by rw[E7,hcx];rfl] at h5
  obtain⟨cn,ck,cl⟩:=c
  dsimp only at h5 hgc
  by_cases hi:i=0
  ·subst hi
   rw[show o7 ks 0=none from rfl] at h5
   dsimp only at h5
   cases cl with
   |true=>
    rw[if_pos rfl] at h5
    rw[h5]
    repeat' first|refine st ?_|((with_reducible first|apply A8|apply A7);(·exact hH))|(with_reducible first|apply A5|apply A4)<;>intro _
    all_goals rfl
   |false=>
    rw[if_neg (by simp)] at h5
    repeat' first|refine st ?_|((with_reducible first|apply A8|apply A7);(·exact hH))|(with_reducible first|apply A5|apply A4)<;>intro _
    exact⟨1,rfl,rfl,rfl,by omega,by omega,h5⟩
  ·obtain⟨k',hk'⟩:∃k',ks[i-1]?=some k':=⟨_,C8 (by omega)⟩
   have hg':(A0 ks)[((i:Int)-1).toNat]?=some [eI k']:=by
    rw[show((i:Int)-1).toNat=i-1 by omega]
    exact N4 hk'
   have hw:(0:Int)<i:=by omega
   rw[show o7 ks i=some k' by rw[o7,if_neg hi,hk']] at h5
   dsimp only at h5
   by_cases hle:k<=k'
   ·rw[if_pos hle] at h5
    rw[h5]
    repeat' first|refine st ?_|((with_reducible first|apply A8|apply A7);(·exact hH))|(with_reducible first|apply A5|apply A4)<;>intro _
    all_goals rfl
   ·rw[if_neg hle] at h5
    cases cl with
    |true=>
     rw[if_pos rfl] at h5
     rw[h5]
     repeat' first|refine st ?_|((with_reducible first|apply A8|apply A7);(·exact hH))|(with_reducible first|apply A5|apply A4)<;>intro _
     all_goals rfl
    |false=>
     rw[if_neg (by simp)] at h5
     repeat' first|refine st ?_|((with_reducible first|apply A8|apply A7);(·exact hH))|(with_reducible first|apply A5|apply A4)<;>intro _
     exact⟨i+1,rfl,rfl,rfl,by omega,by omega,h5⟩
 |none=>
  have hge:=D8.1 hx
  rw[Y2 hge] at h5
  rw[h5]
  repeat' first|refine st ?_|(with_reducible first|apply A5|apply A4)<;>intro _
  all_goals first|rfl|(unfold b9;rfl)
def m7(seen:List (List UInt8)):List Co->Int
 |[]=>0
 |c::r=>if K7 c.nm then (if 1<=c.k/\c.k<=3 then (if c.nm∈seen then 10 else m7 (seen++[c.nm]) r) else 7) else 1
def t8(l:List Co):Int:=if 1<=l.length/\l.length<=12 then m7 [] l else 13
def o6(l:List Co)(i:Nat):List (List UInt8):=(l.take i).map Co.nm
theorem B8L{l:List Co}{i:Nat}{c:Co}(h:l[i]?=some c):o6 l i++[c.nm]=o6 l (i+1):=by
 unfold o6
 rw[Q9,h]
 simp
theorem B74{l:List Co}{i:Nat}{c:Co}(h:l[i]?=some c):m7 (o6 l i) (l.drop i)=if K7 c.nm then (if 1<=c.k/\c.k<=3 then (if c.nm∈o6 l i then 10 else m7 (o6 l (i+1)) (l.drop (i+1))) else 7) else 1:=by
 obtain⟨hlt,he⟩:=B3.1 h
 rw[S5 hlt,he,<- B8L h,m7]
def X0(ns:List (List UInt8)):List (D×AV):=ns.map λs=>(.str s,.d (eI 1))
theorem A38(a b:List UInt8):Y6 .s (.str a) (.str b)=some (decide (a=b)):=by
 unfold Y6
 rw[A0t,A0T]
 simp
theorem B0K(s:List UInt8)(kvs:List (D×AV))(h:∀p∈kvs,∃t,p.1=.str t):l6 .s (.str s) kvs:=by
 refine⟨λp hp=>?_,by rw[A38];simp⟩
 obtain⟨t,ht⟩:=h p hp
 rw[ht,A38];simp
theorem B0L(ns:List (List UInt8)):∀p∈X0 ns,∃t,p.1=.str t:=by
 intro p hp
 obtain⟨s,_,rfl⟩:=F1.1 hp
 exact⟨s,rfl⟩
theorem B0G{s:List UInt8}:∀{ns:List (List UInt8)},s∈ns->J2 .s (.str s) (X0 ns)=some (.d (eI 1))
 |[],h=>by cases h
 |t::ns,h=>by
  unfold X0
  rw[Q3,J2,A38]
  by_cases e:s=t
  ·rw[if_pos (by rw[decide_eq_true e])]
  ·rw[if_neg (by simp[e])]
   exact B0G (by rcases I9.1 h with h|h;exact absurd h e;exact h)
theorem B8B{s:List UInt8}:∀{ns:List (List UInt8)},¬s∈ns->J2 .s (.str s) (X0 ns)=none
 |[],h=>rfl
 |t::ns,h=>by
  unfold X0
  rw[Q3,J2,A38]
  rw[if_neg (by simp;intro e;exact h (by simp[e]))]
  exact B8B λh'=>h (by simp[h'])
theorem B8E{s:List UInt8}{v:AV}:∀{ns:List (List UInt8)},¬s∈ns->K5 .s (.str s) v (X0 ns)=X0 ns++[(.str s,v)]
 |[],h=>rfl
 |t::ns,h=>by
  unfold X0
  rw[Q3,K5,A38]
  rw[if_neg (by simp;intro e;exact h (by simp[e]))]
  have e:K5 .s (.str s) v (X0 ns)=X0 ns++[(.str s,v)]:=B8E (λh':s∈ns=>h (I2 _ h'))
  unfold X0 at e
  rw[e];rfl
theorem B8G{s:List UInt8}{v:AV}:∀{kvs:List (D×AV)},(∀p∈kvs,∃t,p.1=.str t)->∀p∈K5 .s (.str s) v kvs,∃t,p.1=.str t
 |[],h,p,hp=>by simp[K5] at hp;subst hp;exact⟨s,rfl⟩
 |q::kvs,h,p,hp=>by
  unfold K5 at hp
  split at hp
  ·rcases I9.1 hp with rfl|hp
   ·exact⟨s,rfl⟩
   ·exact h p (by simp[hp])
  ·rcases I9.1 hp with rfl|hp
   ·exact h _ (by simp)
   ·exact B8G (λp hp=>h p (by simp[hp])) p hp
theorem B8z{s:List UInt8}{v:AV}:∀{kvs:List (D×AV)},J2 .s (.str s) (K5 .s (.str s) v kvs)=some v
 |[]=>by simp[K5,J2,A38]
 |q::kvs=>by
  unfold K5
  split
  ·simp[J2,A38]
  ·rename_i h
   rw[J2,if_neg h]
   exact B8z
theorem B7F{nm:List UInt8}:∀{l:List Co}{i j:Nat}{c:Co},l[j]?=some c->c.nm=nm->k9 nm i l=(i+j:Nat)/\¬nm∈(l.take j).map Co.nm\/(i:Int)<=k9 nm i l/\k9 nm i l<(i+j:Nat)/\nm∈(l.take j).map Co.nm
 |[],i,j,c,h,_=>by simp at h
 |d::l,i,0,c,h,e=>by
  simp only[A1z,A0t] at h
  subst h
  left
  unfold k9
  rw[if_pos e]
  exact⟨by simp,by simp⟩
 |d::l,i,j+1,c,h,e=>by
  rw[j0] at h
  unfold k9
  by_cases hd:d.nm=nm
  ·right
   rw[if_pos hd]
   exact⟨Int.le_refl _,by omega,by simp[hd]⟩
  ·rw[if_neg hd]
   rcases B7F (i:=i+1) h e with ⟨h1,h2⟩|⟨h1,h2,h3⟩
   ·left
    refine⟨by omega,?_⟩
    simp only[A2Q,Q3,I9,not_or]
    exact⟨λh=>hd h.symm,h2⟩
   ·right
    refine⟨by omega,by omega,?_⟩
    simp only[A2Q,Q3,I9]
    exact .inr h3
theorem C1G(n:List UInt8)(l:List Co)(hl:l.length<=1048576)(hls:∀c∈l,c.nm.length<=1048576)(dc dk df dx:D)(hc:B8 dc (B2 l)):Pure Tryz.prog B5i [eT n dc dk df dx] (.d (eI (t8 l))):=by
 refine C33.go A6 rfl ?_
 have h1:=F4 l
 have hm:=I4 l
 unfold t8
 by_cases h0:1<=l.length/\l.length<=12
 rotate_left
 ·rw[if_neg h0]
  repeat' first|refine st ?_|(with_reducible first|apply A5|apply A4)<;>intro _
  all_goals first|rfl|(exfalso;omega)
 rw[if_pos h0]
 obtain⟨g1,g2⟩:=h0
 obtain⟨q,hq⟩:∃q,q=m7 [] l:=⟨_,rfl⟩
 rw[<- hq]
 repeat' first|refine st ?_|(with_reducible first|apply A5|apply A4)<;>intro _
 refine F7 A6 C5J C4P (λ(i:Nat)=>[.d (eI i)]) (λi=>[.cells [.d (.str n),.d dc,.d dk,.d df,.d dx]]) (λi=>i<=l.length/\q=m7 (o6 l i) (l.drop i)) (λi=>l.length-i) 0 rfl rfl rfl rfl (λ_ _=>⟨rfl,rfl⟩) rfl ⟨by omega,hq⟩ ?_
 repeat' first|refine st ?_|(with_reducible first|apply A5|apply A4)<;>intro _
 intro i ⟨h4,h5⟩
 cases hx:l[i]? with
 |some x=>
  have hlt:=(B3.1 hx).1
  have hg:=O2 hx
  have hN:=A4J x.nm (hls x (C4 hx))
  have hF:=A1v n l hl dc dk df dx hc x.nm
  have hff:=B7F (i:=0) hx rfl
  rw[B74 hx] at h5
  cases hv:K7 x.nm with
  |false=>
   rw[hv,if_neg (by simp)] at h5
   rw[hv] at hN
   rw[h5]
   repeat' first|refine st ?_|((with_reducible first|apply A8|apply A7);(·exact hN))|(with_reducible first|apply A5|apply A4)<;>intro _
   all_goals rfl
  |true=>
   rw[hv,if_pos rfl] at h5
   rw[hv] at hN
   by_cases hk:1<=x.k/\x.k<=3
   rotate_left
   ·rw[if_neg hk] at h5
    rw[h5]
    repeat' first|refine st ?_|((with_reducible first|apply A8|apply A7);(·exact hN))|(with_reducible first|apply A5|apply A4)<;>intro _
    all_goals first|rfl|(exfalso;omega)
   rw[if_pos hk] at h5
   obtain⟨k1,k2⟩:=hk
   by_cases hin:x.nm∈o6 l i
   ·rw[if_pos hin] at h5
    have hlti:D6 x.nm l<i:=by
     rcases hff with ⟨_,h⟩|⟨_,h,_⟩
     ·exact absurd hin h
     ·rw[D6];omega
    rw[h5]
    repeat' first|refine st ?_|((with_reducible first|apply A8|apply A7);(·first|exact hN|exact hF))|(with_reducible first|apply A5|apply A4)<;>intro _
    all_goals rfl
   ·rw[if_neg hin] at h5
    have hge:¬D6 x.nm l<i:=by
     rcases hff with ⟨h,_⟩|⟨_,_,h⟩
     ·rw[D6];omega
     ·exact absurd h hin
    repeat' first|refine st ?_|((with_reducible first|apply A8|apply A7);(·first|exact hN|exact hF))|(with_reducible first|apply A5|apply A4)<;>intro _
    exact⟨i+1,rfl,rfl,rfl,by omega,by omega,h5⟩
 |none=>
  have hge:=D8.1 hx
  rw[Y2 hge] at h5
  rw[h5]
  repeat' first|refine st ?_|(with_reducible first|apply A5|apply A4)<;>intro _
  all_goals rfl
theorem C2c(k:Int):Pure Tryz.prog B5Z [.d (eI k)] (.d (.bool (decide (1<=k/\k<=3)))):=by
 refine C3U.go A6 rfl ?_
 repeat' first|refine st ?_|(with_reducible first|apply A5|apply A4)<;>intro _
 all_goals (simp_all<;>(intros;omega))
theorem D1v(ns:List (List UInt8))(s:List UInt8):X0 ns++[(.str s,.d (eI 1))]=X0 (ns++[s]):=by simp[X0]
theorem C29(n:List UInt8)(l:List Co)(hl:l.length<=1048576)(hls:∀c∈l,c.nm.length<=1048576)(dc dk df dx:D)(hc:B8 dc (B2 l)):Pure Tryz.prog A7c [eT n dc dk df dx] (.d (eI (t8 l))):=by
 refine C3Q.go A6 rfl ?_
 have h1:=F4 l
 have hm:=I4 l
 unfold t8
 by_cases h0:1<=l.length/\l.length<=12
 rotate_left
 ·rw[if_neg h0]
  repeat' first|refine st ?_|(with_reducible first|apply A5|apply A4)<;>intro _
  all_goals first|rfl|(exfalso;omega)
 rw[if_pos h0]
 obtain⟨g1,g2⟩:=h0
 obtain⟨q,hq⟩:∃q,q=m7 [] l:=⟨_,rfl⟩
 rw[<- hq]
 repeat' first|refine st ?_|(with_reducible first|apply A5|apply A4)<;>intro _
 refine F7 A6 C6f C5l (λ(i:Nat)=>[.d (eI i)]) (λi=>[.cells [.d (.str n),.d dc,.d dk,.d df,.d dx],.map (X0 (o6 l i))]) (λi=>i<=l.length/\q=m7 (o6 l i) (l.drop i)) (λi=>l.length-i) 0 rfl rfl rfl rfl (λ_ _=>⟨rfl,(by simp[Z3,AO.bndB,X0,AV.bnd2B,AV.bnd1B])⟩) rfl ⟨by omega,hq⟩ ?_
 repeat' first|refine st ?_|(with_reducible first|apply A5|apply A4)<;>intro _
 intro i ⟨h4,h5⟩
 cases hx:l[i]? with
 |some x=>
  have hlt:=(B3.1 hx).1
  have hg:=O2 hx
  have hN:=A4M x.nm (hls x (C4 hx))
  have hK:=C2c x.k
  have hs:=B8L hx
  rw[B74 hx] at h5
  obtain⟨kvs,hkv⟩:∃kvs,kvs=X0 (o6 l i):=⟨_,rfl⟩
  have m1:l6 .s (.str x.nm) kvs:=by rw[hkv];exact B0K _ _ (B0L _)
  by_cases hin:x.nm∈o6 l i
  ·rw[if_pos hin] at h5
   have e1:lkR false (zv false [.int .i64 0]) (J2 .s (.str x.nm) kvs)=.d (eI 1):=by rw[hkv,B0G hin];rfl
   obtain⟨kv2,e2⟩:∃kv2,K5 .s (.str x.nm) (.d (eI 2)) kvs=kv2:=⟨_,rfl⟩
   have m2:l6 .s (.str x.nm) kv2:=by rw[<- e2,hkv];exact B0K _ _ (B8G (B0L _))
   have e3:lkR false (zv false [.int .i64 0]) (J2 .s (.str x.nm) kv2)=.d (eI 2):=by rw[<- e2,B8z];rfl
   rw[<- hkv]
   cases hv:K7 x.nm with
   |false=>
    rw[hv,if_neg (by simp)] at h5
    rw[hv] at hN
    rw[h5]
    repeat' first|refine st ?_|((with_reducible first|apply A8|apply A7);(·exact hN))|(with_reducible first|apply A5|apply A4)<;>intro _
    all_goals rfl
   |true=>
    rw[hv,if_pos rfl] at h5
    rw[hv] at hN
    by_cases hk:1<=x.k/\x.k<=3
    ·rw[if_pos hk] at h5
     rw[decide_eq_true hk] at hK
     rw[h5]
     repeat' first|refine st ?_|((with_reducible first|apply A8|apply A7);(·first|exact hN|exact hK))|(with_reducible first|apply A5|apply A4)<;>intro _
     all_goals rfl
    ·rw[if_neg hk] at h5
     rw[decide_eq_false hk] at hK
     rw[h5]
     repeat' first|refine st ?_|((with_reducible first|apply A8|apply A7);(·first|exact hN|exact hK))|(with_reducible first|apply A5|apply A4)<;>intro _
     all_goals rfl
  ·rw[if_neg hin] at h5
   have e1:lkR false (zv false [.int .i64 0]) (J2 .s (.str x.nm) kvs)=.d (eI 0):=by rw[hkv,B8B hin];rfl
   have e2:K5 .s (.str x.nm) (.d (eI 1)) kvs=X0 (o6 l (i+1)):=by rw[hkv,B8E hin,D1v,hs]
   have m2:l6 .s (.str x.nm) (X0 (o6 l (i+1))):=B0K _ _ (B0L _)
   have e3:lkR false (zv false [.int .i64 0]) (J2 .s (.str x.nm) (X0 (o6 l (i+1))))=.d (eI 1):=by rw[B0G (by rw[<- hs];simp)];rfl
   rw[<- hkv]
   cases hv:K7 x.nm with
   |false=>
    rw[hv,if_neg (by simp)] at h5
    rw[hv] at hN
    rw[h5]
    repeat' first|refine st ?_|((with_reducible first|apply A8|apply A7);(·exact hN))|(with_reducible first|apply A5|apply A4)<;>intro _
    all_goals rfl
   |true=>
    rw[hv,if_pos rfl] at h5
    rw[hv] at hN
    by_cases hk:1<=x.k/\x.k<=3
    ·rw[if_pos hk] at h5
     rw[decide_eq_true hk] at hK
     repeat' first|refine st ?_|((with_reducible first|apply A8|apply A7);(·first|exact hN|exact hK))|(with_reducible first|apply A5|apply A4)<;>intro _
     exact⟨i+1,rfl,rfl,rfl,by omega,by omega,h5⟩
    ·rw[if_neg hk] at h5
     rw[decide_eq_false hk] at hK
     rw[h5]
     repeat' first|refine st ?_|((with_reducible first|apply A8|apply A7);(·first|exact hN|exact hK))|(with_reducible first|apply A5|apply A4)<;>intro _
     all_goals rfl
 |none=>
  have hge:=D8.1 hx
  rw[Y2 hge] at h5
  rw[h5]
  repeat' first|refine st ?_|(with_reducible first|apply A5|apply A4)<;>intro _
  all_goals rfl
end Go.Proofs
end
section
namespace Go.Proofs
open Go.Bi
inductive Ex where
 |mk (op n:Int) (v:Vl) (name:List UInt8) (nl:Bool) (args:List Ex)
theorem Ex.ind{p:Ex->Prop}(h:∀op n v name nl args,(∀a∈args,p a)->p (.mk op n v name nl args)):∀e,p e
 |.mk op n v name nl args=>h _ _ _ _ _ _ λa ha=>Ex.ind h a
termination_by e=>SizeOf.sizeOf e
decreasing_by
 have:=List.sizeOf_lt_of_mem ha
 simp only[Ex.mk.sizeOf_spec]
 omega
def ng(nl:Bool)(l:List (List D)):D:=if nl&&l.isEmpty then .nil else .sl l
theorem p8{nl:Bool}{l:List (List D)}:B8 (ng nl l) l:=by
 unfold ng
 split
 ·rename_i h
  simp only[L2,A2L] at h
  exact .inl ⟨rfl,h.2⟩
 ·exact .inr rfl
abbrev W0(op n:Int)(v:Vl)(name:List UInt8)(d:D):List D:=[eI op,eI n,eI v.k,eI v.n,.str v.s,.str name,d]
abbrev eX(op n:Int)(v:Vl)(name:List UInt8)(d:D):AV:=.agg [.d (eI op),.d (eI n),.d (eI v.k),.d (eI v.n),.d (.str v.s),.d (.str name),.d d]
mutual
def Ex.ds:Ex->List D
 |.mk op n v name nl args=>W0 op n v name (ng nl (Ex.dss args))
def Ex.dss:List Ex->List (List D)
 |[]=>[]
 |e::es=>e.ds::Ex.dss es
end
theorem Ex.dss_eq:∀l,Ex.dss l=l.map Ex.ds
 |[]=>by simp[Ex.dss]
 |e::es=>by simp[Ex.dss,Ex.dss_eq es]
def xL(l:List Ex):List (List D):=l.map Ex.ds
theorem Ex.ds_mk(op n:Int)(v:Vl)(name:List UInt8)(nl:Bool)(args:List Ex):(Ex.mk op n v name nl args).ds=W0 op n v name (ng nl (xL args)):=by
 rw[Ex.ds,Ex.dss_eq];rfl
def Ex.av(e:Ex):AV:=.agg (e.ds.map .d)
theorem Ex.av_mk(op n:Int)(v:Vl)(name:List UInt8)(nl:Bool)(args:List Ex):(Ex.mk op n v name nl args).av=eX op n v name (ng nl (xL args)):=by
 rw[Ex.av,Ex.ds_mk];rfl
theorem I6(l:List Ex):(xL l).length=l.length:=by simp[xL]
theorem O7(l:List Ex):∀e∈xL l,e.length=7:=by
 intro e he
 obtain⟨⟨op,n,v,name,nl,args⟩,_,rfl⟩:=F1.1 he
 rw[Ex.ds_mk];rfl
theorem r8{l:List Ex}{i:Nat}{e:Ex}(h:l[i]?=some e):(xL l)[i]?=some e.ds:=by simp[xL,h]
def Ex.bk(e:Ex):Nat:=E4 e.ds
theorem A1I{l:List (List D)}{x:List D}(h:x∈l):E4 x<=G6 l:=by
 induction l with
 |nil=>cases h
 |cons y l ih=>
  simp only[G6]
  rcases I9.1 h with rfl|h
  ·omega
  ·have:=ih h;omega
theorem A3R{l:List (List D)}(h:∀x∈l,1<=E4 x):l.length<=G6 l:=by
 induction l with
 |nil=>exact T6 _
 |cons y l ih=>
  have h1:=h y (by simp)
  have h2:=ih λx hx=>h x (by simp[hx])
  simp only[G6,I7]
  omega
theorem Ex.bk_mk(op n:Int)(v:Vl)(name:List UInt8)(nl:Bool)(args:List Ex):G6 (xL args)+v.s.length+name.length+6<=(Ex.mk op n v name nl args).bk:=by
 rw[Ex.bk,Ex.ds_mk]
 simp only[E4,U7]
 unfold ng
 split
 ·rename_i h
  simp only[L2,A2L] at h
  rw[h.2]
  simp only[U7,G6]
  omega
 ·simp only[U7];omega
theorem Ex.bk_pos(e:Ex):6<=e.bk:=by
 obtain⟨op,n,v,name,nl,args⟩:=e
 have:=Ex.bk_mk op n v name nl args
 omega
theorem C0h(l:List Ex):l.length<=G6 (xL l):=by
 rw[<- I6 l]
 refine A3R λx hx=>?_
 obtain⟨e,_,rfl⟩:=F1.1 hx
 have:=e.bk_pos
 unfold Ex.bk at this
 omega
theorem Ex.bk_arg{op n:Int}{v:Vl}{name:List UInt8}{nl:Bool}{args:List Ex}{a:Ex}(h:a∈args):a.bk<(Ex.mk op n v name nl args).bk:=by
 have h1:=Ex.bk_mk op n v name nl args
 have h2:E4 a.ds<=G6 (xL args):=A1I (F1.2 ⟨a,h,rfl⟩)
 unfold Ex.bk at *
 omega
theorem Ex.bk_bounds{op n:Int}{v:Vl}{name:List UInt8}{nl:Bool}{args:List Ex}{B:Nat}(h:(Ex.mk op n v name nl args).bk<=B):args.length<=B/\v.s.length<=B/\name.length<=B/\∀a∈args,a.bk<=B:=by
 have h1:=Ex.bk_mk op n v name nl args
 have h2:=C0h args
 exact⟨by omega,by omega,by omega,λa ha=>by have:=Ex.bk_arg (op:=op) (n:=n) (v:=v) (name:=name) (nl:=nl) ha;omega⟩
end Go.Proofs
end
section
namespace Go.Proofs
open Go.Bi
structure Fo where
 nl:Bool
 cs:List Int
 tb:List UInt8
def Fo.d(f:Fo):D:=ng f.nl (A0 f.cs)
abbrev Fo.ds(f:Fo):List D:=[f.d,.str f.tb]
theorem Fo.sld(f:Fo):B8 f.d (A0 f.cs):=p8
def H6(l:List Fo):List (List D):=l.map Fo.ds
theorem A1M(l:List Fo):(H6 l).length=l.length:=by simp[H6]
theorem A40{l:List Fo}{i:Nat}{f:Fo}(h:l[i]?=some f):(H6 l)[i]?=some f.ds:=by simp[H6,h]
theorem A36(l:List Fo):∀e∈H6 l,e.length=2:=by
 intro e he
 obtain⟨x,_,rfl⟩:=F1.1 he
 rfl
def m9(n:Nat)(seen:List Int):List Int->Int
 |[]=>0
 |c::r=>if (0<=c/\c<n)/\¬c∈seen then m9 n (seen++[c]) r else 25
def A0f(n:Nat)(f:Fo):Int:=if K7 f.tb then (if f.cs.length=0 then 25 else m9 n [] f.cs) else 1
theorem B7u{n:Nat}{l:List Int}{i:Nat}{c:Int}(h:l[i]?=some c):m9 n (l.take i) (l.drop i)=if (0<=c/\c<n)/\¬c∈l.take i then m9 n (l.take (i+1)) (l.drop (i+1)) else 25:=by
 obtain⟨hlt,he⟩:=B3.1 h
 rw[S5 hlt,he,m9,Q9,h]
 rfl
end Go.Proofs
end
