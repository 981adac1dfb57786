/- Package litmusref03, walked: Add, Mul; conditions: none. -/
import Derived.Test.YtjnkfbpadpmakaaGreatDoorAmM12
import Derived.Test.YtjnkfbpadpmakaaGreatDoorAmM10
import Derived.Test.YtjnkfbpadpmakaaGreatDoorAmM11
set_option linter.unusedVariables false
set_option linter.unusedSimpArgs false
set_option maxRecDepth 16000
namespace Go.Proofs.YtjnkfbpadpmakaaGreatDoor.Am
open Go Go.Proofs
noncomputable section
theorem Bl{s:AE}{loc var:List AV}(f:AE→AV→Option AV)(x a:CX):Et s loc var ⟨none,.r1 f,[x],a⟩=M9 (f s (C9 loc var x)) (C9 loc var a):=rfl
theorem D1{S:AE}{p:Nat}{x:Bool}{a b:Option (Nat×Nat)}{n m:Nat}{c d:Option Nat}(g:S.heap.get p=some (BQ x (.slice a n c) (.slice b m d))):
  AB Tryz.prog S 26 (.ptr (some (p,0)))=some (.agg [.bool x,.slice a n c,.slice b m d])∧AB Tryz.prog S 24 (.ptr (some (p,0+0)))=some (.agg [.bool x,.slice a n c]):=
 ⟨AK BZ Aw g rfl,Al (o:=0) (n:=2) DN CO g (by simp)⟩
section
variable{E:CR}{s:AE}
theorem PU(hE:GoodN E){va vb:AV}{x y:Rat}{ka kb:Nat}(ha:QI s va x ka)(hb:QI s vb y kb)(hka:1≤ka)(hkb:1≤kb)(hk:2 * (ka+kb)+1≤3000000){K:AV→AE→Prop}(hK:∀s' w,Aa s.next s s'→QC s' w (x+y)→K w s'):WF E 44 [va,vb] K s:=by
 obtain⟨neg,m,d,lm,ld,rfl,hm,hd,hsm,hsd,hlm,hld,rfl⟩:=ha
 obtain⟨neg',m',d',lm',ld',rfl,hm',hd',hsm',hsd',hlm',hld',rfl⟩:=hb
 obtain⟨a,n,c,rfl⟩:=hm.shape
 obtain⟨b,nd,cd,rfl⟩:=hd.shape
 obtain⟨a',n',c',rfl⟩:=hm'.shape
 obtain⟨b',nd',cd',rfl⟩:=hd'.shape
 refine hE.go tf (by decide) rfl ?_
 obtain⟨n1,o1,g1,g2,g3⟩:=HV s (BQ neg (.slice a n c) (.slice b nd cd)) (BQ neg' (.slice a' n' c') (.slice b' nd' cd')) ZQ
 simp only[yf,nr,ny,Xa,Xh,Bh,Xc,Ak,EE,Qa,Qb,Qc,Qd,Qf,Qh,Qj,Qk,Ql,Qm,Qo,true_and,Qp,Qq,Qr,Qs,Qt,Qv,Rb,Rh,Rj,A1q,A1r,A1n,A1m,A1u,A1o]
 generalize newObj (newObj (newObj s (BQ neg (.slice a n c) (.slice b nd cd))) (BQ neg' (.slice a' n' c') (.slice b' nd' cd'))) ZQ=s1 at *
 have L:∀S,Aa s1.next s1 S→_:=fun S o=>(D1 ((o.2 s.next (by omega)).trans g1)).1
 have L':∀S,Aa s1.next s1 S→_:=fun S o=>(D1 ((o.2 (s.next+1) (by omega)).trans g2)).1
 have M:∀S,Aa s1.next s1 S→_:=fun S o=>(D1 ((o.2 s.next (by omega)).trans g1)).2
 have M':∀S,Aa s1.next s1 S→_:=fun S o=>(D1 ((o.2 (s.next+1) (by omega)).trans g2)).2
 have dl:=Hp hsd hld hka
 have dl':=Hp hsd' hld' hkb
 simp only[L s1 (Aa.refl _ _),L' s1 (Aa.refl _ _),M s1 (Aa.refl _ _),M' s1 (Aa.refl _ _),Qm]
 refine En hE ⟨_,_,_,rfl⟩ (hd'.old o1) hsd' (by omega) fun s2 v2 o2 r2=>?_
 refine⟨by simp only[Bl,L s2 o2,L' s2 o2,M s2 o2,M' s2 o2,Ao,CI,Em,Qj,Qk,Qo,and_true,Qr,Qs],?_⟩
 have o12:=o1.trans (o2.mono o1.1)
 simp only[Qr,Qs]
 refine F5 hE ((Qn.bi hm hsm hlm).old o12) (r2.nat dl') (by omega) fun s3 v3 o3 r3=>?_
 have o23:=o2.trans (o3.mono o2.1)
 refine⟨by simp only[Bl,L s3 o23,L' s3 o23,M' s3 o23,Ao,CI,Em,Qj,Qk,Qo,and_true,Qr,Qs],?_⟩
 have o13:=o12.trans (o3.mono o12.1)
 simp only[Qr,Qs]
 refine En hE ⟨_,_,_,rfl⟩ (hd.old o13) hsd (by omega) fun s4 v4 o4 r4=>?_
 have o24:=o23.trans (o4.mono o23.1)
 refine⟨by simp only[Bl,L s4 o24,L' s4 o24,M' s4 o24,Ao,CI,Em,Qj,Qk,Qo,and_true,Qr,Qs],?_⟩
 have o14:=o13.trans (o4.mono o13.1)
 simp only[Qr,Qs]
 refine F5 hE ((Qn.bi hm' hsm' hlm').old o14) (r4.nat dl) (by omega) fun s5 v5 o5 r5=>?_
 have o25:=o24.trans (o5.mono o24.1)
 refine⟨by simp only[Bl,L s5 o25,L' s5 o25,Ao,CI,Qj,Qk,Qo,and_true,Qr,Qs],?_⟩
 have o15:=o14.trans (o5.mono o14.1)
 have b3:(Bw neg (AG lm) * ((Cw (AG ld'):Nat):Int)).natAbs<LB ^ (ka+kb):=by
  rw[A1T,CJ,A1L]
  exact B3 (DI hsm hlm) dl'
 have b5:(Bw neg' (AG lm') * ((Cw (AG ld):Nat):Int)).natAbs<LB ^ (ka+kb):=by
  rw[A1T,CJ,A1L,A0s ka kb]
  exact B3 (DI hsm' hlm') dl
 simp only[Qr,Qs]
 refine fW hE (((r3.old o4).old o5).bi b3) (r5.bi b5) (by omega) fun s6 v6 o6 r6=>?_
 have o26:=o25.trans (o6.mono o25.1)
 refine⟨by simp only[Bl,L s6 o26,L' s6 o26,Ao,CI,Qj,Qk,Qo,and_true,Qr,Qs],?_⟩
 have o16:=o15.trans (o6.mono o15.1)
 simp only[Qr,Qs]
 refine En hE ⟨_,_,_,rfl⟩ (hd.old o16) hsd (by omega) fun s7 v7 o7 r7=>?_
 have o27:=o26.trans (o7.mono o26.1)
 refine⟨by simp only[Bl,L' s7 o27,Ao,CI,Qj,Qk,Qo,and_true,Qr,Qs],?_⟩
 have o17:=o16.trans (o7.mono o16.1)
 simp only[Qr,Qs]
 refine En hE ⟨_,_,_,rfl⟩ (hd'.old o17) hsd' (by omega) fun s8 v8 o8 r8=>?_
 have o18:=o17.trans (o8.mono o17.1)
 simp only[Qd,Qo,true_and,Qr,Qs]
 refine F5 hE ((r7.old o8).nat dl) (r8.nat dl') (by omega) fun s9 v9 o9 r9=>?_
 have o19:=o18.trans (o9.mono o18.1)
 rw[← Int.natCast_mul]at r9
 simp only[Qd,Qo,true_and,Qr,Qs]
 have b6:(Bw neg (AG lm) * ((Cw (AG ld'):Nat):Int)+Bw neg' (AG lm') * ((Cw (AG ld):Nat):Int)).natAbs<LB ^ (ka+kb+1):=by
  refine A0J (Int.natAbs_add_le _ _) (FZ b3 b5)
 refine UC hE ((((r6.old o7).old o8).old o9).bi b6) (r9.nat (k:=ka+kb) (B3 dl dl')) (A0v (Cx _) (Cx _)) (by omega) (by omega) fun s10 v10 o10 r10=>?_
 rw[← fy (Cx _) (Cx _)]at r10
 have o28:=o27.trans (o8.mono o27.1)
 have o29:=o28.trans (o9.mono o28.1)
 have o2a:=o29.trans (o10.mono o29.1)
 have f4:=(o2a.2 (s.next+1+1) (by omega)).trans g3
 change QC s10 v10 (Fe neg (AG lm) (AG ld)+Fe neg' (AG lm') (AG ld'))at r10
 obtain⟨a3,n3,c3,b3,m3,d3,rfl⟩:=r10.shape
 obtain⟨st,ld'⟩:=BM (cs0:=[.bool false,.slice none 0 (some 0),.slice none 0 (some 0)]) rfl (x:=decide ((Fe neg (AG lm) (AG ld)+Fe neg' (AG lm') (AG ld')).num<0)) (a:=a3) (n:=n3) (c:=c3) (b:=b3) (m:=m3) (d:=d3) f4
 simp only[st,ld',AM,Xy,Za,Qd,Qj,Qm,Qo,true_and,Qr,Qs,Rk,Rn,Yc]
 exact hK _ _ ((o19.trans (o10.mono o19.1)).set (by omega) _) (r10.box f4 rfl)
theorem MH(hE:GoodN E){va vb:AV}{x y:Rat}{ka kb:Nat}(ha:QI s va x ka)(hb:QI s vb y kb)(hka:1≤ka)(hkb:1≤kb)(hk:2 * (ka+kb)+1≤3000000){K:AV→AE→Prop}(hK:∀s' w,Aa s.next s s'→QC s' w (x * y)→(∀j∈Dg w,s.next≤j∧j<s'.next)→K w s'):WF E 45 [va,vb] K s:=by
 obtain⟨neg,m,d,lm,ld,rfl,hm,hd,hsm,hsd,hlm,hld,rfl⟩:=ha
 obtain⟨neg',m',d',lm',ld',rfl,hm',hd',hsm',hsd',hlm',hld',rfl⟩:=hb
 obtain⟨a,n,c,rfl⟩:=hm.shape
 obtain⟨b,nd,cd,rfl⟩:=hd.shape
 obtain⟨a',n',c',rfl⟩:=hm'.shape
 obtain⟨b',nd',cd',rfl⟩:=hd'.shape
 refine hE.go tg (by decide) rfl ?_
 obtain⟨n1,o1,g1,g2,g3⟩:=HV s (BQ neg (.slice a n c) (.slice b nd cd)) (BQ neg' (.slice a' n' c') (.slice b' nd' cd')) ZQ
 simp only[yg,nz,oA,Xa,Xh,Bh,Xc,Ak,EE,Qa,Qb,Qc,Qd,Qf,Qh,Qj,Qk,Ql,Qm,Qo,true_and,Qp,Qq,Qr,Qs,Qt,Qv,Rb,Rh,Rj,A1q,A1r,A1n,A1m,A1u,A1o]
 generalize newObj (newObj (newObj s (BQ neg (.slice a n c) (.slice b nd cd))) (BQ neg' (.slice a' n' c') (.slice b' nd' cd'))) ZQ=s1 at *
 have L:∀S,Aa s1.next s1 S→_:=fun S o=>(D1 ((o.2 s.next (by omega)).trans g1)).1
 have L':∀S,Aa s1.next s1 S→_:=fun S o=>(D1 ((o.2 (s.next+1) (by omega)).trans g2)).1
 have M:∀S,Aa s1.next s1 S→_:=fun S o=>(D1 ((o.2 s.next (by omega)).trans g1)).2
 have M':∀S,Aa s1.next s1 S→_:=fun S o=>(D1 ((o.2 (s.next+1) (by omega)).trans g2)).2
 have dl:=Hp hsd hld hka
 have dl':=Hp hsd' hld' hkb
 simp only[L s1 (Aa.refl _ _),L' s1 (Aa.refl _ _),M s1 (Aa.refl _ _),M' s1 (Aa.refl _ _),Qm]
 refine F5 hE ((Qn.bi hm hsm hlm).old o1) ((Qn.bi hm' hsm' hlm').old o1) (by omega) fun s3 v3 o3 r3=>?_
 refine⟨by simp only[Bl,L s3 o3,L' s3 o3,Ao,CI,Qj,Qk,Qo,and_true,Qr,Qs],?_⟩
 have o13:=o1.trans (o3.mono o1.1)
 simp only[Qr,Qs]
 refine En hE ⟨_,_,_,rfl⟩ (hd.old o13) hsd (by omega) fun s7 v7 o7 r7=>?_
 have o37:=o3.trans (o7.mono o3.1)
 refine⟨by simp only[Bl,L' s7 o37,Ao,CI,Qj,Qk,Qo,and_true,Qr,Qs],?_⟩
 have o17:=o13.trans (o7.mono o13.1)
 simp only[Qr,Qs]
 refine En hE ⟨_,_,_,rfl⟩ (hd'.old o17) hsd' (by omega) fun s8 v8 o8 r8=>?_
 have o18:=o17.trans (o8.mono o17.1)
 simp only[Qd,Qo,true_and,Qr,Qs]
 refine F5 hE ((r7.old o8).nat dl) (r8.nat dl') (by omega) fun s9 v9 o9 r9=>?_
 have o19:=o18.trans (o9.mono o18.1)
 rw[← Int.natCast_mul]at r9
 simp only[Qd,Qo,true_and,Qr,Qs]
 have b6:(Bw neg (AG lm) * Bw neg' (AG lm')).natAbs<LB ^ (ka+kb):=by
  rw[A1T,CJ,CJ]
  exact B3 (DI hsm hlm) (DI hsm' hlm')
 refine V0 hE ((((r3.old o7).old o8).old o9).bi b6) (r9.nat (k:=ka+kb) (B3 dl dl')) (A0v (Cx _) (Cx _)) (by omega) (by omega) fun s10 v10 o10 r10 b10=>?_
 rw[← fz]at r10
 have o38:=o37.trans (o8.mono o37.1)
 have o39:=o38.trans (o9.mono o38.1)
 have o3a:=o39.trans (o10.mono o39.1)
 have f4:=(o3a.2 (s.next+1+1) (by omega)).trans g3
 change QC s10 v10 (Fe neg (AG lm) (AG ld) * Fe neg' (AG lm') (AG ld'))at r10
 obtain⟨a3,n3,c3,b3,m3,d3,rfl⟩:=r10.shape
 obtain⟨st,ld'⟩:=BM (cs0:=[.bool false,.slice none 0 (some 0),.slice none 0 (some 0)]) rfl (x:=decide ((Fe neg (AG lm) (AG ld) * Fe neg' (AG lm') (AG ld')).num<0)) (a:=a3) (n:=n3) (c:=c3) (b:=b3) (m:=m3) (d:=d3) f4
 simp only[st,ld',AM,Xy,Za,Qd,Qj,Qm,Qo,true_and,Qr,Qs,Rk,Rn,Yc]
 exact hK _ _ ((o19.trans (o10.mono o19.1)).set (by omega) _) (r10.box f4 rfl) fun j hj=>⟨zY o19.1 (b10 j hj).1,(b10 j hj).2⟩
theorem jx(hE:GoodN E){va vb:AV}{x y:Rat}{ka kb:Nat}(ha:QI s va x ka)(hb:QI s vb y kb)(hka:1≤ka)(hkb:1≤kb)(hk:2 * (ka+kb)+1≤3000000){K:AV→AE→Prop}(hK:∀s' w,Aa s.next s s'→QC s' w (x * y)→K w s'):WF E 45 [va,vb] K s:=MH hE ha hb hka hkb hk fun s' w o h _=>hK s' w o h
end
def dl(n m:Int):Rat:=if m=n then 1 else 0
theorem LK(n:Int):dl n n=1:=if_pos rfl
theorem MD{n m:Int}(h:m≠n):dl n m=0:=if_neg h
theorem LL{n:Int}:∀ {L:List (Int×Rat)},(∀p∈L,p.1≠n)→Ds (dl n) L=0
 | [],_=>rfl
 | p::L,h=>by
  show p.2 * dl n p.1+Ds (dl n) L=0
  rw[MD (h p (zs ..)),LL fun q hq=>h q (A0B _ hq),Rat.mul_zero,Rat.add_zero]
def Can(L:List (Int×Rat)):Prop:=(L.map (·.1)).Pairwise (·<·)∧∀p∈L,p.2≠0
theorem Can.tail{p:Int×Rat}{L:List (Int×Rat)}(h:Can (p::L)):Can L∧∀q∈L,p.1<q.1:=by
 obtain⟨h1,h2⟩:=h
 rw[A0e,List.pairwise_cons]at h1
 exact⟨⟨h1.2,fun q hq=>h2 q (A0B _ hq)⟩,fun q hq=>h1.1 q.1 (List.mem_map.2 ⟨q,hq,rfl⟩)⟩
theorem Can.head{p:Int×Rat}{L:List (Int×Rat)}(h:Can (p::L)):Ds (dl p.1) (p::L)=p.2:=by
 show p.2 * dl p.1 p.1+Ds (dl p.1) L=p.2
 rw[LK,LL fun q hq=>by have:=h.tail.2 q hq;omega,Rat.mul_one,Rat.add_zero]
theorem Can.below{p:Int×Rat}{L:List (Int×Rat)}(h:Can (p::L)){n:Int}(hn:n<p.1):Ds (dl n) (p::L)=0:=
 LL fun q hq=>by
  rcases List.mem_cons.1 hq with rfl | hq
  ·omega
  ·have:=h.tail.2 q hq
   omega
theorem MB       : ∀ {L M : List (Int × Rat)}, Can L → Can M → (∀ n, Ds  (dl n) L = Ds  (dl n) M) → L = M
  | [],[],_,_,_=>rfl
  | [],q::M,_,hM,h=>by
    have h1:=h q.1
    rw[hM.head]at h1
    exact absurd h1.symm (hM.2 q (zs ..))
  | p::L,[],hL,_,h=>by
    have h1:=h p.1
    rw[hL.head]at h1
    exact absurd h1 (hL.2 p (zs ..))
  | p::L,q::M,hL,hM,h=>by
    have hpq:p.1=q.1:=by
      rcases Int.lt_trichotomy p.1 q.1 with h1 | h1 | h1
      · have h2:=h p.1
        rw[hL.head,hM.below h1]at h2
        exact absurd h2 (hL.2 p (zs ..))
      · exact h1
      · have h2:=h q.1
        rw[hM.head,hL.below h1]at h2
        exact absurd h2.symm (hM.2 q (zs ..))
    have hq2:p.2=q.2:=by
      have h2:=h p.1
      rw[hL.head,hpq,hM.head]at h2
      exact h2
    have e:p=q:=Prod.ext hpq hq2
    subst e
    congr 1
    refine MB hL.tail.1 hM.tail.1 fun n=>?_
    have h3:=h n
    have h4:p.2 * dl n p.1+Ds (dl n) L=p.2 * dl n p.1+Ds (dl n) M:=h3
    generalize Ds (dl n) L=x at h4 ⊢
    generalize Ds (dl n) M=y at h4 ⊢
    grind
theorem OS:∀ {l:List Int},l.Pairwise (·≤·)→l.Nodup→l.Pairwise (·<·)
 | [],_,_=>List.Pairwise.nil
 | x::l,h,hn=>by
  obtain⟨h1,h2⟩:=List.pairwise_cons.1 h
  obtain⟨n1,n2⟩:=List.nodup_cons.1 hn
  refine List.pairwise_cons.2 ⟨fun y hy=>?_,OS h2 n2⟩
  have:=h1 y hy
  rcases Int.lt_or_eq_of_le this with h | rfl
  ·exact h
  ·exact absurd hy n1
theorem MA{T:List CW}(h:(BD T).Nodup):Can (FS T):=by
  constructor
  · have h1 : ((Dk    (BD    T)).map fun n => (n, Cd   n T)).map (·.1) = Dk    (BD    T) := by rw [A0q];          exact List.map_id _
    have h2:((FS T).map (·.1)).Sublist (Dk (BD T)):=by
      have:=(List.filter_sublist (l:=(Dk (BD T)).map fun n=>(n,Cd n T)) (p:=fun p=>decide (p.2≠0))).map (·.1)
      rw[h1]at this
      exact this
    exact(OS (Gh _) (Kl h)).sublist h2
  · intro p hp
    have:=(List.mem_filter.1 hp).2
    simpa using this
theorem U6:∀ (vs:List Int)(cs:List Rat)(T:List CW),(BD T).Nodup→∃T',G3 1 vs cs T T'∧(BD T').Nodup
 | [],cs,T,h=>⟨T,.nil1 cs T,h⟩
 | n::vs,[],T,h=>⟨T,.nil2 _ T,h⟩
 | n::vs,c::cs,T,h=>by
  obtain⟨T',h1,h2⟩:=U6 vs cs (Dx n (Cd n T+c * 1) (.bool false) T) (KJ h)
  exact⟨T',.cons (.bool false) h1,h2⟩
theorem tH{L:List (Int×Rat)}{vs:List Int}{cs:List Rat}(hc:Can L)(h:∀n,Ds (dl n) L=Bf (dl n) vs cs)(a:Int→Rat):Ds a L=Bf a vs cs:=by
 obtain⟨T,h1,h2⟩:=U6 vs cs [] (by simp[BD])
 have e:L=FS T:=MB hc (MA h2) fun n=>by
  rw[h n,JE (dl n) h2,h1.ev]
  show _=0+_ * 1
  rw[Rat.mul_one,Rat.zero_add]
 rw[e,JE a h2,h1.ev]
 show 0+_ * 1=_
 rw[Rat.mul_one,Rat.zero_add]
theorem RN{L M:List (Int×Rat)}(h1:Can L)(h2:Can M)(h:∀a,Ds a L=Ds a M):L=M:=MB h1 h2 fun n=>h _
theorem i5      {L : List (Int × Rat)} (h : Can L) {v : Int} {c : Rat} (hc : c ≠ 0) (hv : ∀ p ∈ L, p.1 ≠ v) {k : Nat} (h1 : ∀ j p, j < k → L[j]? = some p → p.1 < v) (h2 : ∀ p, L[k]? = some p → ¬ p.1 < v) : Can (L.take k ++ (v, c) :: L.drop k) := by
  have hs:((L.take k).map (·.1)++(L.drop k).map (·.1)).Pairwise (·<·):=by
    rw[← A0o,A0g];exact h.1
  obtain⟨s1,s2,s3⟩:=List.pairwise_append.1 hs
  have hlo:∀x∈(L.take k).map (·.1),x<v:=fun x hx=>by
    obtain⟨p,hp,rfl⟩:=List.mem_map.1 hx
    obtain⟨j,hj,e⟩:=List.getElem_of_mem hp
    have hjk:j<k:=by rw[zo]at hj;omega
    rw[List.getElem_take]at e
    exact h1 j p hjk (by rw[← e];exact zW _)
  have hhi:∀x∈(L.drop k).map (·.1),v<x:=fun x hx=>by
    obtain⟨p,hp,rfl⟩:=List.mem_map.1 hx
    have hne:=hv p (A1Y hp)
    cases hd:L.drop k with
    | nil=>rw[hd]at hp;cases hp
    | cons q M =>
      have hq:L[k]? = some q:=by
        have:(L.drop k)[0]? = some q:=by rw[hd];rfl
        rw[A0Z]at this
        exact this
      have hq2:=h2 q hq
      rw[hd]at hp s2
      have hqv:v<q.1:=by have:=hv q (zw hq);omega
      rcases List.mem_cons.1 hp with rfl | hp
      · exact hqv
      · rw[A0e,List.pairwise_cons]at s2
        have:=s2.1 p.1 (List.mem_map.2 ⟨p,hp,rfl⟩)
        omega
  constructor
  · rw [A0o,             A0e]
    refine List.pairwise_append.2 ⟨s1,List.pairwise_cons.2 ⟨hhi,s2⟩,fun x hx y hy=>?_⟩
    rcases List.mem_cons.1 hy with rfl | hy
    · exact hlo x hx
    · exact s3 x hx y hy
  · intro p hp
    rcases A1V.1 hp with hp | hp
    · exact h.2 p (A1g hp)
    · rcases List.mem_cons.1 hp with rfl | hp
      · exact hc
      · exact h.2 p (A1Y hp)
theorem jw(a:Int→Rat)(L:List (Int×Rat))(v:Int)(c:Rat)(k:Nat):Ds a (L.take k++(v,c)::L.drop k)=Ds a L+c * a v:=by
 have h:=ET a (L.take k) (L.drop k)
 rw[A0g]at h
 rw[ET,h]
 show Ds a (L.take k)+(c * a v+Ds a (L.drop k))=_
 grind
structure Cv(s:AE)(a:Option (Nat×Nat))(cs:List Rat)(cells:List AV):Prop where
 len:cells.length=cs.length * 3
 rd:AS s.next s a cells
 rat:∀ (i:Nat) (q:Rat),cs[i]? = some q→QC s (.agg ((cells.drop (i * 3)).take 3)) q
theorem Cv.old{s s':AE}{a:Option (Nat×Nat)}{cs:List Rat}{cells:List AV}(h:Cv s a cs cells)(o:Aa s.next s s'):Cv s' a cs cells:=
 ⟨h.len,(h.rd.old o (zU _)).mono o.1,fun i q hi=>(h.rat i q hi).old o⟩
theorem Cv.at{s:AE}{a:Option (Nat×Nat)}{cs:List Rat}{cells:List AV}{k:Nat}(h:Cv s a cs cells)(hk:∀q∈cs,QH q k):Cp s a cs k cells:=
 ⟨h.len,h.rd,fun i q hi=>(h.rat i q hi).qi (hk q (zw hi))⟩
theorem sS:∀cs:List Rat,∃k,∀q∈cs,QH q k
 | []=>⟨0,fun q h=>by cases h⟩
 | x::cs=>by
  obtain⟨k,hk⟩:=sS cs
  have h2:∀n:Nat,n<LB ^ n:=fun n=>Nat.lt_pow_self (by decide)
  refine⟨k+(x.num.natAbs+x.den),fun q hq=>?_⟩
  rcases List.mem_cons.1 hq with rfl | hq
  ·exact⟨DC (h2 _) (by omega),DC (h2 _) (by omega)⟩
  ·exact(hk q hq).le (by omega)
theorem Cv.nil(s:AE):Cv s none [] []:=⟨rfl,AS.nil,fun i q h=>by cases h⟩
def sF(a:Option (Nat×Nat))(cap:Option Nat)(k sz:Nat):Option (Nat×Nat):=match a with
 | none=>none
 | some (i,o)=>match cap with
  | some c=>bif Nat.beq c k then some (i,o)else some (i,o+k * sz)
  | none=>some (i,o+k * sz)
def vB(cap:Option Nat)(k:Nat):Option Nat:=match cap with
 | some c=>some (c - k)
 | none=>none
theorem J1{t e sz:Nat}(ht:Tryz.prog.underlying t=some (.slice e))(hs:BJ Tryz.prog e=some sz)(hz:0<sz){s:AE}{a:Option (Nat×Nat)}{cap:Option Nat}{n k:Nat}(hc:EB sz s a cap n)(hk:k≤n):
    At Tryz.prog t true false false s [.slice a n cap,iv (k:Int)]=some (.slice (sF a cap k sz) (n - k) (vB cap k)):=by
  show Bo Tryz.prog s t (.slice a n cap) (some (iv (k:Int))) none none=_
  have hb:Bn (iv (k:Int)) n=some k:=by simp[Bn,F8,AQ,CU hk,D3]
  rcases hc with⟨c,rfl,h1,h2⟩ | ⟨rfl,i,o,r,rfl,h3,h4,h5,h6⟩
  · cases a with
    | none=>simp[Bo,ht,hs,hb,sF,vB]
    | some io=>obtain⟨i,o⟩:=io;cases hb2:Nat.beq c k<;>simp[Bo,ht,hs,hb,hb2,sF,vB]
  · have hrow : rowAt s i = some r := by unfold rowAt; rw [h4]
    have hsz:Nat.beq sz r.sz=true:=Fq h5.symm
    have ho:o≤r.n:=by have:0≤n * sz:=ze _;omega
    simp only[Bo,ht,hs,hrow,hsz,AQ,hb,CU ho,Dp (show sz≠0 by omega),Option.bind_some,Bool.true_and,Bool.and_true,Bool.not_false,cond_true]
    simp[sF,vB]
theorem SA{sz:Nat}{s:AE}{a:Option (Nat×Nat)}{cap:Option Nat}{n k:Nat}{cs:List AV}(hc:EB sz s a cap n)(hk:k≤n)(h:AS s.next s a cs)(hl:cs.length=n * sz):AS s.next s (sF a cap k sz) (cs.drop (k * sz)):=by
  intro j u hj
  rw[A0Z]at hj
  obtain⟨i,o,rfl,hi,g⟩:=h _ u hj
  have hlt:k * sz+j<n * sz:=by
    rcases zX (k * sz+j) cs.length with h' | h'
    · omega
    · rw[zj h']at hj;cases hj
  have hne:∀c,cap=some c→Nat.beq c k=false:=fun c e=>by
    rcases hc with⟨c',e',h1,_⟩ | ⟨e',_⟩
    · rw[e]at e'
      injection e' with e'
      subst e'
      refine Dp fun e2=>?_
      have:n=k:=by omega
      rw[this]at hlt
      omega
    · rw[e]at e';cases e'
  refine⟨i,o+k * sz,?_,hi,by rw[A0H];exact g⟩
  unfold sF
  cases cap with
  | none=>rfl
  | some c =>
    show(bif Nat.beq c k then some (i,o)else some (i,o+k * sz))=_
    rw[hne c rfl];rfl
theorem F2{s:AE}{v:AV}{n:Nat}{cs:List AV}{O:List Nat}(hd:B9 3 s v n 1 cs O){a:Option (Nat×Nat)}{cap:Option Nat}{m:Nat}{l:List Int}(h:AS s.next s a (l.map iv))(hm:l.length=m)(hn:n≤1000000)(hl:m≤1000000):
  ∃v' s' O',Aj Tryz.prog s [27,27] [v,.slice a m cap]=some (v',s')∧B9 3 s' v' (n+m) 1 (cs++l.map iv) O'∧s.next≤s'.next∧(∀j,j<s.next→j ∉ O→s'.heap.get j=s.heap.get j)∧(∀j∈O',j∈O∨s.next≤j)∧(∀j,B6 v'=some j→B6 v=some j∨s.next≤j):=by
 subst hm
 obtain⟨v',s',O',h1,h2,h3,_,h5,h6,h7⟩:=hd.append Tryz.underlying27 Jm xQ (by decide) P9 Ux (H7 (e:=3) (sz:=1) (cap:=cap) (n:=l.length) h (by simp) (by decide)) (by simp) (V9 l) (by omega) (by omega)
 exact⟨v',s',O',h1,h2,h3,h5,h6,h7⟩
theorem FE{s:AE}{v:AV}{n:Nat}{cs:List AV}{O:List Nat}(hd:B9 26 s v n 3 cs O){a:Option (Nat×Nat)}{cap:Option Nat}{m:Nat}{l:List Rat}{cells:List AV}(h:Cv s a l cells)(hm:l.length=m)(hn:n≤1000000)(hl:m≤1000000):
  ∃v' s' O',Aj Tryz.prog s [28,28] [v,.slice a m cap]=some (v',s')∧B9 26 s' v' (n+m) 3 (cs++cells) O'∧s.next≤s'.next∧(∀j,j<s.next→j ∉ O→s'.heap.get j=s.heap.get j)∧(∀j∈O',j∈O∨s.next≤j)∧(∀j,B6 v'=some j→B6 v=some j∨s.next≤j):=by
 subst hm
 obtain⟨k,hk⟩:=sS l
 obtain⟨v',s',O',h1,h2,h3,_,h5,h6,h7⟩:=hd.append Tryz.underlying28 Aw si (by decide) QB Uy (H7 (e:=26) (sz:=3) (cap:=cap) (n:=l.length) h.rd h.len (by decide)) h.len (Xq (h.at hk)) (by omega) (by omega)
 exact⟨v',s',O',h1,h2,h3,h5,h6,h7⟩
structure LP(s:AE)(av:Option (Nat×Nat))(capv:Option Nat)(ac:Option (Nat×Nat))(capc:Option Nat)(cells:List AV)(vs:List Int)(cs:List Rat):Prop where
 vc:AS s.next s av (vs.map iv)
 vi:∀n∈vs,i64 n
 vz:EB 1 s av capv vs.length
 rs:Cv s ac cs cells
 cz:EB 3 s ac capc cs.length
theorem LP.old{s s':AE}{av ac:Option (Nat×Nat)}{capv capc:Option Nat}{cells:List AV}{vs:List Int}{cs:List Rat}(h:LP s av capv ac capc cells vs cs)(o:Aa s.next s s'):LP s' av capv ac capc cells vs cs:=
 ⟨(h.vc.old o (zU _)).mono o.1,h.vi,h.vz.old o,h.rs.old o,h.cz.old o⟩
def LC(bb:Nat)(s:AE)(v:AV)(C:Rat)(L:List (Int×Rat)):Prop:=∃x a n c b m d av capv ac capc cells,
 v=.agg [.bool x,.slice a n c,.slice b m d,.slice av (L.map (·.1)).length capv,.slice ac (L.map (·.2)).length capc]∧QC s (.agg [.bool x,.slice a n c,.slice b m d]) C∧LP s av capv ac capc cells (L.map (·.1)) (L.map (·.2))∧(∀i q,av=some (i,q)→bb≤i)∧(∀i q,ac=some (i,q)→bb≤i)
theorem LC.old{bb:Nat}{s s':AE}{v:AV}{C:Rat}{L:List (Int×Rat)}(h:LC bb s v C L)(o:Aa s.next s s'):LC bb s' v C L:=by
 obtain⟨x,a,n,c,b,m,d,av,capv,ac,capc,cells,h1,h2,h3,h4⟩:=h
 exact⟨x,a,n,c,b,m,d,av,capv,ac,capc,cells,h1,h2.old o,h3.old o,h4⟩
theorem LC.mono{bb b':Nat}{s:AE}{v:AV}{C:Rat}{L:List (Int×Rat)}(h:LC bb s v C L)(hb:b'≤bb):LC b' s v C L:=by
 obtain⟨x,a,n,c,b,m,d,av,capv,ac,capc,cells,h1,h2,h3,h4,h5⟩:=h
 exact⟨x,a,n,c,b,m,d,av,capv,ac,capc,cells,h1,h2,h3,fun i q h=>zY hb (h4 i q h),fun i q h=>zY hb (h5 i q h)⟩
theorem LC.shape{bb:Nat}{s:AE}{v:AV}{C:Rat}{L:List (Int×Rat)}(h:LC bb s v C L):∃x a n c b m d av capv ac capc,v=.agg [.bool x,.slice a n c,.slice b m d,.slice av (L.map (·.1)).length capv,.slice ac (L.map (·.2)).length capc]:=by
 obtain⟨x,a,n,c,b,m,d,av,capv,ac,capc,cells,h1,h2⟩:=h
 exact⟨_,_,_,_,_,_,_,_,_,_,_,h1⟩
theorem LC.li{bb:Nat}{s:AE}{v:AV}{C:Rat}{L:List (Int×Rat)}{k:Nat}(h:LC bb s v C L)(hC:QH C k)(hL:∀p∈L,QH p.2 k):LI s v C (L.map (·.1)) (L.map (·.2)) k:=by
 obtain⟨x,a,n,c,b,m,d,av,capv,ac,capc,cells,h1,h2,h3,_⟩:=h
 exact⟨x,a,n,c,b,m,d,av,capv,ac,capc,cells,h1,h2.qi hC,h3.vc,h3.vi,h3.rs.at (fun q hq=>by obtain⟨p,hp,rfl⟩:=List.mem_map.1 hq;exact hL p hp),h3.vz,h3.cz⟩
theorem LC.lx{bb:Nat}{s:AE}{v:AV}{C:Rat}{L:List (Int×Rat)}{k:Nat}(h:LC bb s v C L)(hC:QH C k)(hL:∀p∈L,QH p.2 k)(hk:k≤1000000000):LX s v (qx C) (L.map (·.1)) (L.map fun p=>qx p.2):=by
 obtain⟨x,a,n,c,b,m,d,av,capv,ac,capc,cells,rfl,h2,h3,_⟩:=h
 have h2':=h2
 obtain⟨_,_,e,_⟩:=h2'
 injection e with e
 injection e with e _
 injection e with e
 subst e
 refine⟨a,n,c,b,m,d,av,capv,ac,capc,cells,by rw[zi,zi,zi];rfl,h2.qx hC hk,h3.vc,by rw[h3.rs.len,zi,zi],h3.rs.rd,fun i x hi=>?_⟩
 rw[A0N]at hi
 cases hp:L[i]? with
 | none=>rw[hp]at hi;cases hi
 | some p =>
  rw[hp]at hi
  injection hi with hi
  subst hi
  exact(h3.rs.rat i p.2 (by rw[A0N,hp];rfl)).qx (hL p (zw hp)) hk
theorem Ns{s:AE}{a:Option (Nat×Nat)}{cs:List AV}{p:Nat}{o:BF}(h:AS s.next s a cs)(ha:∀i q,a=some (i,q)→p<i):AS (setObj s p o).next (setObj s p o) a cs:=fun j u hj=>by
 obtain⟨i,q,rfl,hi,g⟩:=h j u hj
 exact⟨i,q,rfl,hi,by rw[CS (Wx _ (by have:=ha i q rfl;omega))];exact g⟩
theorem RO{s:AE}{sz n:Nat}{a:Option (Nat×Nat)}{cap:Option Nat}{p:Nat}{o:BF}(h:EB sz s a cap n)(ha:∀i q,a=some (i,q)→p<i):EB sz (setObj s p o) a cap n:=by
 rcases h with h | ⟨h1,i,q,r,rfl,h4,h5,h6⟩
 ·exact .inl h
 ·exact .inr ⟨h1,i,q,r,rfl,h4,by rw[Wx _ (by have:=ha i q rfl;omega)];exact h5,h6⟩
theorem Cv.set{s:AE}{a:Option (Nat×Nat)}{cs:List Rat}{cells:List AV}{p e:Nat}{sp:Bool}{cs0:List AV}{o:BF}(h:Cv s a cs cells)(hg:s.heap.get p=some (R e 0 sp cs0))(hc:cs0.all Kq=true)(ha:∀i q,a=some (i,q)→p<i):Cv (setObj s p o) a cs cells:=
 ⟨h.len,Ns h.rd ha,fun i q hi=>(h.rat i q hi).box hg hc⟩
theorem LP.set{s:AE}{av ac:Option (Nat×Nat)}{capv capc:Option Nat}{cells:List AV}{vs:List Int}{cs:List Rat}{p e:Nat}{sp:Bool}{cs0:List AV}{o:BF}(h:LP s av capv ac capc cells vs cs)(hg:s.heap.get p=some (R e 0 sp cs0))(hc:cs0.all Kq=true)(ha:∀i q,av=some (i,q)→p<i)(hb:∀i q,ac=some (i,q)→p<i):LP (setObj s p o) av capv ac capc cells vs cs:=
 ⟨Ns h.vc ha,h.vi,RO h.vz ha,h.rs.set hg hc hb,RO h.cz hb⟩
theorem LC.set{bb:Nat}{s:AE}{v:AV}{C:Rat}{L:List (Int×Rat)}{p e:Nat}{sp:Bool}{cs0:List AV}{o:BF}(h:LC bb s v C L)(hp:p<bb)(hg:s.heap.get p=some (R e 0 sp cs0))(hc:cs0.all Kq=true):LC bb (setObj s p o) v C L:=by
 obtain⟨x,a,n,c,b,m,d,av,capv,ac,capc,cells,h1,h2,h3,h4,h5⟩:=h
 exact⟨x,a,n,c,b,m,d,av,capv,ac,capc,cells,h1,h2.box hg hc,h3.set hg hc (fun i q h=>zZ hp (h4 i q h)) (fun i q h=>zZ hp (h5 i q h)),h4,h5⟩
structure MO(s:AE)(p:Nat)(x:Bool)(a:Option (Nat×Nat))(n:Nat)(c:Option Nat)(b:Option (Nat×Nat))(m:Nat)(d:Option Nat)(av:Option (Nat×Nat))(cv:Option Nat)(ac:Option (Nat×Nat))(cc:Option Nat)(cells:List AV)(C:Rat)(vs:List Int)(cs:List Rat):Prop where
 box:s.heap.get p=some (BL x (.slice a n c) (.slice b m d) (.slice av vs.length cv) (.slice ac cs.length cc))
 lt:p<s.next
 hC:QC s (.agg [.bool x,.slice a n c,.slice b m d]) C
 lp:LP s av cv ac cc cells vs cs
 la:∀i q,av=some (i,q)→p<i
 lc:∀i q,ac=some (i,q)→p<i
theorem MO.old{s s':AE}{p:Nat}{x:Bool}{a:Option (Nat×Nat)}{n:Nat}{c:Option Nat}{b:Option (Nat×Nat)}{m:Nat}{d:Option Nat}{av:Option (Nat×Nat)}{cv:Option Nat}{ac:Option (Nat×Nat)}{cc:Option Nat}{cells:List AV}{C:Rat}{vs:List Int}{cs:List Rat}
  (h:MO s p x a n c b m d av cv ac cc cells C vs cs) (o:Aa s.next s s'):MO s' p x a n c b m d av cv ac cc cells C vs cs:=
 ⟨(o.2 p h.lt).trans h.box,zZ h.lt o.1,h.hC.old o,h.lp.old o,h.la,h.lc⟩
theorem Se:Ad Tryz.prog 28 0 (zipIdx [] [])=some (R 26 3 false []):=by kernel_rfl
theorem WT{v:AV}{a:Option (Nat×Nat)}{n:Nat}{cap:Option Nat}{p:Nat}(e:v=.slice a n cap)(h:∀j,B6 v=some j→p<j):∀i q,a=some (i,q)→p<i:=fun i q h'=>h i (by rw[e,h'];rfl)
section
variable{E:CR}{s:AE}
theorem j5      {p : Nat} {x : Bool} {a : Option (Nat × Nat)} {n : Nat} {c : Option Nat} {b : Option (Nat × Nat)} {m : Nat} {d : Option Nat} {av : Option (Nat × Nat)} {cv : Option Nat} {ac : Option (Nat × Nat)} {cc : Option Nat} {cells : List AV} {C : Rat} {vs : List Int} {cs : List Rat}
    (h:MO s p x a n c b m d av cv ac cc cells C vs cs) {k:Nat} (hk:k≤vs.length) (hvl:vs.length≤1000) {v:Int} (hv:i64 v) {y0 y1 y2 y4 y5 y7 y8 y9 y10 y12 y13 y14 y15 y16 y17 y18:AV} {K:List AV→AE→Prop}
    (hK:∀s' av' cv',s.next≤s'.next→(∀j,j<s.next→j≠p→s'.heap.get j=s.heap.get j)→MO s' p x a n c b m d av' cv' ac cc cells C (vs.take k++v::vs.drop k) cs→K [y0,y1,y2,.ptr (some (p,0)),y4,y5,iv v,y7,y8,y9,y10,iv (k:Int),y12,y13,y14,y15,y16,y17,y18] s'):
    Qb E Ts K [] [y0,y1,y2,.ptr (some (p,0)),y4,y5,iv v,y7,y8,y9,y10,iv (k:Int),y12,y13,y14,y15,y16,y17,y18] s:=by
  have hlt:=h.lt
  obtain⟨n1,o1,g1⟩:=Bs s (R 3 1 false [])
  simp only[Ts,M7,Xe,Qb,Qc,Qd,Qf,Qh,Qj,Qk,Qm,Qo,true_and,and_true,Qr,Qs,Qt,Qv,Yc,A1n,A1m,A1o]
  generalize newObj s (R 3 1 false [])=s1 at *
  have h1:=h.old o1
  have l1:=AI (P:=Tryz.prog) (t:=27) (o:=0+3) D6 h1.box rfl
  have cut1:=Kf Tryz.underlying27 Jm (by decide) h1.lp.vz hk
  obtain⟨n2,o2,g2⟩:=Bs s1 (R 3 1 false [iv v])
  simp only[l1,CE,cut1,M8,Xe,Qm,Yc]
  generalize newObj s1 (R 3 1 false [iv v])=s2 at *
  have o02:Aa s.next s s2:=o1.trans (o2.mono o1.1)
  have h2:=h.old o02
  have l2:=AI (P:=Tryz.prog) (t:=27) (o:=0+3) D6 h2.box rfl
  have cut2:=J1 Tryz.underlying27 Jm (by decide) h2.lp.vz hk
  have g1':s2.heap.get s.next=some (R 3 1 false []):=(o2.2 s.next (by omega)).trans g1
  have hd:=B9.row (n:=0) (s:=s2) (by omega:s.next<s2.next) g1' rfl
  have hct:AS s2.next s2 av ((vs.take k).map iv):=by rw[A0z];exact Gd h2.lp.vc k
  obtain⟨v3,s3,O3,happ3,hd3,hn3,hf3,hO3,hs3⟩:=F2 (cap:=cv) hd hct (by rw[zo];omega:(vs.take k).length=k) (by omega) (by omega)
  have o23:Aa s2.next s2 s3:=⟨hn3,fun j hj=>hf3 j hj (by simp)⟩
  have h3:=h2.old o23
  have l3:=AI (P:=Tryz.prog) (t:=27) (o:=0+3) D6 h3.box rfl
  have cut3:=J1 Tryz.underlying27 Jm (by decide) h3.lp.vz hk
  simp only[l2,cut2,happ3,Ff,Bl,l3,cut3,Ao,A8,Qh,Qj,Qk,Qm,true_and,and_true,Qr,Qs]
  have g2':s3.heap.get s1.next=some (R 3 1 false [iv v]):=(o23.2 s1.next (by omega)).trans g2
  obtain⟨v4,s4,O4,happ4,hd4,hn4,hf4,hO4,hs4⟩:=F2 (l:=[v]) (cap:=some 1) hd3 (Gc g2' (by omega)) (by rfl:[v].length=1) (by omega) (by omega)
  have o24:Aa s2.next s2 s4:=⟨by omega,fun j hj=>by
    rw[hf4 j (by omega) (fun h'=>by rcases hO3 j h' with h' | h';(· simp at h');omega),o23.2 j hj]⟩
  have h4:=h2.old o24
  have l4:=AI (P:=Tryz.prog) (t:=27) (o:=0+3) D6 h4.box rfl
  have cut4:=J1 Tryz.underlying27 Jm (by decide) h4.lp.vz hk
  simp only[happ4,l4,cut4,Ao,A8,Qm,true_and,and_true]
  have hcd:AS s4.next s4 (sF av cv k 1) ((vs.drop k).map iv):=by
    have:=SA (sz:=1) h4.lp.vz hk h4.lp.vc (by simp)
    rw[zf]at this
    rw[List.map_drop];exact this
  obtain⟨v5,s5,O5,happ5,hd5,hn5,hf5,hO5,hs5⟩:=F2 (cap:=vB cv k) hd4 hcd (by rw[A0C]:(vs.drop k).length=vs.length - k) (by omega) (by omega)
  have o25:Aa s2.next s2 s5:=⟨by omega,fun j hj=>by
    rw[hf5 j (by omega) (fun h'=>by
      rcases hO4 j h' with h' | h'
      · rcases hO3 j h' with h' | h'
        · simp at h'
        · omega
      · omega),o24.2 j hj]⟩
  have h5:=h2.old o25
  have hsl:∀j,B6 v5=some j→p<j:=fun j hj=>by
    rcases hs5 j hj with hj | hj
    · rcases hs4 j hj with hj | hj
      · rcases hs3 j hj with hj | hj
        · injection hj with hj;omega
        · omega
      · omega
    · omega
  obtain⟨a5,c5,e5,hc5⟩:=hd5.cells
  have hz5:=hd5.capZ a5 c5 e5
  have hlo5:=WT e5 hsl
  have hlen:0+k+1+(vs.length - k)=(vs.take k++v::vs.drop k).length:=by
    rw[zg,A0G,zo,A0C];omega
  rw[hlen]at e5 hz5
  subst e5
  have st:=CN (P:=Tryz.prog) (t:=27) (o:=0+3) (v:=.slice a5 (vs.take k++v::vs.drop k).length c5) xK h5.box (by simp) rfl
  simp only[happ5,st,Xy,Za,Qm]
  refine hK _ a5 c5 (by show s.next≤s5.next;omega) (fun j hj hp=>?_) ?_
  · rw[Wx _ hp,o25.2 j (by omega),o02.2 j hj]
  · have hvs:([]++(vs.take k).map iv++[v].map iv++(vs.drop k).map iv)=(vs.take k++v::vs.drop k).map iv:=by simp
    rw[hvs]at hc5
    have hlp:LP s5 a5 c5 ac cc cells (vs.take k++v::vs.drop k) cs:=⟨hc5,fun n hn=>by
      rcases A1V.1 hn with hn | hn
      · exact h.lp.vi n (A1g hn)
      · rcases List.mem_cons.1 hn with rfl | hn
        · exact hv
        · exact h.lp.vi n (A1Y hn),hz5,h5.lp.rs,h5.lp.cz⟩
    exact⟨by rw[Ww];rfl,by show p<s5.next;omega,h5.hC.box h5.box rfl,hlp.set h5.box rfl hlo5 h.lc,hlo5,h.lc⟩
end
theorem Xb{α:Type}(l:List α)(i k:Nat):((l.drop (k * 3)).drop (i * 3)).take 3=(l.drop ((k+i) * 3)).take 3:=by
 rw[A0h,show k * 3+i * 3=(k+i) * 3 by omega]
theorem Xf{α:Type}(l:List α){i k:Nat}(h:i<k):((l.take (k * 3)).drop (i * 3)).take 3=(l.drop (i * 3)).take 3:=by
 rw[List.drop_take,List.take_take,A0c (by omega)]
theorem Cv.take{s:AE}{a:Option (Nat×Nat)}{cs:List Rat}{cells:List AV}(h:Cv s a cs cells){k:Nat}(hk:k≤cs.length):Cv s a (cs.take k) (cells.take (k * 3)):=by
  have hl:=h.len
  refine⟨by rw[zo,zo];omega,Gd h.rd _,fun i q hi=>?_⟩
  rw[A1P]at hi
  split at hi
  · rename_i hik
    rw[Xf _ hik]
    exact h.rat i q hi
  · cases hi
theorem Cv.drop{s:AE}{a:Option (Nat×Nat)}{cap:Option Nat}{cs:List Rat}{cells:List AV}(h:Cv s a cs cells)(hz:EB 3 s a cap cs.length){k:Nat}(hk:k≤cs.length):Cv s (sF a cap k 3) (cs.drop k) (cells.drop (k * 3)):=by
 have hl:=h.len
 refine⟨by rw[A0C,A0C];omega,SA hz hk h.rd hl,fun i q hi=>?_⟩
 rw[A0Z]at hi
 rw[Xb]
 exact h.rat (k+i) q hi
theorem KN{s:AE}{cs ds:List Rat}{ce de:List AV}(h1:ce.length=cs.length * 3)(h2:∀ (i:Nat)(q:Rat),cs[i]? = some q→QC s (.agg ((ce.drop (i * 3)).take 3)) q)(h3:∀ (i:Nat)(q:Rat),ds[i]? = some q→QC s (.agg ((de.drop (i * 3)).take 3)) q):
    ∀ (i:Nat) (q:Rat),(cs++ds)[i]? = some q→QC s (.agg (((ce++de).drop (i * 3)).take 3)) q:=fun i q hi=>by
  rcases zX i cs.length with h | h
  · rw [A0Q                       h] at hi
    rw[A1e (by omega),A1k (by rw[A0C];omega)]
    exact h2 i q hi
  · rw[A0U h]at hi
    have e:(ce++de).drop (i * 3)=de.drop ((i - cs.length) * 3):=by
      rw[List.drop_append,A0D (by omega),A0y,h1,show i * 3 - cs.length * 3=(i - cs.length) * 3 by omega]
    rw[e]
    exact h3 _ q hi
theorem Cv.one{s:AE}{i:Nat}(hi:i<s.next){x:Bool}{a b:Option (Nat×Nat)}{n m:Nat}{c d:Option Nat}(hg:s.heap.get i=some (R 26 3 false [.bool x,.slice a n c,.slice b m d])){q:Rat}(hq:QC s (.agg [.bool x,.slice a n c,.slice b m d]) q):Cv s (some (i,0)) [q] [.bool x,.slice a n c,.slice b m d]:=
 ⟨rfl,Gc hg hi,fun j r hj=>by
  match j with
  | 0=>injection hj with hj;subst hj;exact hq
  | j+1=>cases hj⟩
section
variable{E:CR}{s:AE}
theorem j4      {p : Nat} {x : Bool} {a : Option (Nat × Nat)} {n : Nat} {c : Option Nat} {b : Option (Nat × Nat)} {m : Nat} {d : Option Nat} {av : Option (Nat × Nat)} {cv : Option Nat} {ac : Option (Nat × Nat)} {cc : Option Nat} {cells : List AV} {C : Rat} {vs : List Int} {cs : List Rat}
    (h:MO s p x a n c b m d av cv ac cc cells C vs cs) {k:Nat} (hk:k≤cs.length) (hvl:cs.length≤1000) {p9:Nat} {x9:Bool} {a9 b9:Option (Nat×Nat)} {n9 m9:Nat} {c9 d9:Option Nat} {q:Rat} (g9:s.heap.get p9=some (BQ x9 (.slice a9 n9 c9) (.slice b9 m9 d9))) (h9:p9<s.next) (hq:QC s (.agg [.bool x9,.slice a9 n9 c9,.slice b9 m9 d9]) q)
    {y0 y1 y2 y4 y5 y6 y7 y8 y10 y12 y13 y14 y15 y16 y17 y18:AV} {K:List AV→AE→Prop}
    (hK:∀s' ac' cc' cells',s.next≤s'.next→(∀j,j<s.next→j≠p→s'.heap.get j=s.heap.get j)→MO s' p x a n c b m d av cv ac' cc' cells' C vs (cs.take k++q::cs.drop k)→K [y0,y1,y2,.ptr (some (p,0)),y4,y5,y6,y7,y8,.ptr (some (p9,0)),y10,iv (k:Int),y12,y13,y14,y15,y16,y17,y18] s'):
    Qb E Tt K [] [y0,y1,y2,.ptr (some (p,0)),y4,y5,y6,y7,y8,.ptr (some (p9,0)),y10,iv (k:Int),y12,y13,y14,y15,y16,y17,y18] s:=by
  have hlt:=h.lt
  obtain⟨n1,o1,g1⟩:=Bs s (R 26 3 false [])
  simp only[Tt,Se,Xe,Qb,Qc,Qd,Qf,Qh,Qj,Qk,Qm,Qo,true_and,and_true,Qr,Qs,Qt,Qv,Yc,A1n,A1m,A1o]
  generalize newObj s (R 26 3 false [])=s1 at *
  have h1:=h.old o1
  have l1:=AI (P:=Tryz.prog) (t:=28) (o:=0+4) EN h1.box rfl
  have q1:=AK (P:=Tryz.prog) (t:=26) BZ Aw ((o1.2 p9 h9).trans g9) rfl
  have cut1:=Kf Tryz.underlying28 Aw (by decide) h1.lp.cz hk
  obtain⟨n2,o2,g2⟩:=Bs s1 (R 26 3 false [.bool x9,.slice a9 n9 c9,.slice b9 m9 d9])
  simp only[l1,q1,DE,cut1,GL,Xe,Qm,Yc]
  generalize newObj s1 (R 26 3 false [.bool x9,.slice a9 n9 c9,.slice b9 m9 d9])=s2 at *
  have o02:Aa s.next s s2:=o1.trans (o2.mono o1.1)
  have h2:=h.old o02
  have l2:=AI (P:=Tryz.prog) (t:=28) (o:=0+4) EN h2.box rfl
  have cut2:=J1 Tryz.underlying28 Aw (by decide) h2.lp.cz hk
  have g1':s2.heap.get s.next=some (R 26 3 false []):=(o2.2 s.next (by omega)).trans g1
  have hd:=B9.row (n:=0) (s:=s2) (by omega:s.next<s2.next) g1' rfl
  have hct:=h2.lp.rs.take hk
  obtain⟨v3,s3,O3,happ3,hd3,hn3,hf3,hO3,hs3⟩:=FE (cap:=cc) hd hct (by rw[zo];omega:(cs.take k).length=k) (by omega) (by omega)
  have o23:Aa s2.next s2 s3:=⟨hn3,fun j hj=>hf3 j hj (by simp)⟩
  have h3:=h2.old o23
  have l3:=AI (P:=Tryz.prog) (t:=28) (o:=0+4) EN h3.box rfl
  have q3:=AK (P:=Tryz.prog) (t:=26) BZ Aw ((o23.2 p9 (by omega)).trans ((o02.2 p9 h9).trans g9)) rfl
  have cut3:=J1 Tryz.underlying28 Aw (by decide) h3.lp.cz hk
  simp only[l2,cut2,happ3,Ff,Bl,l3,q3,cut3,Ao,A8,CI,Qh,Qj,Qk,Qm,true_and,and_true,Qr,Qs]
  have g2':s3.heap.get s1.next=some (R 26 3 false [.bool x9,.slice a9 n9 c9,.slice b9 m9 d9]):=(o23.2 s1.next (by omega)).trans g2
  obtain⟨v4,s4,O4,happ4,hd4,hn4,hf4,hO4,hs4⟩:=FE (cap:=some 1) hd3 (Cv.one (by omega) g2' ((hq.old o02).old o23)) (by rfl:[q].length=1) (by omega) (by omega)
  have o24:Aa s2.next s2 s4:=⟨by omega,fun j hj=>by
    rw[hf4 j (by omega) (fun h'=>by rcases hO3 j h' with h' | h';(· simp at h');omega),o23.2 j hj]⟩
  have h4:=h2.old o24
  have l4:=AI (P:=Tryz.prog) (t:=28) (o:=0+4) EN h4.box rfl
  have cut4:=J1 Tryz.underlying28 Aw (by decide) h4.lp.cz hk
  simp only[happ4,l4,cut4,Ao,A8,Qm,true_and,and_true]
  have hcd:=h4.lp.rs.drop h4.lp.cz hk
  obtain⟨v5,s5,O5,happ5,hd5,hn5,hf5,hO5,hs5⟩:=FE (cap:=vB cc k) hd4 hcd (by rw[A0C]:(cs.drop k).length=cs.length - k) (by omega) (by omega)
  have o25:Aa s2.next s2 s5:=⟨by omega,fun j hj=>by
    rw[hf5 j (by omega) (fun h'=>by
      rcases hO4 j h' with h' | h'
      · rcases hO3 j h' with h' | h'
        · simp at h'
        · omega
      · omega),o24.2 j hj]⟩
  have h5:=h2.old o25
  have hsl:∀j,B6 v5=some j→p<j:=fun j hj=>by
    rcases hs5 j hj with hj | hj
    · rcases hs4 j hj with hj | hj
      · rcases hs3 j hj with hj | hj
        · injection hj with hj;omega
        · omega
      · omega
    · omega
  obtain⟨a5,c5,e5,hc5⟩:=hd5.cells
  have hz5:=hd5.capZ a5 c5 e5
  have hlo5:=WT e5 hsl
  have hlen:0+k+1+(cs.length - k)=(cs.take k++q::cs.drop k).length:=by
    rw[zg,A0G,zo,A0C];omega
  rw[hlen]at e5 hz5
  subst e5
  have st:=CN (P:=Tryz.prog) (t:=28) (o:=0+4) (v:=.slice a5 (cs.take k++q::cs.drop k).length c5) ke h5.box (by simp) rfl
  simp only[happ5,st,Xy,Za,Qm]
  refine hK _ a5 c5 ([]++cells.take (k * 3)++[.bool x9,.slice a9 n9 c9,.slice b9 m9 d9]++cells.drop (k * 3)) (by show s.next≤s5.next;omega) (fun j hj hp=>?_) ?_
  · rw[Wx _ hp,o25.2 j (by omega),o02.2 j hj]
  · have hl := h.lp.rs.len
    have hrs:Cv s5 a5 (cs.take k++q::cs.drop k) ([]++cells.take (k * 3)++[.bool x9,.slice a9 n9 c9,.slice b9 m9 d9]++cells.drop (k * 3)):=by
      have t1:=h5.lp.rs.take hk
      have t2:∀ (i:Nat) (r:Rat),[q][i]? = some r→QC s5 (.agg ((([.bool x9,.slice a9 n9 c9,.slice b9 m9 d9]:List AV).drop (i * 3)).take 3)) r:=fun i r hi=>by
        match i with
        | 0=>injection hi with hi;subst hi;exact(hq.old o02).old o25
        | i+1=>cases hi
      have t3:=h5.lp.rs.drop h5.lp.cz hk
      have u1:=KN t1.len t1.rat t2
      have u2:=KN (by rw[zg,t1.len,zg];simp;omega:(cells.take (k * 3)++[AV.bool x9,AV.slice a9 n9 c9,AV.slice b9 m9 d9]).length=(cs.take k++[q]).length * 3) u1 t3.rat
      rw[A0O (cs.take k),List.singleton_append]at u2
      exact⟨by rw[← hlen];exact hd5.len,hc5,u2⟩
    have hlp:LP s5 av cv a5 c5 _ vs (cs.take k++q::cs.drop k):=⟨h5.lp.vc,h5.lp.vi,h5.lp.vz,hrs,hz5⟩
    exact⟨by rw[Ww];rfl,by show p<s5.next;omega,h5.hC.box h5.box rfl,hlp.set h5.box rfl h.la hlo5,h.la,hlo5⟩
end
theorem FH{α:Type}{l:List α}{k:Nat}(h:k<l.length):l.drop k=l[k]::l.drop (k+1):=A0M h
theorem Nc{l:List Int}{k:Nat}(h:k<l.length)(v:Int):decide (v∈l.take (k+1))=(decide (v∈l.take k) || decide (l[k]=v)):=by
 rw[A1j h,← Bool.decide_or]
 refine decide_eq_decide.2 ?_
 rw[A1V,A1d]
 exact⟨fun h=>h.imp id Eq.symm,fun h=>h.imp id Eq.symm⟩
section
variable{E:CR}{s:AE}
theorem UU{p1:Nat}{x1:Bool}{A1 A2 A5:AV}{av:Option (Nat×Nat)}{cv:Option Nat}{vs:List Int}(g1:s.heap.get p1=some (BL x1 A1 A2 (.slice av vs.length cv) A5))(hv:AS s.next s av (vs.map iv)){i:Nat}(hi:i≤vs.length)(hvl:vs.length≤1000000){v:Int}
  {y0 y2 y3 y4 y9 y10 y11 y12 y14 y15 y16 y17 y18:AV} {Q:Az→Prop}
  (hq:∀y8 y13,Q ⟨.exit 2,[y0,.ptr (some (p1,0)),y2,y3,y4,iv (i:Int),iv v,.bool (decide (v∈vs.take i)),y8,y9,y10,y11,y12,y13,y14,y15,y16,y17,y18],[],s⟩):
  ∀ (r k:Nat) (z13:AV),i - k=r→k≤i→WC E none (.loop Jv) Q [y0,.ptr (some (p1,0)),y2,y3,y4,iv (i:Int),iv v,.bool (decide (v∈vs.take k)),iv (k:Int),y9,y10,y11,y12,z13,y14,y15,y16,y17,y18] [] s:=by
 have l1:=AI (P:=Tryz.prog) (t:=27) (o:=0+3) D6 g1 rfl
 intro r
 induction r with
 | zero =>
  intro k z13 hr hk
  have e:k=i:=by omega
  subst e
  have dd:decide ((k:Int)<(k:Int))=false:=decide_eq_false (by omega)
  refine WC.loop' ?_
  simp only[Jv,Vg,Ry,dd,Qa,Qb,Qc,Qd,Qf,Qh,Qj,Qm,Qo,true_and,Qp,Qq,Qr,Qs,Qt,Qv,Ra,Rb,Rd,Re,Ry,A1x]
  exact hq _ _
 | succ r ih =>
  intro k z13 hr hk
  have hlt:k<vs.length:=by omega
  have dd:decide ((k:Int)<(i:Int))=true:=decide_eq_true (by omega)
  have e17:=Ax Tryz.prog 3 (k:Int) 1 ⟨by omega,by omega⟩
  have e17':((k:Int)+1)=((k+1:Nat):Int):=by omega
  have hx:vs[k]? = some vs[k]:=zW hlt
  obtain⟨i0,o,rfl,_,ld⟩:=Cm hv hx
  have ix:=AX (cap:=cv) (i:=i0) (o:=o) (n:=1) Tryz.underlying27 Jm hlt
  have hs:=Nc hlt v
  refine WC.loop' ?_
  generalize hW:WC E none (Ac.loop Jv) Q=WW
  cases hd:decide (v∈vs.take k)with
  | true =>
   rw[hd,Bool.true_or]at hs
   simp only[Jv,Vg,dD,Tn,Ry,dd,Ru,e17,e17',Qa,Qb,Qc,Qd,Qf,Qg,Qh,Qi,Qj,Qk,Qm,Qo,true_and,Qp,Qq,Qr,Qs,Qt,Qu,Qv,Qw,Qx,Qz,Rb,Rd,Re,Rt,Ya,Ru,Rw,Ry,A1x,A1t,A1p]
   rw[← hW,← hs]
   exact ih (k+1) _ (by omega) (by omega)
  | false =>
   rw[hd,Bool.false_or]at hs
   simp only[Jv,Vg,dD,Tn,Ry,dd,l1,CE,ix,ld,Wc,Ru,e17,e17',Qa,Qb,Qc,Qd,Qf,Qg,Qh,Qi,Qj,Qk,Qm,Qo,true_and,Qp,Qq,Qr,Qs,Qt,Qv,Qw,Qx,Qz,Rb,Rd,Re,Rt,Yb,Ru,Rw,Ry,Wc,A1x,A1t,A1p]
   rw[← hW,← hs]
   exact ih (k+1) _ (by omega) (by omega)
theorem SH          {p3 : Nat} {x1 : Bool} {A1 A2 A5 : AV} {av : Option (Nat × Nat)} {cv : Option Nat} {vs : List Int} (g3 : s.heap.get p3 = some (BL x1 A1 A2 (.slice av vs.length cv) A5)) (hv : AS      s.next s av (vs.map iv)) (hvl : vs.length ≤ 1000000) {v : Int}
    {y0 y1 y2 y4 y5 y7 y8 y9 y10 y12 y13 y14 y15 y16 y17:AV} {Q:Az→Prop}
    (hq:∀ (k:Nat) y18,k≤vs.length→(∀j,j<k→∀w,vs[j]? = some w→w<v)→(∀w,vs[k]? = some w→¬ w<v)→Q ⟨.exit 6,[y0,y1,y2,.ptr (some (p3,0)),y4,y5,iv v,y7,y8,y9,y10,iv (k:Int),y12,y13,y14,y15,y16,y17,y18],[],s⟩):
    ∀ (r k:Nat) (z18:AV),vs.length - k=r→k≤vs.length→(∀j,j<k→∀w,vs[j]? = some w→w<v)→WC E none (.loop Jx) Q [y0,y1,y2,.ptr (some (p3,0)),y4,y5,iv v,y7,y8,y9,y10,iv (k:Int),y12,y13,y14,y15,y16,y17,z18] [] s:=by
  have l1:=AI (P:=Tryz.prog) (t:=27) (o:=0+3) D6 g3 rfl
  intro r
  induction r with
  | zero =>
    intro k z18 hr hk hlo
    have dd:decide ((k:Int)<(vs.length:Int))=false:=decide_eq_false (by omega)
    refine WC.loop' ?_
    simp only[Jx,PM,l1,CE,AH Tryz.underlying27,Ry,dd,Ru,Qa,Qb,Qc,Qd,Qf,Qg,Qh,Qi,Qj,Qk,Qm,Qo,true_and,Qp,Qq,Qr,Qs,Qt,Qu,Qv,Qw,Qx,Ra,Rb,Rd,Re,Rs,Ru,Rw,Ry,A1n,A1m,A1s,A1w]
    exact hq k _ hk hlo fun w hw=>by rw[zj (by omega)]at hw;cases hw
  | succ r ih =>
    intro k z18 hr hk hlo
    have hlt:k<vs.length:=by omega
    have dd:decide ((k:Int)<(vs.length:Int))=true:=decide_eq_true (by omega)
    have e17:=Ax Tryz.prog 3 (k:Int) 1 ⟨by omega,by omega⟩
    have e17':((k:Int)+1)=((k+1:Nat):Int):=by omega
    have hx:vs[k]? = some vs[k]:=zW hlt
    obtain⟨i0,o,rfl,_,ld⟩:=Cm hv hx
    have ix:=AX (cap:=cv) (i:=i0) (o:=o) (n:=1) Tryz.underlying27 Jm hlt
    refine WC.loop' ?_
    generalize hW:WC E none (Ac.loop Jx) Q=WW
    by_cases h:vs[k]<v
    · simp only[Jx,PM,Tr,l1,CE,AH Tryz.underlying27,Ry,dd,ix,ld,decide_eq_true h,Ru,e17,e17',Qa,Qb,Qc,Qd,Qf,Qg,Qh,Qi,Qj,Qk,Qm,Qo,true_and,Qp,Qq,Qr,Qs,Qt,Qv,Qw,Qx,Qz,Rb,Rd,Re,Rs,Ru,Rw,Ry,A1n,A1m,A1s,A1w,A1t,A1p]
      rw[← hW]
      refine ih (k+1) _ (by omega) (by omega) fun j hj w hw=>?_
      rcases zX j k with h' | h'
      · exact hlo j h' w hw
      · have:j=k:=by omega
        subst this
        rw[hx]at hw
        injection hw with hw
        rw[← hw];exact h
    · simp only[Jx,PM,Tr,l1,CE,AH Tryz.underlying27,Ry,dd,ix,ld,decide_eq_false h,Ru,Qa,Qb,Qc,Qd,Qf,Qg,Qh,Qi,Qj,Qk,Qm,Qo,true_and,Qp,Qq,Qr,Qs,Qt,Qv,Qw,Qx,Ra,Rb,Rd,Re,Rs,Ru,Rw,Ry,A1n,A1m,A1s,A1w,A1t,A1p]
      exact hq k _ hk hlo fun w hw=>by rw[hx]at hw;injection hw with hw;rw[← hw];exact h
theorem XX        (hE : GoodN E) {s0 s9 : AE}  {p1 p9 : Nat} {x1 : Bool} {A1 A2 : AV} {av ac : Option (Nat × Nat)} {cv cc : Option Nat} {vs : List Int} {cs : List Rat} {cells : List AV} {kl : Nat} (g1 : s9.heap.get p1 = some (BL x1 A1 A2 (.slice av vs.length cv) (.slice ac cs.length cc))) (h1 : p1 < s9.next) (h9 : s9.next ≤ p9)
    (hv:AS s9.next s9 av (vs.map iv)) (hr:Cp s9 ac cs kl cells) (hkl:1≤kl) (hb:(min vs.length cs.length+1) * (kl+1)≤1400000) {i:Nat} {v:Int} (hvl:min vs.length cs.length≤1000000)
    {y0 y2 y3 y5 y7 y8 y11 y12 y13 y14 y17 y18:AV} {Q:Az→Prop}
    (hq:∀S x a n c b m d y10 y15 y16,Aa s9.next s9 S→p9<S.next→S.heap.get p9=some (BQ x (.slice a n c) (.slice b m d))→QC S (.agg [.bool x,.slice a n c,.slice b m d]) (Bf (dl v) (vs.drop i) (cs.drop i))→QH (Bf (dl v) (vs.drop i) (cs.drop i)) ((min vs.length cs.length+1) * (kl+1))→Q ⟨.exit 4,[y0,.ptr (some (p1,0)),y2,y3,iv ((min vs.length cs.length:Nat):Int),y5,iv v,y7,y8,.ptr (some (p9,0)),y10,y11,y12,y13,y14,y15,y16,y17,y18],[],S⟩):
    ∀ (r k:Nat) (S:AE) (x:Bool) (a b:Option (Nat×Nat)) (n m:Nat) (c d:Option Nat) (q:Rat) (z15 z16:AV),min vs.length cs.length - k=r→k≤min vs.length cs.length→Aa s9.next s9 S→p9<S.next→S.heap.get p9=some (BQ x (.slice a n c) (.slice b m d))→QC S (.agg [.bool x,.slice a n c,.slice b m d]) q→QH q (1+k * (kl+1))→q+Bf (dl v) (vs.drop k) (cs.drop k)=Bf (dl v) (vs.drop i) (cs.drop i) →
      WC E none (.loop Jw) Q [y0,.ptr (some (p1,0)),y2,y3,iv ((min vs.length cs.length:Nat):Int),y5,iv v,y7,y8,.ptr (some (p9,0)),iv (k:Int),y11,y12,y13,y14,z15,z16,y17,y18] [] S:=by
  intro r
  induction r with
  | zero =>
    intro k S x a b n m c d q z15 z16 hr0 hk ho hp9 gq hqc hqh hsum
    have e:k=min vs.length cs.length:=by omega
    have dd:decide ((k:Int)<((min vs.length cs.length:Nat):Int))=false:=decide_eq_false (by omega)
    have hz:Bf (dl v) (vs.drop k) (cs.drop k)=0:=by
      rcases Nat.le_total vs.length cs.length with h | h
      · rw[A0D (show vs.length≤k by omega)];rfl
      · rw[A0D (show cs.length≤k by omega)]
        cases vs.drop k<;>rfl
    rw[hz,Rat.add_zero]at hsum
    subst hsum
    refine WC.loop' ?_
    simp only[Jw,PL,Ry,dd,Qa,Qb,Qc,Qd,Qf,Qh,Qj,Qm,Qo,true_and,Qp,Qq,Qr,Qs,Qt,Qv,Ra,Rb,Rd,Re,Ry,A1x]
    refine hq S x a n c b m d _ _ _ ho hp9 gq hqc (hqh.le ?_)
    rw[← e,A0A,A0S]
    omega
  | succ r ih =>
    intro k S x a b n m c d q z15 z16 hr0 hk ho hp9 gq hqc hqh hsum
    have hlv:k<vs.length:=by omega
    have hlc:k<cs.length:=by omega
    have dd:decide ((k:Int)<((min vs.length cs.length:Nat):Int))=true:=decide_eq_true (by omega)
    have e17:=Ax Tryz.prog 3 (k:Int) 1 ⟨by omega,by omega⟩
    have e17':((k:Int)+1)=((k+1:Nat):Int):=by omega
    have hx:vs[k]? = some vs[k]:=zW hlv
    have hS1:S.heap.get p1=_:=(ho.2 p1 h1).trans g1
    have l1:=AI (P:=Tryz.prog) (t:=27) (o:=0+3) D6 hS1 rfl
    have l2:=AI (P:=Tryz.prog) (t:=28) (o:=0+4) EN hS1 rfl
    obtain⟨i0,o,rfl,hi0,ld⟩:=Cm hv hx
    have ld':=Ci lH ho hi0 ld
    have ix:=AX (cap:=cv) (i:=i0) (o:=o) (n:=1) Tryz.underlying27 Jm hlv
    obtain⟨i1,o1,rfl,hi1,lr⟩:=hr.load hlc
    have lr':=Ci BZ ho hi1 lr
    have ixr:=AX (cap:=cc) (i:=i1) (o:=o1) (n:=3) Tryz.underlying28 Aw hlc
    have hb1:(k+1) * (kl+1)+1 * (kl+1)≤1400000:=by
      rw[← A0A]
      exact zY (zq _ (by omega)) hb
    have hk1:(k+1) * (kl+1)=k * (kl+1)+(kl+1):=by rw[A0A,A0S]
    have hstep:Bf (dl v) (vs.drop k) (cs.drop k)=cs[k] * dl v vs[k]+Bf (dl v) (vs.drop (k+1)) (cs.drop (k+1)):=by
      rw[FH hlv,FH hlc];rfl
    rw[hstep]at hsum
    refine WC.loop' ?_
    generalize hW:WC E none (Ac.loop Jw) Q=WW
    by_cases he:vs[k]=v
    · have lq:=AK (P:=Tryz.prog) (t:=26) BZ Aw gq rfl
      simp only[Jw,PL,Tp,Ry,dd,l1,CE,ix,ld',Wc,decide_eq_true he,Qa,Qb,Qc,Qd,Qf,Qh,Qj,Qk,Qm,Qo,true_and,Qp,Qq,Qr,Qs,Qt,Qv,Qz,Rb,Rd,Re,Ry,Wc,A1x,A1n,A1m,A1v]
      simp only[cn,lq,l2,DE,ixr,lr',Qb,Qc,Qd,Qf,Qh,Qj,Qk,Qm,Qo,true_and,Qr,Qs,Qt,Qv,A1m,A1n,A1v,A1u,A1o]
      refine PU hE (hqc.qi hqh) ((hr.rat k cs[k] (zW hlc)).old ho) (by omega) hkl (by omega) fun S' w o' r'=>?_
      have gq':=(o'.2 p9 hp9).trans gq
      obtain⟨a',n',c',b',m',d',rfl⟩:=r'.shape
      obtain⟨st,_⟩:=BM (cs0:=[.bool x,.slice a n c,.slice b m d]) rfl (x:=decide ((q+cs[k]).num<0)) (a:=a') (n:=n') (c:=c') (b:=b') (m:=m') (d:=d') gq'
      simp only[st,Xy,Za,Tq,e17,e17',Qb,Qc,Qd,Qf,Qh,Qi,Qj,Qk,Qm,Qo,true_and,Qp,Qq,Qr,Qs,Qt,Qv,A1t,A1p]
      rw[← hW]
      have hS':=o'.1
      refine ih (k+1) _ _ _ _ _ _ _ _ (q+cs[k]) _ _ (by omega) (by omega) ((ho.trans (o'.mono ho.1)).set h9 _) (by show p9<S'.next;omega) (Ww _ _ _) (r'.box gq' rfl) ?_ ?_
      · have h2:=QH.add hqh (((hr.rat k cs[k] (zW hlc)).qh hkl))
        exact h2.le (by omega)
      · rw [he, LK]      at hsum
        rw[← hsum]
        grind
    · simp only[Jw,PL,Tp,Ry,dd,l1,CE,ix,ld',Wc,decide_eq_false he,Tq,e17,e17',Qa,Qb,Qc,Qd,Qf,Qh,Qi,Qj,Qk,Qm,Qo,true_and,Qp,Qq,Qr,Qs,Qt,Qv,Qz,Ra,Rb,Rd,Re,Ry,Wc,A1x,A1n,A1m,A1v,A1t,A1p]
      rw[← hW]
      refine ih (k+1) S _ _ _ _ _ _ _ q _ _ (by omega) (by omega) ho hp9 gq hqc (hqh.le (by omega)) ?_
      rw[MD he]at hsum
      rw[← hsum]
      grind
end
theorem KD(a:Int→Rat)(vs:List Int):Bf a vs []=0:=by cases vs<;>rfl
theorem Ht{v:Int}:∀ (i:Nat)(vs:List Int)(cs:List Rat),v ∉ vs.take i→Bf (dl v) vs cs=Bf (dl v) (vs.drop i) (cs.drop i)
 | 0,vs,cs,_=>rfl
 | i+1,[],cs,_=>rfl
 | i+1,n::vs,[],_=>by rw[List.drop_nil,KD,KD]
 | i+1,n::vs,c::cs,h=>by
  have h':v≠n∧v ∉ vs.take i:=by
   rw[A1h,List.mem_cons]at h
   exact⟨fun e=>h (.inl e),fun e=>h (.inr e)⟩
  show c * dl v n+Bf (dl v) vs cs=Bf (dl v) (vs.drop i) (cs.drop i)
  rw[MD (Ne.symm h'.1),Rat.mul_zero,Rat.zero_add,Ht i vs cs h'.2]
theorem PQ:∀ {L:List (Int×Rat)},Can L→∀p∈L,Ds (dl p.1) L=p.2
 | q::L,h,p,hp=>by
  rcases List.mem_cons.1 hp with rfl | hp
  ·exact h.head
  ·show q.2 * dl p.1 q.1+Ds (dl p.1) L=p.2
   have:=h.tail.2 p hp
   rw[MD (by omega),Rat.mul_zero,Rat.zero_add,PQ h.tail.1 p hp]
structure MV(vs:List Int)(cs:List Rat)(B i:Nat)(L:List (Int×Rat)):Prop where
 can:Can L
 ev:∀w,Ds (dl w) L=if w∈vs.take i then Bf (dl w) vs cs else 0
 len:L.length≤i
 qh:∀p∈L,QH p.2 B
theorem EX{vs:List Int}{i:Nat}(h:i<vs.length)(w:Int):w∈vs.take (i+1)↔w∈vs.take i∨w=vs[i]:=by
 rw[A1j h,A1V,A1d]
theorem MV.skip{vs:List Int}{cs:List Rat}{B i:Nat}{L:List (Int×Rat)}(h:MV vs cs B i L)(hi:i<vs.length)(hs:vs[i]∈vs.take i∨Bf (dl vs[i]) (vs.drop i) (cs.drop i)=0):MV vs cs B (i+1) L:=by
 refine⟨h.can,fun w=>?_,Nat.le_succ_of_le h.len,h.qh⟩
 rw[h.ev w]
 by_cases h1:w∈vs.take i
 ·rw[if_pos h1,if_pos ((EX hi w).2 (.inl h1))]
 ·rw[if_neg h1]
  by_cases h2:w=vs[i]
  ·subst h2
   rw[if_pos ((EX hi _).2 (.inr rfl))]
   rcases hs with hs | hs
   ·exact absurd hs h1
   ·rw[Ht i vs cs h1,hs]
  ·rw[if_neg fun h3=>by rcases(EX hi w).1 h3 with h3 | h3;(· exact h1 h3);exact h2 h3]
theorem MV.ins {vs : List Int} {cs : List Rat} {B i : Nat} {L : List (Int × Rat)} (h : MV vs cs B i L) (hi : i < vs.length) (hs : vs[i] ∉ vs.take i) (hc : Bf   (dl vs[i]) (vs.drop i) (cs.drop i) ≠ 0) (hq : QH (Bf   (dl vs[i]) (vs.drop i) (cs.drop i)) B) {k : Nat} (h1 : ∀ j, j < k → ∀ w, (L.map (·.1))[j]? = some w → w < vs[i]) (h2 : ∀ w, (L.map (·.1))[k]? = some w → ¬ w < vs[i]) :
    MV vs cs B (i+1) (L.take k++(vs[i],Bf (dl vs[i]) (vs.drop i) (cs.drop i))::L.drop k):=by
  have hv:∀p∈L,p.1≠vs[i]:=fun p hp e=>by
    have h3:=PQ h.can p hp
    rw[h.ev,e,if_neg hs]at h3
    exact h.can.2 p hp h3.symm
  refine⟨i5 h.can hc hv (fun j p hj hp=>h1 j hj p.1 (by rw[A0N,hp];rfl)) (fun p hp=>h2 p.1 (by rw[A0N,hp];rfl)),fun w=>?_,?_,fun p hp=>?_⟩
  · rw[jw,h.ev w]
    by_cases h3:w∈vs.take i
    · have hne:vs[i]≠w:=fun e=>hs (e▸h3)
      rw[if_pos h3,if_pos ((EX hi w).2 (.inl h3)),MD hne,Rat.mul_zero,Rat.add_zero]
    · rw[if_neg h3]
      by_cases h4:w=vs[i]
      · subst h4
        rw[if_pos ((EX hi _).2 (.inr rfl)),LK,Rat.mul_one,Rat.zero_add,Ht i vs cs h3]
      · rw[MD (Ne.symm h4),Rat.mul_zero,Rat.add_zero,if_neg fun h5=>by rcases(EX hi w).1 h5 with h5 | h5;(· exact h3 h5);exact h4 h5]
  · have:=h.len
    rw[zg,A0G,zo,A0C]
    omega
  · rcases A1V.1             hp with hp | hp
    · exact h.qh p (A1g hp)
    · rcases List.mem_cons.1 hp with rfl | hp
      · exact hq
      · exact h.qh p (A1Y hp)
theorem MV.zero(vs:List Int)(cs:List Rat)(B:Nat):MV vs cs B 0 []:=⟨⟨List.Pairwise.nil,fun p h=>by cases h⟩,fun w=>by rw[A0l,if_neg (fun h=>by cases h)];rfl,zU _,fun p h=>by cases h⟩
theorem MV.done{vs:List Int}{cs:List Rat}{B:Nat}{L:List (Int×Rat)}(h:MV vs cs B (min vs.length cs.length) L)(a:Int→Rat):Ds a L=Bf a vs cs:=by
  refine tH h.can (fun w=>?_) a
  rw[h.ev w]
  by_cases h1:w∈vs.take (min vs.length cs.length)
  · rw[if_pos h1]
  · rw [if_neg h1, Ht        _ vs cs h1]
    rcases Nat.le_total vs.length cs.length with h2 | h2
    · rw[A0D (show vs.length≤_ by omega)];rfl
    · rw[A0D (show cs.length≤_ by omega),KD]
structure MI(sB S:AE)(p1 p2 p3:Nat)(B1:BF):Prop where
 o:Aa sB.next sB S
 g1:S.heap.get p1=some B1
 g2:S.heap.get p2=some ZL
 lB:sB.next≤p1
 l12:p1<p2
 l23:p2<p3
 l3:p3<S.next
theorem MI.fr{sB S S':AE}{p1 p2 p3:Nat}{B1:BF}(h:MI sB S p1 p2 p3 B1)(hn:S.next≤S'.next)(hf:∀j,j<S.next→j≠p3→S'.heap.get j=S.heap.get j):MI sB S' p1 p2 p3 B1:=by
 have h1:=h.lB
 have h2:=h.l12
 have h3:=h.l23
 have h4:=h.l3
 exact⟨⟨zY h.o.1 hn,fun j hj=>(hf j (zZ hj h.o.1) (by omega)).trans (h.o.2 j hj)⟩,(hf p1 (by omega) (by omega)).trans h.g1,(hf p2 (by omega) (by omega)).trans h.g2,h.lB,h.l12,h.l23,zZ h.l3 hn⟩
theorem MI.old{sB S S':AE}{p1 p2 p3:Nat}{B1:BF}(h:MI sB S p1 p2 p3 B1)(o:Aa S.next S S'):MI sB S' p1 p2 p3 B1:=h.fr o.1 fun j hj _=>o.2 j hj
theorem By.keep2  {s s' : AE}  {v : AV} {l : List Nat} {p e : Nat} {sp : Bool} {cs : List AV} (h : By  s v l) (hg : s.heap.get p = some (R e 0 sp cs)) (hc : cs.all Kq    = true) (hn : s.next ≤ s'.next) (hf : ∀ j, j < s.next → j ≠ p → s'.heap.get j = s.heap.get j) : By  s' v l := by
  obtain⟨a,cap,rfl,h2,h3⟩:=h
  refine⟨a,cap,rfl,?_,fun k u hu=>?_⟩
  · rcases h2 with h2 | ⟨g1, i, o', r, rfl, g3, g4, g5, g6⟩
    · exact .inl h2
    · refine .inr ⟨g1, i, o', r, rfl, by omega, ?_, g5, g6⟩
      rw[hf i g3 (by
        rintro rfl
        rw[hg]at g4
        injection g4 with g4
        injection g4 with g4
        rw[← g4]at g5
        cases g5)]
      exact g4
  · obtain⟨i,o',rfl,g2,g3⟩:=h3 k u hu
    refine⟨i,o',rfl,by omega,?_⟩
    have hne:i≠p:=by
      rintro rfl
      rw[Fh,hg,Wo]at g3
      have h5:=List.all_eq_true.1 hc u (zw g3)
      have h6:u∈us l:=zw hu
      obtain⟨x,_,rfl⟩:=List.mem_map.1 h6
      cases h5
    rw[CS (hf i g2 hne)]
    exact g3
theorem Ln:Be Tryz.prog 26 (zipIdx [] [])=some (.agg [.bool false,.slice none 0 (some 0),.slice none 0 (some 0)]):=by kernel_rfl
theorem NT(s:AE):QI s (.agg [.bool false,.slice none 0 (some 0),.slice none 0 (some 0)]) 0 1:=
 ⟨false,_,_,[],[],rfl,(NR.nil 0 s).n32,(NR.nil 0 s).n32,fun x h=>(by cases h),fun x h=>(by cases h),ze _,ze _,by decide⟩
theorem fu(L:List (Int×Rat))(k:Nat)(v:Int)(c:Rat):(L.map (·.1)).take k++v::(L.map (·.1)).drop k=(L.take k++(v,c)::L.drop k).map (·.1):=by simp[A0z,List.map_drop]
theorem fv(L:List (Int×Rat))(k:Nat)(v:Int)(c:Rat):(L.map (·.2)).take k++c::(L.map (·.2)).drop k=(L.take k++(v,c)::L.drop k).map (·.2):=by simp[A0z,List.map_drop]
section
variable{E:CR}{s:AE}
theorem XU        (hE : GoodN E) {sB : AE}  {p1 p2 p3 : Nat} {x1 : Bool} {A1 A2 : AV} {av ac : Option (Nat × Nat)} {cv cc : Option Nat} {vs : List Int} {cs : List Rat} {cells : List AV} {kl : Nat}
    (hv:AS sB.next sB av (vs.map iv)) (hvi:∀n∈vs,i64 n) (hr:Cp sB ac cs kl cells) (hkl:1≤kl) (hb:(min vs.length cs.length+1) * (kl+1)≤1400000) (hM:min vs.length cs.length≤1000) (hvl:vs.length≤1000000)
    {x a n c b m d C} {y0:AV} {Q:Az→Prop}
    (hq:∀S L av' cv' ac' cc' cells' y5 y6 y7 y8 y9 y10 y11 y12 y13 y14 y15 y16 y17 y18,MI sB S p1 p2 p3 (BL x1 A1 A2 (.slice av vs.length cv) (.slice ac cs.length cc))→MO S p3 x a n c b m d av' cv' ac' cc' cells' C (L.map (·.1)) (L.map (·.2))→MV vs cs ((min vs.length cs.length+1) * (kl+1)) (min vs.length cs.length) L →
      Q ⟨.exit 0,[y0,.ptr (some (p1,0)),.ptr (some (p2,0)),.ptr (some (p3,0)),iv ((min vs.length cs.length:Nat):Int),y5,y6,y7,y8,y9,y10,y11,y12,y13,y14,y15,y16,y17,y18],[],S⟩):
    ∀ (r i:Nat) (S:AE) (L:List (Int×Rat)) (av':Option (Nat×Nat)) (cv':Option Nat) (ac':Option (Nat×Nat)) (cc':Option Nat) (cells':List AV) (y6 y7 y8 y9 y10 y11 y12 y13 y14 y15 y16 y17 y18:AV),min vs.length cs.length - i=r→i≤min vs.length cs.length→MI sB S p1 p2 p3 (BL x1 A1 A2 (.slice av vs.length cv) (.slice ac cs.length cc))→MO S p3 x a n c b m d av' cv' ac' cc' cells' C (L.map (·.1)) (L.map (·.2))→MV vs cs ((min vs.length cs.length+1) * (kl+1)) i L →
      WC E none (.loop Lx) Q [y0,.ptr (some (p1,0)),.ptr (some (p2,0)),.ptr (some (p3,0)),iv ((min vs.length cs.length:Nat):Int),iv (i:Int),y6,y7,y8,y9,y10,y11,y12,y13,y14,y15,y16,y17,y18] [] S:=by
  intro r
  induction r with
  | zero =>
    intro i S L av' cv' ac' cc' cells' y6 y7 y8 y9 y10 y11 y12 y13 y14 y15 y16 y17 y18 hr0 hi hMI hMO hMV
    have e:i=min vs.length cs.length:=by omega
    subst e
    have dd:decide (((min vs.length cs.length:Nat):Int)<((min vs.length cs.length:Nat):Int))=false:=decide_eq_false (by omega)
    refine WC.loop' ?_
    simp only[Lx,dC,Ry,dd,Qa,Qb,Qc,Qd,Qf,Qh,Qj,Qm,Qo,true_and,Qp,Qq,Qr,Qs,Qt,Qv,Ra,Rb,Rd,Re,Rg,Ry,A1x]
    exact hq S L av' cv' ac' cc' cells' _ _ _ _ _ _ _ _ _ _ _ _ _ _ hMI hMO hMV
  | succ r ih =>
    intro i S L av' cv' ac' cc' cells' y6 y7 y8 y9 y10 y11 y12 y13 y14 y15 y16 y17 y18 hr0 hi hMI hMO hMV
    have hlv:i<vs.length:=by omega
    have hlc:i<cs.length:=by omega
    have dd:decide ((i:Int)<((min vs.length cs.length:Nat):Int))=true:=decide_eq_true (by omega)
    have e17:=Ax Tryz.prog 3 (i:Int) 1 ⟨by omega,by omega⟩
    have e17':((i:Int)+1)=((i+1:Nat):Int):=by omega
    have hx:vs[i]? = some vs[i]:=zW hlv
    have hi64:i64 vs[i]:=hvi _ (A0x hlv)
    have l1:=AI (P:=Tryz.prog) (t:=27) (o:=0+3) D6 hMI.g1 rfl
    have hvS:=(hv.old hMI.o (zU _)).mono hMI.o.1
    obtain⟨i0,o,rfl,hi0,ld⟩:=Cm hvS hx
    have ix:=AX (cap:=cv) (i:=i0) (o:=o) (n:=1) Tryz.underlying27 Jm hlv
    refine WC.loop' ?_
    generalize hW:WC E none (Ac.loop Lx) Q=WW
    simp only[Lx,dC,nk,nl,np,Ry,dd,l1,CE,ix,ld,Qa,Qb,Qc,Qd,Qf,Qh,Qi,Qj,Qk,Qm,Qo,true_and,Qp,Qq,Qr,Qs,Qt,Qv,Qz,Rb,Rd,Re,Rg,Ry,A1x,A1n,A1m,A1v,A1p]
    refine UU hMI.g1 hvS (i:=i) (v:=vs[i]) (by omega) hvl (fun z8 z13=>?_) i 0 _ rfl (ze _)
    by_cases hseen:vs[i]∈vs.take i
    · simp only[decide_eq_true hseen,To,if_true,PN,e17,e17',Qb,Qc,Qd,Qf,Qh,Qi,Qj,Qk,Qm,Qo,true_and,Qp,Qq,Qr,Qs,Qt,Qv,Qz,Rb,Rd,Rg,A1p,A1t]
      rw[← hW]
      exact ih (i+1) S L _ _ _ _ _ _ _ _ _ _ _ _ _ _ _ _ _ _ (by omega) (by omega) hMI hMO (hMV.skip hlv (.inl hseen))
    · simp only[decide_eq_false hseen,To,ck,if_true,Ln,Qb,Qc,Qd,Qf,Qh,Qj,Qk,Qm,Qo,true_and,Qp,Qq,Qr,Qs,Qt,Qv,Ra,Rb,Rd,Rg,A1p,A1u,A1r,A1o]
      refine HI hE (NT S) (by decide) (by decide) fun S1 w1 o1 r1=>?_
      have hMI1:=hMI.old o1
      have hMO1:=hMO.old o1
      obtain⟨za,zn,zc,zb,zm,zd,rfl⟩:=r1.shape
      obtain⟨n2,o2,g2⟩:=Bs S1 ZQ
      simp only[Bh,Xc,Qd,Qm,Qo,true_and,Qp,Qq,Qr,Qs]
      have hMI2:=hMI1.old o2
      have hMO2:=hMO1.old o2
      have r2:=r1.old o2
      have hl1:=hMI1.l3
      generalize newObj S1 ZQ=S2 at *
      obtain⟨st,_⟩:=BM (cs0:=[.bool false,.slice none 0 (some 0),.slice none 0 (some 0)]) rfl (x:=decide ((0:Rat).num<0)) (a:=za) (n:=zn) (c:=zc) (b:=zb) (m:=zm) (d:=zd) g2
      simp only[st,Xy,Za,cl,Qb,Qc,Qd,Qf,Qh,Qj,Qm,Qo,true_and,Qp,Qq,Qr,Qs,Qt,Qv,A1p]
      have hvS1:=(hv.old hMI1.o (zU _)).mono hMI1.o.1
      have hS2:=o2.1
      refine XX (S:=setObj S2 S1.next (BQ (decide ((0:Rat).num<0)) (.slice za zn zc) (.slice zb zm zd))) (i:=i) (k:=i) (s9:=S1) (p9:=S1.next) (q:=0) hE (s0:=S1) hMI1.g1 (by have:=hMI1.l12;have:=hMI1.l23;omega) (zU _) hvS1 (hr.old hMI1.o) hkl hb (by omega) (fun S3 x3 a3 m3 c3 b3 k3 d3 z10 z15 z16 o3 h93 g3 r3 q3=>?_) _ _ _ _ _ _ _ _ _ _ rfl (by omega) (o2.set (zU _) _) (by show S1.next<S2.next;omega) (Ww _ _ _) (r2.box g2 rfl) (sR.le (by omega)) (by rw[Rat.zero_add])
      have hMI3:=hMI1.old o3
      have hMO3:=hMO1.old o3
      have lq:=AK (P:=Tryz.prog) (t:=26) BZ Aw g3 rfl
      simp only[cy,if_true,lq,Qb,Qc,Qd,Qf,Qh,Qi,Qj,Qk,Qm,Qo,true_and,Qr,Qs,Qt,Qv,Rb,Rd,Rg,A1m,A1u]
      refine fQ hE r3 q3 (by omega) fun S4 o4=>?_
      have hMI4:=hMI3.old o4
      have hMO4:=hMO3.old o4
      simp only[Wc,Qd,Qm,Qo,true_and,Qp,Qq,Qr,Qs,Wc]
      by_cases hc0:Hf (Bf (dl vs[i]) (vs.drop i) (cs.drop i)).num=0
      · simp only[decide_eq_true hc0,PN,e17,e17',Qb,Qc,Qd,Qf,Qh,Qi,Qj,Qk,Qm,Qo,true_and,Qp,Qq,Qr,Qs,Qt,Qv,Qz,A1t,A1p]
        rw[← hW]
        refine ih (i+1) S4 L _ _ _ _ _ _ _ _ _ _ _ _ _ _ _ _ _ _ (by omega) (by omega) hMI4 hMO4 (hMV.skip hlv (.inr ?_))
        exact Classical.byContradiction fun h=>(La _).2 h hc0
      · have hc : Bf   (dl vs[i]) (vs.drop i) (cs.drop i) ≠ 0 := (La      _).1 hc0
        have hLl:=hMV.len
        simp only[decide_eq_false hc0,dA,Qb,Qc,Qd,Qf,Qh,Qi,Qm,Qo,true_and,Qp,Qq,Qt,Qv,Ra,A1p]
        refine SH (s:=S4) (v:=vs[i]) hMO4.box hMO4.lp.vc (by rw[zi];omega) (fun k z18 hk hlo hhi=>?_) _ 0 _ rfl (ze _) (fun j hj=>absurd hj (A1W _))
        simp only[if_true,Rb,Rd,Rg]
        rw[zi]at hk
        refine j5 hMO4 (by rw[zi];exact hk) (by rw[zi];omega) hi64 fun S5 av5 cv5 hn5 hf5 hMO5=>?_
        have hMI5:=hMI4.fr hn5 hf5
        have h9a:S1.next<S4.next:=zZ h93 o4.1
        have hl1':=hMI1.l3
        have g5:S5.heap.get S1.next=some (BQ x3 (.slice a3 m3 c3) (.slice b3 k3 d3)):=by rw[hf5 _ h9a (by omega),o4.2 _ h93];exact g3
        have r5:QC S5 (.agg [.bool x3,.slice a3 m3 c3,.slice b3 k3 d3]) (Bf (dl vs[i]) (vs.drop i) (cs.drop i)):=by
          obtain⟨m',d',e',h1',h2'⟩:=r3.old o4
          injection e' with e'
          injection e' with e1 e'
          injection e' with e2 e'
          injection e' with e3 _
          subst e2;subst e3
          refine⟨_,_,by rw[e1],h1'.keep2 hMO4.box rfl hn5 hf5,h2'.keep2 hMO4.box rfl hn5 hf5⟩
        refine j4 hMO5 (by rw[zi];exact hk) (by rw[zi];omega) g5 (by omega) r5 fun S6 ac6 cc6 cells6 hn6 hf6 hMO6=>?_
        have hMI6:=hMI5.fr hn6 hf6
        rw[fu L k vs[i] (Bf (dl vs[i]) (vs.drop i) (cs.drop i)),fv L k vs[i]]at hMO6
        simp only[PN,e17,e17',Qb,Qc,Qd,Qf,Qh,Qi,Qj,Qk,Qm,Qo,true_and,Qp,Qq,Qr,Qs,Qt,Qv,A1t,A1p]
        rw[← hW]
        exact ih (i+1) S6 _ _ _ _ _ _ _ _ _ _ _ _ _ _ _ _ _ _ _ (by omega) (by omega) hMI6 hMO6 (hMV.ins hlv hseen hc q3 hlo hhi)
theorem fI(hE:GoodN E){v:AV}{C:Rat}{vs:List Int}{cs:List Rat}{kl:Nat}(hl:LI s v C vs cs kl)(hkl:1≤kl)(hb:(min vs.length cs.length+1) * (kl+1)≤1400000)(hM:min vs.length cs.length≤1000)(hvl:vs.length≤1000000){K:AV→AE→Prop}
  (hK:∀s' w L,Aa s.next s s'→LC s.next s' w C L→Can L→(∀a,Ds a L=Bf a vs cs)→L.length≤min vs.length cs.length→QH C kl→(∀p∈L,QH p.2 ((min vs.length cs.length+1) * (kl+1)))→K w s'):WF E 43 [v] K s:=by
 obtain⟨x,a,n,c,b,m,d,av,cv,ac,cc,cells,rfl,hC,hv,hvi,hr,hvz,hcz⟩:=hl
 have hCq:=hC.qh hkl
 have hkl2:kl+1≤1400000:=zY (A0i _ (by omega)) hb
 refine hE.go td (by decide) rfl ?_
 obtain⟨n1,o1,g1,g2⟩:=EK s (BL x (.slice a n c) (.slice b m d) (.slice av vs.length cv) (.slice ac cs.length cc)) ZL
 simp only[ye,ng,Xa,Xh,ED,Xc,Ak,Qa,Qb,Qc,Qd,Qf,Qh,Qj,Ql,Qm,Qo,true_and,Qp,Qq,Qr,Qt,Qv,Rb,Rh,A1q,A1r]
 generalize newObj (newObj s (BL x (.slice a n c) (.slice b m d) (.slice av vs.length cv) (.slice ac cs.length cc))) ZL=s1 at *
 have lc:AB Tryz.prog s1 26 (.ptr (some (s.next,0+0)))=some (.agg [.bool x,.slice a n c,.slice b m d]):=Al (o:=0) (n:=3) BZ Aw g1 (by simp)
 simp only[nh,lc,HJ,Qb,Qc,Qd,Qf,Qh,Qj,Qk,Qm,Qo,true_and,Qr,Qs,Qt,Qv,A1n,A1m,A1u,A1r,A1o]
 refine HI hE (hC.old o1) hkl (by omega) fun s2 w2 o2 r2=>?_
 obtain⟨a2,n2,c2,b2,m2,d2,rfl⟩:=r2.shape
 obtain⟨n3,o3,g3⟩:=Bs s2 ZL
 simp only[YZ,ED,Xc,Qd,Qm,Qo,true_and,Qp,Qq,Qr,Qs]
 have r3:=r2.old o3
 generalize newObj s2 ZL=s3 at *
 have h2:=o2.1
 obtain⟨st,_⟩:=Bz (cs0:=[.bool false,.slice none 0 (some 0),.slice none 0 (some 0),.slice none 0 (some 0),.slice none 0 (some 0)]) rfl (x:=decide (C.num<0)) (a:=a2) (n:=n2) (c:=c2) (b:=b2) (m:=m2) (d:=d2) (av:=none) (nv:=0) (cv:=some 0) (ac:=none) (nc:=0) (cc:=some 0) g3
 have r4:=r3.box (o:=BL (decide (C.num<0)) (.slice a2 n2 c2) (.slice b2 m2 d2) (.slice none 0 (some 0)) (.slice none 0 (some 0))) g3 rfl
 simp only[st,Xy,Za,Qm]
 generalize hs4:setObj s3 s2.next (BL (decide (C.num<0)) (.slice a2 n2 c2) (.slice b2 m2 d2) (.slice none 0 (some 0)) (.slice none 0 (some 0)))=s4 at *
 have n4:s4.next=s3.next:=by rw[← hs4];rfl
 have f4:∀j,j≠s2.next→s4.heap.get j=s3.heap.get j:=fun j hj=>by rw[← hs4,Wx _ hj]
 have g4:s4.heap.get s2.next=some (BL (decide (C.num<0)) (.slice a2 n2 c2) (.slice b2 m2 d2) (.slice none 0 (some 0)) (.slice none 0 (some 0))):=by rw[← hs4,Ww]
 have o14:Aa s1.next s1 s4:=⟨by omega,fun j hj=>by rw[f4 j (by omega),o3.2 j (by omega),o2.2 j hj]⟩
 have hMI:MI s s4 s.next (s.next+1) s2.next (BL x (.slice a n c) (.slice b m d) (.slice av vs.length cv) (.slice ac cs.length cc)):=
  ⟨o1.trans (o14.mono o1.1),(o14.2 _ (by omega)).trans g1,(o14.2 _ (by omega)).trans g2,zU _,by omega,by omega,by omega⟩
 have hMO:MO s4 s2.next (decide (C.num<0)) a2 n2 c2 b2 m2 d2 none (some 0) none (some 0) [] C [] []:=
  ⟨g4,by omega,r4,⟨AS.nil,fun n h=>(by cases h),.inl ⟨0,rfl,zU _,fun _=>rfl⟩,Cv.nil _,.inl ⟨0,rfl,zU _,fun _=>rfl⟩⟩,fun i q h=>(by cases h),fun i q h=>(by cases h)⟩
 have l1:=AI (P:=Tryz.prog) (t:=27) (o:=0+3) D6 hMI.g1 rfl
 have l2:=AI (P:=Tryz.prog) (t:=28) (o:=0+4) EN hMI.g1 rfl
 have mm:Ch false (iv (vs.length:Int)) [iv (cs.length:Int)]=some (iv ((min vs.length cs.length:Nat):Int)):=KH _ _
 simp only[ni,nj,l1,l2,CE,DE,AH Tryz.underlying27,AH Tryz.underlying28,mm,Qb,Qc,Qd,Qf,Qh,Qi,Qj,Qk,Qm,Qo,true_and,Qp,Qq,Qr,Qs,Qt,Qv,A1n,A1m,A1s,A1p]
 refine XU (sB:=s) hE hv hvi hr hkl hb hM hvl (fun S L av' cv' ac' cc' cells' y5 y6 y7 y8 y9 y10 y11 y12 y13 y14 y15 y16 y17 y18 hMI' hMO' hMV'=>?_) _ 0 s4 [] _ _ _ _ _ _ _ _ _ _ _ _ _ _ _ _ _ _ rfl (ze _) hMI hMO (MV.zero _ _ _)
 have lS:=AK (P:=Tryz.prog) (t:=30) D7 Do hMO'.box rfl
 obtain⟨st,ld⟩:=Bz (cs0:=[.bool false,.slice none 0 (some 0),.slice none 0 (some 0),.slice none 0 (some 0),.slice none 0 (some 0)]) rfl (x:=decide (C.num<0)) (a:=a2) (n:=n2) (c:=c2) (b:=b2) (m:=m2) (d:=d2) (av:=av') (nv:=(L.map (·.1)).length) (cv:=cv') (ac:=ac') (nc:=(L.map (·.2)).length) (cc:=cc') hMI'.g2
 simp only[dB,if_true,lS,st,ld,AM,Xy,Za,Qb,Qc,Qd,Qf,Qh,Qj,Qk,Qm,Qo,true_and,Qr,Qs,Qt,Qv,Rb,Rd,Rg,Rj,Rk,Rn,Yc,A1m,A1o]
 have h23:=hMI'.l23
 refine hK _ _ L (hMI'.o.set (by omega) _) ⟨_,_,_,_,_,_,_,_,_,_,_,_,rfl,hMO'.hC.box hMI'.g2 rfl,hMO'.lp.set hMI'.g2 rfl (fun i q h=>?_) (fun i q h=>?_),fun i q h=>?_,fun i q h=>?_⟩ hMV'.can hMV'.done hMV'.len hCq hMV'.qh
 ·have:=hMO'.la i q h;omega
 ·have:=hMO'.lc i q h;omega
 ·have:=hMO'.la i q h;omega
 ·have:=hMO'.lc i q h;omega
end
theorem Yf(x:Bool)(a:Option (Nat×Nat))(n:Nat)(c:Option Nat):Be Tryz.prog 26 (zipIdx [0] [.agg [.bool x,.slice a n c]])=some (.agg [.bool x,.slice a n c,.slice none 0 (some 0)]):=by kernel_rfl
section
variable{E:CR}{s:AE}
theorem Vx(hE:GoodN E){K:AV→AE→Prop}(hK:∀s' w,Aa s.next s s'→QC s' w 1→K w s'):WF E 76 [] K s:=by
 refine hE.go uG (by decide) rfl ?_
 obtain⟨n1,o1,g1,g2⟩:=EK s ZQ (R 76 1 false [A6 1])
 have er:Ad Tryz.prog 22 1 (zipIdx [0] [.int .u32 1])=some (R 76 1 false [A6 1]):=Ui 1
 simp only[zF,qH,qI,Bh,er,Xe,Xc,Ak,Lm,Yf,Qa,Qb,Qc,Qd,Qf,Qh,Qi,Qj,Qk,Ql,Qm,Qo,true_and,Qp,Qr,Qt,Qv,Rb,Rh,Rj,Yc,A1r,A1u,A1o]
 generalize newObj (newObj s ZQ) (R 76 1 false [A6 1])=s1 at *
 have hq:QI s1 (.agg [.bool false,.slice (some (s.next+1,0)) 1 (some 1),.slice none 0 (some 0)]) 1 1:=
  ⟨false,_,_,[1],[],rfl,WH (by omega) g2,(NR.nil 0 s1).n32,fun x h=>(by rw[A1d.1 h];decide),fun x h=>(by cases h),zU _,ze _,by decide⟩
 refine HI hE hq (by decide) (by decide) fun s2 w2 o2 r2=>?_
 have f2:=(o2.2 s.next (by omega)).trans g1
 obtain⟨a2,n2,c2,b2,m2,d2,rfl⟩:=r2.shape
 obtain⟨st,ld⟩:=BM (cs0:=[.bool false,.slice none 0 (some 0),.slice none 0 (some 0)]) rfl (x:=decide ((1:Rat).num<0)) (a:=a2) (n:=n2) (c:=c2) (b:=b2) (m:=m2) (d:=d2) f2
 simp only[st,ld,AM,Xy,Za,Qd,Qj,Qm,Qo,true_and,Qr,Rk,Rn,Yc]
 exact hK _ _ ((o1.trans (o2.mono o1.1)).set (by omega) _) (r2.box f2 rfl)
theorem ju(hE:GoodN E){v:Int}(hv:i64 v){K:AV→AE→Prop}(hK:∀s' w,Aa s.next s s'→LC s.next s' w 0 [(v,1)]→K w s'):WF E 38 [iv v] K s:=by
 refine hE.go tX (by decide) rfl ?_
 obtain⟨n1,o1,g1⟩:=Bs s ZL
 simp only[yW,nI,nJ,ED,Xc,Ln,Qa,Qb,Qc,Qd,Qf,Qh,Qj,Qk,Ql,Qm,Qo,true_and,Qp,Qq,Qr,Qs,Qt,Qv,Rb,Rh,Rj,A1r,A1u,A1o]
 generalize newObj s ZL=s1 at *
 refine HI hE (NT s1) (by decide) (by decide) fun s2 w2 o2 r2=>?_
 have h2:=o2.1
 obtain⟨n3,o3,g3⟩:=Bs s2 (R 3 1 false [iv v])
 simp only[M8,Xe,Qd,Qm,Qo,true_and,Qr,Yc]
 generalize newObj s2 (R 3 1 false [iv v])=s3 at *
 refine Vx hE fun s4 w4 o4 r4=>?_
 have h4:=o4.1
 have r2':=(r2.old o3).old o4
 have g3':=(o4.2 s2.next (by omega)).trans g3
 obtain⟨a2,n2,c2,b2,m2,d2,rfl⟩:=r2'.shape
 obtain⟨a4,n4,c4,b4,m4,d4,rfl⟩:=r4.shape
 obtain⟨n5,o5,g5⟩:=Bs s4 (R 26 3 false [.bool (decide ((1:Rat).num<0)),.slice a4 n4 c4,.slice b4 m4 d4])
 simp only[GL,Xe,QZ,Qd,Qm,Qo,true_and,Qr,Qs,Yc]
 have r2':=r2'.old o5
 have r4':=r4.old o5
 have g3':=(o5.2 s2.next (by omega)).trans g3'
 generalize newObj s4 (R 26 3 false [.bool (decide ((1:Rat).num<0)),.slice a4 n4 c4,.slice b4 m4 d4])=s5 at *
 have o15:Aa s1.next s1 s5:=((o2.trans (o3.mono h2)).trans (o4.mono (by have:=o3.1;omega))).trans (o5.mono (by have:=o3.1;omega))
 have f5:=(o15.2 s.next (by omega)).trans g1
 obtain⟨st,ld⟩:=Bz (cs0:=[.bool false,.slice none 0 (some 0),.slice none 0 (some 0),.slice none 0 (some 0),.slice none 0 (some 0)]) rfl (x:=decide ((0:Rat).num<0)) (a:=a2) (n:=n2) (c:=c2) (b:=b2) (m:=m2) (d:=d2) (av:=some (s2.next,0)) (nv:=1) (cv:=some 1) (ac:=some (s4.next,0)) (nc:=1) (cc:=some 1) f5
 simp only[st,ld,AM,Xy,Za,Qj,Qm,Qr,Qs,Rk,Rn,Yc]
 have hlc:LC s1.next s5 (.agg [.bool (decide ((0:Rat).num<0)),.slice a2 n2 c2,.slice b2 m2 d2,.slice (some (s2.next,0)) 1 (some 1),.slice (some (s4.next,0)) 1 (some 1)]) 0 [(v,1)]:=
  ⟨_,_,_,_,_,_,_,_,_,_,_,_,rfl,r2',⟨Gc g3' (by omega),fun n hn=>(by rw[A1d.1 hn];exact hv),.inl ⟨1,rfl,zU _,fun h=>(by cases h)⟩,Cv.one (by omega) g5 r4',.inl ⟨1,rfl,zU _,fun h=>(by cases h)⟩⟩,
   fun i q h=>(by injection h with h;injection h with h _;have:=o3.1;omega),fun i q h=>(by injection h with h;injection h with h _;have:=o3.1;omega)⟩
 exact hK _ _ ((o1.trans (o15.mono o1.1)).set (zU _) _) ((hlc.set (by omega) f5 rfl).mono (by omega))
theorem ES(hE:GoodN E){v:AV}{C:Rat}{vs:List Int}{cs:List Rat}{kl N B:Nat}(hl:LI s v C vs cs kl)(hkl:1≤kl)(hN:min vs.length cs.length≤N)(hN':N≤1000)(hB:(N+1) * (kl+1)≤B)(hB':B≤1400000)(hvl:vs.length≤1000000){K:AV→AE→Prop}
  (hK:∀s' w L,Aa s.next s s'→LC s.next s' w C L→Can L→(∀a,Ds a L=Bf a vs cs)→L.length≤N→QH C kl→(∀p∈L,QH p.2 B)→K w s'):WF E 43 [v] K s:=by
 have h1:(min vs.length cs.length+1) * (kl+1)≤B:=zY (zq _ (by omega)) hB
 exact fI hE hl hkl (by omega) (by omega) hvl fun s' w L o h hc he hlen hC hq=>hK s' w L o h hc he (by omega) hC fun p hp=>(hq p hp).le h1
end
end
end Go.Proofs.YtjnkfbpadpmakaaGreatDoor.Am
set_option linter.unusedVariables false
set_option linter.unusedSimpArgs false
set_option maxRecDepth 16000
set_option maxHeartbeats 2000000
namespace Go.Proofs.YtjnkfbpadpmakaaGreatDoor.Am
open Go Go.Proofs
noncomputable section
theorem QC.keep{s s':AE}{v:AV}{q:Rat}(h:QC s v q)(hn:s.next≤s'.next)(hf:∀j∈Dg v,j<s.next→s'.heap.get j=s.heap.get j):QC s' v q:=by
 obtain⟨m,d,rfl,h2,h3⟩:=h
 exact⟨m,d,rfl,h2.keep hn fun j hj=>hf j ((Cb rfl).2 (.inl hj)),h3.keep hn fun j hj=>hf j ((Cb rfl).2 (.inr hj))⟩
structure GD(s:AE)(p:Nat)(v:AV)(cs:List Rat)(cells:List AV)(O:List Nat):Prop where
 hd:B9 26 s v cs.length 3 cells O
 lo:∀j∈O,p<j
 sl:∀j,B6 v=some j→p<j
 rat:∀ (i:Nat) (q:Rat),cs[i]? = some q→QC s (.agg ((cells.drop (i * 3)).take 3)) q∧∀j∈Dg (.agg ((cells.drop (i * 3)).take 3)),j<s.next∧j ∉ O
theorem GD.nil(s:AE)(p:Nat):GD s p (.slice none 0 (some 0)) [] [] []:=⟨B9.nil s 3,fun j h=>(by cases h),fun j h=>(by cases h),fun i q h=>(by cases h)⟩
theorem GD.old{s s':AE}{p:Nat}{v:AV}{cs:List Rat}{cells:List AV}{O:List Nat}(h:GD s p v cs cells O)(o:Aa s.next s s')(hs:∀j,B6 v=some j→j<s.next):GD s' p v cs cells O:=
 ⟨h.hd.frame o.1 fun j hj=>o.2 j (hs j hj),h.lo,h.sl,fun i q hi=>⟨(h.rat i q hi).1.old o,fun j hj=>⟨zZ ((h.rat i q hi).2 j hj).1 o.1,((h.rat i q hi).2 j hj).2⟩⟩⟩
theorem B9.slot_lt{e:TypeId}{s:AE}{v:AV}{n sz:Nat}{cs:List AV}{O:List Nat}(h:B9 e s v n sz cs O):∀j,B6 v=some j→j<s.next:=fun j hj=>by
 rcases h with⟨a,rfl,_,_,_,h5⟩ | ⟨i,p,rfl,h6,_⟩
 ·cases a with
  | none=>cases hj
  | some io=>obtain⟨i,o⟩:=io;injection hj with hj;subst hj;exact(h5 i o rfl).1
 ·injection hj with hj
  subst hj
  rcases h6.ex with⟨e',_⟩ | ⟨_,_,k2,_⟩
  ·cases e'
  ·exact k2
theorem GD.push {s : AE}  {p : Nat} {v : AV} {cs : List Rat} {cells : List AV} {O : List Nat} (h : GD s p v cs cells O) {r : Nat} {x : Bool} {a b : Option (Nat × Nat)} {n m : Nat} {c d : Option Nat} (hg : s.heap.get r = some (R 26 3 false [.bool x, .slice a n c, .slice b m d])) (hr : r < s.next) {q : Rat} (hq : QC s (.agg [.bool x, .slice a n c, .slice b m d]) q)
    (hqs:∀j∈Dg (.agg [.bool x,.slice a n c,.slice b m d]),j<s.next∧j ∉ O) (hp:p<s.next) (hl:cs.length≤100000):
    ∃v' s' O',Aj Tryz.prog s [28,28] [v,.slice (some (r,0)) 1 (some 1)]=some (v',s')∧GD s' p v' (cs++[q]) (cells++[.bool x,.slice a n c,.slice b m d]) O'∧s.next≤s'.next∧(∀j,j<s.next→j ∉ O→s'.heap.get j=s.heap.get j∧j ∉ O'):=by
  obtain⟨v',s',O',happ,hd',hn',hf',hO',hs'⟩:=FE (cap:=some 1) h.hd (Cv.one hr hg hq) (by rfl:[q].length=1) (by omega) (by omega)
  have hl1:=h.hd.len
  have hnO:∀j,j<s.next→j ∉ O→j ∉ O':=fun j h1 h2 h3=>by
    rcases hO' j h3 with h4 | h4
    · exact h2 h4
    · omega
  refine⟨v',s',O',happ,⟨by rw[zg];exact hd',fun j hj=>?_,fun j hj=>?_,fun i r hi=>?_⟩,hn',fun j h1 h2=>⟨hf' j h1 h2,hnO j h1 h2⟩⟩
  · rcases hO' j hj with h1 | h1
    · exact h.lo j h1
    · omega
  · rcases hs' j hj with h1 | h1
    · exact h.sl j h1
    · omega
  · rcases zX           i cs.length with hi' | hi'
    · rw [A0Q                       hi'] at hi
      rw[A1e (by omega),A1k (by rw[A0C];omega)]
      obtain⟨k1,k2⟩:=h.rat i r hi
      exact⟨k1.keep hn' fun j hj hlt=>hf' j hlt (k2 j hj).2,fun j hj=>⟨zZ (k2 j hj).1 hn',hnO j (k2 j hj).1 (k2 j hj).2⟩⟩
    · rw[A0U hi']at hi
      have hi0:i - cs.length=0:=by
        rcases A0R (i - cs.length)with h0 | h0
        · exact h0
        · rw[zj (by simp;omega)]at hi;cases hi
      rw[hi0]at hi
      injection hi with hi
      subst hi
      have e:(cells++[AV.bool x,AV.slice a n c,AV.slice b m d]).drop (i * 3)=[AV.bool x,AV.slice a n c,AV.slice b m d]:=by
        rw[List.drop_append,A0D (by omega),A0y,show i * 3 - cells.length=0 by omega];rfl
      rw[e]
      exact⟨hq.keep hn' fun j hj hlt=>hf' j hlt (hqs j hj).2,fun j hj=>⟨zZ (hqs j hj).1 hn',hnO j (hqs j hj).1 (hqs j hj).2⟩⟩
theorem GD.set{s:AE}{p:Nat}{v:AV}{cs:List Rat}{cells:List AV}{O:List Nat}(h:GD s p v cs cells O){e:Nat}{sp:Bool}{cs0:List AV}{o:BF}(hg:s.heap.get p=some (R e 0 sp cs0))(hc:cs0.all Kq=true):GD (setObj s p o) p v cs cells O:=
 ⟨h.hd.frame (zU _) fun j hj=>Wx _ (by have:=h.sl j hj;omega),h.lo,h.sl,fun i q hi=>⟨(h.rat i q hi).1.box hg hc,(h.rat i q hi).2⟩⟩
theorem GD.rats{s:AE}{p:Nat}{v:AV}{cs:List Rat}{cells:List AV}{O:List Nat}(h:GD s p v cs cells O):∃a cap,v=.slice a cs.length cap∧Cv s a cs cells∧EB 3 s a cap cs.length:=by
 obtain⟨a,cap,e,hc⟩:=h.hd.cells
 exact⟨a,cap,e,⟨h.hd.len,hc,fun i q hi=>(h.rat i q hi).1⟩,h.hd.capZ a cap e⟩
theorem N8(a:Int→Rat)(o:Rat):∀ (vs:List Int)(cs:List Rat),Bf a vs (cs.map (· * o))=Bf a vs cs * o
 | [],cs=>by show 0=0 * o;rw[Rat.zero_mul]
 | n::vs,[]=>by show 0=0 * o;rw[Rat.zero_mul]
 | n::vs,c::cs=>by
  show c * o * a n+Bf a vs (cs.map (· * o))=(c * a n+Bf a vs cs) * o
  rw[N8 a o vs cs]
  generalize Bf a vs cs=z
  generalize a n=w
  grind
section
variable{E:CR}{s:AE}
theorem Si(hE:GoodN E){S0:AE}{p2 p3 p5:Nat}{x2 x3:Bool}{A1 A2 A3:AV}{ac:Option (Nat×Nat)}{cc:Option Nat}{cs:List Rat}{cells:List AV}{kc ko:Nat}{o:Rat}{ob od:Option (Nat×Nat)}{on om:Nat}{oc oe:Option Nat}
  (g2:S0.heap.get p2=some (BL x2 A1 A2 A3 (.slice ac cs.length cc))) (h2:p2<S0.next) (hr:Cp S0 ac cs kc cells) (g3:S0.heap.get p3=some (BQ x3 (.slice ob on oc) (.slice od om oe))) (h3:p3<S0.next) (hby:QI S0 (.agg [.bool x3,.slice ob on oc,.slice od om oe]) o ko) (hkc:1≤kc) (hko:1≤ko) (hk:kc+ko≤1400000) (hcl:cs.length≤100000) (h5:S0.next≤p5)
  {x5:Bool} {a5 b5 v5:Option (Nat×Nat)} {n5 m5 l5:Nat} {c5 d5 e5:Option Nat} {qC:Rat} {y0 y1 y4:AV} {Q:Az→Prop}
  (hq:∀S cv cells' O y7,Aa S0.next S0 S→p5<S.next→S.heap.get p5=some (BL x5 (.slice a5 n5 c5) (.slice b5 m5 d5) (.slice v5 l5 e5) cv)→GD S p5 cv (cs.map (· * o)) cells' O→QC S (.agg [.bool x5,.slice a5 n5 c5,.slice b5 m5 d5]) qC→Q ⟨.exit 0,[y0,y1,.ptr (some (p2,0)),.ptr (some (p3,0)),y4,.ptr (some (p5,0)),iv (cs.length:Int),y7],[],S⟩):
  ∀ (r i:Nat) (S:AE) (cv:AV) (cells':List AV) (O:List Nat) (z7:AV),cs.length - i=r→i≤cs.length→Aa S0.next S0 S→p5<S.next→S.heap.get p5=some (BL x5 (.slice a5 n5 c5) (.slice b5 m5 d5) (.slice v5 l5 e5) cv)→GD S p5 cv ((cs.take i).map (· * o)) cells' O→QC S (.agg [.bool x5,.slice a5 n5 c5,.slice b5 m5 d5]) qC→(∀j∈Dg (.agg [.bool x5,.slice a5 n5 c5,.slice b5 m5 d5]),j<S.next∧j ∉ O) →
   WC E none (.loop RA) Q [y0,y1,.ptr (some (p2,0)),.ptr (some (p3,0)),y4,.ptr (some (p5,0)),iv (i:Int),z7] [] S:=by
 intro r
 induction r with
 | zero =>
  intro i S cv cells' O z7 hi hle ho hp5 g5 hG hC hCs
  have e:i=cs.length:=by omega
  subst e
  rw[A1J]at hG
  have l1:=AI (P:=Tryz.prog) (t:=28) (o:=0+4) EN ((ho.2 p2 h2).trans g2) rfl
  have dd:decide ((cs.length:Int)<(cs.length:Int))=false:=decide_eq_false (by omega)
  refine WC.loop' ?_
  simp only[RA,cV,l1,DE,AH Tryz.underlying28,Ry,dd,Qa,Qb,Qc,Qd,Qf,Qh,Qj,Qk,Qm,Qo,true_and,Qp,Qq,Qr,Qs,Qt,Qv,Ra,Rb,Rd,Re,Ry,A1n,A1m,A1s,A1x]
  exact hq S cv cells' O _ ho hp5 g5 hG hC
 | succ r ih =>
  intro i S cv cells' O z7 hi hle ho hp5 g5 hG hC hCs
  have hlt:i<cs.length:=by omega
  have l1:=AI (P:=Tryz.prog) (t:=28) (o:=0+4) EN ((ho.2 p2 h2).trans g2) rfl
  have lq5:=AI (P:=Tryz.prog) (t:=28) (o:=0+4) EN g5 rfl
  have l3:=AK (P:=Tryz.prog) (t:=26) BZ Aw ((ho.2 p3 h3).trans g3) rfl
  have dd:decide ((i:Int)<(cs.length:Int))=true:=decide_eq_true (by omega)
  have e17:=Ax Tryz.prog 3 (i:Int) 1 ⟨by omega,by omega⟩
  have e17':((i:Int)+1)=((i+1:Nat):Int):=by omega
  have hx:cs[i]? = some cs[i]:=zW hlt
  obtain⟨i1,o1,rfl,hi1,lr⟩:=hr.load hlt
  have lr':=Ci BZ ho hi1 lr
  have ixr:=AX (cap:=cc) (i:=i1) (o:=o1) (n:=3) Tryz.underlying28 Aw hlt
  obtain⟨acv,ccv,ecv,_⟩:=hG.rats
  refine WC.loop' ?_
  generalize hW:WC E none (Ac.loop RA) Q=WW
  simp only[RA,cV,nF,l1,lq5,l3,DE,AH Tryz.underlying28,Ry,dd,ixr,lr',Qa,Qb,Qc,Qd,Qf,Qh,Qj,Qk,Qm,Qo,true_and,Qp,Qq,Qr,Qs,Qt,Qv,Qz,Rb,Rd,Re,Ry,A1n,A1m,A1s,A1x,A1v,A1o]
  refine MH hE ((hr.rat i cs[i] hx).old ho) (hby.old ho) hkc hko (by omega) fun S1 w o1' r1 b1=>?_
  have hS1:=o1'.1
  have g51:=(o1'.2 p5 hp5).trans g5
  have l51:=AI (P:=Tryz.prog) (t:=28) (o:=0+4) EN g51 rfl
  refine⟨⟨by rw[Bl];simp only[Qk,Qr,Qs];rw[l51,Ao,ecv];exact A8 _ _ _,trivial⟩,?_⟩
  have hG1:=hG.old o1' (hG.hd.slot_lt)
  obtain⟨wa,wn,wc,wb,wm,wd,rfl⟩:=r1.shape
  obtain⟨n2,o2,gr2⟩:=Bs S1 (R 26 3 false [.bool (decide ((cs[i] * o).num<0)),.slice wa wn wc,.slice wb wm wd])
  simp only[GL,Xe,Qm,Qr,Qs,Yc]
  have hG2:=hG1.old o2 (hG1.hd.slot_lt)
  have r2:=r1.old o2
  generalize newObj S1 (R 26 3 false [.bool (decide ((cs[i] * o).num<0)),.slice wa wn wc,.slice wb wm wd])=S2 at *
  obtain⟨v3,S3,O3,happ,hG3,hn3,hf3⟩:=hG2.push gr2 (by omega) r2 (fun j hj=>by
   have h1:=b1 j hj
   exact⟨by omega,fun h'=>by have:=hG.hd.lt j h';omega⟩) (by omega) (by rw[zi,zo];omega)
  have g53:S3.heap.get p5=some (BL x5 (.slice a5 n5 c5) (.slice b5 m5 d5) (.slice v5 l5 e5) cv):=by
   rw[(hf3 p5 (by omega) (fun h'=>by have:=hG.lo p5 h';omega)).1,o2.2 p5 (by omega)];exact g51
  obtain⟨a3,c3,e3,_⟩:=hG3.rats
  have st:=CN (P:=Tryz.prog) (t:=28) (o:=0+4) (v:=v3) ke g53 (by simp) (by rw[e3];rfl)
  simp only[happ,st,DE,nG,e17,e17',Xy,Za,Qb,Qc,Qd,Qf,Qh,Qi,Qj,Qk,Qm,Qo,true_and,Qp,Qq,Qr,Qs,Qt,Qv,A1t,A1p]
  have hS3n:p5<S3.next:=by omega
  have he:(cs.take (i+1)).map (· * o)=(cs.take i).map (· * o)++[cs[i] * o]:=by rw[A1j hlt,A0o];rfl
  have hold:Aa S0.next S0 S3:=⟨by have:=ho.1;omega,fun j hj=>by
   have:=ho.1
   rw[(hf3 j (by omega) (fun h'=>by have:=hG.lo j h';omega)).1,o2.2 j (by omega),o1'.2 j (by omega),ho.2 j hj]⟩
  rw[← hW]
  have hCs2:∀j∈Dg (.agg [.bool x5,.slice a5 n5 c5,.slice b5 m5 d5]),j<S2.next∧j ∉ O:=fun j hj=>⟨by have:=(hCs j hj).1;omega,(hCs j hj).2⟩
  refine ih (i+1) _ v3 (cells'++[.bool (decide ((cs[i] * o).num<0)),.slice wa wn wc,.slice wb wm wd]) O3 _ (by omega) (by omega) (hold.set h5 _) hS3n (Ww _ _ _) ?_ ((((hC.old o1').old o2).keep hn3 fun j hj hlt=>(hf3 j hlt (hCs2 j hj).2).1).box g53 (by rw[ecv];rfl)) fun j hj=>⟨zZ (hCs2 j hj).1 hn3,(hf3 j (hCs2 j hj).1 (hCs2 j hj).2).2⟩
  rw[he]
  exact hG3.set g53 (by rw[ecv];rfl)
theorem J2(hE:GoodN E){v vo:AV}{C o:Rat}{vs:List Int}{cs:List Rat}{kl ko N B1 B:Nat}(hl:LI s v C vs cs kl)(ho:QI s vo o ko)(hkl:1≤kl)(hko:1≤ko)(hN:min vs.length cs.length≤N)(hN':N≤1000)(hB1:(N+1) * (kl+1)≤B1)(hB:(N+1) * (B1+ko+1)≤B)(hB':B≤1400000)(hvl:vs.length≤1000000){K:AV→AE→Prop}
  (hK:∀s' w L,Aa s.next s s'→LC s.next s' w (C * o) L→Can L→(∀a,Ds a L=Bf a vs cs * o)→L.length≤N→QH (C * o) B→(∀p∈L,QH p.2 B)→K w s'):WF E 37 [v,vo] K s:=by
 have hB2:B1+ko+1≤B:=zY (A0i _ (by omega)) hB
 have hB3:kl+1≤B1:=zY (A0i _ (by omega)) hB1
 obtain⟨x,a,n,c,b,m,d,av,nv,cv,ac,nc,cc,rfl⟩:=hl.shape
 obtain⟨x3,ob,on,oc,od,om,oe,rfl⟩:=ho.shape
 refine hE.go tW (by decide) rfl ?_
 obtain⟨n1,o1,g1,g2,g3⟩:=HV s (BL x (.slice a n c) (.slice b m d) (.slice av nv cv) (.slice ac nc cc)) (BQ x3 (.slice ob on oc) (.slice od om oe)) ZL
 simp only[yV,mz,nC,Xa,Xh,ED,Xc,Ak,Qa,Qb,Qc,Qd,Qf,Qh,Qj,Qk,Ql,Qm,Qo,true_and,Qp,Qq,Qr,Qs,Qt,Qv,Rb,Rh,A1q,A1r,A1m,A1u,A1o]
 generalize newObj (newObj (newObj s (BL x (.slice a n c) (.slice b m d) (.slice av nv cv) (.slice ac nc cc))) (BQ x3 (.slice ob on oc) (.slice od om oe))) ZL=s1 at *
 have l1:=AK (P:=Tryz.prog) (t:=30) D7 Do g1 rfl
 simp only[l1,Qm]
 refine ES hE (hl.old o1) hkl hN hN' hB1 (by omega) hvl fun s2 w2 L o2 hL hcan hev hLl hCq hLq=>?_
 have h2:=o2.1
 have f1:=(o2.2 s.next (by omega)).trans g1
 have f2:=(o2.2 (s.next+1) (by omega)).trans g2
 have f3:=(o2.2 (s.next+1+1) (by omega)).trans g3
 obtain⟨x2,a2,n2,c2,b2,m2,d2,av2,cv2,ac2,cc2,cells2,rfl,hC2,hP2,hb2,hb2'⟩:=hL
 obtain⟨st,_⟩:=Bz (cs0:=[.bool x,.slice a n c,.slice b m d,.slice av nv cv,.slice ac nc cc]) rfl (x:=x2) (a:=a2) (n:=n2) (c:=c2) (b:=b2) (m:=m2) (d:=d2) (av:=av2) (nv:=(L.map (·.1)).length) (cv:=cv2) (ac:=ac2) (nc:=(L.map (·.2)).length) (cc:=cc2) f1
 have hC3:=hC2.box (o:=BL x2 (.slice a2 n2 c2) (.slice b2 m2 d2) (.slice av2 (L.map (·.1)).length cv2) (.slice ac2 (L.map (·.2)).length cc2)) f1 rfl
 have hP3:=hP2.set (o:=BL x2 (.slice a2 n2 c2) (.slice b2 m2 d2) (.slice av2 (L.map (·.1)).length cv2) (.slice ac2 (L.map (·.2)).length cc2)) f1 rfl (fun i q h=>by have:=hb2 i q h;omega) (fun i q h=>by have:=hb2' i q h;omega)
 simp only[nD,st,Xy,Za,Qb,Qc,Qd,Qf,Qh,Qj,Qk,Qm,Qo,true_and,Qp,Qq,Qr,Qs,Qt,Qv,A1n,A1m,A1r,A1o]
 generalize hs3:setObj s2 s.next (BL x2 (.slice a2 n2 c2) (.slice b2 m2 d2) (.slice av2 (L.map (·.1)).length cv2) (.slice ac2 (L.map (·.2)).length cc2))=s3 at *
 have n3:s3.next=s2.next:=by rw[← hs3];rfl
 have k1:s3.heap.get s.next=some (BL x2 (.slice a2 n2 c2) (.slice b2 m2 d2) (.slice av2 (L.map (·.1)).length cv2) (.slice ac2 (L.map (·.2)).length cc2)):=by rw[← hs3,Ww]
 have k2:s3.heap.get (s.next+1)=some (BQ x3 (.slice ob on oc) (.slice od om oe)):=by rw[← hs3,Wx _ (by omega)];exact f2
 have k3:s3.heap.get (s.next+1+1)=some ZL:=by rw[← hs3,Wx _ (by omega)];exact f3
 have o13:Aa s.next s s3:=by rw[← hs3];exact(o1.trans (o2.mono o1.1)).set (zU _) _
 have lc:AB Tryz.prog s3 26 (.ptr (some (s.next,0+0)))=some (.agg [.bool x2,.slice a2 n2 c2,.slice b2 m2 d2]):=Al (o:=0) (n:=3) BZ Aw k1 (by simp)
 have lo:=AK (P:=Tryz.prog) (t:=26) BZ Aw k2 rfl
 have lv:=AI (P:=Tryz.prog) (t:=27) (o:=0+3) D6 k1 rfl
 have hr2:=hP3.rs.at (k:=B1) fun q hq=>by obtain⟨p,hp,rfl⟩:=List.mem_map.1 hq;exact hLq p hp
 obtain⟨n4,o4,g4⟩:=Bs s3 ZL
 simp only[lc,lo,lv,HJ,CE,ED,Xc,Qm]
 generalize newObj s3 ZL=s4 at *
 refine MH hE ((hC3.old o4).qi hCq) ((ho.old o13).old o4) hkl hko (by omega) fun s5 w5 o5 r5 bd5=>?_
 have h5:=o5.1
 have o35:Aa s3.next s3 s5:=o4.trans (o5.mono o4.1)
 have lv':=AI (P:=Tryz.prog) (t:=27) (o:=0+3) D6 ((o35.2 s.next (by omega)).trans k1) rfl
 refine⟨⟨by rw[Bl];simp only[Qk,Qr,Qs];rw[lv',Ao];exact A8 _ _ _,trivial⟩,?_⟩
 have f5:=(o5.2 s3.next (by omega)).trans g4
 obtain⟨a5,n5,c5,b5,m5,d5,rfl⟩:=r5.shape
 obtain⟨st5,_⟩:=Bz (cs0:=[.bool false,.slice none 0 (some 0),.slice none 0 (some 0),.slice none 0 (some 0),.slice none 0 (some 0)]) rfl (x:=decide ((C * o).num<0)) (a:=a5) (n:=n5) (c:=c5) (b:=b5) (m:=m5) (d:=d5) (av:=av2) (nv:=(L.map (·.1)).length) (cv:=cv2) (ac:=none) (nc:=0) (cc:=some 0) f5
 simp only[QY,st5,nE,Qb,Qc,Qd,Qf,Qh,Qi,Qm,Qo,true_and,Qp,Qq,Qr,Qs,Qt,Qv,A1p]
 have hLl2:(L.map (·.2)).length≤1000:=by rw[zi];omega
 refine Si hE (S0:=s3) (p2:=s.next) (p3:=s.next+1) (p5:=s3.next) (cs:=L.map (·.2)) (kc:=B1) (ko:=ko) (o:=o) k1 (by omega) hr2 k2 (by omega) (ho.old o13) (by omega) hko (by omega) (by omega) (zU _) (qC:=C * o) (fun S cv cells' O y7 oS hS gS hG hCS=>?_) _ 0 (setObj s5 s3.next (BL (decide ((C * o).num<0)) (.slice a5 n5 c5) (.slice b5 m5 d5) (.slice av2 (L.map (·.1)).length cv2) (.slice none 0 (some 0)))) _ [] [] _ rfl (ze _) (o35.set (zU _) _) (by show s3.next<s5.next;omega) (Ww _ _ _) (GD.nil _ _) (r5.box f5 rfl) (fun j hj=>⟨(bd5 j hj).2,fun h=>(by cases h)⟩)
 obtain⟨acv,ccv,rfl,hrS,hzS⟩:=hG.rats
 have lS:=AK (P:=Tryz.prog) (t:=30) D7 Do gS rfl
 have hPS:=hP3.old oS
 have hCo:QH (C * o) (kl+ko):=QH.mul hCq (ho.qh hko)
 have hLS:LI S (.agg [.bool (decide ((C * o).num<0)),.slice a5 n5 c5,.slice b5 m5 d5,.slice av2 (L.map (·.1)).length cv2,.slice acv ((L.map (·.2)).map (· * o)).length ccv]) (C * o) (L.map (·.1)) ((L.map (·.2)).map (· * o)) (B1+ko):=
  ⟨_,_,_,_,_,_,_,_,_,_,_,_,rfl,hCS.qi (hCo.le (by omega)),hPS.vc,hPS.vi,hrS.at (fun q hq=>by
   obtain⟨r,hr,rfl⟩:=List.mem_map.1 hq
   obtain⟨p,hp,rfl⟩:=List.mem_map.1 hr
   exact QH.mul (hLq p hp) (ho.qh hko)),hPS.vz,hzS⟩
 simp only[nH,if_true,lS,Qb,Qc,Qd,Qf,Qh,Qj,Qk,Qm,Qo,true_and,Qr,Qs,Qt,Qv,Rb,Rd,Rg,Rj,A1m,A1u,A1o]
 refine ES hE hLS (by omega) (N:=N) (by rw[zi];omega) hN' hB hB' (by rw[zi];omega) fun S' w' L' oS' hL' hcan' hev' hLl' hCq' hLq'=>?_
 have o1S:Aa s.next s S:=o13.trans (oS.mono o13.1)
 have h3S:=oS.1
 have f9:=(oS'.2 (s.next+1+1) (by omega)).trans ((oS.2 _ (by omega)).trans k3)
 obtain⟨x9,a9,n9,c9,b9,m9,d9,av9,cv9,ac9,cc9,rfl⟩:=hL'.shape
 obtain⟨st9,ld9⟩:=Bz (cs0:=[.bool false,.slice none 0 (some 0),.slice none 0 (some 0),.slice none 0 (some 0),.slice none 0 (some 0)]) rfl (x:=x9) (a:=a9) (n:=n9) (c:=c9) (b:=b9) (m:=m9) (d:=d9) (av:=av9) (nv:=(L'.map (·.1)).length) (cv:=cv9) (ac:=ac9) (nc:=(L'.map (·.2)).length) (cc:=cc9) f9
 simp only[st9,ld9,AM,Xy,Za,Qd,Qj,Qm,Qo,true_and,Qr,Qs,Rk,Rn,Yc]
 refine hK _ _ L' ((o1S.trans (oS'.mono o1S.1)).set (by omega) _) ((hL'.set (by omega) f9 rfl).mono (by have:=o1S.1;omega)) hcan' (fun f=>?_) hLl' (hCo.le (by omega)) hLq'
 rw[hev' f,N8,FW,hev f]
end
section
variable{E:CR}{s:AE}
theorem Vw(hE:GoodN E){va vb:AV}{C1 C2:Rat}{vs1 vs2:List Int}{cs1 cs2:List Rat}{k1 k2 N1 N2 Bx B:Nat}(ha:LI s va C1 vs1 cs1 k1)(hb:LI s vb C2 vs2 cs2 k2)(hk1:1≤k1)(hk2:1≤k2)(hN1:min vs1.length cs1.length≤N1)(hN2:min vs2.length cs2.length≤N2)(hN':N1+N2≤1000)(hB1:(N1+1) * (k1+1)≤Bx)(hB2:(N2+1) * (k2+1)≤Bx)(hB3:k1+k2+1≤Bx)(hB:(N1+N2+1) * (Bx+1)≤B)(hB':B≤1400000)(hvl1:vs1.length≤1000000)(hvl2:vs2.length≤1000000){K:AV→AE→Prop}
  (hK:∀s' w L,Aa s.next s s'→LC s.next s' w (C1+C2) L→Can L→(∀a,Ds a L=Bf a vs1 cs1+Bf a vs2 cs2)→L.length≤N1+N2→QH (C1+C2) B→(∀p∈L,QH p.2 B)→K w s'):WF E 39 [va,vb] K s:=by
 have hBB:Bx+1≤B:=zY (A0i _ (by omega)) hB
 obtain⟨xa,aa,na,ka,ba,ma,da,ava,nva,cva,aca,nca,cca,rfl⟩:=ha.shape
 obtain⟨xb,ab,nb,kb,bb,mb,db,avb,nvb,cvb,acb,ncb,ccb,rfl⟩:=hb.shape
 refine hE.go tY (by decide) rfl ?_
 obtain⟨n1,o1,g1,g2,g3⟩:=HV s (BL xa (.slice aa na ka) (.slice ba ma da) (.slice ava nva cva) (.slice aca nca cca)) (BL xb (.slice ab nb kb) (.slice bb mb db) (.slice avb nvb cvb) (.slice acb ncb ccb)) ZL
 simp only[yX,nK,nL,Xa,Xh,ED,Xc,Ak,Qa,Qb,Qc,Qd,Qf,Qh,Qj,Qk,Ql,Qm,Qo,true_and,Qp,Qq,Qr,Qs,Qt,Qv,Rb,Rh,Rj,A1q,A1r,A1m,A1u,A1o]
 generalize newObj (newObj (newObj s (BL xa (.slice aa na ka) (.slice ba ma da) (.slice ava nva cva) (.slice aca nca cca))) (BL xb (.slice ab nb kb) (.slice bb mb db) (.slice avb nvb cvb) (.slice acb ncb ccb))) ZL=s1 at *
 have l1:=AK (P:=Tryz.prog) (t:=30) D7 Do g1 rfl
 simp only[l1,Qm]
 refine ES hE (ha.old o1) hk1 hN1 (by omega) hB1 (by omega) hvl1 fun s2 w2 L o2 hL hcan hev hLl hCq hLq=>?_
 have h2:=o2.1
 have f1:=(o2.2 s.next (by omega)).trans g1
 have f2:=(o2.2 (s.next+1) (by omega)).trans g2
 have f3:=(o2.2 (s.next+1+1) (by omega)).trans g3
 obtain⟨x2,a2,n2,c2,b2,m2,d2,av2,cv2,ac2,cc2,cells2,rfl,hC2,hP2,hb2,hb2'⟩:=hL
 obtain⟨st,_⟩:=Bz (cs0:=[.bool xa,.slice aa na ka,.slice ba ma da,.slice ava nva cva,.slice aca nca cca]) rfl (x:=x2) (a:=a2) (n:=n2) (c:=c2) (b:=b2) (m:=m2) (d:=d2) (av:=av2) (nv:=(L.map (·.1)).length) (cv:=cv2) (ac:=ac2) (nc:=(L.map (·.2)).length) (cc:=cc2) f1
 have hC3:=hC2.box (o:=BL x2 (.slice a2 n2 c2) (.slice b2 m2 d2) (.slice av2 (L.map (·.1)).length cv2) (.slice ac2 (L.map (·.2)).length cc2)) f1 rfl
 have hP3:=hP2.set (o:=BL x2 (.slice a2 n2 c2) (.slice b2 m2 d2) (.slice av2 (L.map (·.1)).length cv2) (.slice ac2 (L.map (·.2)).length cc2)) f1 rfl (fun i q h=>by have:=hb2 i q h;omega) (fun i q h=>by have:=hb2' i q h;omega)
 simp only[nM,st,Xy,Za,Qb,Qc,Qd,Qf,Qh,Qj,Qk,Qm,Qo,true_and,Qr,Qs,Qt,Qv,A1m,A1u,A1o]
 generalize hs3:setObj s2 s.next (BL x2 (.slice a2 n2 c2) (.slice b2 m2 d2) (.slice av2 (L.map (·.1)).length cv2) (.slice ac2 (L.map (·.2)).length cc2))=s3 at *
 have n3:s3.next=s2.next:=by rw[← hs3];rfl
 have i1:s3.heap.get s.next=some (BL x2 (.slice a2 n2 c2) (.slice b2 m2 d2) (.slice av2 (L.map (·.1)).length cv2) (.slice ac2 (L.map (·.2)).length cc2)):=by rw[← hs3,Ww]
 have i2:s3.heap.get (s.next+1)=some (BL xb (.slice ab nb kb) (.slice bb mb db) (.slice avb nvb cvb) (.slice acb ncb ccb)):=by rw[← hs3,Wx _ (by omega)];exact f2
 have i3:s3.heap.get (s.next+1+1)=some ZL:=by rw[← hs3,Wx _ (by omega)];exact f3
 have o13:Aa s.next s s3:=by rw[← hs3];exact(o1.trans (o2.mono o1.1)).set (zU _) _
 have l2:=AK (P:=Tryz.prog) (t:=30) D7 Do i2 rfl
 simp only[l2,Qm]
 refine ES hE (hb.old o13) hk2 hN2 (by omega) hB2 (by omega) hvl2 fun s4 w4 M o4 hM mcan mev hMl mCq hMq=>?_
 have h4:=o4.1
 have j1:=(o4.2 s.next (by omega)).trans i1
 have j2:=(o4.2 (s.next+1) (by omega)).trans i2
 have j3:=(o4.2 (s.next+1+1) (by omega)).trans i3
 obtain⟨x4,a4,n4,c4,b4,m4,d4,av4,cv4,ac4,cc4,cells4,rfl,hC4,hP4,hb4,hb4'⟩:=hM
 obtain⟨st4,_⟩:=Bz (cs0:=[.bool xb,.slice ab nb kb,.slice bb mb db,.slice avb nvb cvb,.slice acb ncb ccb]) rfl (x:=x4) (a:=a4) (n:=n4) (c:=c4) (b:=b4) (m:=m4) (d:=d4) (av:=av4) (nv:=(M.map (·.1)).length) (cv:=cv4) (ac:=ac4) (nc:=(M.map (·.2)).length) (cc:=cc4) j2
 have hC5:=(hC3.old o4).box (o:=BL x4 (.slice a4 n4 c4) (.slice b4 m4 d4) (.slice av4 (M.map (·.1)).length cv4) (.slice ac4 (M.map (·.2)).length cc4)) j2 rfl
 have hP5:=(hP3.old o4).set (o:=BL x4 (.slice a4 n4 c4) (.slice b4 m4 d4) (.slice av4 (M.map (·.1)).length cv4) (.slice ac4 (M.map (·.2)).length cc4)) j2 rfl (fun i q h=>by have:=hb2 i q h;omega) (fun i q h=>by have:=hb2' i q h;omega)
 have mC5:=hC4.box (o:=BL x4 (.slice a4 n4 c4) (.slice b4 m4 d4) (.slice av4 (M.map (·.1)).length cv4) (.slice ac4 (M.map (·.2)).length cc4)) j2 rfl
 have mP5:=hP4.set (o:=BL x4 (.slice a4 n4 c4) (.slice b4 m4 d4) (.slice av4 (M.map (·.1)).length cv4) (.slice ac4 (M.map (·.2)).length cc4)) j2 rfl (fun i q h=>by have:=hb4 i q h;omega) (fun i q h=>by have:=hb4' i q h;omega)
 simp only[nN,st4,Xy,Za,Qb,Qc,Qd,Qf,Qh,Qj,Qk,Qm,Qo,true_and,and_true,Qr,Qs,Qt,Qv,A1n,A1m,A1u,A1o]
 generalize hs5:setObj s4 (s.next+1) (BL x4 (.slice a4 n4 c4) (.slice b4 m4 d4) (.slice av4 (M.map (·.1)).length cv4) (.slice ac4 (M.map (·.2)).length cc4))=s5 at *
 have n5:s5.next=s4.next:=by rw[← hs5];rfl
 have p1:s5.heap.get s.next=some (BL x2 (.slice a2 n2 c2) (.slice b2 m2 d2) (.slice av2 (L.map (·.1)).length cv2) (.slice ac2 (L.map (·.2)).length cc2)):=by rw[← hs5,Wx _ (by omega)];exact j1
 have p2:s5.heap.get (s.next+1)=some (BL x4 (.slice a4 n4 c4) (.slice b4 m4 d4) (.slice av4 (M.map (·.1)).length cv4) (.slice ac4 (M.map (·.2)).length cc4)):=by rw[← hs5,Ww]
 have p3:s5.heap.get (s.next+1+1)=some ZL:=by rw[← hs5,Wx _ (by omega)];exact j3
 have o15:Aa s.next s s5:=by rw[← hs5];exact(o13.trans (o4.mono o13.1)).set (by omega) _
 have lc1:AB Tryz.prog s5 26 (.ptr (some (s.next,0+0)))=some (.agg [.bool x2,.slice a2 n2 c2,.slice b2 m2 d2]):=Al (o:=0) (n:=3) BZ Aw p1 (by simp)
 have lc2:AB Tryz.prog s5 26 (.ptr (some (s.next+1,0+0)))=some (.agg [.bool x4,.slice a4 n4 c4,.slice b4 m4 d4]):=Al (o:=0) (n:=3) BZ Aw p2 (by simp)
 obtain⟨n6,o6,g6⟩:=Bs s5 (R 3 1 false [])
 simp only[lc1,lc2,HJ,M7,Xe,Qm,Yc]
 generalize newObj s5 (R 3 1 false [])=s6 at *
 have V:∀S,Aa s5.next s5 S→AB Tryz.prog S 27 (.ptr (some (s.next,0+3)))=some (.slice av2 (L.map (·.1)).length cv2):=fun S o=>AI (o:=0+3) D6 ((o.2 s.next (by omega)).trans p1) rfl
 have V':∀S,Aa s5.next s5 S→AB Tryz.prog S 27 (.ptr (some (s.next+1,0+3)))=some (.slice av4 (M.map (·.1)).length cv4):=fun S o=>AI (o:=0+3) D6 ((o.2 (s.next+1) (by omega)).trans p2) rfl
 have W:∀S,Aa s5.next s5 S→AB Tryz.prog S 28 (.ptr (some (s.next,0+4)))=some (.slice ac2 (L.map (·.2)).length cc2):=fun S o=>AI (o:=0+4) EN ((o.2 s.next (by omega)).trans p1) rfl
 have W':∀S,Aa s5.next s5 S→AB Tryz.prog S 28 (.ptr (some (s.next+1,0+4)))=some (.slice ac4 (M.map (·.2)).length cc4):=fun S o=>AI (o:=0+4) EN ((o.2 (s.next+1) (by omega)).trans p2) rfl
 obtain⟨n7,o7,g7⟩:=Bs s6 (R 26 3 false [])
 have o57:Aa s5.next s5 (newObj s6 (R 26 3 false [])):=o6.trans (o7.mono o6.1)
 simp only[V s6 o6,V' s6 o6,CE,Se,Xe,Qm,Yc]
 generalize newObj s6 (R 26 3 false [])=s7 at *
 simp only[W s7 o57,W' s7 o57,DE,Qm]
 have q1:=hC5.old o57
 have q2:=mC5.old o57
 refine PU hE (q1.qi hCq) (q2.qi mCq) hk1 hk2 (by omega) fun s8 w8 o8 r8=>?_
 have o58:Aa s5.next s5 s8:=o57.trans (o8.mono o57.1)
 refine⟨by simp only[Bl,V s8 o58,V' s8 o58,W s8 o58,W' s8 o58,Ao,A8,Qk,Qo,and_true,Qr,Qs],?_⟩
 have h8:=o8.1
 have e6:s8.heap.get s5.next=some (R 3 1 false []):=(o8.2 s5.next (by omega)).trans ((o7.2 s5.next (by omega)).trans g6)
 have e7:s8.heap.get s6.next=some (R 26 3 false []):=(o8.2 s6.next (by omega)).trans g7
 have hd8:=B9.row (n:=0) (s:=s8) (by omega:s5.next<s8.next) e6 rfl
 have P8:=hP5.old o58
 have P8':=mP5.old o58
 obtain⟨v9,s9,O9,happ9,hd9,hn9,hf9,hO9,_⟩:=F2 (cap:=cv2) (m:=(L.map (·.1)).length) hd8 P8.vc rfl (by omega) (by rw[zi];omega)
 have o89:Aa s8.next s8 s9:=⟨hn9,fun j hj=>hf9 j hj (by simp)⟩
 have o59:Aa s5.next s5 s9:=o58.trans (o89.mono o58.1)
 simp only[happ9,Bl,V' s9 o59,W s9 o59,W' s9 o59,Ao,A8,Qk,Qm,true_and,and_true,Qr,Qs]
 obtain⟨v10,s10,O10,happ10,hd10,hn10,hf10,hO10,_⟩:=F2 (cap:=cv4) (m:=(M.map (·.1)).length) hd9 (P8'.old o89).vc rfl (by rw[zi];omega) (by rw[zi];omega)
 have o810:Aa s8.next s8 s10:=⟨by omega,fun j hj=>by rw[hf10 j (by omega) (fun h'=>by rcases hO9 j h' with h' | h';(· simp at h');omega),o89.2 j hj]⟩
 have o510:Aa s5.next s5 s10:=o58.trans (o810.mono o58.1)
 simp only[happ10,W s10 o510,W' s10 o510,Ao,A8,Qm,true_and,and_true]
 have e7':s10.heap.get s6.next=some (R 26 3 false []):=(o810.2 s6.next (by omega)).trans e7
 have hdr:=B9.row (n:=0) (s:=s10) (by omega:s6.next<s10.next) e7' rfl
 obtain⟨v11,s11,O11,happ11,hd11,hn11,hf11,hO11,_⟩:=FE (cap:=cc2) (m:=(L.map (·.2)).length) hdr (P8.old o810).rs rfl (by omega) (by rw[zi];omega)
 have o1011:Aa s10.next s10 s11:=⟨hn11,fun j hj=>hf11 j hj (by simp)⟩
 have o511:Aa s5.next s5 s11:=o510.trans (o1011.mono o510.1)
 simp only[happ11,W' s11 o511,Ao,A8,Qm,true_and]
 obtain⟨v12,s12,O12,happ12,hd12,hn12,hf12,hO12,_⟩:=FE (cap:=cc4) (m:=(M.map (·.2)).length) hd11 ((P8'.old o810).old o1011).rs rfl (by rw[zi];omega) (by rw[zi];omega)
 have o1012:Aa s10.next s10 s12:=⟨by omega,fun j hj=>by rw[hf12 j (by omega) (fun h'=>by rcases hO11 j h' with h' | h';(· simp at h');omega),o1011.2 j hj]⟩
 obtain⟨av10,cv10,e10,hc10⟩:=hd10.cells
 have hz10:=hd10.capZ av10 cv10 e10
 obtain⟨ac12,cc12,e12,hc12⟩:=hd12.cells
 have hz12:=hd12.capZ ac12 cc12 e12
 have o812:Aa s8.next s8 s12:=o810.trans (o1012.mono o810.1)
 have o512:Aa s5.next s5 s12:=o58.trans (o812.mono o58.1)
 obtain⟨a8,m8,c8,b8,k8,d8,rfl⟩:=(r8.old o812).shape
 have len1:0+(L.map (·.1)).length+(M.map (·.1)).length=((L++M).map (·.1)).length:=by simp
 have len2:0+(L.map (·.2)).length+(M.map (·.2)).length=((L++M).map (·.2)).length:=by simp
 rw[len1]at e10 hz10
 rw[len2]at e12 hz12
 subst e10;subst e12
 have hcc:AS s12.next s12 av10 (((L++M).map (·.1)).map iv):=by
  have e:([]++(L.map (·.1)).map iv++(M.map (·.1)).map iv)=((L++M).map (·.1)).map iv:=by simp
  rw[e]at hc10
  exact(hc10.old o1012 (zU _)).mono o1012.1
 have R1:=(P8.old o812).rs
 have R2:=(P8'.old o812).rs
 have hrs:Cv s12 ac12 ((L++M).map (·.2)) ([]++cells2++cells4):=by
  have hR:=KN R1.len R1.rat R2.rat
  rw[A0y,A0o]
  exact⟨by rw[zg,R1.len,R2.len,zg];omega,by rw[A0y]at hc12;exact hc12,hR⟩
 have hCC:QH (C1+C2) (k1+k2+1):=QH.add hCq mCq
 have hli:LI s12 (.agg [.bool (decide ((C1+C2).num<0)),.slice a8 m8 c8,.slice b8 k8 d8,.slice av10 ((L++M).map (·.1)).length cv10,.slice ac12 ((L++M).map (·.2)).length cc12]) (C1+C2) ((L++M).map (·.1)) ((L++M).map (·.2)) Bx:=
  ⟨_,_,_,_,_,_,_,_,_,_,_,_,rfl,(r8.old o812).qi (hCC.le hB3),hcc,fun n hn=>by
   rw[A0o]at hn
   rcases A1V.1 hn with hn | hn
   ·exact hP5.vi n hn
   ·exact mP5.vi n hn,hrs.at (fun q hq=>by
   obtain⟨p,hp,rfl⟩:=List.mem_map.1 hq
   rcases A1V.1 hp with hp | hp
   ·exact hLq p hp
   ·exact hMq p hp),hz10.old o1012,hz12⟩
 simp only[happ12,QZ,Qm]
 refine ES hE hli (by omega) (N:=N1+N2) (by rw[zi,zi,zg];omega) hN' hB hB' (by rw[zi,zg];omega) fun S' w' L' oS' hL' hcan' hev' hLl' hCq' hLq'=>?_
 have o1S:Aa s.next s s12:=o15.trans (o512.mono o15.1)
 have f9:=(oS'.2 (s.next+1+1) (by have:=o512.1;omega)).trans ((o512.2 _ (by omega)).trans p3)
 obtain⟨x9,a9,m9,c9,b9,k9,d9,av9,cv9,ac9,cc9,rfl⟩:=hL'.shape
 obtain⟨st9,ld9⟩:=Bz (cs0:=[.bool false,.slice none 0 (some 0),.slice none 0 (some 0),.slice none 0 (some 0),.slice none 0 (some 0)]) rfl (x:=x9) (a:=a9) (n:=m9) (c:=c9) (b:=b9) (m:=k9) (d:=d9) (av:=av9) (nv:=(L'.map (·.1)).length) (cv:=cv9) (ac:=ac9) (nc:=(L'.map (·.2)).length) (cc:=cc9) f9
 simp only[st9,ld9,AM,Qd,Qj,Qm,Qo,true_and,Qr,Qs,Rk,Rn,Yc]
 refine hK _ _ L' ((o1S.trans (oS'.mono o1S.1)).set (by omega) _) ((hL'.set (by have:=o512.1;omega) f9 rfl).mono (by have:=o1S.1;omega)) hcan' (fun f=>?_) hLl' (hCC.le (by omega)) hLq'
 rw[hev' f,FW,ET,hev f,mev f]
theorem js(hE:GoodN E){va vb:AV}{C1 C2:Rat}{vs1 vs2:List Int}{cs1 cs2:List Rat}{k1 k2 N1 N2 B1 B2 Bx B:Nat}(ha:LI s va C1 vs1 cs1 k1)(hb:LI s vb C2 vs2 cs2 k2)(hk1:1≤k1)(hk2:1≤k2)(hN1:min vs1.length cs1.length≤N1)(hN2:min vs2.length cs2.length≤N2)(hN':N1+N2≤1000)(hB1:(N2+1) * (k2+1)≤B1)(hB2:(N2+1) * (B1+1+1)≤B2)(hB2':B2≤1400000)(hBx1:(N1+1) * (k1+1)≤Bx)(hBx2:(N2+1) * (B2+1)≤Bx)(hBx3:k1+B2+1≤Bx)(hB:(N1+N2+1) * (Bx+1)≤B)(hB':B≤1400000)(hvl1:vs1.length≤1000000)(hvl2:vs2.length≤1000000){K:AV→AE→Prop}
  (hK:∀s' w L,Aa s.next s s'→LC s.next s' w (C1+C2 * -1) L→Can L→(∀a,Ds a L=Bf a vs1 cs1+Bf a vs2 cs2 * -1)→L.length≤N1+N2→QH (C1+C2 * -1) B→(∀p∈L,QH p.2 B)→K w s'):WF E 36 [va,vb] K s:=by
 have hB3:k2+1≤B1:=zY (A0i _ (by omega)) hB1
 have hB4:B1+1+1≤B2:=zY (A0i _ (by omega)) hB2
 obtain⟨xa,aa,na,ka,ba,ma,da,ava,nva,cva,aca,nca,cca,rfl⟩:=ha.shape
 obtain⟨xb,ab,nb,kb,bb,mb,db,avb,nvb,cvb,acb,ncb,ccb,rfl⟩:=hb.shape
 refine hE.go tV (by decide) rfl ?_
 obtain⟨n1,o1,g1,g2,g3⟩:=HV s (BL xa (.slice aa na ka) (.slice ba ma da) (.slice ava nva cva) (.slice aca nca cca)) (BL xb (.slice ab nb kb) (.slice bb mb db) (.slice avb nvb cvb) (.slice acb ncb ccb)) ZL
 simp only[yU,mu,my,Xa,Xh,ED,Xc,Ak,Qa,Qb,Qc,Qd,Qf,Qh,Qj,Qk,Ql,Qm,Qo,true_and,Qp,Qq,Qr,Qs,Qt,Qv,Rb,Rh,Rj,A1q,A1r,A1m,A1u,A1o]
 generalize newObj (newObj (newObj s (BL xa (.slice aa na ka) (.slice ba ma da) (.slice ava nva cva) (.slice aca nca cca))) (BL xb (.slice ab nb kb) (.slice bb mb db) (.slice avb nvb cvb) (.slice acb ncb ccb))) ZL=s1 at *
 have V:∀S,Aa s1.next s1 S→_:=fun S o=>AK (P:=Tryz.prog) (t:=30) D7 Do ((o.2 s.next (by omega)).trans g1) rfl
 have V':∀S,Aa s1.next s1 S→_:=fun S o=>AK (P:=Tryz.prog) (t:=30) D7 Do ((o.2 (s.next+1) (by omega)).trans g2) rfl
 simp only[V s1 (Aa.refl _ _),V' s1 (Aa.refl _ _),Qm]
 refine Vx hE fun s2 w2 o2 r2=>?_
 refine⟨by simp only[Bl,V s2 o2,V' s2 o2,Ao,DR,Qj,Qk,Qo,and_true,Qr,Qs],?_⟩
 simp only[Qr]
 have q1:QH 1 1:=⟨by decide,by decide⟩
 refine jy hE (r2.qi q1) (by decide) (by decide) fun s3 w3 o3 r3=>?_
 have o13:Aa s1.next s1 s3:=o2.trans (o3.mono o2.1)
 refine⟨by simp only[Bl,V s3 o13,V' s3 o13,Ao,DR,Qj,Qk,Qo,and_true,Qr,Qs],?_⟩
 simp only[Qr,Qs]
 have o03:Aa s.next s s3:=o1.trans (o13.mono o1.1)
 have hb3:=hb.old o03
 refine J2 hE hb3 (r3.qi (q1.neg)) hk2 (by decide) hN2 (by omega) hB1 hB2 hB2' hvl2 fun s4 w4 L o4 hL hcan hev hLl hCq hLq=>?_
 have o14:Aa s1.next s1 s4:=o13.trans (o4.mono o13.1)
 refine⟨by simp only[Bl,V s4 o14,Ao,DR,Qj,Qk,Qo,and_true,Qr,Qs],?_⟩
 simp only[Qr,Qs]
 have o04:Aa s.next s s4:=o1.trans (o14.mono o1.1)
 refine Vw hE (ha.old o04) (hL.li hCq hLq) hk1 (by omega) hN1 (by rw[zi,zi];omega:_≤N2) hN' hBx1 hBx2 hBx3 hB hB' hvl1 (by rw[zi];omega) fun s5 w5 M o5 hM mcan mev hMl mCq hMq=>?_
 have h4:=o14.1
 have f5:=(o5.2 (s.next+1+1) (by omega)).trans ((o14.2 _ (by omega)).trans g3)
 obtain⟨x9,a9,m9,c9,b9,k9,d9,av9,cv9,ac9,cc9,rfl⟩:=hM.shape
 obtain⟨st9,ld9⟩:=Bz (cs0:=[.bool false,.slice none 0 (some 0),.slice none 0 (some 0),.slice none 0 (some 0),.slice none 0 (some 0)]) rfl (x:=x9) (a:=a9) (n:=m9) (c:=c9) (b:=b9) (m:=k9) (d:=d9) (av:=av9) (nv:=(M.map (·.1)).length) (cv:=cv9) (ac:=ac9) (nc:=(M.map (·.2)).length) (cc:=cc9) f5
 simp only[st9,ld9,AM,Xy,Za,Qd,Qj,Qm,Qo,true_and,Qr,Qs,Rk,Rn,Yc]
 refine hK _ _ M ((o04.trans (o5.mono o04.1)).set (by omega) _) ((hM.set (by omega) f5 rfl).mono (by omega)) mcan (fun f=>?_) hMl mCq hMq
 rw[mev f,FW,hev f]
end
end
end Go.Proofs.YtjnkfbpadpmakaaGreatDoor.Am
set_option linter.unusedVariables false
set_option linter.unusedSimpArgs false
set_option maxRecDepth 16000
namespace Go.Proofs.YtjnkfbpadpmakaaGreatDoor.Am
open Go Go.Proofs
noncomputable section
section
variable{E:CR}{s:AE}
theorem T4         {p2 p3 : Nat} {x2 : Bool} {A1 A2 : AV} {av ac : Option (Nat × Nat)} {cv cc : Option Nat} {cells : List AV} {L : List (Int × Rat)} {B : Nat} (g2 : s.heap.get p2 = some (BL x2 A1 A2 (.slice av (L.map (·.1)).length cv) (.slice ac (L.map (·.2)).length cc))) (hP : LP s av cv ac cc cells (L.map (·.1)) (L.map (·.2))) (hLq : ∀ p ∈ L, QH p.2 B) (hL : L.length ≤ 100000) (g3 : s.heap.get p3 = some ZQ) {v : Int} {y0 : AV} {Q : Az   → Prop}
    (hq0:∀y5 y6,(∀p∈L,p.1≠v)→Q ⟨.exit 0,[y0,iv v,.ptr (some (p2,0)),.ptr (some (p3,0)),iv (L.length:Int),y5,y6],[],s⟩)
    (hq1:∀p x a n c b m d y4 y5 y6,p∈L→p.1=v→QC s (.agg [.bool x,.slice a n c,.slice b m d]) p.2→Q ⟨.ret,[y0,iv v,.ptr (some (p2,0)),.ptr (some (p3,0)),y4,y5,y6],[],setObj s p3 (BQ x (.slice a n c) (.slice b m d))⟩):
    ∀ (r i:Nat) (z5 z6:AV),L.length - i=r→i≤L.length→(∀j,j<i→∀p,L[j]? = some p→p.1≠v)→WC E none (.loop Nm) Q [y0,iv v,.ptr (some (p2,0)),.ptr (some (p3,0)),iv (i:Int),z5,z6] [] s:=by
  have l1:=AI (P:=Tryz.prog) (t:=27) (o:=0+3) D6 g2 rfl
  have l2:=AI (P:=Tryz.prog) (t:=28) (o:=0+4) EN g2 rfl
  have hlen:(L.map (·.1)).length=L.length:=zi _
  have hlen2:(L.map (·.2)).length=L.length:=zi _
  intro r
  induction r with
  | zero =>
    intro i z5 z6 hr hi hno
    have e:i=L.length:=by omega
    subst e
    have dd:decide ((L.length:Int)<((L.map (·.1)).length:Int))=false:=decide_eq_false (by omega)
    refine WC.loop' ?_
    simp only[Nm,Ve,l1,CE,AH Tryz.underlying27,Ry,dd,Qa,Qb,Qc,Qd,Qf,Qh,Qj,Qk,Qm,Qo,true_and,Qp,Qq,Qr,Qs,Qt,Qv,Ra,Rb,Rc,Rd,Re,Rf,Ry,A1n,A1m,A1s,A1x]
    refine hq0 _ _ fun p hp=>?_
    obtain⟨j,hj,e⟩:=List.getElem_of_mem hp
    exact hno j hj p (by rw[← e];exact zW hj)
  | succ r ih =>
    intro i z5 z6 hr hi hno
    have hlt:i<L.length:=by omega
    have dd:decide ((i:Int)<((L.map (·.1)).length:Int))=true:=decide_eq_true (by omega)
    have e17:=Ax Tryz.prog 3 (i:Int) 1 ⟨by omega,by omega⟩
    have e17':((i:Int)+1)=((i+1:Nat):Int):=by omega
    have hx:L[i]? = some L[i]:=zW hlt
    obtain⟨i0,o,rfl,hi0,ld⟩:=Cm hP.vc (i:=i) (n:=L[i].1) (by rw[A0N,hx];rfl)
    have ix:=AX (cap:=cv) (i:=i0) (o:=o) (n:=1) (len:=(L.map (·.1)).length) Tryz.underlying27 Jm (show i<(L.map (·.1)).length by omega)
    refine WC.loop' ?_
    generalize hW:WC E none (Ac.loop Nm) Q=WW
    by_cases h:L[i].1=v
    · have hra:=hP.rs.at (k:=B) fun q hq=>by obtain⟨p,hp,rfl⟩:=List.mem_map.1 hq;exact hLq p hp
      obtain⟨i1,o1,rfl,hi1,lr⟩:=hra.load (i:=i) (by omega)
      have ixr:=AX (cap:=cc) (i:=i1) (o:=o1) (n:=3) (len:=(L.map (·.2)).length) Tryz.underlying28 Aw (show i<(L.map (·.2)).length by omega)
      have hqc:=hP.rs.rat i L[i].2 (by rw[A0N,hx];rfl)
      obtain⟨a,n,c,b,m,d,eq⟩:=hqc.shape
      rw[eq]at lr hqc
      obtain⟨st,_⟩:=BM (cs0:=[.bool false,.slice none 0 (some 0),.slice none 0 (some 0)]) rfl (x:=decide (L[i].2.num<0)) (a:=a) (n:=n) (c:=c) (b:=b) (m:=m) (d:=d) g3
      simp only[Nm,Ve,cU,mr,l1,l2,CE,DE,AH Tryz.underlying27,Ry,dd,ix,ld,Wc,decide_eq_true h,ixr,lr,st,Xy,Za,Qa,Qb,Qc,Qd,Qf,Qh,Qj,Qk,Qm,Qo,true_and,Qp,Qq,Qr,Qs,Qt,Qv,Qz,Rb,Rc,Rd,Re,Rf,Ry,Wc,A1n,A1m,A1s,A1x,A1v,A1o]
      exact hq1 L[i] _ _ _ _ _ _ _ _ _ _ (A0x hlt) h hqc
    · simp only[Nm,Ve,cU,ms,l1,CE,AH Tryz.underlying27,Ry,dd,ix,ld,Wc,decide_eq_false h,e17,e17',Qa,Qb,Qc,Qd,Qf,Qh,Qi,Qj,Qk,Qm,Qo,true_and,Qp,Qq,Qr,Qs,Qt,Qv,Qz,Ra,Rb,Rc,Rd,Re,Rf,Ry,Wc,A1n,A1m,A1s,A1x,A1v,A1t,A1p]
      rw[← hW]
      refine ih (i+1) _ _ (by omega) (by omega) fun j hj p hp=>?_
      rcases zX j i with h' | h'
      · exact hno j h' p hp
      · have:j=i:=by omega
        subst this
        rw[hx]at hp
        injection hp with hp
        rw[← hp];exact h
theorem fH(hE:GoodN E){vl:AV}{C:Rat}{vs:List Int}{cs:List Rat}{kl N B:Nat}{v:Int}(hl:LI s vl C vs cs kl)(hkl:1≤kl)(hN:min vs.length cs.length≤N)(hN':N≤1000)(hB:(N+1) * (kl+1)≤B)(hB':B≤1400000)(hvl:vs.length≤1000000){K:AV→AE→Prop}
    (hK:∀s' w,Aa s.next s s'→QC s' w (Bf (dl v) vs cs)→QH (Bf (dl v) vs cs) B→K w s'):WF E 35 [vl,iv v] K s:=by
  have hB0:kl+1≤B:=zY (A0i _ (by omega)) hB
  obtain⟨x,a,n,c,b,m,d,av,nv,cv,ac,nc,cc,rfl⟩:=hl.shape
  refine hE.go tU (by decide) rfl ?_
  obtain⟨n1,o1,g1,g2⟩:=EK s (BL x (.slice a n c) (.slice b m d) (.slice av nv cv) (.slice ac nc cc)) ZQ
  simp only[yT,mo,mp,Xa,Xh,Bh,Xc,Ak,Qa,Qb,Qc,Qd,Qf,Qh,Qj,Qk,Ql,Qm,Qo,true_and,Qp,Qq,Qr,Qs,Qt,Qv,Rb,Rh,A1q,A1r,A1m,A1u,A1o]
  generalize newObj (newObj s (BL x (.slice a n c) (.slice b m d) (.slice av nv cv) (.slice ac nc cc))) ZQ=s1 at *
  have l1:=AK (P:=Tryz.prog) (t:=30) D7 Do g1 rfl
  simp only[l1,Qm]
  refine ES hE (hl.old o1) hkl hN hN' hB hB' hvl fun s2 w2 L o2 hL hcan hev hLl hCq hLq=>?_
  have h2:=o2.1
  have f1:=(o2.2 s.next (by omega)).trans g1
  have f2:=(o2.2 (s.next+1) (by omega)).trans g2
  obtain⟨x2,a2,n2,c2,b2,m2,d2,av2,cv2,ac2,cc2,cells2,rfl,hC2,hP2,hb2,hb2'⟩:=hL
  obtain⟨st,_⟩:=Bz (cs0:=[.bool x,.slice a n c,.slice b m d,.slice av nv cv,.slice ac nc cc]) rfl (x:=x2) (a:=a2) (n:=n2) (c:=c2) (b:=b2) (m:=m2) (d:=d2) (av:=av2) (nv:=(L.map (·.1)).length) (cv:=cv2) (ac:=ac2) (nc:=(L.map (·.2)).length) (cc:=cc2) f1
  have hP3:=hP2.set (o:=BL x2 (.slice a2 n2 c2) (.slice b2 m2 d2) (.slice av2 (L.map (·.1)).length cv2) (.slice ac2 (L.map (·.2)).length cc2)) f1 rfl (fun i q h=>by have:=hb2 i q h;omega) (fun i q h=>by have:=hb2' i q h;omega)
  simp only[mq,st,Xy,Za,Qb,Qc,Qd,Qf,Qh,Qi,Qm,Qo,true_and,Qp,Qq,Qr,Qs,Qt,Qv,A1p]
  have o13:Aa s.next s (setObj s2 s.next (BL x2 (.slice a2 n2 c2) (.slice b2 m2 d2) (.slice av2 (L.map (·.1)).length cv2) (.slice ac2 (L.map (·.2)).length cc2))):=(o1.trans (o2.mono o1.1)).set (zU _) _
  generalize hs3:setObj s2 s.next (BL x2 (.slice a2 n2 c2) (.slice b2 m2 d2) (.slice av2 (L.map (·.1)).length cv2) (.slice ac2 (L.map (·.2)).length cc2))=s3 at *
  have n3:s3.next=s2.next:=by rw[← hs3];rfl
  have i1:s3.heap.get s.next=some (BL x2 (.slice a2 n2 c2) (.slice b2 m2 d2) (.slice av2 (L.map (·.1)).length cv2) (.slice ac2 (L.map (·.2)).length cc2)):=by rw[← hs3,Ww]
  have i2:s3.heap.get (s.next+1)=some ZQ:=by rw[← hs3,Wx _ (by omega)];exact f2
  have hqv:∀p∈L,p.1=v→p.2=Bf (dl v) vs cs:=fun p hp e=>by rw[← PQ hcan p hp,hev,e]
  refine T4 (L:=L) i1 hP3 hLq (by omega) i2 (fun y5 y6 hno=>?_) (fun p x9 a9 n9 c9 b9 m9 d9 y4 y5 y6 hp hpv hqc=>?_) L.length 0 _ _ rfl (ze _) (fun j hj=>absurd hj (A1W _))
  · have hz:Bf (dl v) vs cs=0:=by rw[← hev,LL hno]
    rw[hz]at hK
    simp only[mt,if_true,Ln,Qb,Qc,Qd,Qf,Qh,Qj,Qk,Qm,Qo,true_and,Qr,Qt,Qv,Rb,Rd,Rg,Rj,A1u,A1o]
    refine HI hE (NT s3) (by decide) (by decide) fun s4 w4 o4 r4=>?_
    have f4:=(o4.2 (s.next+1) (by omega)).trans i2
    obtain⟨a4,n4,c4,b4,m4,d4,rfl⟩:=r4.shape
    obtain⟨st,ld⟩:=BM (cs0:=[.bool false,.slice none 0 (some 0),.slice none 0 (some 0)]) rfl (x:=decide ((0:Rat).num<0)) (a:=a4) (n:=n4) (c:=c4) (b:=b4) (m:=m4) (d:=d4) f4
    simp only[st,ld,AM,Xy,Za,Qd,Qj,Qm,Qo,true_and,Qr,Qs,Rk,Rn,Yc]
    exact hK _ _ ((o13.trans (o4.mono o13.1)).set (by omega) _) (r4.box f4 rfl) (sR.le (by omega))
  · have e := hqv p hp hpv
    have hq:=hLq p hp
    rw[e]at hqc hq
    have ld:=(BM (cs0:=[.bool false,.slice none 0 (some 0),.slice none 0 (some 0)]) rfl (x:=x9) (a:=a9) (n:=n9) (c:=c9) (b:=b9) (m:=m9) (d:=d9) i2).2
    simp only[ld,AM,Qj,Qm,Qr,Qs,Rc,Rf,Rh,Rj,Rk,Rn,Yc]
    exact hK _ _ (o13.set (by omega) _) (hqc.box i2 rfl) hq
end
end
end Go.Proofs.YtjnkfbpadpmakaaGreatDoor.Am
set_option linter.unusedVariables false
set_option linter.unusedSimpArgs false
set_option maxRecDepth 16000
set_option maxHeartbeats 1000000
namespace Go.Proofs.YtjnkfbpadpmakaaGreatDoor.Am
open Go Go.Proofs
noncomputable section
theorem qh1:QH 1 1:=⟨by decide,by decide⟩
section
variable{E:CR}{s:AE}
theorem jr(hE:GoodN E){vl vm:AV}{C1 C2:Rat}{vs1 vs2:List Int}{cs1 cs2:List Rat}{v:Int}(hv:i64 v)(ha:LI s vl C1 vs1 cs1 3)(hb:LI s vm C2 vs2 cs2 3)(hN1:min vs1.length cs1.length≤8)(hN2:min vs2.length cs2.length≤8)(hvl1:vs1.length≤1000000)(hvl2:vs2.length≤1000000){K:AV→AE→Prop}
  (hK:∀s' w L,Aa s.next s s'→LC s.next s' w (C1+0 * Bf (dl v) vs1 cs1 * -1+C2 * Bf (dl v) vs1 cs1) L→Can L→(∀a,Ds a L=Bf a vs1 cs1+1 * a v * Bf (dl v) vs1 cs1 * -1+Bf a vs2 cs2 * Bf (dl v) vs1 cs1)→L.length≤1000→QH (C1+0 * Bf (dl v) vs1 cs1 * -1+C2 * Bf (dl v) vs1 cs1) 1400000→(∀p∈L,QH p.2 1400000)→K w s'):WF E 11 [vl,iv v,vm] K s:=by
 obtain⟨xa,aa,na,ka,ba,ma,da,ava,nva,cva,aca,nca,cca,rfl⟩:=ha.shape
 obtain⟨xb,ab,nb,kb,bb,mb,db,avb,nvb,cvb,acb,ncb,ccb,rfl⟩:=hb.shape
 refine hE.go tK (by decide) rfl ?_
 obtain⟨n1,o1,g1,g2,g3⟩:=HV s (BL xa (.slice aa na ka) (.slice ba ma da) (.slice ava nva cva) (.slice aca nca cca)) (BL xb (.slice ab nb kb) (.slice bb mb db) (.slice avb nvb cvb) (.slice acb ncb ccb)) ZL
 simp only[yJ,lP,lQ,Xa,Xh,ED,Xc,Ak,Qa,Qb,Qc,Qd,Qf,Qh,Qj,Qk,Ql,Qm,Qo,true_and,Qp,Qq,Qr,Qs,Qt,Qv,Rb,Rh,Rj,A1q,A1r,A1m,A1u,A1o]
 generalize newObj (newObj (newObj s (BL xa (.slice aa na ka) (.slice ba ma da) (.slice ava nva cva) (.slice aca nca cca))) (BL xb (.slice ab nb kb) (.slice bb mb db) (.slice avb nvb cvb) (.slice acb ncb ccb))) ZL=s1 at *
 have V:∀S,Aa s1.next s1 S→_:=fun S o=>AK (P:=Tryz.prog) (t:=30) D7 Do ((o.2 s.next (by omega)).trans g1) rfl
 have V':∀S,Aa s1.next s1 S→_:=fun S o=>AK (P:=Tryz.prog) (t:=30) D7 Do ((o.2 (s.next+1) (by omega)).trans g2) rfl
 simp only[V s1 (Aa.refl _ _),Qm]
 refine fH hE (ha.old o1) (by decide) hN1 (by decide) (B:=36) (by decide) (by decide) hvl1 fun s2 w2 o2 r2 q2=>?_
 generalize Bf (dl v) vs1 cs1=c at *
 obtain⟨a2,n2,c2,b2,m2,d2,rfl⟩:=r2.shape
 obtain⟨n3,o3,g6⟩:=Bs s2 ZQ
 simp only[Bh,Xc,Qd,Qm,Qo,true_and,Qp,Qq,Qr,Qs]
 have r3:=r2.old o3
 have o13:Aa s1.next s1 (newObj s2 ZQ):=o2.trans (o3.mono o2.1)
 generalize newObj s2 ZQ=s3 at *
 have h2:=o2.1
 obtain⟨st,_⟩:=BM (cs0:=[.bool false,.slice none 0 (some 0),.slice none 0 (some 0)]) rfl (x:=decide (c.num<0)) (a:=a2) (n:=n2) (c:=c2) (b:=b2) (m:=m2) (d:=d2) g6
 have r4:=r3.box (o:=BQ (decide (c.num<0)) (.slice a2 n2 c2) (.slice b2 m2 d2)) g6 rfl
 have o14:Aa s1.next s1 (setObj s3 s2.next (BQ (decide (c.num<0)) (.slice a2 n2 c2) (.slice b2 m2 d2))):=o13.set h2 _
 simp only[lR,st,Xy,Za,Qb,Qc,Qd,Qf,Qh,Qj,Qk,Qm,Qo,true_and,Qp,Qq,Qr,Qs,Qt,Qv,A1m,A1r,A1u,A1o]
 generalize hs4:setObj s3 s2.next (BQ (decide (c.num<0)) (.slice a2 n2 c2) (.slice b2 m2 d2))=s4 at *
 have n4:s4.next=s3.next:=by rw[← hs4];rfl
 have i6:s4.heap.get s2.next=some (BQ (decide (c.num<0)) (.slice a2 n2 c2) (.slice b2 m2 d2)):=by rw[← hs4,Ww]
 have W:∀S,Aa s4.next s4 S→_:=fun S o=>AK (P:=Tryz.prog) (t:=26) BZ Aw ((o.2 s2.next (by omega)).trans i6) rfl
 have Vr:∀S,Aa s4.next s4 S→_:=fun S o=>V S (o14.trans (o.mono o14.1))
 have Vr':∀S,Aa s4.next s4 S→_:=fun S o=>V' S (o14.trans (o.mono o14.1))
 obtain⟨n5,o5,g7⟩:=Bs s4 ZL
 simp only[Vr s4 (Aa.refl _ _),W s4 (Aa.refl _ _),ED,Xc,Qm]
 generalize newObj s4 ZL=s5 at *
 refine ju hE hv fun s6 w6 o6 h6=>?_
 have o46:Aa s4.next s4 s6:=o5.trans (o6.mono o5.1)
 refine⟨by simp only[Bl,Vr s6 o46,W s6 o46,Ao,DR,CI,Qj,Qk,Qo,and_true,Qr,Qs],?_⟩
 simp only[Qr,Qs]
 have l6:LI s6 w6 0 [v] [1] 1:=h6.li (k:=1) sR (fun p hp=>by rw[A1d.1 hp];exact qh1)
 refine J2 hE l6 ((r4.old o46).qi q2) (by decide) (by decide) (N:=1) (B1:=4) (B:=82) (by show min 1 1≤1;decide) (by decide) (by decide) (by decide) (by decide) (by show 1≤1000000;decide) fun s7 w7 L o7 hL hcan hev hLl hCq hLq=>?_
 have o47:Aa s4.next s4 s7:=o46.trans (o7.mono o46.1)
 refine⟨by simp only[Bl,Vr s7 o47,Ao,DR,Qj,Qk,Qo,and_true,Qr,Qs],?_⟩
 simp only[Qr,Qs]
 have o07:Aa s.next s s7:=(o1.trans (o14.mono o1.1)).trans (o47.mono (by have:=o14.1;omega))
 refine js hE (ha.old o07) (hL.li hCq hLq) (by decide) (by decide) (N1:=8) (N2:=1) (B1:=166) (B2:=336) (Bx:=674) (B:=6750) hN1 (by rw[zi,zi];omega) (by decide) (by decide) (by decide) (by decide) (by decide) (by decide) (by decide) (by decide) (by decide) hvl1 (by rw[zi];omega) fun s8 w8 M o8 hM mcan mev hMl mCq hMq=>?_
 have o48:Aa s4.next s4 s8:=o47.trans (o8.mono o47.1)
 have h14:=o14.1
 have h47:=o47.1
 have f7:=(o8.2 s4.next (by have:=o5.1;have:=o6.1;have:=o7.1;omega)).trans ((o7.2 s4.next (by have:=o5.1;have:=o6.1;omega)).trans ((o6.2 s4.next (by omega)).trans g7))
 obtain⟨x8,a8,n8,c8,b8,m8,d8,av8,cv8,ac8,cc8,cells8,rfl,hC8,hP8,hb8,hb8'⟩:=hM
 obtain⟨st8,_⟩:=Bz (cs0:=[.bool false,.slice none 0 (some 0),.slice none 0 (some 0),.slice none 0 (some 0),.slice none 0 (some 0)]) rfl (x:=x8) (a:=a8) (n:=n8) (c:=c8) (b:=b8) (m:=m8) (d:=d8) (av:=av8) (nv:=(M.map (·.1)).length) (cv:=cv8) (ac:=ac8) (nc:=(M.map (·.2)).length) (cc:=cc8) f7
 have hM':LC s7.next s8 (.agg [.bool x8,.slice a8 n8 c8,.slice b8 m8 d8,.slice av8 (M.map (·.1)).length cv8,.slice ac8 (M.map (·.2)).length cc8]) (C1+0 * c * -1) M:=⟨_,_,_,_,_,_,_,_,_,_,_,_,rfl,hC8,hP8,hb8,hb8'⟩
 have hM9:=hM'.set (o:=BL x8 (.slice a8 n8 c8) (.slice b8 m8 d8) (.slice av8 (M.map (·.1)).length cv8) (.slice ac8 (M.map (·.2)).length cc8)) (by have:=o5.1;have:=o6.1;have:=o7.1;omega) f7 rfl
 have o49:Aa s4.next s4 (setObj s8 s4.next (BL x8 (.slice a8 n8 c8) (.slice b8 m8 d8) (.slice av8 (M.map (·.1)).length cv8) (.slice ac8 (M.map (·.2)).length cc8))):=o48.set (zU _) _
 simp only[lT,st8,Xy,Za,Qb,Qc,Qd,Qf,Qh,Qj,Qk,Qm,Qo,true_and,Qr,Qs,Qt,Qv,A1m,A1u,A1o]
 generalize hs9:setObj s8 s4.next (BL x8 (.slice a8 n8 c8) (.slice b8 m8 d8) (.slice av8 (M.map (·.1)).length cv8) (.slice ac8 (M.map (·.2)).length cc8))=s9 at *
 have n9:s9.next=s8.next:=by rw[← hs9];rfl
 have g9:s9.heap.get s4.next=some (BL x8 (.slice a8 n8 c8) (.slice b8 m8 d8) (.slice av8 (M.map (·.1)).length cv8) (.slice ac8 (M.map (·.2)).length cc8)):=by rw[← hs9,Ww]
 have l9:=AK (P:=Tryz.prog) (t:=30) D7 Do g9 rfl
 simp only[l9,Vr' s9 o49,W s9 o49,Qm]
 have o09:Aa s.next s s9:=(o1.trans (o14.mono o1.1)).trans (o49.mono (by omega))
 refine J2 hE (hb.old o09) ((r4.old o49).qi q2) (by decide) (by decide) (N:=8) (B1:=36) (B:=657) hN2 (by decide) (by decide) (by decide) (by decide) hvl2 fun s10 w10 R o10 hR rcan rev hRl rCq hRq=>?_
 have h48:=o48.1
 have h5:=o5.1
 have g10:=(o10.2 s4.next (by have:=o6.1;have:=o7.1;have:=o8.1;omega)).trans g9
 have l10:=AK (P:=Tryz.prog) (t:=30) D7 Do g10 rfl
 refine⟨by simp only[Bl,l10,Ao,DR,Qj,Qk,Qo,and_true,Qr,Qs],?_⟩
 simp only[Qr,Qs]
 refine Vw hE ((hM9.old o10).li mCq hMq) (hR.li rCq hRq) (by decide) (by decide) (N1:=9) (N2:=8) (Bx:=67510) (B:=1215198) (by rw[zi,zi];omega) (by rw[zi,zi];omega) (by decide) (by decide) (by decide) (by decide) (by decide) (by decide) (by rw[zi];omega) (by rw[zi];omega) fun s11 w11 U o11 hU ucan uev hUl uCq hUq=>?_
 have o0a:Aa s.next s s10:=o09.trans (o10.mono o09.1)
 have f11:s11.heap.get (s.next+1+1)=some ZL:=by
  have h09:=o09.1
  rw[o11.2 _ (by have:=o10.1;omega),o10.2 _ (by omega),o49.2 _ (by omega),o14.2 _ (by omega)]
  exact g3
 obtain⟨x9,a9,m9,c9,b9,k9,d9,av9,cv9,ac9,cc9,rfl⟩:=hU.shape
 obtain⟨st9,ld9⟩:=Bz (cs0:=[.bool false,.slice none 0 (some 0),.slice none 0 (some 0),.slice none 0 (some 0),.slice none 0 (some 0)]) rfl (x:=x9) (a:=a9) (n:=m9) (c:=c9) (b:=b9) (m:=k9) (d:=d9) (av:=av9) (nv:=(U.map (·.1)).length) (cv:=cv9) (ac:=ac9) (nc:=(U.map (·.2)).length) (cc:=cc9) f11
 simp only[st9,ld9,AM,Qd,Qj,Qm,Qo,true_and,Qr,Qs,Rk,Rn,Yc]
 refine hK _ _ U ((o0a.trans (o11.mono o0a.1)).set (by omega) _) ((hU.set (by have:=o10.1;omega) f11 rfl).mono o0a.1) ucan (fun f=>?_) (by omega) (uCq.le (by decide)) fun p hp=>(hUq p hp).le (by decide)
 rw[uev f,FW,FW,mev f,rev f,FW,hev f]
 rw[show Bf f [v] [1]=1 * f v from by show 1 * f v+0=_;rw[Rat.add_zero]]
end
end
end Go.Proofs.YtjnkfbpadpmakaaGreatDoor.Am
set_option linter.unusedVariables false
set_option linter.unusedSimpArgs false
set_option maxRecDepth 16000
namespace Go.Proofs.YtjnkfbpadpmakaaGreatDoor.Am
open Go Go.Proofs
noncomputable section
theorem YR(wals:List Rat)(n:Int):E3 [] wals n=0:=by
 unfold E3
 rw[if_neg (fun h=>by have:=h.1;revert this;show ¬ (0:Int)≤-1;decide)]
theorem YS(vars:List Int)(n:Int):E3 vars [] n=0:=by
 unfold E3
 rw[if_neg (fun h=>by have h1:=h.1;have h2:=h.2;simp only[A1R]at h2;omega)]
section
variable{E:CR}{s:AE}
theorem W1        (hE : GoodN E) {S0 : AE}  {p3 p5 : Nat} {x2 : Bool} {A1 A2 : AV} {av ac : Option (Nat × Nat)} {cv cc : Option Nat} {cells : List AV} {L : List (Int × Rat)} {B : Nat} (g3 : S0.heap.get p3 = some (BL x2 A1 A2 (.slice av (L.map (·.1)).length cv) (.slice ac (L.map (·.2)).length cc))) (h3 : p3 < S0.next) (hP : LP S0 av cv ac cc cells (L.map (·.1)) (L.map (·.2))) (hLq : ∀ p ∈ L, QH p.2 B) (hL : L.length ≤ 1000) (hB1 : 1 ≤ B)
    {xv xw:Option (Nat×Nat)} {kv kw:Option Nat} {vars:List Int} {wals:List Rat} {wc:List AV} {kl:Nat} (hv:AS S0.next S0 xv (vars.map iv)) (hr:Cp S0 xw wals kl wc) (hkl:1≤kl) (hvl:vars.length≤1000000) {i:Nat} (hi:i<L.length) (h5:S0.next≤p5) {q0:Rat} {k0:Nat} (hk0:1≤k0) (hk:k0+(B+kl)+1≤700000)
    {y0 y4 y8:AV} {S:AE} {x:Bool} {a b:Option (Nat×Nat)} {n m:Nat} {c d:Option Nat} (ho:Aa S0.next S0 S) (hp5:p5<S.next) (g5:S.heap.get p5=some (BQ x (.slice a n c) (.slice b m d))) (hqc:QC S (.agg [.bool x,.slice a n c,.slice b m d]) q0) (hqh:QH q0 k0) {Q:Az→Prop}
    (hq:∀S' x a n c b m d y7 y9 y10,Aa S0.next S0 S'→p5<S'.next→S'.heap.get p5=some (BQ x (.slice a n c) (.slice b m d))→QC S' (.agg [.bool x,.slice a n c,.slice b m d]) (q0+L[i].2 * E3 vars wals L[i].1)→QH (q0+L[i].2 * E3 vars wals L[i].1) (k0+(B+kl)+1)→Q ⟨.exit 2,[y0,.slice xv vars.length kv,.slice xw wals.length kw,.ptr (some (p3,0)),y4,.ptr (some (p5,0)),iv (i:Int),y7,y8,y9,y10],[],S'⟩):
    ∀ (r k:Nat) (z9 z10:AV),vars.length - k=r→k≤vars.length→E3 vars wals L[i].1=E3 (vars.drop k) (wals.drop k) L[i].1→WC E none (.loop Ia) Q [y0,.slice xv vars.length kv,.slice xw wals.length kw,.ptr (some (p3,0)),y4,.ptr (some (p5,0)),iv (i:Int),iv (k:Int),y8,z9,z10] [] S:=by
  have hlen:(L.map (·.1)).length=L.length:=zi _
  have hlen2:(L.map (·.2)).length=L.length:=zi _
  have l1:=AI (P:=Tryz.prog) (t:=27) (o:=0+3) D6 ((ho.2 p3 h3).trans g3) rfl
  have l2:=AI (P:=Tryz.prog) (t:=28) (o:=0+4) EN ((ho.2 p3 h3).trans g3) rfl
  have hx:L[i]? = some L[i]:=zW hi
  have hend:E3 vars wals L[i].1=0→∀y7 y9 y10,Q ⟨.exit 2,[y0,.slice xv vars.length kv,.slice xw wals.length kw,.ptr (some (p3,0)),y4,.ptr (some (p5,0)),iv (i:Int),y7,y8,y9,y10],[],S⟩:=fun h0 y7 y9 y10=>by
    refine hq S x a n c b m d y7 y9 y10 ho hp5 g5 ?_ ?_
    · rw[h0,Rat.mul_zero,Rat.add_zero];exact hqc
    · rw[h0,Rat.mul_zero,Rat.add_zero];exact hqh.le (by omega)
  intro r
  induction r with
  | zero =>
    intro k z9 z10 hr0 hk0' hat
    have e:k=vars.length:=by omega
    subst e
    rw[A1Z,YR]at hat
    have dd:decide ((vars.length:Int)<(vars.length:Int))=false:=decide_eq_false (by omega)
    refine WC.loop' ?_
    simp only[Ia,Q4,AH Tryz.underlying27,Ry,dd,Ru,Qa,Qb,Qc,Qd,Qf,Qg,Qh,Qi,Qj,Qk,Qm,Qo,true_and,Qp,Qq,Qr,Qs,Qt,Qu,Qv,Qw,Qx,Ra,Rb,Rd,Re,Rg,Rs,Ru,Rw,Ry,A1s,A1w]
    exact hend hat _ _ _
  | succ r ih =>
    intro k z9 z10 hr0 hk0' hat
    have hlt:k<vars.length:=by omega
    have dd:decide ((k:Int)<(vars.length:Int))=true:=decide_eq_true (by omega)
    have e17:=Ax Tryz.prog 3 (k:Int) 1 ⟨by omega,by omega⟩
    have e17':((k:Int)+1)=((k+1:Nat):Int):=by omega
    refine WC.loop' ?_
    generalize hW:WC E none (Ac.loop Ia) Q=WW
    by_cases hw:k<wals.length
    · have dw:decide ((k:Int)<(wals.length:Int))=true:=decide_eq_true (by omega)
      obtain⟨i0,o,rfl,hi0,ld⟩:=Cm hv (i:=k) (n:=vars[k]) (zW hlt)
      have ld':=Ci lH ho hi0 ld
      have ix:=AX (cap:=kv) (i:=i0) (o:=o) (n:=1) (len:=vars.length) Tryz.underlying27 Jm hlt
      obtain⟨i1,o1,rfl,hi1,ld1⟩:=Cm hP.vc (i:=i) (n:=L[i].1) (by rw[A0N,hx];rfl)
      have ld1':=Ci lH ho hi1 ld1
      have ix1:=AX (cap:=cv) (i:=i1) (o:=o1) (n:=1) (len:=(L.map (·.1)).length) Tryz.underlying27 Jm (show i<(L.map (·.1)).length by omega)
      by_cases he:vars[k]=L[i].1
      · have hat':E3 vars wals L[i].1=wals[k]:=by
          rw[hat,FH hlt,FH hw,he,YQ]
        rw[hat']at hq
        have hra:=hP.rs.at (k:=B) fun q hq=>by obtain⟨p,hp,rfl⟩:=List.mem_map.1 hq;exact hLq p hp
        obtain⟨i2,o2,rfl,hi2,lr⟩:=hra.load (i:=i) (by omega)
        have lr':=Ci BZ ho hi2 lr
        have ixr:=AX (cap:=cc) (i:=i2) (o:=o2) (n:=3) (len:=(L.map (·.2)).length) Tryz.underlying28 Aw (show i<(L.map (·.2)).length by omega)
        obtain⟨i4,o4,rfl,hi4,lw⟩:=hr.load hw
        have lw':=Ci BZ ho hi4 lw
        have ixw:=AX (cap:=kw) (i:=i4) (o:=o4) (n:=3) (len:=wals.length) Tryz.underlying28 Aw hw
        have l5:=AK (P:=Tryz.prog) (t:=26) BZ Aw g5 rfl
        have hq1:=(hra.rat i L[i].2 (by rw[A0N,hx];rfl)).old ho
        have hq2:=(hr.rat k wals[k] (zW hw)).old ho
        simp only[Ia,Q4,bK,mF,l1,l2,l5,CE,DE,AH Tryz.underlying27,AH Tryz.underlying28,Ry,Wc,dd,dw,ix,ld',ix1,ld1',ixr,lr',ixw,lw',decide_eq_true he,Ru,Qa,Qb,Qc,Qd,Qf,Qg,Qh,Qi,Qj,Qk,Qm,Qo,true_and,Qp,Qq,Qr,Qs,Qt,Qv,Qw,Qx,Qz,Rb,Rd,Re,Rg,Rs,Ru,Rw,Ry,Wc,A1s,A1w,A1v,A1m,A1n,A1x,A1u,A1o]
        refine jx hE hq1 hq2 hB1 hkl (by omega) fun S1 w1 o1' r1=>?_
        have g51:=(o1'.2 p5 hp5).trans g5
        have l51:=AK (P:=Tryz.prog) (t:=26) BZ Aw g51 rfl
        have hm:QH (L[i].2 * wals[k]) (B+kl):=QH.mul (hLq _ (A0x hi)) (hq2.qh hkl)
        refine⟨by simp only[Bl,l51,Ao,CI,Qj,Qk,Qo,and_true,Qr,Qs],?_⟩
        simp only[Qr,Qs]
        refine PU hE ((hqc.old o1').qi hqh) (r1.qi hm) hk0 (by omega) (by omega) fun S2 w2 o2' r2=>?_
        have o12:=o1'.trans (o2'.mono o1'.1)
        have g52:=(o12.2 p5 hp5).trans g5
        obtain⟨a',n',c',b',m',d',rfl⟩:=r2.shape
        obtain⟨st,_⟩:=BM (cs0:=[.bool x,.slice a n c,.slice b m d]) rfl (x:=decide ((q0+L[i].2 * wals[k]).num<0)) (a:=a') (n:=n') (c:=c') (b:=b') (m:=m') (d:=d') g52
        simp only[st,Xy,Za,Qd,Qm,Qo,true_and,Qr,Qs]
        have:=o12.1
        exact hq _ _ _ _ _ _ _ _ _ _ _ ((ho.trans (o12.mono ho.1)).set h5 _) (by show p5<S2.next;omega) (Ww _ _ _) (r2.box g52 rfl) (QH.add hqh hm)
      · simp only[Ia,Q4,bK,mG,l1,CE,AH Tryz.underlying27,AH Tryz.underlying28,Ry,Wc,dd,dw,ix,ld',ix1,ld1',decide_eq_false he,Ru,e17,e17',Qa,Qb,Qc,Qd,Qf,Qg,Qh,Qi,Qj,Qk,Qm,Qo,true_and,Qp,Qq,Qr,Qs,Qt,Qv,Qw,Qx,Qz,Ra,Rb,Rd,Re,Rg,Rs,Ru,Rw,Ry,Wc,A1s,A1w,A1v,A1m,A1n,A1x,A1t,A1p]
        rw[← hW]
        refine ih (k+1) _ _ (by omega) (by omega) ?_
        rw[hat,FH hlt,FH hw,YT (Ne.symm he)]
    · have dw:decide ((k:Int)<(wals.length:Int))=false:=decide_eq_false (by omega)
      rw[A0D (show wals.length≤k by omega),YS]at hat
      simp only[Ia,Q4,AH Tryz.underlying27,AH Tryz.underlying28,Ry,dd,dw,Ru,Qa,Qb,Qc,Qd,Qf,Qg,Qh,Qi,Qj,Qk,Qm,Qo,true_and,Qp,Qq,Qr,Qs,Qt,Qv,Qw,Qx,Ra,Rb,Rd,Re,Rg,Rs,Ru,Rw,Ry,A1s,A1w]
      exact hend hat _ _ _
theorem fM{a:Int→Rat}{L:List (Int×Rat)}{i:Nat}(h:i<L.length):Ds a (L.take (i+1))=Ds a (L.take i)+L[i].2 * a L[i].1:=by
 rw[A1j h,ET]
 show _+(L[i].2 * a L[i].1+0)=_
 rw[Rat.add_zero]
theorem YP(hE:GoodN E){S0:AE}{p3 p5:Nat}{x2:Bool}{A1 A2:AV}{av ac:Option (Nat×Nat)}{cv cc:Option Nat}{cells:List AV}{L:List (Int×Rat)}{B:Nat}(g3:S0.heap.get p3=some (BL x2 A1 A2 (.slice av (L.map (·.1)).length cv) (.slice ac (L.map (·.2)).length cc)))(h3:p3<S0.next)(hP:LP S0 av cv ac cc cells (L.map (·.1)) (L.map (·.2)))(hLq:∀p∈L,QH p.2 B)(hL:L.length≤1000)(hB1:1≤B)
  {xv xw:Option (Nat×Nat)} {kv kw:Option Nat} {vars:List Int} {wals:List Rat} {wc:List AV} {kl:Nat} (hv:AS S0.next S0 xv (vars.map iv)) (hr:Cp S0 xw wals kl wc) (hkl:1≤kl) (hvl:vars.length≤1000000) (h5:S0.next≤p5) {C:Rat} {k0:Nat} (hk0:1≤k0) (hk:k0+(L.length+1) * (B+kl+1)≤700000)
  {y0 y4:AV} {Q:Az→Prop}
  (hq:∀S' x a n c b m d y6 y7 y8 y9 y10,Aa S0.next S0 S'→p5<S'.next→S'.heap.get p5=some (BQ x (.slice a n c) (.slice b m d))→QC S' (.agg [.bool x,.slice a n c,.slice b m d]) (C+Ds (E3 vars wals) L)→QH (C+Ds (E3 vars wals) L) (k0+L.length * (B+kl+1))→Q ⟨.exit 0,[y0,.slice xv vars.length kv,.slice xw wals.length kw,.ptr (some (p3,0)),y4,.ptr (some (p5,0)),y6,y7,y8,y9,y10],[],S'⟩):
  ∀ (r i:Nat) (S:AE) (x:Bool) (a b:Option (Nat×Nat)) (n m:Nat) (c d:Option Nat) (z7 z8 z9 z10:AV),L.length - i=r→i≤L.length→Aa S0.next S0 S→p5<S.next→S.heap.get p5=some (BQ x (.slice a n c) (.slice b m d))→QC S (.agg [.bool x,.slice a n c,.slice b m d]) (C+Ds (E3 vars wals) (L.take i))→QH (C+Ds (E3 vars wals) (L.take i)) (k0+i * (B+kl+1)) →
   WC E none (.loop Lv) Q [y0,.slice xv vars.length kv,.slice xw wals.length kw,.ptr (some (p3,0)),y4,.ptr (some (p5,0)),iv (i:Int),z7,z8,z9,z10] [] S:=by
 have hlen:(L.map (·.1)).length=L.length:=zi _
 intro r
 induction r with
 | zero =>
  intro i S x a b n m c d z7 z8 z9 z10 hr0 hi ho hp5 g5 hqc hqh
  have e:i=L.length:=by omega
  subst e
  rw[A1J]at hqc hqh
  have l1:=AI (P:=Tryz.prog) (t:=27) (o:=0+3) D6 ((ho.2 p3 h3).trans g3) rfl
  have dd:decide ((L.length:Int)<((L.map (·.1)).length:Int))=false:=decide_eq_false (by omega)
  refine WC.loop' ?_
  simp only[Lv,bJ,l1,CE,AH Tryz.underlying27,Ry,dd,Qa,Qb,Qc,Qd,Qf,Qh,Qj,Qk,Qm,Qo,true_and,Qp,Qq,Qr,Qs,Qt,Qv,Ra,Rb,Rd,Ry,A1n,A1m,A1s,A1x]
  exact hq S x a n c b m d _ _ _ _ _ ho hp5 g5 hqc hqh
 | succ r ih =>
  intro i S x a b n m c d z7 z8 z9 z10 hr0 hi ho hp5 g5 hqc hqh
  have hlt:i<L.length:=by omega
  have l1:=AI (P:=Tryz.prog) (t:=27) (o:=0+3) D6 ((ho.2 p3 h3).trans g3) rfl
  have dd:decide ((i:Int)<((L.map (·.1)).length:Int))=true:=decide_eq_true (by omega)
  have e17:=Ax Tryz.prog 3 (i:Int) 1 ⟨by omega,by omega⟩
  have e17':((i:Int)+1)=((i+1:Nat):Int):=by omega
  have hk1:(i+1) * (B+kl+1)≤(L.length+1) * (B+kl+1):=zq _ (by omega)
  have hk2:(i+1) * (B+kl+1)=i * (B+kl+1)+(B+kl+1):=by rw[A0A,A0S]
  refine WC.loop' ?_
  generalize hW:WC E none (Ac.loop Lv) Q=WW
  simp only[Lv,bJ,mE,l1,CE,AH Tryz.underlying27,Ry,dd,Qa,Qb,Qc,Qd,Qf,Qh,Qi,Qj,Qk,Qm,Qo,true_and,Qp,Qq,Qr,Qs,Qt,Qv,Qz,Rb,Rd,Ry,A1n,A1m,A1s,A1x,A1p]
  refine W1 hE g3 h3 hP hLq hL hB1 hv hr hkl hvl hlt h5 (by omega) (by omega) ho hp5 g5 hqc hqh (fun S' x' a' n' c' b' m' d' y7 y9 y10 o' hp' g' hq' hh'=>?_) vars.length 0 _ _ rfl (ze _) rfl
  simp only[if_true,bH,e17,e17',Qb,Qc,Qd,Qf,Qh,Qi,Qj,Qk,Qm,Qo,true_and,Qp,Qq,Qr,Qs,Qt,Qv,Rb,Rd,Re,Rg,A1t,A1p]
  rw[← hW]
  have e:C+Ds (E3 vars wals) (L.take (i+1))=C+Ds (E3 vars wals) (L.take i)+L[i].2 * E3 vars wals L[i].1:=by rw[fM hlt,Rat.add_assoc]
  rw[← e]at hq' hh'
  exact ih (i+1) S' _ _ _ _ _ _ _ _ _ _ _ (by omega) (by omega) o' hp' g' hq' (hh'.le (by omega))
theorem uW(hE:GoodN E){vl:AV}{C:Rat}{vs:List Int}{cs:List Rat}(hl:LI s vl C vs cs 3)(hN:min vs.length cs.length≤8)(hvl':vs.length≤1000000){vars:List Int}{wals:List Rat}{xv xw:Option (Nat×Nat)}{kv kw:Option Nat}{wc:List AV}(hv:AS s.next s xv (vars.map iv))(hr:Cp s xw wals 3 wc)(hvl:vars.length≤1000000){K:AV→AE→Prop}
  (hK:∀s' w,Aa s.next s s'→QC s' w (C+Bf (E3 vars wals) vs cs)→QH (C+Bf (E3 vars wals) vs cs) 700000→K w s'):WF E 14 [vl,.slice xv vars.length kv,.slice xw wals.length kw] K s:=by
 obtain⟨x,a,n,c,b,m,d,av,nv,cv,ac,nc,cc,rfl⟩:=hl.shape
 refine hE.go tN (by decide) rfl ?_
 obtain⟨n1,o1,g1,g2⟩:=EK s (BL x (.slice a n c) (.slice b m d) (.slice av nv cv) (.slice ac nc cc)) ZQ
 simp only[yM,lu,lz,Xa,Xh,Bh,Xc,Ak,Qa,Qb,Qc,Qd,Qf,Qh,Qj,Qk,Ql,Qm,Qo,true_and,Qp,Qq,Qr,Qs,Qt,Qv,Rb,Rh,A1q,A1r,A1m,A1u,A1o]
 generalize newObj (newObj s (BL x (.slice a n c) (.slice b m d) (.slice av nv cv) (.slice ac nc cc))) ZQ=s1 at *
 have l1:=AK (P:=Tryz.prog) (t:=30) D7 Do g1 rfl
 simp only[l1,Qm]
 refine ES hE (hl.old o1) (by decide) hN (by decide) (B:=36) (by decide) (by decide) hvl' fun s2 w2 L o2 hL hcan hev hLl hCq hLq=>?_
 have h2:=o2.1
 have f1:=(o2.2 s.next (by omega)).trans g1
 have f2:=(o2.2 (s.next+1) (by omega)).trans g2
 obtain⟨x2,a2,n2,c2,b2,m2,d2,av2,cv2,ac2,cc2,cells2,rfl,hC2,hP2,hb2,hb2'⟩:=hL
 obtain⟨st,_⟩:=Bz (cs0:=[.bool x,.slice a n c,.slice b m d,.slice av nv cv,.slice ac nc cc]) rfl (x:=x2) (a:=a2) (n:=n2) (c:=c2) (b:=b2) (m:=m2) (d:=d2) (av:=av2) (nv:=(L.map (·.1)).length) (cv:=cv2) (ac:=ac2) (nc:=(L.map (·.2)).length) (cc:=cc2) f1
 have hC3:=hC2.box (o:=BL x2 (.slice a2 n2 c2) (.slice b2 m2 d2) (.slice av2 (L.map (·.1)).length cv2) (.slice ac2 (L.map (·.2)).length cc2)) f1 rfl
 have hP3:=hP2.set (o:=BL x2 (.slice a2 n2 c2) (.slice b2 m2 d2) (.slice av2 (L.map (·.1)).length cv2) (.slice ac2 (L.map (·.2)).length cc2)) f1 rfl (fun i q h=>by have:=hb2 i q h;omega) (fun i q h=>by have:=hb2' i q h;omega)
 have hx2:x2=decide (C.num<0):=by
  obtain⟨_,_,e,_⟩:=hC2
  injection e with e
  injection e with e _
  injection e
 simp only[mC,st,Xy,Za,Qb,Qc,Qd,Qf,Qh,Qj,Qk,Qm,Qo,true_and,Qp,Qq,Qr,Qs,Qt,Qv,A1n,A1m,A1r,A1o]
 have o13:Aa s.next s (setObj s2 s.next (BL x2 (.slice a2 n2 c2) (.slice b2 m2 d2) (.slice av2 (L.map (·.1)).length cv2) (.slice ac2 (L.map (·.2)).length cc2))):=(o1.trans (o2.mono o1.1)).set (zU _) _
 generalize hs3:setObj s2 s.next (BL x2 (.slice a2 n2 c2) (.slice b2 m2 d2) (.slice av2 (L.map (·.1)).length cv2) (.slice ac2 (L.map (·.2)).length cc2))=s3 at *
 have n3:s3.next=s2.next:=by rw[← hs3];rfl
 have i1:s3.heap.get s.next=some (BL x2 (.slice a2 n2 c2) (.slice b2 m2 d2) (.slice av2 (L.map (·.1)).length cv2) (.slice ac2 (L.map (·.2)).length cc2)):=by rw[← hs3,Ww]
 have i2:s3.heap.get (s.next+1)=some ZQ:=by rw[← hs3,Wx _ (by omega)];exact f2
 have lc:AB Tryz.prog s3 26 (.ptr (some (s.next,0+0)))=some (.agg [.bool x2,.slice a2 n2 c2,.slice b2 m2 d2]):=Al (o:=0) (n:=3) BZ Aw i1 (by simp)
 obtain⟨n4,o4,g4⟩:=Bs s3 ZQ
 simp only[lc,HJ,Bh,Xc,Qm]
 have hC4:=hC3.old o4
 generalize newObj s3 ZQ=s4 at *
 obtain⟨st4,_⟩:=BM (cs0:=[.bool false,.slice none 0 (some 0),.slice none 0 (some 0)]) rfl (x:=x2) (a:=a2) (n:=n2) (c:=c2) (b:=b2) (m:=m2) (d:=d2) g4
 simp only[st4,mD,Qb,Qc,Qd,Qf,Qh,Qi,Qm,Qo,true_and,Qp,Qq,Qt,Qv,A1p]
 have hC5:=hC4.box (o:=BQ x2 (.slice a2 n2 c2) (.slice b2 m2 d2)) g4 rfl
 have hL1:(L.length+1) * (36+3+1)≤9 * (36+3+1):=zq _ (by omega)
 have hL2:L.length * (36+3+1)≤8 * (36+3+1):=zq _ (by omega)
 refine YP hE (S0:=s3) (p3:=s.next) (p5:=s3.next) (L:=L) (k0:=3) (kl:=3) (B:=36) (C:=C) i1 (by omega) hP3 hLq (by omega) (by decide) ((hv.old o13 (zU _)).mono o13.1) (hr.old o13) (by decide) hvl (zU _) (by decide) (by omega) (fun S' x' a' n' c' b' m' d' y6 y7 y8 y9 y10 o' hp' g' hq' hh'=>?_) L.length 0 _ _ _ _ _ _ _ _ _ _ _ _ rfl (ze _) (o4.set (zU _) _) (by show s3.next<s4.next;omega) (Ww _ _ _) (by show QC _ _ (C+0);rw[Rat.add_zero];exact hC5) (by show QH (C+0) _;rw[Rat.add_zero];exact hCq.le (by omega))
 rw[hev]at hq' hh'
 have l5:=AK (P:=Tryz.prog) (t:=26) BZ Aw g' rfl
 have f9:=(o'.2 (s.next+1) (by omega)).trans i2
 obtain⟨st9,ld9⟩:=BM (cs0:=[.bool false,.slice none 0 (some 0),.slice none 0 (some 0)]) rfl (x:=x') (a:=a') (n:=n') (c:=c') (b:=b') (m:=m') (d:=d') f9
 simp only[bI,if_true,l5,st9,ld9,AM,Xy,Za,Qb,Qc,Qd,Qf,Qh,Qj,Qk,Qm,Qo,true_and,Qr,Qs,Qt,Qv,Rb,Rd,Rg,Rj,Rk,Rn,Yc,A1m,A1o]
 exact hK _ _ ((o13.trans (o'.mono o13.1)).set (by omega) _) (hq'.box f9 rfl) (hh'.le (by omega))
end
theorem LR.lc{b:Nat}{s:AE}{v:AV}{C:Rat}{L:List (Int×Rat)}(h:LR b s v C L):LC 0 s v C L:=by
 obtain⟨x,a,n,ca,d,m,cd,vv,cv,D,O1,O2,rfl,hq,rfl,hD,_,b1,b2,_⟩:=h
 obtain⟨av,capv,rfl,hcv,hzv⟩:=b1.capZ
 obtain⟨ac,capc,rfl,hcc,hzc⟩:=b2.capZ
 have hl3:∀t∈D,t.2.2.cells.length=3:=fun t ht=>by
  obtain⟨_,_,_,_,_,_,_,e⟩:=(hD t ht).1.shape
  rw[e];rfl
 obtain⟨p1,p2⟩:=Hy D hl3
 have e1:((D.map fun t=>(t.1,t.2.1)).map (·.1)).map iv=JG D:=by simp[JG,A0q,Function.comp_def]
 refine⟨x,a,n,ca,d,m,cd,av,capv,ac,capc,Dc D,by simp,hq.qc,⟨by rw[e1];exact hcv,fun z hz=>?_,by simpa using hzv,⟨by simp[p1],hcc,fun i q hi=>?_⟩,by simpa using hzc⟩,fun _ _ _=>ze _,fun _ _ _=>ze _⟩
 ·rw[A0q]at hz
  obtain⟨t,ht,rfl⟩:=List.mem_map.1 hz
  exact(hD t ht).2.1
 ·rw[A0q,A0N]at hi
  cases hDi:D[i]? with
  | none=>rw[hDi]at hi;cases hi
  | some t =>
   rw[hDi]at hi
   injection hi with hi
   have htm:=zw hDi
   rw[p2 i t hDi]
   obtain⟨_,_,_,_,_,_,_,e⟩:=(hD t htm).1.shape
   have:=(hD t htm).1.qc
   rw[← hi,show AV.agg t.2.2.cells=t.2.2 from by rw[e];rfl]
   exact this
section
variable{E:CR}{s:AE}
end
end
end Go.Proofs.YtjnkfbpadpmakaaGreatDoor.Am
