/- The solver in plain Lean: what is learned; conditions: none. -/
import Derived.Test.YtilhhmkdcoajnaaAmM08
import Derived.Test.YtilhhmkdcoajnaaAmM05
set_option linter.unusedVariables false
set_option linter.unusedSimpArgs false
set_option maxRecDepth 16000
namespace Go.Proofs.Ytilhhmkdcoajnaa.Am
open Go Go.Proofs
noncomputable section
def FH(σ:Nat→Bool)(x:Int):Prop:=(0<x∧σ x.natAbs=true)∨(x<0∧σ x.natAbs=false)
theorem FH.neg{σ:Nat→Bool}{x:Int}(h:FH σ x)(k:FH σ (-x)):False:=by
 unfold FH at h k
 rw[qf]at k
 rcases h with⟨h1,h2⟩ | ⟨h1,h2⟩<;>rcases k with⟨k1,k2⟩ | ⟨k1,k2⟩<;>first | omega | (rw[h2]at k2;cases k2)
theorem FH.or{σ:Nat→Bool}{x:Int}(hx:x≠0):FH σ x∨FH σ (-x):=by
  unfold FH
  rw[qf]
  cases σ x.natAbs with
  | true => by_cases h : 0 < x
            · exact .inl (.inl ⟨h,rfl⟩)
            · exact .inr (.inl ⟨by omega,rfl⟩)
  | false => by_cases h : 0 < x
             · exact .inr (.inr ⟨by omega,rfl⟩)
             · exact .inl (.inr ⟨by omega,rfl⟩)
def Db(cl:Nat→Option A6)(σ:Nat→Bool):Prop:=∀c ls b,cl c=some (ls,b)→∃y∈ls,FH σ y
theorem CT.zero {n : Nat} {v : Sv} (h : CT n v) {σ : Nat → Bool} (hσ : Db v.cl σ) : ∀ (i : Nat) (x : Int), v.trail[i]? = some x → lv v x = 0 → FH  σ x := by
  intro i
  induction i using Nat.strongRecOn with
  | _ i ih =>
    intro x hx hl
    have hlev:=h.lev i x hx
    have hl0:HX v.limits i=0:=by
      have:lv v x=(HX v.limits i:Int):=hlev
      omega
    rcases h.why i x hx with⟨q1,q2⟩ | ⟨c,ls,b,q1,q2,q3,q4⟩
    · obtain⟨k,hk⟩:=CS.1 q2
      have:=MH h.sorted hk (rE _)
      omega
    · obtain⟨y,hy,hs⟩:=hσ c ls b q2
      by_cases e:y=x
      · rw[← e];exact hs
      · obtain⟨j,hj,ej⟩:=B6.1 (q4 y hy e)
        have hjl:lv v (-y)=0:=by
          have h1:lv v (-y)=(HX v.limits j:Int):=h.lev j _ ej
          have h2:=QB (L:=v.limits) (Nat.le_of_lt hj)
          omega
        exact(hs.neg (ih j hj (-y) ej hjl)).elim
def cnt(tr:List Int)(seen:List Nat)(m k:Nat):Nat:=((tr.take k).drop m).countP fun x=>decide (x.natAbs∈seen)
theorem G0{tr:List Int}{seen:List Nat}{m k:Nat}(hk:k<tr.length):cnt tr seen m (k+1)=cnt tr seen m k+if m≤k∧(tr.getD k 0).natAbs∈seen then 1 else 0:=by
  unfold cnt
  have e:tr.take (k+1)=tr.take k++[tr.getD k 0]:=by
    rw[sC hk]
    congr 2
    rw[qe,qP hk];rfl
  rw[e]
  have hl:(tr.take k).length=k:=by rw[qb];omega
  by_cases hm:m≤k
  · rw[List.drop_append_of_le_length (by omega),sB]
    congr 1
    by_cases hs:(tr.getD k 0).natAbs∈seen
    · rw[if_pos ⟨hm,hs⟩,List.countP_singleton,if_pos (decide_eq_true hs)]
    · rw[if_neg (fun q=>hs q.2),List.countP_singleton,if_neg (by rw[decide_eq_false hs];decide)]
  · rw [if_neg (fun q => hm q.1), ru                     (by rw [qM,                 hl]; simp; omega), ru                     (by omega)]
    rfl
theorem Lc{tr:List Int}{seen:List Nat}{m k:Nat}(h:cnt tr seen m k=0){j:Nat}{x:Int}(hj:j<k)(hm:m≤j)(hx:tr[j]? = some x):x.natAbs ∉ seen:=by
 unfold cnt at h
 rw[List.countP_eq_zero]at h
 have:x∈(tr.take k).drop m:=by
  rw[CS]
  exact⟨j - m,by rw[qk,show m+(j - m)=j by omega,qq hj];exact hx⟩
 have:=h x this
 simpa using this
theorem Uh{tr:List Int}{seen:List Nat}{m k j:Nat}{x:Int}(hj:j<k)(hm:m≤j)(hx:tr[j]? = some x)(hs:x.natAbs∈seen):1≤cnt tr seen m k:=by
 rcases rG (cnt tr seen m k)with h | h
 ·exact absurd hs (Lc h hj hm hx)
 ·exact h
theorem Pl{tr:List Int}{seen seen':List Nat}(h:∀x∈seen,x∈seen')(m k:Nat):cnt tr seen m k≤cnt tr seen' m k:=by
 unfold cnt
 refine List.countP_mono_left fun x _ hx=>?_
 exact decide_eq_true (h _ (of_decide_eq_true hx))
theorem MY       {tr : List Int} {seen : List Nat} {m : Nat} : ∀ {k : Nat}, k ≤ tr.length → 1 ≤ cnt tr seen m k → ∃ i, M1   tr seen k = some i ∧ m ≤ i ∧ i < k ∧ (tr.getD i 0).natAbs ∈ seen ∧ cnt tr seen m k = cnt tr seen m i + 1 ∧ ∀ j, i < j → j < k → (tr.getD j 0).natAbs ∉ seen
  | 0,_,h=>by simp[cnt]at h
  | k + 1, hk, h => by
    rw[G0 hk]at h
    unfold M1
    by_cases hs:(tr.getD k 0).natAbs∈seen
    · rw[if_pos hs]
      by_cases hm:m≤k
      · exact⟨k,rfl,hm,qn _,hs,by rw[G0 hk,if_pos ⟨hm,hs⟩],fun j h1 h2=>by omega⟩
      · exfalso
        rw[if_neg (fun q=>hm q.1)]at h
        have:cnt tr seen m k=0:=by
          unfold cnt
          rw[ru (by rw[qb];omega)]
          rfl
        omega
    · rw[if_neg (fun q=>hs q.2)]at h
      obtain⟨i,h1,h2,h3,h4,h5,h6⟩:=MY (by omega) h
      rw[if_neg hs]
      refine⟨i,h1,h2,by omega,h4,by rw[G0 hk,if_neg (fun q=>hs q.2)];exact h5,fun j j1 j2=>?_⟩
      rcases qN j k with q | q
      · exact h6 j j1 q
      · have:j=k:=by omega
        rw[this];exact hs
structure LI(v:Sv)(m:Nat)(a:EC)(at_:Nat):Prop where
 seenA:∀k∈a.seen,∃ (i:Nat) (x:Int),v.trail[i]? = some x∧x.natAbs=k∧1≤lv v x
 nd:a.seen.Nodup
 lits:∀q∈a.lits,-q∈v.trail∧q.natAbs∈a.seen∧1≤lv v q∧lv v q<(v.limits.length:Int)
 litsC:∀x∈v.trail,x.natAbs∈a.seen→lv v x<(v.limits.length:Int)→-x∈a.lits
 litsnd:(a.lits.map Int.natAbs).Nodup
 opn:a.opn=(cnt v.trail a.seen m at_:Int)
 lev:(∀q∈a.lits,lv v q≤a.lev)∧(a.lits=[]∧a.lev=0∨∃q∈a.lits,lv v q=a.lev)
theorem Cb(v:Sv)(x:Int):lv v (-x)=lv v x:=by unfold lv;rw[qf]
theorem CT.last{n:Nat}{v:Sv}(h:CT n v){t:Int}(ht:v.limits[v.limits.length - 1]? = some t){i:Nat}{x:Int}(hx:v.trail[i]? = some x):(lv v x=(v.limits.length:Int)↔t.toNat≤i)∧lv v x≤(v.limits.length:Int)∧0≤lv v x:=by
  have hl:=Ag ht
  have ht0:=h.lim t (qL ht)
  have e:lv v x=(HX v.limits i:Int):=h.lev i x hx
  have hle:=Th v.limits i
  refine⟨⟨fun q=>?_,fun q=>?_⟩,by omega,by omega⟩
  · rcases qN           i t.toNat with h1 | h1
    · have:=(MI h.sorted ht (i:=i) (by omega)).2
      omega
    · exact h1
  · have:=MH h.sorted ht (i:=i) (by omega)
    omega
theorem LI.start{v:Sv}{m k:Nat}:LI v m Gi k:=⟨by simp[Gi],by simp[Gi],by simp[Gi],by simp[Gi],by simp[Gi],by simp[cnt],by simp[Gi]⟩
theorem LI.step {n : Nat} {v : Sv} (h : CT n v) {t : Int} (ht : v.limits[v.limits.length - 1]? = some t) {a : EC}  {at_ : Nat} (hL : LI v t.toNat a at_) {q : Int} (hq : ∃ j, j < at_ ∧ v.trail[j]? = some (-q)) :
    LI v t.toNat (BQ v a q) at_∧(∀k∈a.seen,k∈(BQ v a q).seen)∧(lv v q=0∨q.natAbs∈(BQ v a q).seen)∧(BQ v a q).hd=a.hd:=by
  obtain⟨j,hj,hx⟩:=hq
  have hmem:-q∈v.trail:=qL hx
  obtain⟨hlast,hle,hge⟩:=h.last ht hx
  rw[Cb]at hlast hle hge
  unfold BQ
  by_cases h1:q.natAbs∈a.seen∨v.level.getD q.natAbs 0=0
  · rw [if_pos h1]
    refine⟨hL,fun k hk=>hk,?_,rfl⟩
    rcases h1 with e | e
    · exact .inr e
    · exact .inl e
  · rw[if_neg h1]
    have hns:q.natAbs ∉ a.seen:=fun e=>h1 (.inl e)
    have hn0:lv v q≠0:=fun e=>h1 (.inr e)
    have hnd:(a.seen++[q.natAbs]).Nodup:=by
      rw[rH]
      exact⟨hL.nd,by simp,fun x hx y hy e=>by rw[List.mem_singleton.1 hy]at e;exact hns (by rw[← e];exact hx)⟩
    have hseenA:∀k∈a.seen++[q.natAbs],∃ (i:Nat) (x:Int),v.trail[i]? = some x∧x.natAbs=k∧1≤lv v x:=fun k hk=>by
      rcases List.mem_append.1 hk with e | e
      · exact hL.seenA k e
      · rw[List.mem_singleton.1 e]
        exact⟨j,-q,hx,qf q,by rw[Cb];omega⟩
    have hcount:∀k,k≤v.trail.length→cnt v.trail (a.seen++[q.natAbs]) t.toNat k=cnt v.trail a.seen t.toNat k+if j<k∧t.toNat≤j then 1 else 0:=by
      intro k
      induction k with
      | zero=>intro _;rw[if_neg (by omega)];simp[cnt]
      | succ k ih =>
        intro hk
        rw[G0 hk,G0 hk,ih (by omega)]
        have hgk:=AR (d:=(0:Int)) (show k<v.trail.length by omega)
        by_cases hjk:j=k
        · have e:(v.trail.getD k 0).natAbs=q.natAbs:=by rw[← hjk,E3 hx,qf]
          rw[e]
          have A:¬ (j<k∧t.toNat≤j):=by omega
          have C:¬ (t.toNat≤k∧q.natAbs∈a.seen):=fun z=>hns z.2
          by_cases hm:t.toNat≤k
          · have B : t.toNat ≤ k ∧ q.natAbs ∈ a.seen ++ [q.natAbs] := ⟨hm, by simp⟩
            have D:j<k+1∧t.toNat≤j:=by omega
            rw[if_neg A,if_pos B,if_neg C,if_pos D]
          · have B : ¬ (t.toNat ≤ k ∧ q.natAbs ∈ a.seen ++ [q.natAbs]) := fun z => hm z.1
            have D:¬ (j<k+1∧t.toNat≤j):=by omega
            rw[if_neg A,if_neg B,if_neg C,if_neg D]
        · have hne : (v.trail.getD k 0).natAbs ≠ q.natAbs := fun e => hjk (h.inv.one hx hgk (by rw [qf];             exact e.symm))
          have e1:((v.trail.getD k 0).natAbs∈a.seen++[q.natAbs])↔(v.trail.getD k 0).natAbs∈a.seen:=by
            rw[List.mem_append,List.mem_singleton]
            exact⟨fun z=>z.resolve_right hne,.inl⟩
          have hAD:(j<k+1∧t.toNat≤j)↔(j<k∧t.toNat≤j):=by omega
          have hBC:(t.toNat≤k∧(v.trail.getD k 0).natAbs∈a.seen++[q.natAbs])↔(t.toNat≤k∧(v.trail.getD k 0).natAbs∈a.seen):=by rw[e1]
          simp only[hAD,hBC]
          exact Nat.add_right_comm _ _ _
    have hcap:∀ (S:List Nat) k,cnt v.trail S t.toNat k=cnt v.trail S t.toNat (min k v.trail.length):=fun S k=>by
      unfold cnt
      congr 2
      rcases qN k v.trail.length with z | z
      · rw[rX (by omega)]
      · rw[Nat.min_eq_right z,qr,ry z]
    have hjl:=Ag hx
    have hcountA:cnt v.trail (a.seen++[q.natAbs]) t.toNat at_=cnt v.trail a.seen t.toNat at_+if t.toNat≤j then 1 else 0:=by
      rw[hcap,hcap a.seen,hcount _ (Nat.min_le_right _ _)]
      congr 1
      by_cases z:t.toNat≤j
      · rw[if_pos z,if_pos ⟨by omega,z⟩]
      · rw[if_neg z,if_neg (fun y=>z y.2)]
    by_cases hd:v.level.getD q.natAbs 0=(v.limits.length:Int)
    · rw [if_pos hd]
      refine⟨⟨hseenA,hnd,fun y hy=>?_,fun y hy hs hl=>?_,hL.litsnd,?_,hL.lev⟩,fun k hk=>qW _ hk,.inr (ql _ (List.mem_singleton.2 rfl)),rfl⟩
      · obtain⟨g1,g2,g3,g4⟩:=hL.lits y hy
        exact⟨g1,qW _ g2,g3,g4⟩
      · rcases List.mem_append.1 hs with e | e
        · exact hL.litsC y hy e hl
        · exfalso
          have e:=List.mem_singleton.1 e
          unfold lv at hl
          rw[e,hd]at hl
          omega
      · show a.opn+1=_
        rw[hL.opn,hcountA,if_pos (hlast.1 hd)]
        simp
    · rw[if_neg hd]
      have hnm:¬ t.toNat≤j:=fun z=>hd (hlast.2 z)
      refine⟨⟨hseenA,hnd,fun y hy=>?_,fun y hy hs hl=>?_,?_,?_,?_⟩,fun k hk=>qW _ hk,.inr (ql _ (List.mem_singleton.2 rfl)),rfl⟩
      · rcases List.mem_append.1 hy with e | e
        · obtain⟨g1,g2,g3,g4⟩:=hL.lits y e
          exact⟨g1,qW _ g2,g3,g4⟩
        · rw[List.mem_singleton.1 e]
          have hd':lv v q≠(v.limits.length:Int):=hd
          exact⟨hmem,ql _ (List.mem_singleton.2 rfl),by omega,by omega⟩
      · rcases List.mem_append.1 hs with e | e
        · exact qW _ (hL.litsC y hy e hl)
        · have e:=List.mem_singleton.1 e
          obtain⟨i,hi⟩:=CS.1 hy
          have hij:=h.inv.one hi hx (by rw[qf];exact e)
          subst hij
          rw[hx]at hi
          injection hi with hi
          rw[← hi,qw]
          exact ql _ (List.mem_singleton.2 rfl)
      · show((a.lits++[q]).map Int.natAbs).Nodup
        rw[qx,rH]
        refine⟨hL.litsnd,by simp,fun x hx y hy e=>?_⟩
        obtain⟨z,hz,rfl⟩:=List.mem_map.1 hx
        have:y=q.natAbs:=by simpa using hy
        rw[this]at e
        exact hns (by rw[← e];exact(hL.lits z hz).2.1)
      · show a.opn=_
        rw[hL.opn,hcountA,if_neg hnm]
        simp
      · refine ⟨fun y hy => ?_, .inr ?_⟩
        · show lv v y≤max a.lev (lv v q)
          rcases List.mem_append.1 hy with e | e
          · have:=hL.lev.1 y e;omega
          · rw[List.mem_singleton.1 e];omega
        · show ∃y∈a.lits++[q],lv v y=max a.lev (lv v q)
          by_cases z:a.lev≤lv v q
          · exact⟨q,ql _ (List.mem_singleton.2 rfl),by omega⟩
          · rcases hL.lev.2 with ⟨_, e⟩ | ⟨y, hy, e⟩
            · omega
            · exact⟨y,qW _ hy,by omega⟩
theorem LI.fold{n:Nat}{v:Sv}(h:CT n v){t:Int}(ht:v.limits[v.limits.length - 1]? = some t){at_:Nat}:∀ (Q:List Int){a:EC},LI v t.toNat a at_→(∀q∈Q,∃j,j<at_∧v.trail[j]? = some (-q)) →
  LI v t.toNat (Q.foldl (BQ v) a) at_∧(∀k∈a.seen,k∈(Q.foldl (BQ v) a).seen)∧(∀q∈Q,lv v q=0∨q.natAbs∈(Q.foldl (BQ v) a).seen)∧(Q.foldl (BQ v) a).hd=a.hd
 | [],a,hL,_=>⟨hL,fun k hk=>hk,by simp,rfl⟩
 | q::Q,a,hL,hq=>by
  obtain⟨g1,g2,g3,g4⟩:=hL.step h ht (hq q (qR ..))
  obtain⟨k1,k2,k3,k4⟩:=LI.fold h ht Q g1 fun y hy=>hq y (qS _ hy)
  refine⟨k1,fun k hk=>k2 k (g2 k hk),fun y hy=>?_,k4.trans g4⟩
  rcases qp.1 hy with e | e
  ·rw[e];exact g3.imp id (k2 _)
  ·exact k3 y e
structure EU(v:Sv)(r:EC):Prop where
 uip:∃ (i:Nat) (u:Int),v.trail[i]? = some u∧lv v u=(v.limits.length:Int)∧r.hd=-u
 lits:∀q∈r.lits,-q∈v.trail∧1≤lv v q∧lv v q<(v.limits.length:Int)
 nd:(r.lits.map Int.natAbs).Nodup
 lev:(∀q∈r.lits,lv v q≤r.lev)∧(r.lits=[]∧r.lev=0∨∃q∈r.lits,lv v q=r.lev)
 imp:∀σ,Db v.cl σ→FH σ r.hd∨∃q∈r.lits,FH σ q
theorem NI(tr:List Int)(seen:List Nat){m k:Nat}(h:k≤m):cnt tr seen m k=0:=by
 unfold cnt
 rw[ru (by rw[qb];omega)]
 rfl
theorem DU{l y:Int}{ls:List Int}:y∈rest l ls↔y∈ls∧y≠l:=by
 unfold rest
 rw[List.mem_filter]
 simp
theorem bE       {n : Nat} {v : Sv} (h : CT n v) {t : Int} (ht : v.limits[v.limits.length - 1]? = some t) : ∀ (at_ : Nat) (c : Nat) (l : Int) (a : EC)  (ls : List Int) (b : Bool × Bool), at_ ≤ v.trail.length → LI v t.toNat a at_ → v.cl c = some (ls, b) → (∀ y ∈ rest l ls, ∃ j, j < at_ ∧ v.trail[j]? = some (-y)) → 1 ≤ ((rest l ls).foldl (BQ     v) a).opn →
    (∀σ,Db v.cl σ→FH σ l→(∃q∈a.lits,FH σ q)∨∃ (j:Nat) (x:Int),j<at_∧t.toNat≤j∧v.trail[j]? = some x∧x.natAbs∈a.seen∧FH σ (-x)) →
    ∃r,B4 v c a at_ l r∧EU v r:=by
  intro at_
  induction at_ using Nat.strongRecOn with
  | _ at_ ih =>
  intro c l a ls b hat hL hc hr ho hpre
  obtain⟨f1,f2,f3,f4⟩:=hL.fold h ht (rest l ls) hr
  generalize ha:(rest l ls).foldl (BQ v) a=a' at *
  have hQ : ∀ σ, Db v.cl σ → (∃ q ∈ a'.lits, FH  σ q) ∨ ∃ (j : Nat) (x : Int), j < at_ ∧ t.toNat ≤ j ∧ v.trail[j]? = some x ∧ x.natAbs ∈ a'.seen ∧ FH  σ (-x) := by
    intro σ hσ
    obtain⟨y,hy,hs⟩:=hσ c ls b hc
    by_cases e:y=l
    · rw [e] at hs
      rcases hpre σ hσ hs with⟨q,hq,hsq⟩ | ⟨j,x,j1,j2,j3,j4,j5⟩
      · obtain⟨g1,g2,g3,g4⟩:=hL.lits q hq
        have:=f1.litsC (-q) g1 (by rw[qf];exact f2 _ g2) (by rw[Cb];exact g4)
        rw[qw]at this
        exact .inl ⟨q,this,hsq⟩
      · exact .inr ⟨j,x,j1,j2,j3,f2 _ j4,j5⟩
    · obtain ⟨j, j1, j2⟩ := hr y (DU.2       ⟨hy, e⟩)
      obtain⟨hlast,hle,hge⟩:=h.last ht j2
      rw[Cb]at hlast hle hge
      rcases f3 y (DU.2 ⟨hy,e⟩)with z | z
      · exact(hs.neg (h.zero hσ j (-y) j2 (by rw[Cb];exact z))).elim
      · by_cases hd : lv v y = (v.limits.length : Int)
        · exact .inr ⟨j,-y,j1,hlast.1 hd,j2,by rw[qf];exact z,by rw[qw];exact hs⟩
        · have:=f1.litsC (-y) (qL j2) (by rw[qf];exact z) (by rw[Cb];omega)
          rw[qw]at this
          exact .inl ⟨y,this,hs⟩
  have hcn:1≤cnt v.trail a'.seen t.toNat at_:=by have:=f1.opn;omega
  obtain⟨i,k1,k2,k3,k4,k5,k6⟩:=MY hat hcn
  have hil:i<v.trail.length:=by omega
  have hg:=AR (d:=(0:Int)) hil
  generalize hu:v.trail.getD i 0=u at *
  have hlu:lv v u=(v.limits.length:Int):=(h.last ht hg).1.2 k2
  have hQ':∀σ,Db v.cl σ→(∃q∈a'.lits,FH σ q)∨(∃ (j:Nat) (x:Int),j<i∧t.toNat≤j∧v.trail[j]? = some x∧x.natAbs∈a'.seen∧FH σ (-x))∨FH σ (-u):=by
    intro σ hσ
    rcases hQ σ hσ with q | ⟨j,x,j1,j2,j3,j4,j5⟩
    · exact .inl q
    · rcases rP                j i with z | z | z
      · exact .inr (.inl ⟨j,x,z,j2,j3,j4,j5⟩)
      · subst z
        rw[hg]at j3
        injection j3 with j3
        rw[j3]
        exact .inr (.inr j5)
      · exact absurd j4 (by have:=k6 j z j1;rw[E3 j3]at this;exact this)
  by_cases h1:a'.opn=1
  · have hci:cnt v.trail a'.seen t.toNat i=0:=by have:=f1.opn;omega
    refine⟨{ a' with opn:=0,hd:=-u },?_,⟨i,u,hg,hlu,rfl⟩,fun q hq=>?_,f1.litsnd,f1.lev,fun σ hσ=>?_⟩
    · have:=B4.last (v:=v) (at_:=at_) hc ha k1 h1
      rw[hu]at this
      exact this
    · obtain⟨g1,g2,g3,g4⟩:=f1.lits q hq
      exact⟨g1,g3,g4⟩
    · rcases hQ' σ hσ with q | ⟨j, x, j1, j2, j3, j4, j5⟩ | q
      · exact .inr q
      · exact absurd j4 (Lc hci j1 j2 j3)
      · exact .inl q
  · have hci : 1 ≤ cnt v.trail a'.seen t.toNat i := by have := f1.opn; omega
    have hmi:t.toNat<i:=by
      rcases qN t.toNat i with z | z
      · exact z
      · rw[NI _ _ z]at hci;omega
    have hil':(i:Int) ∉ v.limits:=fun q=>by
      obtain⟨p,hp⟩:=CS.1 q
      have hpl:=Ag hp
      have ht0:=h.lim t (qL ht)
      by_cases e:p=v.limits.length - 1
      · rw[e,ht]at hp
        injection hp with hp
        omega
      · have:=(CP h.sorted ht).1 (i:Int) (B6.2 ⟨p,by omega,hp⟩)
        omega
    rcases h.why i u hg with⟨_,q⟩ | ⟨c',ls',b',w1,w2,w3,w4⟩
    · exact absurd q hil'
    · have hL2 : LI v t.toNat { a' with opn := a'.opn - 1 } i := ⟨f1.seenA, f1.nd, f1.lits, f1.litsC, f1.litsnd, by show a'.opn - 1 = (cnt v.trail a'.seen t.toNat i : Int); have := f1.opn; omega, f1.lev⟩
      have hr2:∀y∈rest u ls',∃j,j<i∧v.trail[j]? = some (-y):=fun y hy=>by
        obtain⟨y1,y2⟩:=DU.1 hy
        exact B6.1 (w4 y y1 y2)
      obtain⟨g1,g2,g3,g4⟩:=hL2.fold h ht (rest u ls') hr2
      have hop2:1≤((rest u ls').foldl (BQ v) { a' with opn:=a'.opn - 1 }).opn:=by
        have e1:=g1.opn
        have e2:=Pl (tr:=v.trail) (seen:=a'.seen) (seen':=((rest u ls').foldl (BQ v) { a' with opn:=a'.opn - 1 }).seen) g2 t.toNat i
        omega
      obtain⟨r,r1,r2⟩:=ih i k3 c' u { a' with opn:=a'.opn - 1 } ls' b' (by omega) hL2 w2 hr2 hop2 (fun σ hσ hs=>by
        rcases hQ' σ hσ with q | q | q
        · exact .inl q
        · exact .inr q
        · exact(hs.neg q).elim)
      refine⟨r,?_,r2⟩
      have hw:v.why.getD (v.trail.getD i 0).natAbs none=some c':=by rw[hu];exact w1
      have:=B4.more (v:=v) (at_:=at_) (r:=r) hc ha k1 (by omega) hw
      rw[hu]at this
      exact this r1
theorem G9{n:Nat}{v:Sv}(h:CT n v)(hlim:v.limits≠[]){c:Nat}{l:Int}(hf:Fy v c l)(hl:lv v l=(v.limits.length:Int)):∃r,B4 v c Gi v.trail.length 0 r∧EU v r:=by
 obtain⟨ls,b,hc,h2,hfalse,hmem⟩:=hf
 have hpos:0<v.limits.length:=List.length_pos_iff.2 hlim
 have ht:=AR (d:=(0:Int)) (show v.limits.length - 1<v.limits.length by omega)
 generalize v.limits.getD (v.limits.length - 1) 0=t at ht
 have hr:∀y∈rest 0 ls,∃j,j<v.trail.length∧v.trail[j]? = some (-y):=fun y hy=>by
  obtain⟨j,hj⟩:=CS.1 (hfalse y (DU.1 hy).1)
  exact⟨j,Ag hj,hj⟩
 have hL0:LI v t.toNat Gi v.trail.length:=LI.start
 obtain⟨f1,f2,f3,f4⟩:=hL0.fold h ht (rest 0 ls) hr
 have hl0:l≠0:=((h.cls c ls b hc).1.1 l hmem).1
 refine bE h ht v.trail.length c 0 Gi ls b (qI _) hL0 hc hr ?_ (fun σ hσ hs=>?_)
 ·have hlr:l∈rest 0 ls:=DU.2 ⟨hmem,hl0⟩
  obtain⟨j,j1,j2⟩:=hr l hlr
  have hm:=(h.last ht j2).1.1 (by rw[Cb];exact hl)
  rcases f3 l hlr with z | z
  ·omega
  ·have:=Uh j1 hm j2 (by rw[qf];exact z)
   rw[f1.opn]
   omega
 ·unfold FH at hs
  omega
def I7(tr:List Int)(t:Nat)(ls:List Int):Prop:=(∃y∈ls,y∈tr.take t)∨∃y∈ls,∃z∈ls,y≠z∧-y ∉ tr.take t∧-z ∉ tr.take t
theorem I7.perm{tr:List Int}{t:Nat}{ls ls':List Int}(h:I7 tr t ls)(hp:ls'.Perm ls):I7 tr t ls':=by
 rcases h with⟨y,h1,h2⟩ | ⟨y,h1,z,h2,h3⟩
 ·exact .inl ⟨y,hp.mem_iff.2 h1,h2⟩
 ·exact .inr ⟨y,hp.mem_iff.2 h1,z,hp.mem_iff.2 h2,h3⟩
theorem I7.take{tr tr':List Int}{t:Nat}{ls:List Int}(h:I7 tr t ls)(e:tr'.take t=tr.take t):I7 tr' t ls:=by
 unfold I7
 rw[e]
 exact h
def By(σ:Nat→Bool)(F:List (List Int)):Prop:=∀f∈F,∃y∈f,FH σ y
structure CI(n:Nat)(F:List (List Int))(h:Nat)(v:Sv):Prop where
 ct:CT n v
 cw:CW v h []
 hb:h≤v.trail.length
 lh:∀x∈v.limits,x≤(h:Int)
 unit:∀c ls b,v.cl c=some (ls,b)→ls.length=1→ls.getD 0 0∈v.trail∧lv v (ls.getD 0 0)=0
 i7:∀ (j:Nat) (t:Int),v.limits[j]? = some t→∀c ls b,v.cl c=some (ls,b)→I7 v.trail t.toNat ls
 imp:∀σ,By σ F→Db v.cl σ
 cover:∀f∈F,(∃y∈f,-y∈f)∨∃c ls b,v.cl c=some (ls,b)∧∀y∈ls,y∈f
 phase:DX n v
theorem Db.same{a b:Nat→Option A6}(h:Bx a b){σ:Nat→Bool}(k:Db a σ):Db b σ:=fun c ls t hc=>by
 obtain⟨ls',h1,h2⟩:=h.back hc
 obtain⟨y,q1,q2⟩:=k c ls' t h1
 exact⟨y,h2.mem_iff.2 q1,q2⟩
theorem CI.of{n h:Nat}{F:List (List Int)}{v v':Sv}(k:CI n F h v)(hi:A7 n v')(h1:v'.trail=v.trail)(h2:v'.limits=v.limits)(h3:v'.level=v.level)(h4:v'.why=v.why)(h5:v'.cl=v.cl)(h6:v'.watches=v.watches)(h7:v'.phase=v.phase):CI n F h v':=by
 refine⟨k.ct.of hi h1 h2 h3 h4 h5,⟨?_,?_,?_,?_⟩,by rw[h1];exact k.hb,by rw[h2];exact k.lh,?_,?_,by rw[h5];exact k.imp,by rw[h5];exact k.cover,by unfold DX;rw[h7];exact k.phase⟩
 ·rw[h5,h6];exact k.cw.wat
 ·rw[h5,h6];exact k.cw.wcl
 ·rw[h6];exact k.cw.wnd
 ·unfold HP lv;rw[h1,h3,h5];exact k.cw.wok
 ·unfold lv;rw[h1,h3,h5];exact k.unit
 ·rw[h1,h2,h5];exact k.i7
theorem CI.prog{n h h':Nat}{F:List (List Int)}{v v':Sv}(k:CI n F h v)(p:FE v v')(hc:CT n v')(hw:CW v' h' [])(hb:h'≤v'.trail.length)(hl:∀x∈v.limits,x≤(h':Int)):CI n F h' v':=by
  obtain⟨T,eT⟩:=p.tr
  refine⟨hc,hw,hb,by rw[p.limits];exact hl,fun c ls b q hlen=>?_,fun j t ht c ls b q=>?_,fun σ hσ=>(k.imp σ hσ).same p.cl,fun f hf=>?_,by unfold DX;rw[p.phase];exact k.phase⟩
  · obtain⟨ls',q1,q2⟩:=p.cl.back q
    have hl':ls'.length=1:=by rw[← q2.length_eq];exact hlen
    have e:ls=ls':=by
      obtain⟨x,rfl⟩:=List.length_eq_one_iff.1 hl'
      obtain⟨y,rfl⟩:=List.length_eq_one_iff.1 hlen
      have:y∈[x]:=q2.mem_iff.1 (List.mem_singleton.2 rfl)
      rw[List.mem_singleton.1 this]
    subst e
    obtain⟨g1,g2⟩:=k.unit c ls b q1 hlen
    exact⟨p.mem g1,by rw[p.lev _ (.inl g1)];exact g2⟩
  · obtain⟨ls',q1,q2⟩:=p.cl.back q
    rw[p.limits]at ht
    have:=k.ct.below t (qL ht)
    refine((k.i7 j t ht c ls' b q1).perm q2).take ?_
    rw[eT,qm (by omega)]
  · rcases k.cover f hf with q | ⟨c, ls, b, q1, q2⟩
    · exact .inl q
    · obtain⟨ls',r1,r2⟩:=(p.cl c).2 ls b q1
      exact .inr ⟨c,ls',b,r1,fun y hy=>q2 y (r2.mem_iff.1 hy)⟩
theorem CI.back {n h : Nat} {F : List (List Int)} {v : Sv} (k : CI n F h v) {j : Nat} {t : Int} (ht : v.limits[j]? = some t) : CI n F t.toNat (Ab    v j) ∧ (Ab    v j).trail = v.trail.take t.toNat ∧ (Ab    v j).limits = v.limits.take j ∧ (Ab    v j).head = t := by
  obtain⟨b1,b2,b3,b4,b5⟩:=k.ct.back ht
  have htm:=qL ht
  have ht0:=k.ct.lim t htm
  have htl:=k.ct.below t htm
  have hth:=k.lh t htm
  have hlt:(v.trail.take t.toNat).length=t.toNat:=by rw[qb];omega
  obtain⟨ph,va,wh,tr,li,hd,e,_⟩:=B5 v j
  have ecl:(Ab v j).cl=v.cl:=by rw[e]
  have ewa:(Ab v j).watches=v.watches:=by rw[e]
  have elv:(Ab v j).level=v.level:=by rw[e]
  have low:∀ {x:Int},x∈v.trail→lv v x≤(j:Int)→x∈v.trail.take t.toNat:=by
    intro x hx hl
    obtain⟨i,hi⟩:=CS.1 hx
    have hli:lv v x=(HX v.limits i:Int):=k.ct.lev i x hi
    refine B6.2 ⟨i,?_,hi⟩
    rcases qN i t.toNat with q | q
    · exact q
    · have:=MH k.ct.sorted ht (i:=i) (by omega)
      omega
  have high:∀ {x:Int},x∈v.trail.take t.toNat→lv v x≤(j:Int):=by
    intro x hx
    obtain⟨i,hi,ei⟩:=B6.1 hx
    have hli:lv v x=(HX v.limits i:Int):=k.ct.lev i x ei
    have:=(MI k.ct.sorted ht (i:=i) (by omega)).2
    omega
  refine⟨⟨b1,⟨?_,?_,?_,?_⟩,?_,?_,?_,?_,?_,?_,b5 k.phase⟩,b2,b3,b4⟩
  · rw[ecl,ewa];exact k.cw.wat
  · rw[ecl,ewa];exact k.cw.wcl
  · rw[ewa];exact k.cw.wnd
  · intro c ls b hc h2
    rw[ecl]at hc
    have hok:HP v t.toNat ls:=((k.cw.wok c ls b hc h2).2 (by simp)).mono (by omega)
    have:HP (Ab v j) t.toNat ls:=by
      unfold HP lv
      rw[b2,elv,rh,Nat.min_self]
      refine⟨fun q=>?_,fun q=>?_⟩
      · obtain⟨r1,r2⟩:=hok.1 q
        have:=high q
        rw[Cb]at this
        exact⟨low r1 (by omega),r2⟩
      · obtain⟨r1,r2⟩:=hok.2 q
        have:=high q
        rw[Cb]at this
        exact⟨low r1 (by omega),r2⟩
    exact⟨this.mono (by omega),fun _=>this⟩
  · rw[b2,hlt];exact qI _
  · rw[b3]
    intro x hx
    have:=(CP k.ct.sorted ht).1 x hx
    omega
  · intro c ls b hc hl
    rw[ecl]at hc
    obtain⟨g1,g2⟩:=k.unit c ls b hc hl
    unfold lv
    rw[b2,elv]
    exact⟨low g1 (by omega),g2⟩
  · intro i s hs c ls b hc
    rw[b3]at hs
    rw[ecl]at hc
    have hil:=Ag hs
    have hij:i<j:=by rw[qb]at hil;omega
    have hs':v.limits[i]? = some s:=by rw[qq hij]at hs;exact hs
    have hst:=(CP k.ct.sorted ht).1 s (B6.2 ⟨i,hij,hs'⟩)
    have hs0:=k.ct.lim s (qL hs')
    refine(k.i7 i s hs' c ls b hc).take ?_
    rw[b2,rh,rX (by omega)]
  · rw[ecl];exact k.imp
  · rw[ecl];exact k.cover
theorem CW.assign{n h:Nat}{v:Sv}{X:List Nat}(hi:A7 n v)(k:CW v h X)(hh:h≤v.trail.length){x:Int}(ho:v.value.getD x.natAbs 0=0)(w:Option Nat):CW (BR v x w) h X:=by
 have habs:∀ {y:Int},(y∈v.trail∨-y∈v.trail)→y.natAbs≠x.natAbs:=by
  rintro y (hy | hy)
  ·exact hi.abs_ne ho hy
  ·have:=hi.abs_ne ho hy
   rw[qf]at this
   exact this
 have hlev:∀ {y:Int},(y∈v.trail∨-y∈v.trail)→lv (BR v x w) y=lv v y:=fun hy=>by
  show(v.level.set _ _).getD _ 0=_
  rw[getD_set_ne (habs hy)]
 have htk:∀hh',hh'≤h→(v.trail++[x]).take hh'=v.trail.take hh':=fun hh' hhh=>qm (by omega)
 have hoth:∀ (ms:List Int) hh',hh'≤h→HP v hh' ms→HP (BR v x w) hh' ms:=by
  intro ms hh' hhh hok
  refine⟨fun q=>?_,fun q=>?_⟩
  ·have q:-(ms.getD 0 0)∈(v.trail++[x]).take hh':=q
   rw[htk hh' hhh]at q
   obtain⟨k1,k2⟩:=hok.1 q
   refine⟨qW _ k1,?_⟩
   rw[hlev (.inl k1),hlev (.inr (qg q))]
   exact k2
  ·have q:-(ms.getD 1 0)∈(v.trail++[x]).take hh':=q
   rw[htk hh' hhh]at q
   obtain⟨k1,k2⟩:=hok.2 q
   refine⟨qW _ k1,?_⟩
   rw[hlev (.inl k1),hlev (.inr (qg q))]
   exact k2
 exact⟨k.wat,k.wcl,k.wnd,fun c ls b hc h2=>⟨hoth ls _ (by omega) (k.wok c ls b hc h2).1,fun hx=>hoth ls _ (qI _) ((k.wok c ls b hc h2).2 hx)⟩⟩
theorem CI.guess {n : Nat} {F : List (List Int)} {v : Sv} (k : CI n F v.trail.length v) {b : Nat} (h1 : 1 ≤ b) (hb : b ≤ n) (ho : v.value.getD b 0 = 0) : CI n F v.trail.length (Cu     v b) ∧ (Cu     v b).trail.length = v.trail.length + 1 := by
  have hph:=k.phase b h1 hb
  have hV:VL n ((b:Int) * v.phase.getD b 0):=by rcases hph with e | e<;>rw[e]<;>constructor<;>omega
  have hab:((b:Int) * v.phase.getD b 0).natAbs=b:=by rcases hph with e | e<;>rw[e]<;>omega
  have ho':v.value.getD ((b:Int) * v.phase.getD b 0).natAbs 0=0:=by rw[hab];exact ho
  have hct:=k.ct.guess hV ho'
  have hi:=k.ct.inv
  have hgt:(Cu v b).trail.length=v.trail.length+1:=by
    show(v.trail++[_]).length=_
    rw[qM];rfl
  refine⟨⟨hct,?_,by rw[hgt];omega,?_,?_,?_,k.imp,k.cover,k.phase⟩,hgt⟩
  · have := k.cw.assign hi (qI          _) ho' none
    exact ⟨this.wat, this.wcl, this.wnd, fun c ls b' hc h2 => by
      obtain⟨r1,r2⟩:=this.wok c ls b' hc h2
      have conv:∀hh,hh≤v.trail.length→HP v hh ls→HP (Cu v b) hh ls:=by
        intro hh hhh hok
        have habs:∀ {y:Int},(y∈v.trail∨-y∈v.trail)→y.natAbs≠((b:Int) * v.phase.getD b 0).natAbs:=by
          rintro y (hy | hy)
          · exact hi.abs_ne ho' hy
          · have:=hi.abs_ne ho' hy
            rw[qf]at this
            exact this
        have hlev:∀ {y:Int},(y∈v.trail∨-y∈v.trail)→lv (Cu v b) y=lv v y:=fun hy=>by
          show(v.level.set _ _).getD _ 0=_
          rw[getD_set_ne (habs hy)]
        have htk:(v.trail++[(b:Int) * v.phase.getD b 0]).take hh=v.trail.take hh:=qm hhh
        refine⟨fun q=>?_,fun q=>?_⟩
        · have q:-(ls.getD 0 0)∈(v.trail++[(b:Int) * v.phase.getD b 0]).take hh:=q
          rw[htk]at q
          obtain⟨k1,k2⟩:=hok.1 q
          refine⟨qW _ k1,?_⟩
          rw[hlev (.inl k1),hlev (.inr (qg q))]
          exact k2
        · have q:-(ls.getD 1 0)∈(v.trail++[(b:Int) * v.phase.getD b 0]).take hh:=q
          rw[htk]at q
          obtain⟨k1,k2⟩:=hok.2 q
          refine⟨qW _ k1,?_⟩
          rw[hlev (.inl k1),hlev (.inr (qg q))]
          exact k2
      obtain⟨q1,q2⟩:=k.cw.wok c ls b' hc h2
      exact⟨conv _ (by omega) q1,fun hx=>conv _ (qI _) (q2 hx)⟩⟩
  · intro x hx
    have hx:x∈v.limits++[(v.trail.length:Int)]:=hx
    rcases List.mem_append.1 hx with q | q
    · exact k.lh x q
    · rw[List.mem_singleton.1 q];omega
  · intro c ls b' hc hl
    obtain⟨g1,g2⟩:=k.unit c ls b' hc hl
    refine⟨qW _ g1,?_⟩
    show(v.level.set _ _).getD _ 0=0
    rw[getD_set_ne (hi.abs_ne ho' g1)]
    exact g2
  · intro j t ht c ls b' hc
    have ht:(v.limits++[(v.trail.length:Int)])[j]? = some t:=ht
    have htk:∀s,s≤v.trail.length→(Cu v b).trail.take s=v.trail.take s:=fun s hs=>qm hs
    rcases G4 ht with⟨q1,q2⟩ | ⟨q1,q2⟩
    · have:=k.ct.below t (qL q2)
      exact(k.i7 j t q2 c ls b' hc).take (htk _ (by omega))
    · subst q2
      have:I7 v.trail v.trail.length ls:=by
        unfold I7
        rw[qr]
        obtain⟨c1,c2,c3,c4⟩:=k.ct.cls c ls b' hc
        by_cases hl1:ls.length=1
        · obtain⟨g1,g2⟩:=k.unit c ls b' hc hl1
          exact .inl ⟨ls.getD 0 0,qL (AR (by omega)),g1⟩
        · have h2:2≤ls.length:=by
            have:=List.length_pos_iff.2 c2
            omega
          have hok:=(k.cw.wok c ls b' hc h2).2 (by simp)
          unfold HP at hok
          rw[qr]at hok
          have m0:ls.getD 0 0∈ls:=qL (AR (by omega))
          have m1:ls.getD 1 0∈ls:=qL (AR (by omega))
          by_cases f0:-(ls.getD 0 0)∈v.trail
          · exact .inl ⟨_,m1,(hok.1 f0).1⟩
          · by_cases f1 : -(ls.getD 1 0) ∈ v.trail
            · exact .inl ⟨_,m0,(hok.2 f1).1⟩
            · refine .inr ⟨_,m0,_,m1,fun e=>?_,f0,f1⟩
              have:=EP c3 (i:=0) (j:=1) (by omega) (by omega) (by rw[e])
              cases this
      have e:((v.trail.length:Int)).toNat=v.trail.length:=by omega
      rw[e]
      exact this.take (htk _ (qI _))
def Er(W:List (List Nat))(c:Nat)(L:List Int):List (List Nat):=if 1<L.length then Cx (Cx W (place (L.getD 0 0)) c) (place (L.getD 1 0)) c else W
def withC(v:Sv)(c:Nat)(L:List Int)(b:Bool×Bool):Sv:={ v with cl:=AP v.cl c (L,b),watches:=Er v.watches c L }
theorem QQ(W:List (List Nat))(c:Nat)(L:List Int):(Er W c L).length=W.length:=by
 unfold Er
 split
 ·rw[C9,C9]
 ·rfl
theorem Bj{cl:Nat→Option A6}{c d:Nat}{L ms:List Int}{b t:Bool×Bool}(h:AP cl c (L,b) d=some (ms,t)):(d=c∧ms=L∧t=b)∨(d≠c∧cl d=some (ms,t)):=by
 unfold AP at h
 by_cases e:d=c
 ·rw[if_pos e]at h
  injection h with h
  injection h with q1 q2
  exact .inl ⟨e,q1.symm,q2.symm⟩
 ·rw[if_neg e]at h
  exact .inr ⟨e,h⟩
theorem bj{W:List (List Nat)}{c:Nat}{L:List Int}(h2:1<L.length)(h0:place (L.getD 0 0)<W.length)(h1:place (L.getD 1 0)<W.length)(hne:place (L.getD 0 0)≠place (L.getD 1 0))(k:Nat):
  (Er W c L).getD k []=if k=place (L.getD 1 0)∨k=place (L.getD 0 0)then W.getD k []++[c]else W.getD k []:=by
 unfold Er
 rw[if_pos h2,Ie (by rw[C9];exact h1)]
 by_cases e1:k=place (L.getD 1 0)
 ·rw[if_pos e1,if_pos (.inl e1),Ie h0,if_neg (fun q=>hne q.symm),e1]
 ·rw[if_neg e1,Ie h0]
  by_cases e0:k=place (L.getD 0 0)
  ·rw[if_pos e0,if_pos (.inr e0),e0]
  ·rw[if_neg e0,if_neg (by rintro(q | q);exact e1 q;exact e0 q)]
theorem A7.watched{n:Nat}{v:Sv}(hi:A7 n v){k d:Nat}(h:d∈v.watches.getD k []):∃ls b,v.cl d=some (ls,b):=by
 rw[qe]at h
 cases hk:v.watches[k]? with
 | none=>rw[hk]at h;cases h
 | some M =>
  rw[hk]at h
  obtain⟨ls,b,q,_⟩:=hi.wc M (qL hk) d h
  exact⟨ls,b,q⟩
theorem CW.put {n h : Nat} {w : Sv} (k : CW w h []) (hwc : ∀ k d, d ∈ w.watches.getD k [] → w.cl d ≠ none) {c : Nat} (hc : w.cl c = none) {L : List Int} (hL : A9    n L) (hne : L ≠ []) (hnd : (L.map Int.natAbs).Nodup) (hwl : w.watches.length = 2 * n + 2) (b : Bool × Bool) (hok : 2 ≤ L.length → HP  w h L) : CW (withC w c L b) h [] := by
  have hcn:∀k,c ∉ w.watches.getD k []:=fun k q=>hwc k c q hc
  have hold:∀ {d:Nat} {ms:List Int} {t:Bool×Bool},w.cl d=some (ms,t)→d≠c:=fun hd e=>by rw[e,hc]at hd;cases hd
  by_cases h2:1<L.length
  · have v0 := hL.get (k := 0) (by omega)
    have v1:=hL.get (k:=1) h2
    have p0:place (L.getD 0 0)<w.watches.length:=by rw[hwl];exact VL.place v0
    have p1:place (L.getD 1 0)<w.watches.length:=by rw[hwl];exact VL.place v1
    have pne:place (L.getD 0 0)≠place (L.getD 1 0):=fun e=>by
      have:=EQ v0.1 v1.1 e
      have:=EP hnd (i:=0) (j:=1) (by omega) (by omega) (by rw[this])
      cases this
    have hg:=bj (c:=c) h2 p0 p1 pne
    refine⟨fun d ms t hd JB=>?_,fun j d ms t hj hd=>?_,fun j=>?_,fun d ms t hd JB=>?_⟩
    · show d∈(Er w.watches c L).getD _ []∧d∈(Er w.watches c L).getD _ []
      rcases Bj hd with⟨rfl,rfl,rfl⟩ | ⟨e,q⟩
      · rw[hg,hg,if_pos (.inr rfl),if_pos (.inl rfl)]
        exact⟨by simp,by simp⟩
      · have:=k.wat d ms t q JB
        rw[hg,hg]
        constructor
        · split
          · exact qW _ this.1
          · exact this.1
        · split
          · exact qW _ this.2
          · exact this.2
    · have hj':d∈(Er w.watches c L).getD j []:=hj
      rw[hg]at hj'
      clear hj
      rcases Bj hd with⟨rfl,rfl,rfl⟩ | ⟨e,q⟩
      · split at hj'
        · rename_i z;exact z.symm
        · exact absurd hj' (hcn j)
      · refine k.wcl j d ms t ?_ q
        split at hj'
        · rcases List.mem_append.1 hj' with z | z
          · exact z
          · exact absurd (List.mem_singleton.1 z) e
        · exact hj'
    · show((Er w.watches c L).getD j []).Nodup
      rw[hg]
      split
      · rw[rH]
        exact⟨k.wnd j,by simp,fun a ha d hd e=>by rw[List.mem_singleton.1 hd]at e;exact hcn j (by rw[← e];exact ha)⟩
      · exact k.wnd j
    · rcases Bj        hd with ⟨rfl, rfl, rfl⟩ | ⟨e, q⟩
      · have:HP (withC w d ms t) h ms:=hok (by omega)
        exact⟨this.mono (by omega),fun _=>this⟩
      · exact k.wok d ms t q JB
  · have e:Er w.watches c L=w.watches:=by unfold Er;rw[if_neg h2]
    refine⟨fun d ms t hd JB=>?_,fun j d ms t hj hd=>?_,fun j=>?_,fun d ms t hd JB=>?_⟩
    · show d∈(Er w.watches c L).getD _ []∧d∈(Er w.watches c L).getD _ []
      rw[e]
      rcases Bj hd with⟨rfl,rfl,rfl⟩ | ⟨e,q⟩
      · omega
      · exact k.wat d ms t q JB
    · have hj':d∈(Er w.watches c L).getD j []:=hj
      rw[e]at hj'
      clear hj
      rcases Bj hd with⟨rfl,rfl,rfl⟩ | ⟨e,q⟩
      · exact absurd hj' (hcn j)
      · exact k.wcl j d ms t hj' q
    · show((Er w.watches c L).getD j []).Nodup
      rw[e];exact k.wnd j
    · rcases Bj        hd with ⟨rfl, rfl, rfl⟩ | ⟨e, q⟩
      · omega
      · exact k.wok d ms t q JB
theorem A7.withC{n:Nat}{v:Sv}(hi:A7 n v){c:Nat}(hc:v.cl c=none){L:List Int}(hL:A9 n L)(b:Bool×Bool):A7 n (withC v c L b)∧A7 n { v with cl:=AP v.cl c (L,b) }:=by
 have h1:A7 n { v with cl:=AP v.cl c (L,b) }:=by
  obtain⟨⟨hz,hv,hli,hlm⟩,g2,g3,g4,g5⟩:=hi
  refine⟨⟨⟨hz.small,hz.w,hz.value,hz.level,hz.why,hz.heat,hz.phase,hz.trail,hz.limits⟩,hv,hli,hlm⟩,g2,g3,g4,fun M hM d hd=>?_⟩
  obtain⟨ls,t,q1,q2⟩:=g5 M hM d hd
  refine⟨ls,t,?_,q2⟩
  show AP _ _ _ d=_
  unfold AP
  rw[if_neg (fun e=>by rw[e,hc]at q1;cases q1)]
  exact q1
 refine⟨?_,h1⟩
 unfold Go.Proofs.Ytilhhmkdcoajnaa.Am.withC Er
 split
 ·rename_i h2
  have:=(h1.put (Ao _ _ _) hL (by omega) (place (L.getD 0 0))).put (c:=c) (ls:=L) (b:=b) (Ao _ _ _) hL (by omega) (place (L.getD 1 0))
  exact this
 ·exact h1
structure ce(F F':List (List Int))(L:List Int):Prop where
 sub:∀σ,By σ F'→By σ F
 cov:∀f∈F',f∈F∨(∃y∈f,-y∈f)∨∀y∈L,y∈f
theorem CI.follow {n h : Nat} {F F' : List (List Int)} {v : Sv} (k : CI n F h v) {c : Nat} (hc : v.cl c = none) {L : List Int} (hL : A9    n L) (hne : L ≠ []) (hnd : (L.map Int.natAbs).Nodup) {b : Bool × Bool} (hb : b.2 = false) (hF : ce   F F' L)
    (ho:v.value.getD (L.getD 0 0).natAbs 0=0) (hr:∀y∈L,y≠L.getD 0 0→-y∈v.trail) (h1:2≤L.length→lv v (L.getD 1 0)=(v.limits.length:Int)) (hu:L.length=1→v.limits=[]) (hi7:∀ (j:Nat) (t:Int),v.limits[j]? = some t→I7 v.trail t.toNat L) (himp:∀σ,By σ F'→∃y∈L,FH σ y):
    CI n F' h (BR (withC v c L b) (L.getD 0 0) (some c)):=by
  have hi:=k.ct.inv
  have hpos:0<L.length:=List.length_pos_iff.2 hne
  have hV0:=hL.get hpos
  obtain⟨hw1,hw2⟩:=hi.withC hc hL b
  have hct0:CT n { v with cl:=AP v.cl c (L,b) }:=k.ct.put hc hL hne hnd hb hw2
  have hct1:CT n (withC v c L b):=hct0.of hw1 rfl rfl rfl rfl rfl
  have hct:CT n (BR (withC v c L b) (L.getD 0 0) (some c)):=hct1.assign hV0 ho (Ao _ _ _) rfl hr
  have habs:∀ {y:Int},(y∈v.trail∨-y∈v.trail)→y.natAbs≠(L.getD 0 0).natAbs:=by
    rintro y (hy | hy)
    · exact hi.abs_ne ho hy
    · have:=hi.abs_ne ho hy
      rw[qf]at this
      exact this
  have hlev:∀ {y:Int},(y∈v.trail∨-y∈v.trail)→lv (BR v (L.getD 0 0) (some c)) y=lv v y:=fun hy=>by
    show(v.level.set _ _).getD _ 0=_
    rw[getD_set_ne (habs hy)]
  have hl0:lv (BR v (L.getD 0 0) (some c)) (L.getD 0 0)=(v.limits.length:Int):=by
    show(v.level.set _ _).getD _ 0=_
    rw[Bq (by rw[hi.fit.siz.level];have:=hV0.2;omega)]
  have hcwA:=k.cw.assign hi k.hb ho (some c)
  have hcw:CW (withC (BR v (L.getD 0 0) (some c)) c L b) h []:=by
    refine hcwA.put (n:=n) (fun j d hd=>?_) hc hL hne hnd hi.fit.siz.w b (fun h2=>⟨fun q=>?_,fun q=>⟨ql _ (List.mem_singleton.2 rfl),?_⟩⟩)
    · obtain⟨ls,t,e⟩:=hi.watched (k:=j) hd
      intro q
      have q:v.cl d=none:=q
      rw[e]at q;cases q
    · exfalso
      have q:-(L.getD 0 0)∈(v.trail++[L.getD 0 0]).take h:=q
      rw[qm k.hb]at q
      have:=qg q
      exact habs (.inr this) rfl
    · have q:-(L.getD 1 0)∈(v.trail++[L.getD 0 0]).take h:=q
      rw[qm k.hb]at q
      rw[hl0,hlev (.inr (qg q)),h1 h2]
      exact rE _
  refine⟨hct,hcw,?_,k.lh,fun d ms t hd hl=>?_,fun j t ht d ms b' hd=>?_,fun σ hσ d ms t hd=>?_,fun f hf=>?_,k.phase⟩
  · show h≤(v.trail++[_]).length
    rw[qM]
    have:=k.hb
    omega
  · rcases Bj        hd with ⟨rfl, rfl, rfl⟩ | ⟨e, q⟩
    · refine⟨ql _ (List.mem_singleton.2 rfl),?_⟩
      show lv (BR v (ms.getD 0 0) (some d)) (ms.getD 0 0)=0
      rw[hl0,hu hl];rfl
    · obtain⟨g1,g2⟩:=k.unit d ms t q hl
      refine⟨qW _ g1,?_⟩
      show lv (BR v (L.getD 0 0) (some c)) (ms.getD 0 0)=0
      rw[hlev (.inl g1)];exact g2
  · have ht : v.limits[j]? = some t := ht
    have hb':=k.ct.below t (qL ht)
    have etk:(v.trail++[L.getD 0 0]).take t.toNat=v.trail.take t.toNat:=qm (by omega)
    rcases Bj hd with⟨rfl,rfl,rfl⟩ | ⟨e,q⟩
    · exact(hi7 j t ht).take etk
    · exact(k.i7 j t ht d ms b' q).take etk
  · rcases Bj        hd with ⟨rfl, rfl, rfl⟩ | ⟨e, q⟩
    · exact himp σ hσ
    · exact k.imp σ (hF.sub σ hσ) d ms t q
  · rcases hF.cov f hf with q | q | q
    · rcases k.cover f q with z | ⟨d, ms, t, z1, z2⟩
      · exact .inl z
      · refine .inr ⟨d,ms,t,?_,z2⟩
        show AP _ _ _ d=_
        unfold AP
        rw[if_neg (fun e=>by rw[e,hc]at z1;cases z1)]
        exact z1
    · exact .inl q
    · exact .inr ⟨c,L,b,Ao _ _ _,q⟩
theorem CI.new {n h : Nat} {F F' : List (List Int)} {v : Sv} (k : CI n F h v) {c : Nat} (hc : v.cl c = none) {L : List Int} (hL : A9    n L) (hne : L ≠ []) (hnd : (L.map Int.natAbs).Nodup) {b : Bool × Bool} (hb : b.2 = false) (hF : ce   F F' L)
    (hok:2≤L.length→HP v h L) (hu:L.length=1→L.getD 0 0∈v.trail∧lv v (L.getD 0 0)=0) (hi7:∀ (j:Nat) (t:Int),v.limits[j]? = some t→I7 v.trail t.toNat L) (himp:∀σ,By σ F'→∃y∈L,FH σ y):
    CI n F' h (withC v c L b):=by
  have hi:=k.ct.inv
  obtain⟨hw1,hw2⟩:=hi.withC hc hL b
  have hct0:CT n { v with cl:=AP v.cl c (L,b) }:=k.ct.put hc hL hne hnd hb hw2
  have hct1:CT n (withC v c L b):=hct0.of hw1 rfl rfl rfl rfl rfl
  have hcw:CW (withC v c L b) h []:=by
    refine k.cw.put (n:=n) (fun j d hd q=>?_) hc hL hne hnd hi.fit.siz.w b hok
    obtain⟨ls,t,e⟩:=hi.watched (k:=j) hd
    rw[e]at q;cases q
  refine⟨hct1,hcw,k.hb,k.lh,fun d ms t hd hl=>?_,fun j t ht d ms b' hd=>?_,fun σ hσ d ms t hd=>?_,fun f hf=>?_,k.phase⟩
  · rcases Bj        hd with ⟨rfl, rfl, rfl⟩ | ⟨e, q⟩
    · exact hu hl
    · exact k.unit d ms t q hl
  · rcases Bj        hd with ⟨rfl, rfl, rfl⟩ | ⟨e, q⟩
    · exact hi7 j t ht
    · exact k.i7 j t ht d ms b' q
  · rcases Bj        hd with ⟨rfl, rfl, rfl⟩ | ⟨e, q⟩
    · exact himp σ hσ
    · exact k.imp σ (hF.sub σ hσ) d ms t q
  · rcases hF.cov f hf with q | q | q
    · rcases k.cover f q with z | ⟨d, ms, t, z1, z2⟩
      · exact .inl z
      · refine .inr ⟨d,ms,t,?_,z2⟩
        show AP _ _ _ d=_
        unfold AP
        rw[if_neg (fun e=>by rw[e,hc]at z1;cases z1)]
        exact z1
    · exact .inl q
    · exact .inr ⟨c,L,b,Ao _ _ _,q⟩
def NJ(ls:List Int)(k:Nat):Nat:=if (k:Int)∈ls then 1 else if -(k:Int)∈ls then 2 else 0
theorem TN(ls:List Int)(k:Nat):NJ ls k≤2:=by
 unfold NJ
 split
 ·omega
 ·split<;>omega
def code(ls:List Int):Nat→Nat
 | 0=>0
 | k+1=>code ls k+3 ^ k * NJ ls (k+1)
theorem IY(ls:List Int):∀k,code ls k<3 ^ k
 | 0=>by simp[code]
 | k+1=>by
  have h:=IY ls k
  have e:3 ^ (k+1)=3 ^ k * 3:=Nat.pow_succ ..
  unfold code
  have hd:=TN ls (k+1)
  rw[e]
  generalize 3 ^ k=P at *
  have:NJ ls (k+1)=0∨NJ ls (k+1)=1∨NJ ls (k+1)=2:=by omega
  rcases this with q | q | q<;>rw[q]<;>omega
theorem Le{ls ls':List Int}:∀ {k:Nat},code ls k=code ls' k→∀j,1≤j→j≤k→NJ ls j=NJ ls' j
 | 0,_,j,h1,h2=>by omega
 | k+1,h,j,h1,h2=>by
  have a1:=IY ls k
  have a2:=IY ls' k
  have d1:=TN ls (k+1)
  have d2:=TN ls' (k+1)
  unfold code at h
  have key:code ls k=code ls' k∧NJ ls (k+1)=NJ ls' (k+1):=by
   generalize 3 ^ k=P at *
   have e1:NJ ls (k+1)=0∨NJ ls (k+1)=1∨NJ ls (k+1)=2:=by omega
   have e2:NJ ls' (k+1)=0∨NJ ls' (k+1)=1∨NJ ls' (k+1)=2:=by omega
   rcases e1 with q | q | q<;>rcases e2 with r | r | r<;>rw[q,r]at h<;>rw[q,r]<;>omega
  by_cases e:j=k+1
  ·rw[e];exact key.2
  ·exact Le key.1 j h1 (by omega)
theorem bV{ls:List Int}(hnd:(ls.map Int.natAbs).Nodup){y:Int}(hy0:y≠0)(h1:y∈ls)(h2:-y∈ls):False:=by
 obtain⟨i,hi,e1⟩:=rU h1
 obtain⟨j,hj,e2⟩:=rU h2
 have k1:ls.getD i 0=y:=by rw[qe,qP hi,e1];rfl
 have k2:ls.getD j 0=-y:=by rw[qe,qP hj,e2];rfl
 have:=EP hnd hi hj (by rw[k1,k2,qf])
 subst this
 rw[k1]at k2
 omega
theorem aL{n:Nat}{ls ls':List Int}(h:code ls n=code ls' n)(hv:∀y∈ls,VL n y)(hnd:(ls.map Int.natAbs).Nodup){y:Int}(hy:y∈ls):y∈ls':=by
  obtain⟨h0,hn⟩:=hv y hy
  have hd:=Le h y.natAbs (by omega) hn
  have neg:∀z,z∈ls→-z ∉ ls:=fun z hz q=>bV hnd (hv z hz).1 hz q
  unfold NJ at hd
  rcases Int.lt_or_gt_of_ne h0 with q | q
  · have e : -(y.natAbs : Int) = y := by omega
    have e':(y.natAbs:Int)=-y:=by omega
    rw[e,e']at hd
    rw[if_neg (neg y hy),if_pos hy]at hd
    split at hd
    · cases hd
    · split at hd
      · assumption
      · cases hd
  · have e:(y.natAbs:Int)=y:=by omega
    rw[e,if_pos hy]at hd
    split at hd
    · assumption
    · split at hd<;>cases hd
theorem Pm       {n : Nat} {ls : List Int} {y : Int} (hy : y ∈ ls) (hv : VL n y) : 1 ≤ code ls n := by
  rcases rG (code ls n)with h | h
  · have e:code ls n=code [] n:=by
      rw[h]
      have:∀k,code [] k=0:=fun k=>by
        induction k with
        | zero=>rfl
        | succ k ih=>unfold code NJ;rw[ih];simp
      exact(this n).symm
    have hd:=Le e y.natAbs (by have:=hv.1;omega) hv.2
    unfold NJ at hd
    rw[if_neg (show ¬ ((y.natAbs:Int)∈([]:List Int)) by simp),if_neg (show ¬ (-(y.natAbs:Int)∈([]:List Int)) by simp)]at hd
    split at hd
    · cases hd
    · split at hd
      · cases hd
      · rename_i q1 q2
        rcases Int.lt_or_gt_of_ne hv.1 with z | z
        · exact absurd hy (by rw[show y=-(y.natAbs:Int) by omega];exact q2)
        · exact absurd hy (by rw[show y=(y.natAbs:Int) by omega];exact q1)
  · exact h
theorem Ld{ls ls':List Int}(h:∀x,x∈ls↔x∈ls'):∀k,code ls k=code ls' k
 | 0=>rfl
 | k+1=>by
  unfold code NJ
  rw[Ld h k]
  simp only[h]
structure RO(n A:Nat)(v:Sv)(C:List Nat):Prop where
 nd:C.Nodup
 mem:∀k∈C,1≤k∧k<3 ^ n∧∃c ls b,v.cl c=some (ls,b)∧code ls n=k
 many:v.many=(C.length:Int)
 lrn:v.learned.length≤C.length
 trc:v.trace.length≤C.length
 tot:CV v.watches≤2 * (A+C.length)
 room:v.room=2000
theorem RO.len{n A:Nat}{v:Sv}{C:List Nat}(h:RO n A v C):C.length≤3 ^ n - 1:=DG h.nd fun k hk=>by
 obtain⟨h1,h2,_⟩:=h.mem k hk
 omega
theorem P3(v:Sv)(r:EC):(AT v r).Perm (r.hd::r.lits):=by
 unfold AT
 cases h:BH (KB v r.lev) r.lits 0 with
 | none=>exact List.Perm.refl _
 | some i =>
  have:=(F4 h).2
  exact IB (by simp;omega) (by simp;omega)
theorem bC(v:Sv)(r:EC):(AT v r).getD 0 0=r.hd:=by
 unfold AT
 cases h:BH (KB v r.lev) r.lits 0 with
 | none=>rfl
 | some i=>exact RF (by omega) (by omega)
theorem NS{f:Int→Bool}:∀ {L:List Int}{k i:Nat},BH f L k=some i→∃y,L[i - k]? = some y∧f y=true
 | [],k,i,h=>by cases h
 | x::L,k,i,h=>by
  unfold BH at h
  split at h
  ·injection h with h
   subst h
   exact⟨x,by rw[rJ];rfl,by assumption⟩
  ·obtain⟨y,h1,h2⟩:=NS h
   have:=(F4 h).1
   exact⟨y,by rw[show i - k=(i - (k+1))+1 by omega];exact h1,h2⟩
theorem P2       {v : Sv} {r : EC}  (h : ∃ q ∈ r.lits, lv v q = r.lev) : lv v ((AT     v r).getD 1 0) = r.lev ∧ (AT     v r).getD 1 0 ∈ r.lits := by
  have hs:(BH (KB v r.lev) r.lits 0).isSome=true:=by
    rw[C5]
    obtain⟨q,h1,h2⟩:=h
    exact⟨q,h1,decide_eq_true h2⟩
  unfold AT
  cases hf:BH (KB v r.lev) r.lits 0 with
  | none=>rw[hf]at hs;cases hs
  | some i =>
    obtain⟨y,h1,h2⟩:=NS hf
    have hl:=(F4 hf).2
    have e:(Ap (r.hd::r.lits) 1 (i+1)).getD 1 0=y:=by
      by_cases hi:i=0
      · subst hi
        show(Ap (r.hd::r.lits) 1 1).getD 1 0=y
        rw[U9 (by simp;omega)]
        exact E3 (l:=r.hd::r.lits) (k:=1) h1
      · rw[PD (by simp;omega) (by omega)]
        exact E3 (l:=r.hd::r.lits) (k:=i+1) (by rw[List.getElem?_cons_succ];exact h1)
    dsimp only
    rw[e]
    exact⟨of_decide_eq_true h2,qL h1⟩
structure oe(n:Nat)(v:Sv)(L:List Int)(r:EC):Prop where
 ok:A9 n L
 ne:L≠[]
 nd:(L.map Int.natAbs).Nodup
 hd:L.getD 0 0=r.hd
 mem:∀y,y∈L↔y=r.hd∨y∈r.lits
 len:L.length=r.lits.length+1
theorem EU.list{n:Nat}{v:Sv}(h:CT n v){r:EC}(hL:EU v r):oe n v (AT v r) r:=by
 obtain⟨i,u,hu,hlu,hhd⟩:=hL.uip
 have hp:=P3 v r
 have hVu:=h.inv.fit.lits u (qL hu)
 have hV:∀y∈r.hd::r.lits,VL n y:=fun y hy=>by
  rcases qp.1 hy with e | e
  ·rw[e,hhd];exact⟨by have:=hVu.1;omega,by rw[qf];exact hVu.2⟩
  ·have:=h.inv.fit.lits _ (hL.lits y e).1
   exact⟨by have:=this.1;omega,by have:=this.2;rw[qf]at this;exact this⟩
 have hnd:((r.hd::r.lits).map Int.natAbs).Nodup:=by
  rw[rI,rf]
  refine⟨fun q=>?_,hL.nd⟩
  obtain⟨y,hy,e⟩:=List.mem_map.1 q
  obtain⟨g1,g2,g3⟩:=hL.lits y hy
  have:lv v y=lv v u:=by
   unfold lv
   rw[e,hhd,qf]
  omega
 have hlen:(r.hd::r.lits).length≤n:=by
  have:=DG hnd (n:=n) fun k hk=>by
   obtain⟨y,hy,rfl⟩:=List.mem_map.1 hk
   have:=hV y hy
   exact⟨by have:=this.1;omega,this.2⟩
  simpa using this
 have hsm:=h.inv.fit.siz.small
 have hle:=hp.length_eq
 refine⟨⟨fun y hy=>hV y (hp.mem_iff.1 hy),by omega⟩,fun e=>by rw[e]at hle;simp at hle,((hp.map _).nodup_iff).2 hnd,bC v r,fun y=>by rw[hp.mem_iff,qp],by rw[hle];rfl⟩
theorem EU.fresh{n h:Nat}{F:List (List Int)}{v:Sv}(k:CI n F h v)(hlim:v.limits≠[]){r:EC}(hL:EU v r){c:Nat}{ls:List Int}{b:Bool×Bool}(hc:v.cl c=some (ls,b)):code ls n≠code (AT v r) n:=by
  intro he
  have hl:=hL.list k.ct
  obtain⟨c1,c2,c3,c4⟩:=k.ct.cls c ls b hc
  have m1:∀y∈ls,y∈AT v r:=fun y hy=>aL he c1.1 c3 hy
  have hpos:0<v.limits.length:=List.length_pos_iff.2 hlim
  have ht:=AR (d:=(0:Int)) (show v.limits.length - 1<v.limits.length by omega)
  generalize v.limits.getD (v.limits.length - 1) 0=t at ht
  have ht0:=k.ct.lim t (qL ht)
  obtain⟨i,u,hu,hlu,hhd⟩:=hL.uip
  have hneg:∀y∈AT v r,-y∈v.trail:=fun y hy=>by
    rcases(hl.mem y).1 hy with e | e
    · rw[e,hhd,qw];exact qL hu
    · exact(hL.lits y e).1
  have hlow:∀y∈r.lits,-y∈v.trail.take t.toNat:=fun y hy=>by
    obtain⟨g1,g2,g3⟩:=hL.lits y hy
    obtain⟨j,hj⟩:=CS.1 g1
    obtain⟨q1,q2,q3⟩:=k.ct.last ht hj
    rw[Cb]at q1
    refine B6.2 ⟨j,?_,hj⟩
    rcases qN j t.toNat with z | z
    · exact z
    · have:=q1.2 z;omega
  rcases k.i7 _ t ht c ls b hc with⟨y,hy,hm⟩ | ⟨y,hy,z,hz,hne,h1,h2⟩
  · exact k.ct.inv.two (qg hm) (hneg y (m1 y hy))
  · have e1 : y = r.hd := ((hl.mem y).1 (m1 y hy)).resolve_right fun q => h1 (hlow y q)
    have e2:z=r.hd:=((hl.mem z).1 (m1 z hz)).resolve_right fun q=>h2 (hlow z q)
    exact hne (e1.trans e2.symm)
theorem Ut      {n h : Nat} {F : List (List Int)} {w : Sv} (k : CI n F h w) (hlim : w.limits ≠ []) {r : EC}  (hL : EU      w r) {c : Nat} (hc : w.cl c = none) :
    CI n F (A8 (Ab w r.lev.toNat) c (AT w r)).head.toNat (A8 (Ab w r.lev.toNat) c (AT w r))∧0≤(A8 (Ab w r.lev.toNat) c (AT w r)).head∧(A8 (Ab w r.lev.toNat) c (AT w r)).head≤((A8 (Ab w r.lev.toNat) c (AT w r)).trail.length:Int) ∧
      0≤r.lev∧r.lev<(w.limits.length:Int):=by
  have hl:=hL.list k.ct
  obtain⟨i,u,hu,hlu,hhd⟩:=hL.uip
  have hlev:0≤r.lev∧r.lev<(w.limits.length:Int):=by
    have hpos:0<w.limits.length:=List.length_pos_iff.2 hlim
    rcases hL.lev.2 with⟨_,e⟩ | ⟨q,hq,e⟩
    · omega
    · have:=hL.lits q hq;omega
  have ht:=AR (d:=(0:Int)) (show r.lev.toNat<w.limits.length by omega)
  generalize w.limits.getD r.lev.toNat 0=t at ht
  obtain⟨kb,b2,b3,b4⟩:=k.back ht
  obtain⟨ph,va,wh,tr,li,hd,e,_⟩:=B5 w r.lev.toNat
  have ecl:(Ab w r.lev.toNat).cl=w.cl:=by rw[e]
  have elv:(Ab w r.lev.toNat).level=w.level:=by rw[e]
  have ht0:=k.ct.lim t (qL ht)
  have htl:=k.ct.below t (qL ht)
  have hlt:(w.trail.take t.toNat).length=t.toNat:=by rw[qb];omega
  have low:∀ {x:Int},x∈w.trail→lv w x≤r.lev→x∈w.trail.take t.toNat:=by
    intro x hx hx2
    obtain⟨j,hj⟩:=CS.1 hx
    have hlj:lv w x=(HX w.limits j:Int):=k.ct.lev j x hj
    refine B6.2 ⟨j,?_,hj⟩
    rcases qN j t.toNat with q | q
    · exact q
    · have:=MH k.ct.sorted ht (i:=j) (by omega)
      omega
  have hui:t.toNat≤i:=by
    rcases qN i t.toNat with q | q
    · have := (MI     k.ct.sorted ht (i := i) (by omega)).2
      have hli:lv w u=(HX w.limits i:Int):=k.ct.lev i u hu
      omega
    · exact q
  have hunot:u ∉ w.trail.take t.toNat:=fun q=>by
    obtain⟨j,hj,ej⟩:=B6.1 q
    have:=k.ct.inv.one ej hu rfl
    omega
  have hunot':-u ∉ w.trail.take t.toNat:=fun q=>k.ct.inv.two (qL hu) (qg q)
  have hVu:=k.ct.inv.fit.lits u (qL hu)
  have hopen:(Ab w r.lev.toNat).value.getD ((AT w r).getD 0 0).natAbs 0=0:=by
    rw[hl.hd,hhd]
    refine kb.ct.inv.zero (by have:=hVu.1;omega) ?_ ?_
    · rw[b2];exact hunot'
    · rw[b2,qw];exact hunot
  have hfol:=kb.follow (F':=F) (c:=c) (by rw[ecl];exact hc) hl.ok hl.ne hl.nd (b:=(true,false)) rfl ⟨fun σ hσ=>hσ,fun f hf=>.inl hf⟩ hopen (fun y hy hne=>by
      rw[b2]
      rcases(hl.mem y).1 hy with q | q
      · rw[hl.hd]at hne;exact absurd q hne
      · refine low (hL.lits y q).1 ?_
        rw[Cb]
        exact hL.lev.1 y q) (fun h2=>by
      have hne:r.lits≠[]:=fun q=>by have:=hl.len;rw[q]at this;simp at this;omega
      have hex:∃q∈r.lits,lv w q=r.lev:=hL.lev.2.resolve_left fun q=>hne q.1
      have:=(P2 hex).1
      show(Ab w r.lev.toNat).level.getD _ 0=_
      rw[elv,b3,qb]
      have e:w.level.getD ((AT w r).getD 1 0).natAbs 0=r.lev:=this
      rw[e]
      omega) (fun h1=>by
      have hnil:r.lits=[]:=by
        have:=hl.len
        exact List.length_eq_zero_iff.1 (by omega)
      have hz:r.lev=0:=by
        rcases hL.lev.2 with⟨_,q⟩ | ⟨q,hq,_⟩
        · exact q
        · rw[hnil]at hq;cases hq
      rw[b3,hz];rfl) (fun j s hs=>by
      rw[b3]at hs
      have hil:=Ag hs
      have hj:j<r.lev.toNat:=by rw[qb]at hil;omega
      have hs':w.limits[j]? = some s:=by rw[qq hj]at hs;exact hs
      have hst:=(CP k.ct.sorted ht).1 s (B6.2 ⟨j,hj,hs'⟩)
      have hs0:=k.ct.lim s (qL hs')
      have hne:r.lits≠[]:=fun q=>by
        rcases hL.lev.2 with⟨_,z⟩ | ⟨y,hy,_⟩
        · omega
        · rw[q]at hy;cases hy
      have hex:∃q∈r.lits,lv w q=r.lev:=hL.lev.2.resolve_left fun q=>hne q.1
      obtain⟨q1,q2⟩:=P2 hex
      obtain⟨g1,g2,g3⟩:=hL.lits _ q2
      refine .inr ⟨r.hd,(hl.mem _).2 (.inl rfl),(AT w r).getD 1 0,(hl.mem _).2 (.inr q2),fun z=>?_,?_,?_⟩
      · rw[← z,hhd,Cb]at g3;omega
      · rw[b2,rh,rX (by omega),hhd,qw]
        exact fun q=>hunot (Ft (by omega) q)
      · rw[b2,rh,rX (by omega)]
        intro q
        obtain⟨p,hp,ep⟩:=B6.1 q
        have hlp:lv w (-((AT w r).getD 1 0))=(HX w.limits p:Int):=k.ct.lev p _ ep
        rw[Cb,q1]at hlp
        have:=(MI k.ct.sorted hs' (i:=p) (by omega)).2
        omega) (fun σ hσ=>by
      rcases hL.imp σ (k.imp σ hσ)with q | ⟨y,hy,hs⟩
      · exact⟨r.hd,(hl.mem _).2 (.inl rfl),q⟩
      · exact⟨y,(hl.mem y).2 (.inr hy),hs⟩)
  have hhead:(A8 (Ab w r.lev.toNat) c (AT w r)).head=t:=by
    unfold A8
    split<;>exact b4
  have htrail:(A8 (Ab w r.lev.toNat) c (AT w r)).trail=w.trail.take t.toNat++[(AT w r).getD 0 0]:=by
    rw[← b2]
    unfold A8
    split<;>rfl
  rw[hhead]
  refine⟨?_,ht0,by rw[htrail,qM,hlt];omega,hlev.1,hlev.2⟩
  have hw:(A8 (Ab w r.lev.toNat) c (AT w r)).watches=Er (Ab w r.lev.toNat).watches c (AT w r):=by
    unfold A8 Er
    split<;>rfl
  have hcl':(A8 (Ab w r.lev.toNat) c (AT w r)).cl=AP (Ab w r.lev.toNat).cl c (AT w r,(true,false)):=by
    unfold A8
    split<;>rfl
  have same:∀ {v' v:Sv},A7 n v→v'.trail=v.trail→v'.limits=v.limits→v'.value=v.value→v'.level=v.level→v'.why=v.why→v'.heat.length=v.heat.length→v'.phase=v.phase→v'.watches=v.watches→v'.cl=v.cl→A7 n v':=by
    intro v' v hi e1 e2 e3 e4 e5 e6 e7 e8 e9
    obtain⟨⟨hz,hv,hli,hlm⟩,g2,g3,g4,g5⟩:=hi
    exact⟨⟨⟨hz.small,by rw[e8];exact hz.w,by rw[e3];exact hz.value,by rw[e4];exact hz.level,by rw[e5];exact hz.why,e6.trans hz.heat,by rw[e7];exact hz.phase,by rw[e1];exact hz.trail,by rw[e2];exact hz.limits⟩,by rw[e3];exact hv,by rw[e1];exact hli,by rw[e1,e2];exact hlm⟩,by rw[e1];exact g2,by rw[e1,e3];exact g3,by rw[e1,e3];exact g4,by rw[e8,e9];exact g5⟩
  refine hfol.of (same hfol.ct.inv ?_ ?_ ?_ ?_ ?_ ?_ ?_ hw hcl') ?_ ?_ ?_ ?_ hcl' hw ?_
  all_goals (unfold A8;split<;>rfl)
theorem Lg(c:Int→Int→Int)(x:Int):∀q,(CZ c x q).Perm (x::q)
 | []=>List.Perm.refl _
 | y::q=>by
  unfold CZ
  split
  ·exact((Lg c x q).cons y).trans (List.Perm.swap x y q)
  ·exact List.Perm.refl _
theorem Lw(c:Int→Int→Int):∀ (R q:List Int),(R.foldl (fun q x=>CZ c x q) q).Perm (q++R)
 | [],q=>by simp
 | y::R,q=>by
  rw[q0]
  refine(Lw c R (CZ c y q)).trans ?_
  refine((Lg c y q).append_right R).trans ?_
  rw[rK]
  exact(List.perm_middle (a:=y) (l₁:=q) (l₂:=R)).symm
theorem H7(c:Int→Int→Int)(L:List Int):(GE c L).Perm L:=by
 unfold GE
 refine(List.reverse_perm _).trans ?_
 have:=Lw c L []
 rwa[qo]at this
theorem NK(g:Int→Int)(x:Int):∀ {q:List Int},q.Pairwise (fun a b=>g a≤g b)→(CZ (fun a b=>g b - g a) x q).Pairwise fun a b=>g a≤g b
  | [],_=>by simp[CZ]
  | y::q,h=>by
    rw[sD]at h
    unfold CZ
    split
    · rename_i hlt
      rw[sD]
      refine⟨fun z hz=>?_,NK g x h.2⟩
      rcases(HT _ x z q).1 hz with e | e
      · rw[e];omega
      · exact h.1 z e
    · rename_i hge
      rw[sD,sD]
      refine⟨fun z hz=>?_,h⟩
      rcases qp.1 hz with e | e
      · rw[e];omega
      · have:=h.1 z e;omega
theorem NT(g:Int→Int):∀ (R:List Int){q:List Int},q.Pairwise (fun a b=>g a≤g b)→(R.foldl (fun q x=>CZ (fun a b=>g b - g a) x q) q).Pairwise fun a b=>g a≤g b
 | [],_,h=>h
 | y::R,q,h=>by rw[q0];exact NT g R (NK g y h)
theorem Mc(g:Int→Int)(L:List Int):(GE (fun a b=>g b - g a) L).Pairwise fun a b=>g b≤g a:=by
 unfold GE
 rw[List.pairwise_reverse]
 exact NT g L List.Pairwise.nil
theorem Jt(L:List Int):(Ef L).Nodup∧∀z,z∈Ef L↔z∈L:=by
 unfold Ef
 have hs:(Ge L).Pairwise (·≤·):=by
  unfold Ge
  rw[List.pairwise_reverse]
  have:=(Lx L (q:=[]) List.Pairwise.nil).1
  exact this.imp fun h=>h
 cases h:Ge L with
 | nil =>
  have hn:L=[]:=by
   cases L with
   | nil=>rfl
   | cons x L=>have:=(J6 (x::L) x).2 (qR ..);rw[h]at this;cases this
  rw[hn]
  exact⟨List.Pairwise.nil,fun z=>Iff.rfl⟩
 | cons p l =>
  rw[h]at hs
  obtain⟨r1,r2⟩:=OX l p hs
  refine⟨?_,fun z=>?_⟩
  ·show(p::dd p l).Nodup
   exact List.Pairwise.imp (fun h=>by omega) r1
  ·show z∈p::dd p l↔z∈L
   rw[r2 z,← h,J6]
theorem Nm(v:Sv)(c:Nat)(O:List Int):Fa v c O=withC v c O (false,false):=by
 unfold Fa withC Er
 split<;>rfl
theorem Iu(W:List (List Nat))(c:Nat)(L:List Int):CV (Er W c L)≤CV W+2:=by
  unfold Er
  split
  · have h1 := CV.put  W (place (L.getD 0 0)) c
    have h2:=CV.put (Cx W (place (L.getD 0 0)) c) (place (L.getD 1 0)) c
    omega
  · omega
theorem FN{v:Sv}(h:v.broken=false):C3 v={ v with broken:=true,trace:=v.trace++[(false,[])] }:=by
 unfold C3
 rw[if_neg (by rw[h];decide)]
structure Wf(v v':Sv):Prop where
 limits:v'.limits=v.limits
 head:v'.head=v.head
 many:v'.many=v.many
 learned:v'.learned=v.learned
 room:v'.room=v.room
 tot:CV v'.watches≤CV v.watches+2
 cl:∀c l,v.cl c=some l→v'.cl c=some l
theorem Vr(F:List (List Int))(f L:List Int)(h:(∃y∈f,-y∈f)∨∀y∈L,y∈f):ce F (F++[f]) L:=
 ⟨fun σ hσ g hg=>hσ g (qW _ hg),fun g hg=>by
  rcases List.mem_append.1 hg with q | q
  ·exact .inl q
  ·rw[List.mem_singleton.1 q];exact .inr h⟩
theorem Wn     {n h : Nat} {F : List (List Int)} {v : Sv} (k : CI n F h v) (hlim : v.limits = []) (hbr : v.broken = false) {f : List Int} (hf : ∀ q ∈ f, VL n q) (hlen : f.length ≤ 12) {v' : Sv} (hr : JC   v f v') :
    (v'.broken=false∧CI n (F++[f]) h v'∧Wf v v'∧v'.trace=v.trace∧v.trail.length≤v'.trail.length) ∨
    (v'.broken=true∧A7 n v'∧Wf v v'∧v'.trace.length=v.trace.length+1∧v'.trail=v.trail∧∀σ,¬ By σ (F++[f])):=by
  have hi:=k.ct.inv
  obtain⟨ho1,ho2⟩:=Jt f
  have hl0:∀ {x:Int},x∈v.trail→lv v x=0:=fun {x} hx=>by
    obtain⟨i,e⟩:=CS.1 hx
    have:=k.ct.lev i x e
    unfold lv
    rw[this,hlim];rfl
  have same:∀ {w:Sv},A7 n w→A7 n { w with broken:=true,trace:=w.trace++[(false,[])] }:=by
    intro w hw
    obtain⟨⟨hz,hv,hli,hlm⟩,g2,g3,g4,g5⟩:=hw
    exact⟨⟨⟨hz.small,hz.w,hz.value,hz.level,hz.why,hz.heat,hz.phase,hz.trail,hz.limits⟩,hv,hli,hlm⟩,g2,g3,g4,g5⟩
  have refl:Wf v v:=⟨rfl,rfl,rfl,rfl,rfl,by omega,fun _ _ q=>q⟩
  cases hr with
  | none ht =>
    rcases ht with ht | ht
    · refine .inl ⟨hbr,?_,refl,rfl,qI _⟩
      obtain⟨y,h1,h2⟩:=J8.1 ht
      refine { ct:=k.ct,cw:=k.cw,hb:=k.hb,lh:=k.lh,unit:=k.unit,i7:=k.i7,imp:=fun σ hσ=>k.imp σ fun g hg=>hσ g (qW _ hg),cover:=fun g hg=>?_,phase:=k.phase }
      rcases List.mem_append.1 hg with q | q
      · exact k.cover g q
      · rw[List.mem_singleton.1 q]
        exact .inl ⟨y,(ho2 y).1 h1,(ho2 _).1 h2⟩
    · rw[hbr]at ht;cases ht
  | nil ht hb he =>
    right
    rw[FN hbr]
    refine⟨rfl,same hi,⟨rfl,rfl,rfl,rfl,rfl,by show CV v.watches≤_;omega,fun _ _ q=>q⟩,by show(v.trace++[_]).length=_;rw[qM];rfl,rfl,fun σ hσ=>?_⟩
    obtain⟨y,h1,_⟩:=hσ f (ql _ (List.mem_singleton.2 rfl))
    have:=(ho2 y).2 h1
    rw[he]at this
    cases this
  | @put c ht hb he hc =>
    have hp:(Bs v f).Perm (Ef f):=H7 _ _
    have hm:∀z,z∈Bs v f↔z∈f:=fun z=>by rw[hp.mem_iff];exact ho2 z
    have hdesc:(Bs v f).Pairwise fun a b=>isV v.value b≤isV v.value a:=Mc (isV v.value) (Ef f)
    have hOne:Bs v f≠[]:=fun e=>he (by have:=hp.length_eq;rw[e]at this;exact List.length_eq_zero_iff.1 this.symm)
    have hOl:(Bs v f).length≤12:=by rw[hp.length_eq];have:=Is f;omega
    have hOk:A9 n (Bs v f):=⟨fun q hq=>hf q ((hm q).1 hq),by omega⟩
    have hOnd:((Bs v f).map Int.natAbs).Nodup:=by
      have hnd:(Bs v f).Nodup:=(hp.nodup_iff).2 ho1
      rw[List.Nodup,List.pairwise_map]
      refine List.Pairwise.imp_of_mem ?_ hnd
      intro a b ha hb' hab e
      rcases Oy e with q | q
      · exact hab q
      · have:KU (Ef f)=true:=J8.2 ⟨b,hp.mem_iff.1 hb',by rw[← q];exact hp.mem_iff.1 ha⟩
        rw[ht]at this;cases this
    generalize hO:Bs v f=O at *
    have hpos:0<O.length:=List.length_pos_iff.2 hOne
    have hV0:=hOk.get hpos
    have m0:O.getD 0 0∈O:=qL (AR hpos)
    have hfirst:∀y∈O,isV v.value y≤isV v.value (O.getD 0 0):=fun y hy=>by
      cases hOc:O with
      | nil=>exact absurd hOc hOne
      | cons x l =>
        rw[hOc]at hdesc hy
        rcases qp.1 hy with e | e
        · rw[e];exact rE _
        · exact(sD.1 hdesc).1 y e
    have hsecond:∀y∈O,y≠O.getD 0 0→2≤O.length∧isV v.value y≤isV v.value (O.getD 1 0):=fun y hy hne=>by
      cases hOc:O with
      | nil=>exact absurd hOc hOne
      | cons x l =>
        rw[hOc]at hdesc hy hne
        have hy':y∈l:=(qp.1 hy).resolve_left hne
        cases hl:l with
        | nil=>rw[hl]at hy';cases hy'
        | cons z l' =>
          rw[hl]at hy' hdesc
          refine⟨by simp,?_⟩
          have h2:=(sD.1 (sD.1 hdesc).2).1
          rcases qp.1 hy' with e | e
          · rw[e];exact rE _
          · exact h2 y e
    have himp:∀σ,By σ (F++[f])→∃y∈O,FH σ y:=fun σ hσ=>by
      obtain⟨y,h1,h2⟩:=hσ f (ql _ (List.mem_singleton.2 rfl))
      exact⟨y,(hm y).2 h1,h2⟩
    have hmore:ce F (F++[f]) O:=Vr F f O (.inr fun y hy=>(hm y).1 hy)
    have hi7:∀ (j:Nat) (t:Int),v.limits[j]? = some t→I7 v.trail t.toNat O:=fun j t hj=>by rw[hlim]at hj;simp at hj
    have hfr:∀d l,v.cl d=some l→(withC v c O (false,false)).cl d=some l:=fun d l hd=>by
      show AP _ _ _ d=_
      unfold AP
      rw[if_neg fun e=>by rw[e,hc]at hd;cases hd]
      exact hd
    have htot:CV (withC v c O (false,false)).watches≤CV v.watches+2:=Iu _ _ _
    unfold JI
    rw[Nm]
    by_cases hneg:isV v.value (O.getD 0 0)<0
    · rw [if_pos hneg]
      right
      have hbw:(withC v c O (false,false)).broken=false:=hbr
      rw[FN hbw]
      refine⟨rfl,same (hi.withC hc hOk (false,false)).1,⟨rfl,rfl,rfl,rfl,rfl,htot,hfr⟩,by show(v.trace++[_]).length=_;rw[qM];rfl,rfl,fun σ hσ=>?_⟩
      obtain⟨y,hy,hs⟩:=himp σ hσ
      have hy0:=(hOk.1 y hy).1
      have hny:-y∈v.trail:=(hi.neg hy0).1 (by have:=hfirst y hy;omega)
      obtain⟨i,e⟩:=CS.1 hny
      exact hs.neg (k.ct.zero (k.imp σ (hmore.sub σ hσ)) i (-y) e (hl0 hny))
    · rw[if_neg hneg]
      left
      by_cases hcond:isV v.value (O.getD 0 0)=0∧(O.length=1∨isV v.value (O.getD 1 0)<0)
      · rw[if_pos hcond]
        have hothers:∀y∈O,y≠O.getD 0 0→-y∈v.trail:=fun y hy hne=>by
          obtain⟨g1,g2⟩:=hsecond y hy hne
          have h1n:isV v.value (O.getD 1 0)<0:=by
            rcases hcond.2 with q | q
            · omega
            · exact q
          exact(hi.neg (hOk.1 y hy).1).1 (by omega)
        have hfol:=k.follow (F':=F++[f]) hc hOk hOne hOnd (b:=(false,false)) rfl hmore (F9 hcond.1) hothers (fun h2=>by
          have m1:O.getD 1 0∈O:=qL (AR (by omega))
          have hne:O.getD 1 0≠O.getD 0 0:=fun e=>by
            have:=EP hOnd (i:=1) (j:=0) (by omega) (by omega) (by rw[e])
            cases this
          have:=hl0 (hothers _ m1 hne)
          rw[Cb]at this
          rw[this,hlim];rfl) (fun _=>hlim) hi7 himp
        exact⟨hbr,hfol,⟨rfl,rfl,rfl,rfl,rfl,htot,hfr⟩,rfl,by show _≤(v.trail++[_]).length;rw[qM];omega⟩
      · rw[if_neg hcond]
        have hnew:=k.new (F':=F++[f]) hc hOk hOne hOnd (b:=(false,false)) rfl hmore (fun h2=>by
          have m1:O.getD 1 0∈O:=qL (AR (by omega))
          have hV1:=hOk.1 _ m1
          by_cases hp0:0<isV v.value (O.getD 0 0)
          · have hin:=(hi.pos hV0.1).1 hp0
            refine⟨fun q=>(hi.two hin (qg q)).elim,fun q=>⟨hin,?_⟩⟩
            have:=hl0 (qg q)
            rw[Cb]at this
            rw[hl0 hin,this]
            exact rE _
          · have hz : isV v.value (O.getD 0 0) = 0 := by omega
            have hn1:¬ isV v.value (O.getD 1 0)<0:=fun q=>hcond ⟨hz,.inr q⟩
            refine⟨fun q=>?_,fun q=>?_⟩
            · have:=(hi.neg hV0.1).2 (qg q);omega
            · exact absurd ((hi.neg hV1.1).2 (qg q)) hn1) (fun h1=>by
          have hp0:0<isV v.value (O.getD 0 0):=by
            have:isV v.value (O.getD 0 0)≠0:=fun q=>hcond ⟨q,.inl h1⟩
            omega
          have hin:=(hi.pos hV0.1).1 hp0
          exact⟨hin,hl0 hin⟩) hi7 himp
        exact⟨hbr,hnew,⟨rfl,rfl,rfl,rfl,rfl,htot,hfr⟩,rfl,qI _⟩
section
variable{E:BN}{K:List AV→AF→Prop}{ow:Ow}{s:AF}{p:Nat}{x:Sf}{v:Sv}
theorem fO(hE:Good E)(h:Ah ow s p x v){n:Nat}(hz:fP n v){b:Nat}(h1:1≤b)(hb:b≤n)(hp:v.phase.getD b 0=1∨v.phase.getD b 0=-1){x1 x2 x3 x4 x5 x7 x8 x9 x10 x11 x12 x13:AV}(hK:∀s' ow' x',Ah ow' s' p x' (BR v ((b:Int) * v.phase.getD b 0) none)→AH (Bb p) ow s ow' s'→K [AV.ptr (some (p,0)),x1,x2,x3,x4,x5,iv (b:Int),x7,x8,x9,x10,x11,x12,x13] s'):
  Qb E Se K [] [AV.ptr (some (p,0)),x1,x2,x3,x4,x5,iv (b:Int),x7,x8,x9,x10,x11,x12,x13] s:=by
 have hsm:=hz.small
 have hph:=hz.phase
 have hg:=AR (d:=(0:Int)) (show b<v.phase.length by omega)
 have i1:=h.phase.addr Try.underlying23 Bt (k:=b) (by rw[qK];omega)
 have i2:=h.phase.get (t:=3) Dg (k:=b) (Au hg)
 have e1:=OB Try.prog 3 (b:Int) (v.phase.getD b 0) (by rcases hp with e | e<;>rw[e]<;>constructor<;>omega)
 have hV:VL n ((b:Int) * v.phase.getD b 0):=by rcases hp with e | e<;>rw[e]<;>constructor<;>omega
 have hasg:=F2 hE h hz hV none
 have hwn:HN none=.ptr none:=rfl
 rw[hwn]at hasg
 simp only[Se,AG,TR,h.ld_ph,i1,i2,e1,Qb,Qc,Qd,Qf,Qh,Qi,Qj,Qk,Qm,Qn,true_and,Qq,Qr,Qs]
 refine hasg.mono ?_
 rintro _ s1 ⟨ow1,x1,g1,g2,_⟩
 simp only[Qd,Qn,true_and]
 exact hK s1 ow1 x1 g1 g2.b
end
theorem I3{E:BN}(hE:Good E){ow:Ow}{s:AF}{p:Nat}{x:Sf}{v:Sv}(h:Ah ow s p x v)(hb:v.broken=true){Q:A0→Prop}{x1 x2 x3 x4 x5 x6 x7 x8 x9 x10 x11 x12 x13:AV}
  (hq:∀y8,Q ⟨.exit 0,[AV.ptr (some (p,0)),x1,x2,x3,x4,x5,x6,x7,y8,x9,x10,x11,x12,x13],[],s⟩):
  WC E none (.loop DO) Q [AV.ptr (some (p,0)),x1,x2,x3,x4,x5,x6,x7,x8,x9,x10,x11,x12,x13] [] s:=by
 have ld:=h.ld_broken
 rw[hb]at ld
 refine WC.loop' ?_
 generalize hW:WC E none (Ac.loop DO) Q=W
 simp only[DO,US,AG,GQ,ld,Qa,Qb,Qc,Qd,Qf,Qh,Qj,Qk,Qm,Qn,true_and,Qo,Qp,Qq,Qr,Qs,Qv,Qw,Qx,Qy,Qz,Ra,Rb,Ya,Rx]
 exact hq _
theorem T1         {E : BN}  (hE : Good E) {n most : Nat} {I : Nat → Sv → Prop} {R : Int → Sv → Prop} (hl : IP       n most I R) (hn : n ≤ 500000) (hmost : most ≤ 1000000) {p k u : Nat} (hu : u ≤ 100000000) {ow0 : Ow} {s0 : AF}  {ow : Ow} {s : AF}  {x : Sf} {v : Sv} (h : Ah  ow s p x v) (hI : I k v) (hst : AH   (Bb   p) ow0 s0 ow s) {Q : A0   → Prop} {x5 x6 x7 x8 x9 x10 x11 x12 x13 : AV}
    (hend:∀s' ow' x' v' y5 y6 y7 y8 y9 y10 y11 y12 y13 k' u',R 0 v'→Ah ow' s' p x' v'→AH (Bb p) ow0 s0 ow' s'→Q ⟨.exit 0,[AV.ptr (some (p,0)),iv (most:Int),iv 0,u',k',y5,y6,y7,y8,y9,y10,y11,y12,y13],[],s'⟩)
    (hret:∀s' ow' x' v' r y3 y4 y5 y6 y7 y8 y9 y10 y11 y12 y13,R r v'→Ah ow' s' p x' v'→AH (Bb p) ow0 s0 ow' s'→Q ⟨.ret,[AV.ptr (some (p,0)),iv (most:Int),iv r,y3,y4,y5,y6,y7,y8,y9,y10,y11,y12,y13],[],s'⟩)
    (hnext:∀s' ow' x' v' k' u' y5 y6 y8 y9 y10 y11 y12 y13,I k' v'→(k<k'∧u'=u∨k'=k∧u≤k∧u'=u+32∨k'=k∧u'=u∧v.trail.length<v'.trail.length)→Ah ow' s' p x' v'→AH (Bb p) ow0 s0 ow' s'→WC E none (.loop DO) Q [AV.ptr (some (p,0)),iv (most:Int),iv 0,iv (u':Int),iv (k':Int),y5,y6,x7,y8,y9,y10,y11,y12,y13] [] s'):
    WC E none (.loop DO) Q [AV.ptr (some (p,0)),iv (most:Int),iv 0,iv (u:Int),iv (k:Int),x5,x6,x7,x8,x9,x10,x11,x12,x13] [] s:=by
  have hbr:∀ {ow:Ow} {s:AF} {x:Sf} {v:Sv} {y5 y6 y8 y9 y10 y11 y12 y13:AV},Ah ow s p x v→v.broken=true→R 0 v→AH (Bb p) ow0 s0 ow s→WC E none (.loop DO) Q [AV.ptr (some (p,0)),iv (most:Int),iv 0,iv (u:Int),iv (k:Int),y5,y6,x7,y8,y9,y10,y11,y12,y13] [] s:=
    fun h hb hR hst=>I3 hE h hb fun y8=>hend _ _ _ _ _ _ _ _ _ _ _ _ _ _ _ hR h hst
  cases hb:v.broken with
  | true=>exact hbr h hb (hl.brk hI hb) hst
  | false =>
    have ld:=h.ld_broken
    rw[hb]at ld
    obtain⟨hk,hi2⟩:=hl.ok hI
    refine WC.loop' ?_
    generalize hW:WC E none (Ac.loop DO) Q=W at hnext hbr
    simp only[DO,US,AG,GQ,ld,YX,Qa,Qb,Qc,Qd,Qf,Qh,Qj,Qk,Qm,Qn,true_and,Qo,Qp,Qq,Qr,Qs,Qu,Qw,Qx,Qy,Qz,Ra,Rb,Yb,Rx]
    refine(It hE h (B:=50000000) (qI _) hi2).mono ?_
    rintro _ s1 ⟨c,v1,ow1,x1,hp,rfl,h1,st1⟩
    obtain⟨m1,m2,m3,m4,m5⟩:=hl.mid hI hb hp
    obtain⟨hi1,hlim⟩:=hp.keep hi2
    have hf1:=hi1.inv.fit
    have hz1:=hf1.siz
    have htr:=hp.trail
    have stA:=hst.trans st1
    have hlimB:∀s,Aq Try.prog s 23 x1.lim=some (iv (v1.limits.length:Int)):=fun s=>by
      have:=h1.limits.len Try.underlying23 s
      rw[qK]at this
      exact this
    cases c with
    | some c =>
      simp only[PV,Jb,Option.isSome,YY,AG,G2,h1.ld_lim,hlimB,Qb,Qc,Qd,Qf,Qh,Qi,Qj,Qk,Qm,Qn,true_and,Qo,Qp,Qq,Qr,Qs,Qu,Rv]
      by_cases hl0:v1.limits=[]
      · have d0:decide ((v1.limits.length:Int)=0)=true:=decide_eq_true (by rw[hl0];rfl)
        simp only[d0,SO,Qb,Qc,Qf,Qh,Qj,Qq,Qs,Qu]
        refine(Kl hE h1 m1).mono ?_
        rintro _ s2 ⟨ow2,x2,g1,g2,_⟩
        simp only[if_true,Qd,Qn,true_and]
        have hfb:(C3 v1).broken=true:=by
          unfold C3
          split
          · assumption
          · rfl
        exact hbr g1 hfb (hl.fail hI hb hp hl0) (stA.trans g2.b)
      · have d0:decide ((v1.limits.length:Int)=0)=false:=decide_eq_false fun q=>hl0 (List.length_eq_zero_iff.1 (by omega))
        by_cases hmk:most≤k
        · have d1 : decide ((most : Int) ≤ (k : Int)) = true := decide_eq_true (by omega)
          have hback:WF E 63 [.ptr (some (p,0)),.int .i64 0] (fun _ s'=>∃x',Ah ow1 s' p x' (Ab v1 0)∧AH (BU p) ow1 s1 ow1 s'∧x'.w=x1.w) s1:=DR hE h1 hf1 (level:=0) (by decide)
          simp only[d0,LC,d1,SP,Qb,Qc,Qd,Qf,Qh,Qi,Qj,Qk,Qm,Qn,true_and,Qo,Qp,Qq,Qr,Qs,Qu,Qv,Ru]
          refine hback.mono ?_
          rintro _ s2 ⟨x2,g1,g2,_⟩
          simp only[SQ,Qb,Qc,Qd,Qf,Qh,Qi,Qm,Qn,true_and,Qo,Qp,Qs]
          exact hret s2 ow1 x2 _ 2 _ _ _ _ _ _ _ _ _ _ _ (hl.unk hI hb hp hl0 hmk) g1 (stA.trans g2.b)
        · have d1 : decide ((most : Int) ≤ (k : Int)) = false := decide_eq_false (by omega)
          have e1:=Ai Try.prog 3 (k:Int) 1 ⟨by omega,by omega⟩
          have e1':((k:Int)+1)=((k+1:Nat):Int):=by omega
          obtain⟨r,r1,r2,r3,r4,r5⟩:=hl.lrn hI hb hp hl0 (by omega)
          simp only[d0,LC,d1,SR,e1,e1',HN,AK,Qb,Qc,Qd,Qf,Qh,Qi,Qj,Qk,Qm,Qn,true_and,Qo,Qp,Qq,Qr,Qs,Qv,Ru]
          refine fK h1 ?_
          intro s2 h2 st2
          try simp only[Qa,Qb,Qc,Qd,Qe,Qf,Qg,Qh,Qi,Qj,Qk,Ql,Qm,Qn,true_and,and_true,Qo,Qp,Qq,Qr,Qs,Qt,Qu,Qv,Qw,Qx,Qy,Qz,Ra,Rb,Rc,Rd,Re,Rf,Rg,Rh,Ri,Rj,Rk,Rl,Rm,Ya,Yb,Yc,Rn,Ro,Rp,Yd,Ye,Rq,Rs,Rt,Ru,Rv,Rw,Rx]
          refine fL hE h2 hn hf1 m4 r1 r2 r3 r4 m1 (by have:=hi1.tot;omega) m2 ?_
          intro s3 ow3 x3 h' cn f1 f2 f3 f4
          simp only[if_true]
          exact hnext s3 ow3 x3 _ (k+1) u _ _ _ _ _ _ _ _ (r5 h' cn f1 f2) (.inl ⟨by omega,rfl⟩) f3 ((stA.trans st2.b).trans f4)
    | none =>
      simp only[PV,Jb,Option.isSome,SU,Qb,Qc,Qd,Qf,Qh,Qi,Qj,Qm,Qn,true_and,Qo,Qp,Qq,Qr,Qs,Qv,Ru]
      by_cases huk:u≤k
      · have d1 : decide ((u : Int) ≤ (k : Int)) = true := decide_eq_true (by omega)
        have e1:=Ai Try.prog 3 (u:Int) 32 ⟨by omega,by omega⟩
        have e1':((u:Int)+32)=((u+32:Nat):Int):=by omega
        simp only[d1,SV,e1,e1',SW,Qb,Qc,Qd,Qf,Qh,Qi,Qj,Qk,Qm,Qn,true_and,Qo,Qp,Qq,Qr,Qs,Qu]
        refine(Uj hE h1 (by have:=hz1.heat;have:=hz1.small;omega)).mono ?_
        rintro _ s2 ⟨h',h2,hl2,st2⟩
        have hf2:Mt n (BB v1 h'):=⟨⟨hz1.small,hz1.w,hz1.value,hz1.level,hz1.why,hl2.trans hz1.heat,hz1.phase,hz1.trail,hz1.limits⟩,hf1.val,hf1.lits,hf1.lims⟩
        have hback:WF E 63 [.ptr (some (p,0)),.int .i64 0] (fun _ s'=>∃x',Ah ow1 s' p x' (Ab (BB v1 h') 0)∧AH (BU p) ow1 s2 ow1 s'∧x'.w=x1.w) s2:=DR hE h2 hf2 (level:=0) (by decide)
        simp only[SX,Qb,Qc,Qd,Qf,Qh,Qi,Qj,Qn,true_and,Qq,Qs]
        refine hback.mono ?_
        rintro _ s3 ⟨x3,h3,st3,_⟩
        obtain⟨q1,q2⟩:=hl.cool hI hb hp h' hl2
        have hroom:(Ab (BB v1 h') 0).room=v1.room:=by
          obtain⟨ph,va,wh,tr,li,hd,e,_⟩:=B5 (BB v1 h') 0
          rw[e]
          rfl
        simp only[SY,Qb,Qc,Qd,Qf,Qh,Qj,Qn,true_and,Qq,Qs]
        refine(NN hE h3 (by rw[q2,hroom];exact m3)).mono ?_
        rintro _ s4 ⟨ow4,h4,st4⟩
        simp only[if_true,Qd,Qn,true_and]
        exact hnext s4 ow4 x3 _ k (u+32) _ _ _ _ _ _ _ _ q1 (.inr (.inl ⟨rfl,huk,rfl⟩)) h4 (((stA.trans st2.b).trans st3.b).trans st4.b)
      · have d1:decide ((u:Int)≤(k:Int))=false:=decide_eq_false (by omega)
        simp only[d1,SZ,Qb,Qc,Qd,Qf,Qh,Qj,Qk,Qm,Qn,true_and,Qq,Qs,Qv]
        refine(Uy hE h1 hz1.small hz1.value hz1.heat).mono ?_
        rintro _ s2 ⟨b,ow2,rfl,hnx,h2,st2⟩
        have stB:=stA.trans st2.b
        rcases hnx with⟨hb0,hall⟩ | ⟨hb1,hb2,hb3⟩
        · have d2:decide ((b:Int)=0)=true:=decide_eq_true (by omega)
          simp only[LD,d2,Qb,Qc,Qd,Qf,Qh,Qi,Qj,Qm,Qn,true_and,Qo,Qp,Qq,Qr,Qs,Qu,Rv]
          refine fM hE h2 hn hz1.value ?_
          intro s3 ow3 x3 h3 st3
          have hf3:Mt n { v1 with model:=v1.value }:=⟨⟨hz1.small,hz1.w,hz1.value,hz1.level,hz1.why,hz1.heat,hz1.phase,hz1.trail,hz1.limits⟩,hf1.val,hf1.lits,hf1.lims⟩
          have hback:WF E 63 [.ptr (some (p,0)),.int .i64 0] (fun _ s'=>∃x',Ah ow3 s' p x' (GS v1)∧AH (BU p) ow3 s3 ow3 s'∧x'.w=x3.w) s3:=DR hE h3 hf3 (level:=0) (by decide)
          simp only[Sb,Qb,Qc,Qf,Qh,Qi,Qj,Qq,Qs]
          refine hback.mono ?_
          rintro _ s4 ⟨x4,h4,st4,_⟩
          simp only[Sc,Qb,Qc,Qd,Qf,Qh,Qi,Qm,Qn,true_and,Qo,Qp,Qs]
          exact hret s4 ow3 x4 _ 1 _ _ _ _ _ _ _ _ _ _ _ (hl.maybe hI hb hp hall) h4 ((stB.trans st3).trans st4.b)
        · have d2 : decide ((b : Int) = 0) = false := decide_eq_false (by omega)
          have hvl:=hz1.value
          have hIn:=hl.dec hI hb hp hb1 (by omega) hb3
          have hlt:v1.trail.length<(Cu v1 b).trail.length:=by
            show _<(v1.trail++[_]).length
            rw[qM];simp
          have hll:v1.limits.length+1≤n:=by
            have:=(hl.ok hIn).2.inv.fit.siz.limits
            have e:(Cu v1 b).limits.length=v1.limits.length+1:=by
              show(v1.limits++[_]).length=_
              rw[qM];rfl
            omega
          simp only[LD,d2,Qb,Qc,Qd,Qf,Qh,Qi,Qj,Qm,Qn,true_and,Qo,Qp,Qq,Qr,Qs,Qv,Rv]
          refine fN h2 (by omega) ?_
          intro s3 ow3 x3 h3 st3
          try simp only[Qa,Qb,Qc,Qd,Qe,Qf,Qg,Qh,Qi,Qj,Qk,Ql,Qm,Qn,true_and,and_true,Qo,Qp,Qq,Qr,Qs,Qt,Qu,Qv,Qw,Qx,Qy,Qz,Ra,Rb,Rc,Rd,Re,Rf,Rg,Rh,Ri,Rj,Rk,Rl,Rm,Ya,Yb,Yc,Rn,Ro,Rp,Yd,Ye,Rq,Rs,Rt,Ru,Rv,Rw,Rx]
          refine fO hE h3 (n:=n) ⟨hz1.small,hz1.w,hz1.value,hz1.level,hz1.why,hz1.heat,hz1.phase,hz1.trail,by show(v1.limits++[_]).length≤n;rw[qM];exact hll⟩ hb1 (by omega) (m5 b hb1 (by omega)) ?_
          intro s4 ow4 x4 h4 st4
          try simp only[Qa,Qb,Qc,Qd,Qe,Qf,Qg,Qh,Qi,Qj,Qk,Ql,Qm,Qn,true_and,and_true,Qo,Qp,Qq,Qr,Qs,Qt,Qu,Qv,Qw,Qx,Qy,Qz,Ra,Rb,Rc,Rd,Re,Rf,Rg,Rh,Ri,Rj,Rk,Rl,Rm,Ya,Yb,Yc,Rn,Ro,Rp,Yd,Ye,Rq,Rs,Rt,Ru,Rv,Rw,Rx]
          exact hnext s4 ow4 x4 _ k u _ _ _ _ _ _ _ _ hIn (.inr (.inr ⟨rfl,rfl,by omega⟩)) h4 ((stB.trans st3).trans st4)
theorem Tz{E:BN}(hE:Good E){n most:Nat}{I:Nat→Sv→Prop}{R:Int→Sv→Prop}(hl:IP n most I R)(hn:n≤500000)(hmost:most≤1000000){p:Nat}{ow0:Ow}{s0:AF}{Q:A0→Prop}{x7:AV}
  (hend:∀s' ow' x' v' y5 y6 y7 y8 y9 y10 y11 y12 y13 k' u',R 0 v'→Ah ow' s' p x' v'→AH (Bb p) ow0 s0 ow' s'→Q ⟨.exit 0,[AV.ptr (some (p,0)),iv (most:Int),iv 0,u',k',y5,y6,y7,y8,y9,y10,y11,y12,y13],[],s'⟩)
  (hret:∀s' ow' x' v' r y3 y4 y5 y6 y7 y8 y9 y10 y11 y12 y13,R r v'→Ah ow' s' p x' v'→AH (Bb p) ow0 s0 ow' s'→Q ⟨.ret,[AV.ptr (some (p,0)),iv (most:Int),iv r,y3,y4,y5,y6,y7,y8,y9,y10,y11,y12,y13],[],s'⟩):
  ∀ (m1 m2 m3:Nat) (k u:Nat) (s:AF) (ow:Ow) (x:Sf) (v:Sv) (x5 x6 x8 x9 x10 x11 x12 x13:AV),most - k=m1→k+1 - u=m2→n - v.trail.length=m3→u≤50+k+32→I k v→Ah ow s p x v→AH (Bb p) ow0 s0 ow s →
   WC E none (.loop DO) Q [AV.ptr (some (p,0)),iv (most:Int),iv 0,iv (u:Int),iv (k:Int),x5,x6,x7,x8,x9,x10,x11,x12,x13] [] s:=by
 intro m1
 induction m1 using Nat.strongRecOn with
 | _ m1 ih1 =>
 intro m2
 induction m2 using Nat.strongRecOn with
 | _ m2 ih2 =>
 intro m3
 induction m3 using Nat.strongRecOn with
 | _ m3 ih3 =>
 intro k u s ow x v x5 x6 x8 x9 x10 x11 x12 x13 e1 e2 e3 hu hI h hst
 have hk:=(hl.ok hI).1
 refine T1 hE hl hn hmost (u:=u) (by omega) h hI hst hend hret ?_
 intro s' ow' x' v' k' u' y5 y6 y8 y9 y10 y11 y12 y13 hI' hc h' st'
 have hk':=(hl.ok hI').1
 have ht':=(hl.ok hI').2.inv.fit.siz.trail
 rcases hc with⟨c1,c2⟩ | ⟨c1,c2,c3⟩ | ⟨c1,c2,c3⟩
 ·exact ih1 (most - k') (by omega) (k'+1 - u') (n - v'.trail.length) k' u' s' ow' x' v' _ _ _ _ _ _ _ _ rfl rfl rfl (by omega) hI' h' st'
 ·exact ih2 (k'+1 - u') (by omega) (n - v'.trail.length) k' u' s' ow' x' v' _ _ _ _ _ _ _ _ (by omega) rfl rfl (by omega) hI' h' st'
 ·exact ih3 (n - v'.trail.length) (by omega) k' u' s' ow' x' v' _ _ _ _ _ _ _ _ (by omega) (by omega) rfl (by omega) hI' h' st'
theorem cG{E:BN}(hE:Good E){n most:Nat}{I:Nat→Sv→Prop}{R:Int→Sv→Prop}(hl:IP n most I R)(hn:n≤500000)(hmost:most≤1000000){ow:Ow}{s:AF}{p:Nat}{x:Sf}{v:Sv}(h:Ah ow s p x v)(hf:Mt n v)(hI:I 0 (Ab v 0)):
  WF E 34 [AK p,iv (most:Int)] (fun r s'=>∃c v' ow' x',r=iv c∧R c v'∧Ah ow' s' p x' v'∧AH (Bb p) ow s ow' s') s:=by
 have he:=Ea p
 simp only[AK]at he
 have hback:WF E 63 [.ptr (some (p,0)),.int .i64 0] (fun _ s'=>∃x',Ah ow s' p x' (Ab v 0)∧AH (BU p) ow s ow s'∧x'.w=x.w) s:=DR hE h hf (level:=0) (by decide)
 refine hE.go aM (by decide) rfl ?_
 simp only[ov,YS,YT,AK,he,YU,Qa,Qb,Qc,Qd,Qf,Qh,Qi,Qj,Ql,Qm,Qn,true_and,Qo,Qp,Qq,Qr,Qs,Qv,Qw,Qx,Rc,Rf,Rg,Rh,Yc]
 refine hback.mono ?_
 rintro _ s1 ⟨x1,h1,st1,_⟩
 simp only[YV,YW,Qb,Qc,Qd,Qf,Qh,Qi,Qm,Qn,true_and,Qo,Qp,Qs]
 refine Tz hE hl hn hmost (ow0:=ow) (s0:=s) ?_ ?_ _ _ _ 0 32 s1 ow x1 (Ab v 0) _ _ _ _ _ _ _ _ rfl rfl rfl (by omega) hI h1 st1.b
 ·intro s' ow' x' v' y5 y6 y7 y8 y9 y10 y11 y12 y13 k' u' hR hS hst
  simp only[if_true,Sg,Qb,Qc,Qd,Qf,Qh,Qi,Qm,Qn,true_and,Qo,Qp,Qq,Qr,Qs,Qw,Qy,Rb,Re]
  exact⟨0,v',ow',x',rfl,hR,hS,hst⟩
 ·intro s' ow' x' v' r y3 y4 y5 y6 y7 y8 y9 y10 y11 y12 y13 hR hS hst
  simp only[Qj,Qm,Qq,Qr,Qx,Ra,Rc,Re,Rf,Rg,Rh,Yc]
  exact⟨r,v',ow',x',rfl,hR,hS,hst⟩
structure Live(n A:Nat)(F:List (List Int))(C:List Nat)(v:Sv):Prop where
 brk:v.broken=false
 ci:CI n F v.head.toNat v
 h0:0≤v.head
 h1:v.head≤(v.trail.length:Int)
 cod:RO n A v C
structure VB(n:Nat)(F:List (List Int))(M:Nat)(v:Sv):Prop where
 brk:v.broken=true
 inv:F0 n 50000000 v
 lim:v.limits=[]
 trc:v.trace.length≤1000000
 few:v.trace.length≤M+1
 many:v.many≤(M:Int)
 no:∀σ,¬ By σ F
def Fn(m:List Int)(k:Nat):Bool:=decide (0<m.getD k 0)
theorem RO.of{n A:Nat}{v v':Sv}{C:List Nat}(h:RO n A v C)(h1:v'.cl=v.cl)(h2:v'.many=v.many)(h3:v'.learned=v.learned)(h4:v'.trace=v.trace)(h5:v'.watches=v.watches)(h6:v'.room=v.room):RO n A v' C:=
 ⟨h.nd,by rw[h1];exact h.mem,by rw[h2];exact h.many,by rw[h3];exact h.lrn,by rw[h4];exact h.trc,by rw[h5];exact h.tot,by rw[h6];exact h.room⟩
theorem RO.prog{n A:Nat}{v v':Sv}{C:List Nat}(h:RO n A v C)(p:FE v v')(ht:CV v'.watches≤2 * (A+C.length)):RO n A v' C:=
 ⟨h.nd,fun k hk=>by
  obtain⟨h1,h2,c,ls,b,h3,h4⟩:=h.mem k hk
  obtain⟨ls',q1,q2⟩:=(p.cl c).2 ls b h3
  exact⟨h1,h2,c,ls',b,q1,by rw[← h4];exact Ld (fun x=>q2.mem_iff) n⟩,by rw[p.many];exact h.many,by rw[p.learned];exact h.lrn,by rw[p.trace];exact h.trc,ht,by rw[p.room];exact h.room⟩
theorem RO.back{n A:Nat}{v:Sv}{C:List Nat}(h:RO n A v C)(j:Nat):RO n A (Ab v j) C:=by
 obtain⟨ph,va,wh,tr,li,hd,e,_⟩:=B5 v j
 rw[e]
 exact h.of rfl rfl rfl rfl rfl rfl
theorem CI.zero{n h:Nat}{F:List (List Int)}{w:Sv}(k:CI n F h w)(hz:w.limits=[]→h=w.head.toNat∧0≤w.head∧w.head≤(w.trail.length:Int)):CI n F (Ab w 0).head.toNat (Ab w 0)∧(Ab w 0).limits=[]∧0≤(Ab w 0).head∧(Ab w 0).head≤((Ab w 0).trail.length:Int):=by
  by_cases hl:w.limits=[]
  · obtain⟨g1,g2,g3⟩:=hz hl
    rw[NB (by rw[hl];exact qI _)]
    exact⟨by rw[← g1];exact k,hl,g2,g3⟩
  · have hpos : 0 < w.limits.length := List.length_pos_iff.2 hl
    have ht:=AR (d:=(0:Int)) hpos
    generalize w.limits.getD 0 0=t at ht
    obtain⟨b1,b2,b3,b4⟩:=k.back ht
    have ht0:=k.ct.lim t (qL ht)
    have htl:=k.ct.below t (qL ht)
    refine⟨by rw[b4];exact b1,by rw[b3];rfl,by rw[b4];exact ht0,?_⟩
    rw[b4,b2,qb]
    omega
theorem A7.heat{n:Nat}{v:Sv}(hi:A7 n v){h:List Int}(hl:h.length=v.heat.length):A7 n (BB v h):=by
 obtain⟨⟨hz,hv,hli,hlm⟩,g2,g3,g4,g5⟩:=hi
 exact⟨⟨⟨hz.small,hz.w,hz.value,hz.level,hz.why,hl.trans hz.heat,hz.phase,hz.trail,hz.limits⟩,hv,hli,hlm⟩,g2,g3,g4,g5⟩
theorem A7.many{n:Nat}{v:Sv}(hi:A7 n v):A7 n (Bw v):=by
 obtain⟨⟨hz,hv,hli,hlm⟩,g2,g3,g4,g5⟩:=hi
 exact⟨⟨⟨hz.small,hz.w,hz.value,hz.level,hz.why,hz.heat,hz.phase,hz.trail,hz.limits⟩,hv,hli,hlm⟩,g2,g3,g4,g5⟩
theorem A7.model{n:Nat}{v:Sv}(hi:A7 n v)(m:List Int):A7 n { v with model:=m }:=by
 obtain⟨⟨hz,hv,hli,hlm⟩,g2,g3,g4,g5⟩:=hi
 exact⟨⟨⟨hz.small,hz.w,hz.value,hz.level,hz.why,hz.heat,hz.phase,hz.trail,hz.limits⟩,hv,hli,hlm⟩,g2,g3,g4,g5⟩
theorem CI.models {n : Nat} {F : List (List Int)} {v : Sv} (k : CI n F v.trail.length v) (hF : ∀ f ∈ F, ∀ y ∈ f, VL n y) (hall : ∀ j, 1 ≤ j → j < n + 1 → v.value.getD j 0 ≠ 0) : By     (Fn    v.value) F := by
  have hi:=k.ct.inv
  have hsat:∀ {y:Int},y∈v.trail→FH (Fn v.value) y:=fun {y} hy=>by
    have h1:=hi.holds y hy
    have h0:=(hi.fit.lits y hy).1
    unfold FH Fn
    rw[h1]
    unfold GG
    rcases Int.lt_or_gt_of_ne h0 with q | q
    · right;exact⟨q,by rw[if_pos q];rfl⟩
    · left;exact⟨q,by rw[if_neg (by omega)];rfl⟩
  have hval:∀ {y:Int},VL n y→y∈v.trail∨-y∈v.trail:=fun {y} hy=>by
    by_cases h1:y∈v.trail
    · exact .inl h1
    · by_cases h2 : -y ∈ v.trail
      · exact .inr h2
      · have:=hi.zero hy.1 h1 h2
        exact absurd this (hall _ (by have:=hy.1;omega) (by have:=hy.2;omega))
  intro f hf
  rcases k.cover f hf with⟨y,h1,h2⟩ | ⟨c,ls,b,h1,h2⟩
  · rcases FH.or  (σ := Fn    v.value) (hF f hf y h1).1 with q | q
    · exact⟨y,h1,q⟩
    · exact⟨-y,h2,q⟩
  · obtain⟨c1,c2,c3,c4⟩:=k.ct.cls c ls b h1
    have m0:ls.getD 0 0∈ls:=qL (AR (List.length_pos_iff.2 c2))
    by_cases hl1:ls.length=1
    · exact⟨_,h2 _ m0,hsat (k.unit c ls b h1 hl1).1⟩
    · have h2l:2≤ls.length:=by
        have:=List.length_pos_iff.2 c2
        omega
      have m1:ls.getD 1 0∈ls:=qL (AR (by omega))
      rcases hval (c1.1 _ m0)with q | q
      · exact⟨_,h2 _ m0,hsat q⟩
      · have hok:=(k.cw.wok c ls b h1 h2l).2 (by simp)
        unfold HP at hok
        rw[qr]at hok
        exact⟨_,h2 _ m1,hsat (hok.1 q).1⟩
def Wk(n A:Nat)(F:List (List Int))(c0 most k:Nat)(v:Sv):Prop:=k≤most∧((∃C,Live n A F C v∧C.length=c0+k)∨VB n F (c0+most) v)
def nJ(n A:Nat)(F:List (List Int))(c0 most:Nat)(r:Int)(v:Sv):Prop:=
 (r=0∧VB n F (c0+most) v)∨(r=1∧∃C,Live n A F C v∧v.limits=[]∧C.length≤c0+most∧v.model.length=n+1∧By (Fn v.model) F) ∨
 (r=2∧∃C,Live n A F C v∧v.limits=[]∧C.length≤c0+most∧c0+most+1≤3 ^ n - 1)
theorem EK{n A:Nat}{F:List (List Int)}{C:List Nat}{v v1:Sv}{c:Option Nat}(hL:Live n A F C v)(hA:2 * (A+C.length)≤50000000)(hp:B9 v c v1):
  FE v v1∧CT n v1∧F0 n 50000000 v1∧RO n A v1 C∧(c=none→CI n F v1.trail.length v1∧v1.head=(v1.trail.length:Int))∧∀d,c=some d→∃h,CI n F h v1∧(v1.limits=[]→True)∧∃l,Fy v1 d l∧lv v1 l=(v1.limits.length:Int):=by
 have hI2:F0 n (2 * (A+C.length)) v:=⟨hL.ci.ct.inv,hL.cod.tot,hL.h0,hL.h1⟩
 have hlh:∀x∈v.limits,x≤v.head:=fun x hx=>by have:=hL.ci.lh x hx;have:=hL.h0;omega
 obtain⟨p1,p2,p3,p4,p5⟩:=hp.cw hL.ci.ct hL.ci.cw hI2 hlh
 refine⟨p1,p2,⟨p3.inv,by have:=p3.tot;omega,p3.h0,p3.h1⟩,hL.cod.prog p1 p3.tot,fun hc=>?_,fun d hd=>?_⟩
 ·obtain⟨q1,q2⟩:=p4 hc
  have e:v1.head.toNat=v1.trail.length:=by omega
  rw[e]at q1
  refine⟨hL.ci.prog p1 p2 q1 (qI _) fun x hx=>?_,q2⟩
  have:=hL.ci.ct.below x hx
  obtain⟨T,eT⟩:=p1.tr
  rw[eT,qM]
  omega
 ·obtain⟨h,q1,q2,l,q3,q4⟩:=p5 d hd
  have hlen:v.trail.length≤v1.trail.length:=by
   obtain⟨T,eT⟩:=p1.tr
   rw[eT,qM];omega
  have hcw:CW v1 (min h v1.trail.length) []:=q1.less (Nat.min_le_left _ _)
  refine⟨min h v1.trail.length,hL.ci.prog p1 p2 hcw (Nat.min_le_right _ _) fun x hx=>?_,fun _=>trivial,l,q3,by rw[p1.limits];exact q4⟩
  have:=q2 x hx
  have:=hL.ci.ct.below x hx
  omega
theorem WJ        {n A : Nat} {F : List (List Int)} {c0 most : Nat} (hF : ∀ f ∈ F, ∀ y ∈ f, VL n y) (hA : A ≤ 1000000) (hb : 3 ^ n ≤ 1900 ∨ c0 + most ≤ 1900) : IP       n most (Wk    n A F c0 most) (nJ    n A F c0 most) := by
  have small:∀ {C:List Nat} {v:Sv} {k:Nat},Live n A F C v→C.length=c0+k→k≤most→C.length≤1900:=fun hL he hk=>by
    rcases hb with q | q
    · have:=hL.cod.len;omega
    · omega
  have live:∀ {k v},Wk n A F c0 most k v→v.broken=false→k≤most∧∃C,Live n A F C v∧C.length=c0+k∧C.length≤1900:=fun hI hbr=>by
    obtain⟨hk,⟨C,hL,he⟩ | hD⟩:=hI
    · exact⟨hk,C,hL,he,small hL he hk⟩
    · rw[hD.brk]at hbr;cases hbr
  refine⟨fun hI=>?_,fun hI hbr=>?_,fun hI hbr hp=>?_,fun hI hbr hp hl=>?_,fun hI hbr hp hl hk=>?_,fun hI hbr hp hl hk=>?_,fun hI hbr hp h hh=>?_,fun hI hbr hp hall=>?_,fun hI hbr hp h1 h2 h3=>?_⟩
  · obtain ⟨hk, ⟨C, hL, he⟩ | hD⟩ := hI
    · have:=small hL he hk
      exact⟨hk,hL.ci.ct.inv,by have:=hL.cod.tot;omega,hL.h0,hL.h1⟩
    · exact⟨hk,hD.inv⟩
  · obtain ⟨hk, ⟨C, hL, he⟩ | hD⟩ := hI
    · rw[hL.brk]at hbr;cases hbr
    · exact .inl ⟨rfl,hD⟩
  · obtain ⟨hk, C, hL, he, hs⟩ := live hI hbr
    obtain⟨p1,p2,p3,p4,p5,p6⟩:=EK hL (by omega) hp
    refine⟨by have:=p4.trc;omega,by have:=p4.lrn;omega,by rw[p4.room];have:=p4.lrn;omega,fun c ls b hc=>(p2.cls c ls b hc).1,?_⟩
    have:=hL.ci.phase
    unfold DX at this
    rw[p1.phase]
    exact this
  · obtain ⟨hk, C, hL, he, hs⟩ := live hI hbr
    obtain⟨p1,p2,p3,p4,p5,p6⟩:=EK hL (by omega) hp
    obtain⟨h,k1,_,l,k2,k3⟩:=p6 _ rfl
    have hbr1:=p1.broken.trans hbr
    refine .inl ⟨rfl,?_⟩
    rw[FN hbr1]
    obtain⟨⟨⟨hz,hv,hli,hlm⟩,g2,g3,g4,g5⟩,t1,t2,t3⟩:=p3
    refine⟨rfl,⟨⟨⟨⟨hz.small,hz.w,hz.value,hz.level,hz.why,hz.heat,hz.phase,hz.trail,hz.limits⟩,hv,hli,hlm⟩,g2,g3,g4,g5⟩,t1,t2,t3⟩,hl,?_,?_,?_,fun σ hσ=>?_⟩
    · show(List.length (_++[_]))≤_
      rw[qM]
      have:=p4.trc
      simp;omega
    · show(List.length (_++[_]))≤_
      rw[qM]
      have:=p4.trc
      simp;omega
    · show Sv.many _≤_
      have:=p4.many
      dsimp only
      omega
    · obtain ⟨ls, b, q1, q2, q3, q4⟩ := k2
      obtain⟨y,hy,hs⟩:=k1.imp σ hσ _ ls b q1
      obtain⟨i,e⟩:=CS.1 (q3 y hy)
      refine hs.neg (p2.zero (k1.imp σ hσ) i (-y) e ?_)
      have:=p2.lev i _ e
      unfold lv
      rw[this,hl];rfl
  · rename_i k v c v1
    obtain⟨hkm,C,hL,he,hs⟩:=live hI hbr
    obtain⟨p1,p2,p3,p4,p5,p6⟩:=EK hL (by omega) hp
    obtain⟨h,k1,_,l,k2,k3⟩:=p6 _ rfl
    obtain⟨r,r1,r2⟩:=G9 p2 hl k2 k3
    obtain⟨z1,z2,z3,z4⟩:=k1.zero fun q=>absurd q hl
    have hnew:C.length+1≤3 ^ n - 1:=by
      have hlist:=r2.list p2
      have hnd:(code (AT v1 r) n::C).Nodup:=by
        rw[rf]
        refine⟨fun q=>?_,p4.nd⟩
        obtain⟨_,_,c',ls,b,q1,q2⟩:=p4.mem _ q
        exact r2.fresh k1 hl q1 q2
      have:=DG hnd (n:=3 ^ n - 1) fun x hx=>by
        rcases qp.1 hx with e | e
        · rw[e]
          have hm:r.hd∈AT v1 r:=(hlist.mem _).2 (.inl rfl)
          have:=Pm hm (hlist.ok.1 _ hm)
          have:=IY (AT v1 r) n
          omega
        · obtain ⟨q1, q2, _⟩ := p4.mem x e
          omega
      simpa using this
    refine .inr (.inr ⟨rfl,C,⟨?_,z1,z3,z4,p4.back 0⟩,z2,by omega,by omega⟩)
    obtain⟨ph,va,wh,tr,li,hd,e,_⟩:=B5 v1 0
    rw[e]
    exact p1.broken.trans hbr
  · rename_i k v c v1
    obtain⟨hkm,C,hL,he,hs⟩:=live hI hbr
    obtain⟨p1,p2,p3,p4,p5,p6⟩:=EK hL (by omega) hp
    obtain⟨h,k1,_,l,k2,k3⟩:=p6 _ rfl
    obtain⟨r,r1,r2⟩:=G9 p2 hl k2 k3
    have hlist:=r2.list p2
    have hsm:=p2.inv.fit.siz
    have hlevb:0≤r.lev∧r.lev<(v1.limits.length:Int):=by
      have hpos:0<v1.limits.length:=List.length_pos_iff.2 hl
      rcases r2.lev.2 with⟨_,e⟩ | ⟨q,hq,e⟩
      · omega
      · have:=r2.lits q hq;omega
    refine⟨r,r1,hlist.ok,hlevb.1,by have:=hsm.limits;have:=hsm.small;omega,fun hh cn hhl hcn=>?_⟩
    have hiw:A7 n (BB (Bw v1) hh):=p2.inv.many.heat (v:=Bw v1) hhl
    have kw:CI n F h (BB (Bw v1) hh):=k1.of hiw rfl rfl rfl rfl rfl rfl rfl
    have hLw:EU (BB (Bw v1) hh) r:=⟨r2.uip,r2.lits,r2.nd,r2.lev,r2.imp⟩
    have eL:AT (BB (Bw v1) hh) r=AT v1 r:=rfl
    obtain⟨g1,g2,g3,g4,g5⟩:=Ut kw hl hLw (c:=cn) hcn
    rw[eL]at g1 g2 g3
    obtain⟨ph,va,wh,tr,li,hd,e,_⟩:=B5 (BB (Bw v1) hh) r.lev.toNat
    have hcodnew:code (AT v1 r) n ∉ C:=fun q=>by
      obtain⟨_,_,c',ls,b,q1,q2⟩:=p4.mem _ q
      exact r2.fresh k1 hl q1 q2
    have hm:r.hd∈AT v1 r:=(hlist.mem _).2 (.inl rfl)
    generalize hvb:Ab (BB (Bw v1) hh) r.lev.toNat=vb at *
    have ecl:vb.cl=v1.cl:=by rw[e];rfl
    have emany:vb.many=Dt .i64 (v1.many+1):=by rw[e];rfl
    have elrn:vb.learned=v1.learned:=by rw[e];rfl
    have etrc:vb.trace=v1.trace:=by rw[e];rfl
    have ewat:vb.watches=v1.watches:=by rw[e];rfl
    have eroom:vb.room=v1.room:=by rw[e];rfl
    have ebrk:vb.broken=v1.broken:=by rw[e];rfl
    have kcl:(A8 vb cn (AT v1 r)).cl=AP vb.cl cn (AT v1 r,(true,false)):=by unfold A8;split<;>rfl
    have kmany:(A8 vb cn (AT v1 r)).many=vb.many:=by unfold A8;split<;>rfl
    have klrn:(A8 vb cn (AT v1 r)).learned.length≤vb.learned.length+1:=by
      unfold A8
      split
      · show(vb.learned++[cn]).length≤_
        rw[qM];simp
      · show vb.learned.length≤_
        omega
    have ktrc:(A8 vb cn (AT v1 r)).trace.length=vb.trace.length+1:=by
      unfold A8
      split<;>(show(vb.trace++[_]).length=_;rw[qM];rfl)
    have kwat:(A8 vb cn (AT v1 r)).watches=Er vb.watches cn (AT v1 r):=by unfold A8 Er;split<;>rfl
    have kroom:(A8 vb cn (AT v1 r)).room=vb.room:=by unfold A8;split<;>rfl
    have kbrk:(A8 vb cn (AT v1 r)).broken=vb.broken:=by unfold A8;split<;>rfl
    refine⟨by omega,.inl ⟨code (AT v1 r) n::C,⟨by rw[kbrk,ebrk];exact p1.broken.trans hbr,g1,g2,g3,?_⟩,by rw[qh];omega⟩⟩
    refine⟨by rw[rf];exact⟨hcodnew,p4.nd⟩,fun x hx=>?_,?_,?_,?_,?_,by rw[kroom,eroom];exact p4.room⟩
    · rcases qp.1            hx with q | q
      · rw[q]
        exact⟨Pm hm (hlist.ok.1 _ hm),IY _ n,cn,AT v1 r,(true,false),by rw[kcl];exact Ao _ _ _,rfl⟩
      · obtain⟨q1,q2,c',ls,b,q3,q4⟩:=p4.mem x q
        refine⟨q1,q2,c',ls,b,?_,q4⟩
        rw[kcl,ecl]
        unfold AP
        rw[if_neg fun z=>by rw[z,hcn]at q3;cases q3]
        exact q3
    · rw[kmany,emany,qh,p4.many,EA ⟨by omega,by omega⟩]
      omega
    · rw[qh]
      have:=p4.lrn
      rw[elrn]at klrn
      omega
    · rw[ktrc,etrc,qh]
      have:=p4.trc
      omega
    · rw[kwat,qh,ewat]
      have:=Iu v1.watches cn (AT v1 r)
      have:=p4.tot
      omega
  · rename_i k v v1
    obtain⟨hkm,C,hL,he,hs⟩:=live hI hbr
    obtain⟨p1,p2,p3,p4,p5,p6⟩:=EK hL (by omega) hp
    obtain⟨k1,k2⟩:=p5 rfl
    have kw:CI n F v1.trail.length (BB v1 h):=k1.of (p2.inv.heat hh) rfl rfl rfl rfl rfl rfl rfl
    obtain⟨z1,z2,z3,z4⟩:=kw.zero fun _=>⟨by show v1.trail.length=v1.head.toNat;omega,by show 0≤v1.head;omega,by show v1.head≤(v1.trail.length:Int);omega⟩
    obtain⟨ph,va,wh,tr,li,hd,e,_⟩:=B5 (BB v1 h) 0
    have hc:RO n A (BB v1 h) C:=p4.of rfl rfl rfl rfl rfl rfl
    refine⟨⟨hkm,.inl ⟨C,⟨?_,z1,z3,z4,hc.back 0⟩,he⟩⟩,by rw[e];rfl⟩
    rw[e]
    exact p1.broken.trans hbr
  · rename_i k v v1
    obtain⟨hkm,C,hL,he,hs⟩:=live hI hbr
    obtain⟨p1,p2,p3,p4,p5,p6⟩:=EK hL (by omega) hp
    obtain⟨k1,k2⟩:=p5 rfl
    have kw:CI n F v1.trail.length { v1 with model:=v1.value }:=k1.of (p2.inv.model _) rfl rfl rfl rfl rfl rfl rfl
    obtain⟨z1,z2,z3,z4⟩:=kw.zero fun _=>⟨by show v1.trail.length=v1.head.toNat;omega,by show 0≤v1.head;omega,by show v1.head≤(v1.trail.length:Int);omega⟩
    obtain⟨ph,va,wh,tr,li,hd,e,_⟩:=B5 { v1 with model:=v1.value } 0
    have hc:RO n A { v1 with model:=v1.value } C:=p4.of rfl rfl rfl rfl rfl rfl
    have em:(GS v1).model=v1.value:=by unfold GS;rw[e]
    refine .inr (.inl ⟨rfl,C,⟨?_,z1,z3,z4,hc.back 0⟩,z2,by omega,?_,?_⟩)
    · unfold GS
      rw[e]
      exact p1.broken.trans hbr
    · rw[em];exact p2.inv.fit.siz.value
    · rw[em];exact k1.models hF hall
  · rename_i k v v1 b
    obtain⟨hkm,C,hL,he,hs⟩:=live hI hbr
    obtain⟨p1,p2,p3,p4,p5,p6⟩:=EK hL (by omega) hp
    obtain⟨k1,k2⟩:=p5 rfl
    obtain⟨g1,g2⟩:=k1.guess h1 h2 h3
    have ehd:(Cu v1 b).head=v1.head:=rfl
    refine⟨hkm,.inl ⟨C,⟨p1.broken.trans hbr,?_,by rw[ehd];omega,by rw[ehd,g2];omega,p4.of rfl rfl rfl rfl rfl rfl⟩,he⟩⟩
    rw[ehd,show v1.head.toNat=v1.trail.length by omega]
    exact g1
def SI(n A:Nat)(F:List (List Int))(M:Nat)(v:Sv):Prop:=(∃C,Live n A F C v∧v.limits=[]∧C.length≤M)∨VB n F M v
def Bd(n A M:Nat):Prop:=n≤1000∧A≤10000∧(3 ^ n≤1900∨M≤1900)
theorem Live.few{n A:Nat}{F:List (List Int)}{C:List Nat}{v:Sv}{M:Nat}(h:Live n A F C v)(hM:C.length≤M)(hb:Bd n A M):C.length≤1900:=by
 rcases hb.2.2 with q | q
 ·have:=h.cod.len;omega
 ·omega
theorem SI.inv{n A:Nat}{F:List (List Int)}{M:Nat}{v:Sv}(h:SI n A F M v)(hb:Bd n A M):A7 n v∧v.limits=[]∧v.trace.length≤1000000∧CV v.watches≤50000000:=by
  rcases h with⟨C,h1,h2,h3⟩ | h
  · have := h1.few h3 hb
    have:=h1.cod.trc
    have:=h1.cod.tot
    have:=hb.2.1
    exact⟨h1.ci.ct.inv,h2,by omega,by omega⟩
  · exact⟨h.inv.inv,h.lim,h.trc,h.inv.tot⟩
theorem IS{v:Sv}(h:v.limits=[]):Ab v 0=v:=NB (by rw[h];exact qI _)
theorem VB.mono{n:Nat}{F F':List (List Int)}{M M':Nat}{v:Sv}(h:VB n F M v)(hM:M≤M')(hF:∀σ,By σ F'→By σ F):VB n F' M' v:=
 ⟨h.brk,h.inv,h.lim,h.trc,by have:=h.few;omega,by have:=h.many;omega,fun σ hσ=>h.no σ (hF σ hσ)⟩
theorem Live.ne{n A:Nat}{F:List (List Int)}{C:List Nat}{v:Sv}(h:Live n A F C v):[] ∉ F:=fun q=>by
 rcases h.ci.cover [] q with⟨y,hy,_⟩ | ⟨c,ls,b,h1,h2⟩
 ·cases hy
 ·obtain⟨_,c2,_,_⟩:=h.ci.ct.cls c ls b h1
  cases ls with
  | nil=>exact c2 rfl
  | cons y ls=>exact absurd (h2 y (qR ..)) (by simp)
structure Fz(k:Nat)(v:Sv):Prop where
 w:v.watches=List.replicate (2 * k) []
 value:v.value=List.replicate k 0
 level:v.level=List.replicate k 0
 why:v.why=List.replicate k none
 heat:v.heat=List.replicate k 0
 phase:v.phase=List.replicate k (-1)
 rest:v.learned=[]∧v.trail=[]∧v.limits=[]∧v.head=0∧v.broken=false∧v.model=[]∧v.trace=[]∧v.many=0∧v.room=2000∧v.cl=fun _=>none
theorem Fz.one{k:Nat}{v:Sv}(h:Fz k v):Fz (k+1) (Px v):=by
 have e:∀ {α:Type} (a:α),List.replicate (k+1) a=List.replicate k a++[a]:=fun a=>List.replicate_succ'
 refine⟨?_,?_,?_,?_,?_,?_,h.rest⟩
 ·show v.watches++[[],[]]=_
  rw[h.w,show 2 * (k+1)=2 * k+2 by omega,← List.replicate_append_replicate]
  rfl
 ·show v.value++[0]=_;rw[h.value,e]
 ·show v.level++[0]=_;rw[h.level,e]
 ·show v.why++[none]=_;rw[h.why,e]
 ·show v.heat++[0]=_;rw[h.heat,e]
 ·show v.phase++[-1]=_;rw[h.phase,e]
theorem Fz.grow:∀ (m:Nat){k:Nat}{v:Sv},Fz k v→Fz (k+m) (Uo m v)
 | 0,k,v,h=>h
 | m+1,k,v,h=>by
  have:=Fz.grow m h.one
  rw[show k+(m+1)=k+1+m by omega]
  exact this
theorem Jf(n:Nat):Fz (n+1) (Up Tk n):=by
 have h0:Fz 0 Tk:=⟨rfl,rfl,rfl,rfl,rfl,rfl,rfl,rfl,rfl,rfl,rfl,rfl,rfl,rfl,rfl,rfl⟩
 have:=h0.grow (n+1)
 rw[qU]at this
 exact this
theorem Pw{α:Type}(m k:Nat)(a:α):(List.replicate m a).getD k a=a:=by
 rw[qe,List.getElem?_replicate]
 split<;>rfl
theorem Fz.live    {n : Nat} (hn : n < 100000000) {v : Sv} (h : Fz    (n + 1) v) : Live n 0 [] [] v ∧ v.limits = [] := by
  obtain⟨r1,r2,r3,r4,r5,r6,r7,r8,r9,r10⟩:=h.rest
  have hw:∀k,v.watches.getD k []=[]:=fun k=>by rw[h.w];exact Pw _ _ _
  have hi:A7 n v:=by
    refine⟨⟨⟨hn,by rw[h.w,rQ];omega,by rw[h.value,rQ],by rw[h.level,rQ],by rw[h.why,rQ],by rw[h.heat,rQ],by rw[h.phase,rQ],by rw[r2];exact qO _,by rw[r3];exact qO _⟩,fun x hx=>?_,by rw[r2];simp,by rw[r3];simp⟩,by rw[r2];simp,by rw[r2];simp,fun k _=>by rw[h.value];exact Pw _ _ _,fun L hL c hc=>?_⟩
    · rw[h.value]at hx
      have:=sE hx
      exact .inr (.inl this)
    · rw [h.w] at hL
      rw[sE hL]at hc
      cases hc
  have hcl:∀c l,v.cl c=some l→False:=fun c l hc=>by rw[r10]at hc;cases hc
  refine⟨⟨r5,⟨⟨hi,by rw[r3];exact List.Pairwise.nil,by rw[r3];simp,by rw[r2];simp,by rw[r2];simp,fun c ls b hc=>(hcl _ _ hc).elim⟩,⟨fun c ls b hc=>(hcl _ _ hc).elim,fun k c ls b _ hc=>(hcl _ _ hc).elim,fun k=>by rw[hw];exact List.Pairwise.nil,fun c ls b hc=>(hcl _ _ hc).elim⟩,by rw[r4];exact qO _,by rw[r3];simp,fun c ls b hc=>(hcl _ _ hc).elim,fun j t _ c ls b hc=>(hcl _ _ hc).elim,fun σ _ c ls b hc=>(hcl _ _ hc).elim,by simp,fun k h1 h2=>?_⟩,by rw[r4];exact rE _,by rw[r4,r2];exact rE _,⟨by simp,by simp,by rw[r8];rfl,by rw[r1];exact qI _,by rw[r7];exact qI _,?_,r9⟩⟩,r3⟩
  · rw[h.phase,qe,List.getElem?_replicate,if_pos (by omega)]
    exact .inr rfl
  · rw[h.w]
    have:∀m,CV (List.replicate m [])=0:=fun m=>by
      induction m with
      | zero=>rfl
      | succ m ih =>
        rw[rt]
        show([]:List Nat).length+CV (List.replicate m [])=0
        rw[ih];rfl
    rw[this]
    exact qO _
theorem eW{E:BN}(hE:Good E)(ow:Ow){s:AF}{n:Nat}(hn:n≤1000):
  WF E 40 [iv (n:Int)] (fun r s'=>∃v ow' x',r=AK s.next∧Ah ow' s' s.next x' v∧SI n 0 [] 0 v∧v.many=0∧AH (Bb s.next) ow s ow' s') s:=by
 refine(bQ hE ow (n:=n) (by omega)).mono ?_
 rintro _ s' ⟨ow',x',rfl,g1,g2⟩
 obtain⟨h1,h2⟩:=(Jf n).live (by omega)
 exact⟨_,ow',x',rfl,g1,.inl ⟨[],h1,h2,qI _⟩,(Jf n).rest.2.2.2.2.2.2.2.1,g2⟩
theorem SI.add {n A : Nat} {F : List (List Int)} {M : Nat} {v : Sv} (h : SI n A F M v) (hb : Bd n A M) {f : List Int} (hf : ∀ q ∈ f, VL n q) (hlen : f.length ≤ 12) {v' : Sv} (hr : JC   v f v') : SI n (A + 1) (F ++ [f]) M v' ∧ v'.many = v.many := by
  rcases h with⟨C,h1,h2,h3⟩ | h
  · have hfew:=h1.few h3 hb
    rcases Wn h1.ci h2 h1.brk hf hlen hr with⟨g1,g2,g3,g4,g5⟩ | ⟨g1,g2,g3,g4,g5,g6⟩
    · refine⟨.inl ⟨C,⟨g1,by rw[g3.head];exact g2,by rw[g3.head];exact h1.h0,by rw[g3.head];have:=h1.h1;omega,⟨h1.cod.nd,fun k hk=>?_,by rw[g3.many];exact h1.cod.many,by rw[g3.learned];exact h1.cod.lrn,by rw[g4];exact h1.cod.trc,by have:=g3.tot;have:=h1.cod.tot;omega,by rw[g3.room];exact h1.cod.room⟩⟩,by rw[g3.limits];exact h2,h3⟩,g3.many⟩
      obtain⟨q1,q2,c,ls,b,q3,q4⟩:=h1.cod.mem k hk
      exact⟨q1,q2,c,ls,b,g3.cl _ _ q3,q4⟩
    · refine ⟨.inr ⟨g1, ⟨g2, ?_, by rw [g3.head]; exact h1.h0, by rw [g3.head, g5]; exact h1.h1⟩, by rw [g3.limits]; exact h2, ?_, ?_, ?_, g6⟩, g3.many⟩
      · have := g3.tot
        have:=h1.cod.tot
        have:=hb.2.1
        omega
      · rw[g4]
        have:=h1.cod.trc
        omega
      · rw[g4]
        have:=h1.cod.trc
        omega
      · rw[g3.many,h1.cod.many]
        omega
  · have e:v'=v:=by
      cases hr with
      | none _=>rfl
      | nil _ hb' _=>rw[h.brk]at hb';cases hb'
      | put _ hb' _ _=>rw[h.brk]at hb';cases hb'
    rw[e]
    exact⟨.inr (h.mono (qI _) fun σ hσ g hg=>hσ g (qW _ hg)),rfl⟩
theorem cq{E:BN}(hE:Good E){ow:Ow}{s:AF}{p:Nat}{x:Sf}{v:Sv}(h:Ah ow s p x v){n A:Nat}{F:List (List Int)}{M:Nat}(hI:SI n A F M v)(hbd:Bd n A M){f:List Int}(hf:∀q∈f,VL n q)(hlen:f.length≤12){b:Nat}{u:AV}(hb:b≤s.next)(hu:AX b s u (Ax f))(hus:∀j,Cn u=some j→(ow j).1≠p∧j<s.next):
  WF E 36 [AK p,u] (fun r s'=>r=iv 0∧∃v' ow' x',SI n (A+1) (F++[f]) M v'∧v'.many=v.many∧Ah ow' s' p x' v'∧AH (Bb p) ow s ow' s') s:=by
 obtain⟨i1,i2,i3,i4⟩:=hI.inv hbd
 have hbk:=IS i2
 refine(Wo hE h i1.fit (by rw[hbk];exact i1.fit.val) i3 (by omega) hlen hf hb hu hus).mono ?_
 rintro _ s' ⟨rfl,v',ow',x',g1,g2,g3⟩
 rw[hbk]at g1
 obtain⟨k1,k2⟩:=hI.add hbd hf hlen g1
 exact⟨rfl,v',ow',x',k1,k2,g2,g3⟩
theorem WM{E:BN}(hE:Good E){ow:Ow}{s:AF}{p:Nat}{x:Sf}{v:Sv}(h:Ah ow s p x v){n A:Nat}{F:List (List Int)}{M most:Nat}(hI:SI n A F M v)(hbd:Bd n A (M+most))(hmost:most≤100000)(hF:∀f∈F,∀y∈f,VL n y):
  WF E 34 [AK p,iv (most:Int)] (fun r s'=>∃ (c:Int) (v':Sv) (ow':Ow) (x':Sf),r=iv c∧SI n A F (M+most) v'∧(v'.many≤((M+most:Nat):Int))∧(c=0∧(∀σ,¬ By σ F)∨c=1∧v'.model.length=n+1∧By (Fn v'.model) F∨c=2∧(n≤6→most<729)∧[] ∉ F)∧Ah ow' s' p x' v'∧AH (Bb p) ow s ow' s') s:=by
 obtain⟨h1,h2,h3⟩:=hbd
 have start:∃c0,c0≤M∧Wk n A F c0 most 0 v∧(3 ^ n≤1900∨c0+most≤1900):=by
  rcases hI with⟨C,g1,g2,g3⟩ | g
  ·exact⟨C.length,g3,⟨qO _,.inl ⟨C,g1,rfl⟩⟩,h3.imp id fun q=>by omega⟩
  ·exact⟨M,qI _,⟨qO _,.inr (g.mono (by omega) fun σ hσ=>hσ)⟩,h3⟩
 obtain⟨c0,s1,s2,s3⟩:=start
 obtain⟨i1,i2,_,_⟩:=hI.inv ⟨h1,h2,h3.imp id fun q=>by omega⟩
 have hbk:=IS i2
 refine(cG hE (WJ (A:=A) (c0:=c0) (most:=most) hF (by omega) s3) (by omega) (by omega) h i1.fit (by rw[hbk];exact s2)).mono ?_
 rintro _ s' ⟨c,v',ow',x',rfl,g1,g2,g3⟩
 rcases g1 with⟨rfl,k⟩ | ⟨rfl,C,k1,k2,k3,k4,k5⟩ | ⟨rfl,C,k1,k2,k3,k4⟩
 ·exact⟨0,v',ow',x',rfl,.inr (k.mono (by omega) fun σ hσ=>hσ),by have:=k.many;omega,.inl ⟨rfl,k.no⟩,g2,g3⟩
 ·exact⟨1,v',ow',x',rfl,.inl ⟨C,k1,k2,by omega⟩,by rw[k1.cod.many];omega,.inr (.inl ⟨rfl,k4,k5⟩),g2,g3⟩
 ·refine⟨2,v',ow',x',rfl,.inl ⟨C,k1,k2,by omega⟩,by rw[k1.cod.many];omega,.inr (.inr ⟨rfl,fun hn=>?_,k1.ne⟩),g2,g3⟩
  have:3 ^ n≤3 ^ 6:=Nat.pow_le_pow_right (by decide) hn
  have e:(3:Nat) ^ 6=729:=rfl
  omega
theorem WY{E:BN}(hE:Good E){ow:Ow}{s:AF}{p:Nat}{x:Sf}{v:Sv}(h:Ah ow s p x v){k:Nat}(h1:1≤k):
    WF E 41 [AK p,iv (k:Int)] (fun r s'=>r=.bool (Fn v.model k)∧s=s') s:=by
  have hne:AL Try.prog .neq 44 (AK p) (.ptr none)=some (.bool true):=rfl
  have d1:decide ((0:Int)<(k:Int))=true:=decide_eq_true (by omega)
  have ln:∀s,Aq Try.prog s 23 x.mo=some (iv (v.model.length:Int)):=fun s=>by
    have:=h.model.len Try.underlying23 s
    rw[qK]at this
    exact this
  simp only[AK]at hne
  refine hE.go lO (by decide) rfl ?_
  by_cases hk:k<v.model.length
  · have d2 : decide ((k : Int) < (v.model.length : Int)) = true := decide_eq_true (by omega)
    have hg:=AR (d:=(0:Int)) hk
    have i1:=h.model.addr Try.underlying23 Bt (k:=k) (by rw[qK];exact hk)
    have i2:=h.model.get (t:=3) Dg (k:=k) (Au hg)
    simp only[oz,Yh,Yi,AK,hne,d1,AG,Of,h.ld_mo,ln,d2,i1,i2,Qa,Qb,Qc,Qd,Qf,Qg,Qh,Qi,Qj,Qk,Ql,Qm,Qn,true_and,and_true,Qo,Qp,Qq,Qr,Qs,Qw,Rc,Re,Rf,Rg,Rh,Rl,Yc,Rn,Ro,Rq,Rs]
    rfl
  · have d2 : decide ((k : Int) < (v.model.length : Int)) = false := decide_eq_false (by omega)
    have e:Fn v.model k=false:=by
      unfold Fn
      rw[qe,qZ (by omega)]
      rfl
    simp only[oz,Yh,Yi,AK,hne,d1,AG,Of,h.ld_mo,ln,d2,Qa,Qb,Qc,Qd,Qf,Qg,Qh,Qi,Qj,Qk,Ql,Qm,Qn,true_and,and_true,Qo,Qp,Qq,Qr,Qs,Qt,Qw,Rc,Re,Rf,Rg,Rh,Rl,Yc,Rn,Ro,Rq,Rs]
    rw[e]
def Fb(V:Nat→Option Sv)(p:Nat)(v:Sv):Nat→Option Sv:=fun q=>if q=p then some v else V q
theorem BO(V:Nat→Option Sv)(p:Nat)(v:Sv):Fb V p v p=some v:=if_pos rfl
theorem Fm{V:Nat→Option Sv}{p q:Nat}{v:Sv}(h:q≠p):Fb V p v q=V q:=if_neg h
theorem DW(V:Nat→Option Sv)(p:Nat)(v w:Sv):Fb (Fb V p v) p w=Fb V p w:=by
 funext q
 unfold Fb
 split<;>rfl
def Cj(B:Nat→Prop)(s:AF)(V:Nat→Option Sv):Prop:=∃ow:Ow,(∀p v,V p=some v→∃x,Ah ow s p x v)∧∀j,B j→j<s.next∧V (ow j).1=none
def Dv(B:Nat→Prop)(s s':AF):Prop:=s.next≤s'.next∧∀j,B j→s'.heap.get j=s.heap.get j
theorem Dv.refl(B:Nat→Prop)(s:AF):Dv B s s:=⟨qI _,fun _ _=>rfl⟩
theorem Dv.trans{B:Nat→Prop}{s s1 s2:AF}(h:Dv B s s1)(k:Dv B s1 s2):Dv B s s2:=⟨qV h.1 k.1,fun j hj=>(k.2 j hj).trans (h.2 j hj)⟩
theorem Dv.mono{B B':Nat→Prop}{s s':AF}(h:Dv B s s')(k:∀j,B' j→B j):Dv B' s s':=⟨h.1,fun j hj=>h.2 j (k j hj)⟩
theorem Cj.less{B B':Nat→Prop}{s:AF}{V:Nat→Option Sv}(h:Cj B s V)(k:∀j,B' j→B j):Cj B' s V:=by
 obtain⟨ow,h1,h2⟩:=h
 exact⟨ow,h1,fun j hj=>h2 j (k j hj)⟩
theorem Cj.frame{B:Nat→Prop}{s s':AF}{V:Nat→Option Sv}(h:Cj B s V)(hn:s.next≤s'.next)(hf:∀j,j<s.next→¬ B j→s'.heap.get j=s.heap.get j):Cj (fun j=>B j∨(s.next≤j∧j<s'.next)) s' V:=by
  obtain⟨ow,h1,h2⟩:=h
  have hV:V s.next=none:=by
    cases hv:V s.next with
    | none=>rfl
    | some v =>
      obtain⟨x,hx⟩:=h1 _ v hv
      have:=hx.lt
      omega
  have st:AH (fun t=>V t.1=none) ow s (ext ow s.next (s.next,0,0)) s':=⟨hn,fun x hx _=>D1 hx,fun x hx hm=>hf x hx fun q=>hm (h2 x q).2⟩
  refine⟨ext ow s.next (s.next,0,0),fun p v hp=>?_,fun j hj=>?_⟩
  · obtain⟨x,hx⟩:=h1 p v hp
    exact⟨x,hx.keep st fun t ht e=>by rw[e,hp]at ht;cases ht⟩
  · rcases hj with q | ⟨q1, q2⟩
    · obtain⟨r1,r2⟩:=h2 j q
      exact⟨by omega,by rw[D1 r1];exact r2⟩
    · exact⟨q2,by rw[C2 q1];exact hV⟩
theorem Cj.old{B:Nat→Prop}{s s':AF}{V:Nat→Option Sv}(h:Cj B s V)(ho:BG s.next s s'):Cj (fun j=>B j∨(s.next≤j∧j<s'.next)) s' V:=h.frame ho.1 fun j hj _=>ho.2 j hj
theorem Dv.old{B:Nat→Prop}{s s':AF}{V:Nat→Option Sv}(h:Cj B s V)(ho:BG s.next s s'):Dv B s s':=by
 obtain⟨ow,_,h2⟩:=h
 exact⟨ho.1,fun j hj=>ho.2 j (h2 j hj).1⟩
theorem Cj.used{B:Nat→Prop}{s s':AF}{V:Nat→Option Sv}{ow ow':Ow}{p:Nat}{v v':Sv}{x':Sf}(h1:∀p v,V p=some v→∃x,Ah ow s p x v)(h2:∀j,B j→j<s.next∧V (ow j).1=none)(hp:V p=some v)(hs:Ah ow' s' p x' v')(st:AH (Bb p) ow s ow' s'):Cj B s' (Fb V p v')∧Dv B s s':=by
  have hn:=st.next
  have hB:∀j,B j→¬ Bb p (ow j):=fun j hj q=>by
    have q:(ow j).1=p:=q
    have:=(h2 j hj).2
    rw[q,hp]at this
    cases this
  refine⟨⟨ow',fun q w hq=>?_,fun j hj=>?_⟩,hn,fun j hj=>st.heap j (h2 j hj).1 (hB j hj)⟩
  · by_cases e : q = p
    · rw[e,BO]at hq
      injection hq with hq
      rw[← hq,e]
      exact⟨x',hs⟩
    · rw[Fm e]at hq
      obtain⟨x,hx⟩:=h1 q w hq
      exact⟨x,hx.keep st fun t ht e'=>by rw[show t.1=p from ht]at e';exact e e'.symm⟩
  · obtain⟨r1,r2⟩:=h2 j hj
    refine⟨by omega,?_⟩
    rw[st.tags j r1 (hB j hj)]
    have:(ow j).1≠p:=fun q=>hB j hj q
    rw[Fm this]
    exact r2
theorem Q6{E:BN}(hE:Good E){B:Nat→Prop}{s:AF}{V:Nat→Option Sv}(h:Cj B s V){n:Nat}(hn:n≤1000):
    WF E 40 [iv (n:Int)] (fun r s'=>∃v,r=AK s.next∧V s.next=none∧Cj B s' (Fb V s.next v)∧Dv B s s'∧SI n 0 [] 0 v∧v.many=0) s:=by
  obtain⟨ow,h1,h2⟩:=h
  have hV:∀q,s.next≤q→V q=none:=fun q hq=>by
    cases hv:V q with
    | none=>rfl
    | some v =>
      obtain⟨x,hx⟩:=h1 _ v hv
      have:=hx.lt
      omega
  have st1:AH (fun t=>V t.1=none) ow s (fun j=>match V (ow j).1 with | none=>(s.next+1,0,0) | some _=>ow j) s:=⟨qI _,fun x hx hm=>by
    cases hv:V (ow x).1 with
    | none=>exact absurd hv hm
    | some v=>simp only[hv],fun _ _ _=>rfl⟩
  have h1':∀p v,V p=some v→∃x,Ah (fun j=>match V (ow j).1 with | none=>(s.next+1,0,0) | some _=>ow j) s p x v:=fun p v hp=>by
    obtain⟨x,hx⟩:=h1 p v hp
    exact⟨x,hx.keep st1 fun t ht e=>by rw[e,hp]at ht;cases ht⟩
  have h2':∀j,B j→j<s.next∧((fun j=>match V (ow j).1 with | none=>(s.next+1,0,0) | some _=>ow j:Ow) j)=(s.next+1,0,0):=fun j hj=>by
    obtain⟨r1,r2⟩:=h2 j hj
    exact⟨r1,by simp only[r2]⟩
  generalize (fun j=>match V (ow j).1 with | none=>(s.next+1,0,0) | some _=>ow j:Ow)=ow1 at *
  refine(eW hE ow1 hn).mono ?_
  rintro _ s' ⟨v,ow',x',rfl,g1,g2,g3,g4⟩
  have hB:∀j,B j→¬ Bb s.next (ow1 j):=fun j hj q=>by
    have q:(ow1 j).1=s.next:=q
    rw[(h2' j hj).2]at q
    exact absurd q (by show s.next+1≠s.next;omega)
  have hnx:=g4.next
  refine⟨v,rfl,hV _ (qI _),⟨ow',fun q w hq=>?_,fun j hj=>?_⟩,⟨hnx,fun j hj=>g4.heap j (h2' j hj).1 (hB j hj)⟩,g2,g3⟩
  · by_cases e : q = s.next
    · rw[e,BO]at hq
      injection hq with hq
      rw[← hq,e]
      exact⟨x',g1⟩
    · rw[Fm e]at hq
      obtain⟨x,hx⟩:=h1' q w hq
      exact⟨x,hx.keep g4 fun t ht e'=>by rw[show t.1=s.next from ht]at e';exact e e'.symm⟩
  · obtain⟨r1,r2⟩:=h2' j hj
    refine⟨by omega,?_⟩
    rw[g4.tags j r1 (hB j hj),r2,Fm (by show s.next+1≠s.next;omega)]
    exact hV _ (by omega)
def mz(B:Nat→Prop)(u:AV):Prop:=∀j,Cn u=some j→B j
theorem Q5{E:BN}(hE:Good E){B:Nat→Prop}{s:AF}{V:Nat→Option Sv}(h:Cj B s V){p:Nat}{v:Sv}(hp:V p=some v){n A:Nat}{F:List (List Int)}{M:Nat}(hI:SI n A F M v)(hbd:Bd n A M){f:List Int}(hf:∀q∈f,VL n q)(hlen:f.length≤12){b:Nat}{u:AV}(hb:b≤s.next)(hu:AX b s u (Ax f))(hus:mz B u):
  WF E 36 [AK p,u] (fun r s'=>r=iv 0∧∃v',SI n (A+1) (F++[f]) M v'∧v'.many=v.many∧Cj B s' (Fb V p v')∧Dv B s s') s:=by
 obtain⟨ow,h1,h2⟩:=h
 obtain⟨x,hx⟩:=h1 p v hp
 refine(cq hE hx hI hbd hf hlen hb hu fun j hj=>?_).mono ?_
 ·obtain⟨r1,r2⟩:=h2 j (hus j hj)
  exact⟨fun q=>(by rw[q,hp]at r2;cases r2),r1⟩
 rintro _ s' ⟨rfl,v',ow',x',g1,g2,g3,g4⟩
 obtain⟨k1,k2⟩:=Cj.used h1 h2 hp g3 g4
 exact⟨rfl,v',g1,g2,k1,k2⟩
theorem GX{E:BN}(hE:Good E){B:Nat→Prop}{s:AF}{V:Nat→Option Sv}(h:Cj B s V){p:Nat}{v:Sv}(hp:V p=some v){n A:Nat}{F:List (List Int)}{M most:Nat}(hI:SI n A F M v)(hbd:Bd n A (M+most))(hmost:most≤100000)(hF:∀f∈F,∀y∈f,VL n y):
  WF E 34 [AK p,iv (most:Int)] (fun r s'=>∃ (c:Int) (v':Sv),r=iv c∧SI n A F (M+most) v'∧(v'.many≤((M+most:Nat):Int))∧(c=0∧(∀σ,¬ By σ F)∨c=1∧v'.model.length=n+1∧By (Fn v'.model) F∨c=2∧(n≤6→most<729)∧[] ∉ F)∧Cj B s' (Fb V p v')∧Dv B s s') s:=by
 obtain⟨ow,h1,h2⟩:=h
 obtain⟨x,hx⟩:=h1 p v hp
 refine(WM hE hx hI hbd hmost hF).mono ?_
 rintro _ s' ⟨c,v',ow',x',rfl,g1,g2,g3,g4,g5⟩
 obtain⟨k1,k2⟩:=Cj.used h1 h2 hp g4 g5
 exact⟨c,v',rfl,g1,g2,g3,k1,k2⟩
theorem Mb{E:BN}(hE:Good E){B:Nat→Prop}{s:AF}{V:Nat→Option Sv}(h:Cj B s V){p:Nat}{v:Sv}(hp:V p=some v){k:Nat}(h1:1≤k):
  WF E 41 [AK p,iv (k:Int)] (fun r s'=>r=.bool (Fn v.model k)∧s=s') s:=by
 obtain⟨ow,g1,g2⟩:=h
 obtain⟨x,hx⟩:=g1 p v hp
 exact WY hE hx h1
theorem Nu{E:BN}(hE:Good E){B:Nat→Prop}{s:AF}{V:Nat→Option Sv}(h:Cj B s V){p:Nat}{v:Sv}(hp:V p=some v){n:Nat}(hn:n<100000000)(hv:v.value.length=n+1):WF E 47 [AK p] (fun r s'=>r=iv (n:Int)∧s=s') s:=by
 obtain⟨ow,g1,g2⟩:=h
 obtain⟨x,hx⟩:=g1 p v hp
 exact PI hE hx hn hv
theorem Nt(s:AF):Cj (fun j=>j<s.next) s fun _=>none:=⟨fun _=>(0,0,0),fun p v hp=>(by cases hp),fun j hj=>⟨hj,rfl⟩⟩
def RowsIn(B:Nat→Prop)(s:AF)(v:AV)(cs:List (List Int)):Prop:=∃us:List AV,AX s.next s v us∧mz B v∧An s.next s us cs∧∀u∈us,mz B u
theorem RowsIn.keep{B:Nat→Prop}{s s':AF}{v:AV}{cs:List (List Int)}(h:RowsIn B s v cs)(k:Dv B s s'):RowsIn B s' v cs:=by
 obtain⟨us,h1,h2,h3,h4⟩:=h
 exact⟨us,(h1.keep fun j hj=>k.2 j (h2 j hj)).mono k.1,h2,(h3.keep fun u hu j hj=>k.2 j (h4 u hu j hj)).mono k.1,h4⟩
theorem RowsIn.len{B:Nat→Prop}{s:AF}{v:AV}{cs:List (List Int)}(h:RowsIn B s v cs)(s':AF):Aq Try.prog s' 22 v=some (iv (cs.length:Int)):=by
 obtain⟨us,h1,h2,h3,h4⟩:=h
 rw[← h3.1]
 exact h1.len Try.underlying22 s'
theorem RowsIn.row{B:Nat→Prop}{s:AF}{v:AV}{cs:List (List Int)}(h:RowsIn B s v cs){k:Nat}{L:List Int}(hk:cs[k]? = some L):∃a u,AC Try.prog 22 v (iv (k:Int))=some a∧AD Try.prog s 23 a=some u∧AX s.next s u (Ax L)∧mz B u:=by
 obtain⟨us,h1,h2,h3,h4⟩:=h
 obtain⟨u,q1,q2⟩:=h3.2 k L hk
 obtain⟨a,cap,rfl,hc⟩:=h1
 obtain⟨i,o,rfl,hi,hl⟩:=hc k u q1
 refine⟨_,u,Al Try.underlying22 CL (by have:=Ag q1;exact this),A4 DN (by rw[qa];exact hl),q2,h4 u (qL q1)⟩
end
end Go.Proofs.Ytilhhmkdcoajnaa.Am
set_option linter.unusedVariables false
set_option linter.unusedSimpArgs false
namespace Go.Proofs.Ytilhhmkdcoajnaa.Am
open Go Go.Proofs
noncomputable section
def fh:List AA:=[
 ⟨none,.p1 some,[(.const (.slice none 0 (some 0)))],(.set 3),[]⟩]
def fi:List AA:=[
 ⟨none,.p1 some,[(.const (.slice none 0 (some 0)))],(.set 4),[]⟩]
def fj:List AA:=[
 ⟨none,.p1 some,[(.const (.int .i64 (0)))],(.set 5),[]⟩]
def NC:List AA:=[
 ⟨none,.r (fun s l=>match l with | [x]=>Aq Try.prog s 42 x | _=>none),[.var 1],.push,[]⟩,
 ⟨none,.p2 (AL Try.prog .lss 3),[.var 5,.loc 0],.push,[]⟩,
 ⟨(some ((.loc 0),true)),.p1 some,[.var 4],.push,[]⟩,
 ⟨(some ((.loc 1),true)),.r (fun s l=>match l with | [x]=>Aq Try.prog s 22 x | _=>none),[.loc 0],.push,[]⟩,
 ⟨(some ((.loc 2),true)),.p1 some,[.var 2],.push,[]⟩,
 ⟨(some ((.loc 3),true)),.p2 (AL Try.prog .lss 3),[.loc 1,.loc 0],.push,[]⟩,
 ⟨none,.p Rn,[(.loc 4),(.loc 0),(.const (.bool false))],(.set 10),[]⟩]
def YM:List AA:=[
 ⟨none,.p2 (AC Try.prog 42),[.var 1,.var 5],.push,[]⟩,
 ⟨none,.r1 (fun s a=>AD Try.prog s 5 a),[.loc 0],.push,[]⟩,
 ⟨none,.p2 (AL Try.prog .rem 5),[(.loc 0),(.const (.int .u8 (4)))],.push,[]⟩,
 ⟨none,.r1 (fun s x=>CN Try.prog s 5 3 x),[.loc 0],.push,[]⟩,
 ⟨none,.p2 (AL Try.prog .add 3),[(.const (.int .i64 (1))),(.loc 0)],.push,[]⟩,
 ⟨none,.p1 some,[.loc 0],(.set 6),[]⟩]
def YN:List AA:=[
 ⟨none,.p2 (AC Try.prog 42),[.var 1,.var 5],.push,[]⟩,
 ⟨none,.r1 (fun s a=>AD Try.prog s 5 a),[.loc 0],.push,[]⟩,
 ⟨none,.p2 (AL Try.prog .rem 5),[(.loc 0),(.const (.int .u8 (29)))],.push,[]⟩,
 ⟨none,.p2 (AL Try.prog .eql 5),[(.loc 0),(.const (.int .u8 (7)))],(.set 11),[]⟩]
def fk:List AA:=[
 ⟨none,.p1 some,[(.const (.int .i64 (0)))],(.set 6),[]⟩]
def YO:List AA:=[
 ⟨none,.p1 some,[.var 5],.push,[]⟩,
 ⟨none,.p2 (AL Try.prog .add 3),[(.loc 0),(.const (.int .i64 (1)))],.push,[]⟩,
 ⟨none,.p1 some,[.loc 0],(.set 5),[]⟩]
def YP:List AA:=[
 ⟨none,.p1 some,[(.const (.slice none 0 (some 0)))],(.set 7),[]⟩]
def YQ:List AA:=[
 ⟨none,.p1 some,[(.const (.int .i64 (0)))],(.set 8),[]⟩]
def LB:List AA:=[
 ⟨none,.p2 (AL Try.prog .lss 3),[.var 8,.var 6],.push,[]⟩,
 ⟨(some ((.loc 0),true)),.p1 some,[.var 5],.push,[]⟩,
 ⟨(some ((.loc 1),true)),.p1 some,[.var 1],.push,[]⟩,
 ⟨(some ((.loc 2),true)),.r (fun s l=>match l with | [x]=>Aq Try.prog s 42 x | _=>none),[.loc 0],.push,[]⟩,
 ⟨(some ((.loc 3),true)),.p2 (AL Try.prog .lss 3),[.loc 2,.loc 0],.push,[]⟩,
 ⟨none,.p Rn,[(.loc 4),(.loc 0),(.const (.bool false))],(.set 12),[]⟩]
def SJ:List AA:=[
 ⟨none,.p2 (AC Try.prog 42),[.var 1,.var 5],.push,[]⟩,
 ⟨none,.r1 (fun s a=>AD Try.prog s 5 a),[.loc 0],.push,[]⟩,
 ⟨none,.p2 (AL Try.prog .quo 5),[(.loc 0),(.const (.int .u8 (2)))],.push,[]⟩,
 ⟨none,.r1 (fun s x=>CN Try.prog s 5 3 x),[.loc 0],.push,[]⟩,
 ⟨none,.p2 (AL Try.prog .rem 3),[.loc 0,.var 0],.push,[]⟩,
 ⟨none,.p2 (AL Try.prog .add 3),[(.const (.int .i64 (1))),(.loc 0)],.push,[]⟩,
 ⟨none,.p1 some,[.loc 0],(.set 9),[]⟩]
def SK:List AA:=[
 ⟨none,.p2 (AC Try.prog 42),[.var 1,.var 5],.push,[]⟩,
 ⟨none,.r1 (fun s a=>AD Try.prog s 5 a),[.loc 0],.push,[]⟩,
 ⟨none,.p2 (AL Try.prog .rem 5),[(.loc 0),(.const (.int .u8 (2)))],.push,[]⟩,
 ⟨none,.p2 (AL Try.prog .eql 5),[(.loc 0),(.const (.int .u8 (1)))],(.set 13),[]⟩]
def YK:List AA:=[
 ⟨none,.p1 some,[.var 9],.push,[]⟩,
 ⟨none,.p1 (GZ Try.prog Go.UnOp.neg),[.loc 0],.push,[]⟩,
 ⟨none,.p1 some,[.loc 0],(.set 9),[]⟩]
def SL:List AA:=[
 ⟨none,.p1 some,[.var 7],.push,[]⟩,
 ⟨none,.mk (fun l=>(Ae Try.prog 23 1 (zipIdx [0] l)).bind fun r=>some (r,.slice 1)),[.var 9],.push,[]⟩,
 ⟨none,.e (fun s l=>Af Try.prog s [23,23] l),[.loc 1,.loc 0],.push,[]⟩,
 ⟨none,.p1 some,[.loc 0],(.set 7),[]⟩]
def SM:List AA:=[
 ⟨none,.p1 some,[.var 5],.push,[]⟩,
 ⟨none,.p2 (AL Try.prog .add 3),[(.loc 0),(.const (.int .i64 (1)))],.push,[]⟩,
 ⟨none,.p1 some,[.loc 0],(.set 5),[]⟩]
def SN:List AA:=[
 ⟨none,.p1 some,[.var 8],.push,[]⟩,
 ⟨none,.p2 (AL Try.prog .add 3),[(.loc 0),(.const (.int .i64 (1)))],.push,[]⟩,
 ⟨none,.p1 some,[.loc 0],(.set 8),[]⟩]
def GM:Ac:=(.seq (.seq (.ops LB) (.cond (.var 12)
 .skip
 (.exit 2))) (.seq (.block 3 (.seq (.ops SJ) (.seq (.seq (.ops SK) (.cond (.var 13)
 (.ops YK)
 .skip)) (.seq (.ops SL) (.ops SM))))) (.ops SN)))
def JM:List AA:=[
 ⟨none,.r (fun s l=>match l with | [x]=>Aq Try.prog s 23 x | _=>none),[.var 7],.push,[]⟩,
 ⟨none,.p2 (AL Try.prog .gtr 3),[(.loc 0),(.const (.int .i64 (0)))],.push,[]⟩,
 ⟨(some ((.loc 0),false)),.p1 some,[.var 6],.push,[]⟩,
 ⟨(some ((.loc 1),false)),.p2 (AL Try.prog .eql 3),[(.loc 0),(.const (.int .i64 (0)))],.push,[]⟩,
 ⟨(some ((.loc 2),false)),.p1 some,[.loc 0],.push,[]⟩,
 ⟨(some ((.loc 0),true)),.p1 some,[.var 1],.push,[]⟩,
 ⟨(some ((.loc 1),true)),.p1 some,[.var 5],.push,[]⟩,
 ⟨(some ((.loc 2),true)),.p2 (AL Try.prog .sub 3),[(.loc 0),(.const (.int .i64 (1)))],.push,[]⟩,
 ⟨(some ((.loc 3),true)),.p2 (AC Try.prog 42),[.loc 2,.loc 0],.push,[]⟩,
 ⟨(some ((.loc 4),true)),.r1 (fun s a=>AD Try.prog s 5 a),[.loc 0],.push,[]⟩,
 ⟨(some ((.loc 5),true)),.p2 (AL Try.prog .eql 5),[(.loc 0),(.const (.int .u8 (7)))],.push,[]⟩,
 ⟨(some ((.loc 9),false)),.p Rn,[(.loc 6),(.loc 0),(.const (.bool false))],.push,[]⟩,
 ⟨none,.p Rn,[(.loc 10),(.const (.bool true)),(.loc 0)],(.set 14),[]⟩]
def JN:List AA:=[
 ⟨none,.p1 some,[.var 4],.push,[]⟩,
 ⟨none,.mk (fun l=>(Ae Try.prog 22 1 (zipIdx [0] l)).bind fun r=>some (r,.slice 1)),[.var 7],.push,[]⟩,
 ⟨none,.e (fun s l=>Af Try.prog s [22,22] l),[.loc 1,.loc 0],.push,[]⟩,
 ⟨none,.p1 some,[.loc 0],(.set 4),[]⟩]
def El:Ac:=(.seq (.seq (.ops NC) (.cond (.var 10)
 .skip
 (.exit 0))) (.block 1 (.seq (.ops YM) (.seq (.seq (.ops YN) (.cond (.var 11)
 (.ops fk)
 .skip)) (.seq (.ops YO) (.seq (.ops YP) (.seq (.seq (.ops YQ) (.block 2 (.loop GM))) (.seq (.ops JM) (.cond (.var 14)
 (.ops JN)
 .skip)))))))))
def YL:List AA:=[
 ⟨none,.p1 some,[.var 4],(.set 3),[]⟩]
def pW:Aw:=⟨3,15,(.seq (.ops fh) (.seq (.ops fi) (.seq (.seq (.ops fj) (.block 0 (.loop El))) (.seq (.ops YL) .ret)))),[((.var 3),none)]⟩
def fm:List AA:=[
 ⟨none,.p1 some,[(.const (.ptr none))],(.set 2),[]⟩]
def fo:List AA:=[
 ⟨none,.call 40,[.var 0],.push,[]⟩,
 ⟨none,.p1 some,[.loc 0],(.set 3),[]⟩]
def ft:List AA:=[
 ⟨none,.p2 (AL Try.prog .eql 44),[(.var 3),(.const (.ptr none))],.push,[]⟩,
 ⟨(some ((.loc 0),false)),.p1 some,[.var 3],.push,[]⟩,
 ⟨(some ((.loc 1),false)),.call 47,[.loc 0],.push,[]⟩,
 ⟨(some ((.loc 2),false)),.p1 some,[.var 0],.push,[]⟩,
 ⟨(some ((.loc 3),false)),.p2 (AL Try.prog .neq 3),[.loc 1,.loc 0],.push,[]⟩,
 ⟨none,.p Rn,[(.loc 4),(.const (.bool true)),(.loc 0)],(.set 5),[]⟩]
def nj:List AA:=[
 ⟨none,.p1 some,[(.const (.ptr none))],(.set 2),[]⟩]
def fu:List AA:=[
 ⟨none,.p1 some,[(.const (.int .i64 (0)))],(.set 4),[]⟩]
def fv:List AA:=[
 ⟨none,.r (fun s l=>match l with | [x]=>Aq Try.prog s 22 x | _=>none),[.var 1],.push,[]⟩,
 ⟨none,.p2 (AL Try.prog .lss 3),[.var 4,.loc 0],(.set 6),[]⟩]
def nk:List AA:=[
 ⟨none,.p2 (AC Try.prog 22),[.var 1,.var 4],.push,[]⟩,
 ⟨none,.r1 (fun s a=>AD Try.prog s 23 a),[.loc 0],.push,[]⟩,
 ⟨none,.call 36,[.var 3,.loc 0],.push,[]⟩,
 ⟨none,.p2 (AL Try.prog .neq 49),[(.loc 0),(.const (.int .i64 (0)))],(.set 7),[]⟩]
def nl:List AA:=[
 ⟨none,.p1 some,[(.const (.ptr none))],(.set 2),[]⟩]
def np:List AA:=[
 ⟨none,.p1 some,[.var 4],.push,[]⟩,
 ⟨none,.p2 (AL Try.prog .add 3),[(.loc 0),(.const (.int .i64 (1)))],.push,[]⟩,
 ⟨none,.p1 some,[.loc 0],(.set 4),[]⟩]
def fl:Ac:=(.seq (.seq (.ops fv) (.cond (.var 6)
 .skip
 (.exit 0))) (.seq (.block 1 (.seq (.ops nk) (.cond (.var 7)
 (.seq (.ops nl) .ret)
 .skip))) (.ops np)))
def YR:List AA:=[
 ⟨none,.p1 some,[.var 3],(.set 2),[]⟩]
def pX:Aw:=⟨2,8,(.seq (.ops fm) (.seq (.ops fo) (.seq (.seq (.ops ft) (.cond (.var 5)
 (.seq (.ops nj) .ret)
 .skip)) (.seq (.seq (.ops fu) (.block 0 (.loop fl))) (.seq (.ops YR) .ret))))),[((.var 2),none)]⟩
def gB:List AA:=[
 ⟨none,.p1 some,[(.const (.bool false))],(.set 0),[]⟩]
def gC:List AA:=[
 ⟨none,.call 40,[(.const (.int .i64 (2)))],.push,[]⟩,
 ⟨none,.p1 some,[.loc 0],(.set 1),[]⟩]
def gD:List AA:=[
 ⟨none,.call 47,[.var 1],.push,[]⟩,
 ⟨none,.p2 (AL Try.prog .neq 3),[(.loc 0),(.const (.int .i64 (2)))],.push,[]⟩,
 ⟨(some ((.loc 0),false)),.p1 some,[.var 1],.push,[]⟩,
 ⟨(some ((.loc 1),false)),.call 34,[(.loc 0),(.const (.int .i64 (729)))],.push,[]⟩,
 ⟨(some ((.loc 2),false)),.p2 (AL Try.prog .neq 3),[(.loc 0),(.const (.int .i64 (1)))],.push,[]⟩,
 ⟨none,.p Rn,[(.loc 3),(.const (.bool true)),(.loc 0)],(.set 4),[]⟩]
def nu:List AA:=[
 ⟨none,.p1 some,[(.const (.bool false))],(.set 0),[]⟩]
def gE:List AA:=[
 ⟨none,.mk (fun l=>(Ae Try.prog 23 2 (zipIdx [0,1] l)).bind fun r=>some (r,.slice 2)),[(.const (.int .i64 (1))),(.const (.int .i64 (2)))],.push,[]⟩,
 ⟨none,.call 36,[.var 1,.loc 0],.push,[]⟩]
def gF:List AA:=[
 ⟨none,.mk (fun l=>(Ae Try.prog 23 2 (zipIdx [0,1] l)).bind fun r=>some (r,.slice 2)),[(.const (.int .i64 (-1))),(.const (.int .i64 (2)))],.push,[]⟩,
 ⟨none,.call 36,[.var 1,.loc 0],.push,[]⟩]
def gG:List AA:=[
 ⟨none,.mk (fun l=>(Ae Try.prog 23 2 (zipIdx [0,1] l)).bind fun r=>some (r,.slice 2)),[(.const (.int .i64 (1))),(.const (.int .i64 (-2)))],.push,[]⟩,
 ⟨none,.call 36,[.var 1,.loc 0],.push,[]⟩]
def gH:List AA:=[
 ⟨none,.call 34,[(.var 1),(.const (.int .i64 (729)))],.push,[]⟩,
 ⟨none,.p2 (AL Try.prog .eql 3),[(.loc 0),(.const (.int .i64 (1)))],.push,[]⟩,
 ⟨(some ((.loc 0),true)),.p1 some,[.var 1],.push,[]⟩,
 ⟨(some ((.loc 1),true)),.call 41,[(.loc 0),(.const (.int .i64 (1)))],.push,[]⟩,
 ⟨none,.p Rn,[(.loc 2),(.loc 0),(.const (.bool false))],.push,[]⟩,
 ⟨(some ((.loc 0),true)),.p1 some,[.var 1],.push,[]⟩,
 ⟨(some ((.loc 1),true)),.call 41,[(.loc 0),(.const (.int .i64 (2)))],.push,[]⟩,
 ⟨none,.p Rn,[(.loc 2),(.loc 0),(.const (.bool false))],.push,[]⟩,
 ⟨none,.p1 some,[.loc 0],(.set 2),[]⟩]
def gI:List AA:=[
 ⟨none,.mk (fun l=>(Ae Try.prog 23 2 (zipIdx [0,1] l)).bind fun r=>some (r,.slice 2)),[(.const (.int .i64 (-1))),(.const (.int .i64 (-2)))],.push,[]⟩,
 ⟨none,.call 36,[.var 1,.loc 0],.push,[]⟩]
def gJ:List AA:=[
 ⟨none,.call 40,[(.const (.int .i64 (0)))],.push,[]⟩,
 ⟨none,.p1 some,[.loc 0],(.set 3),[]⟩]
def Yf:List AA:=[
 ⟨none,.call 36,[(.var 3),(.const (.slice none 0 (some 0)))],.push,[]⟩]
def Yg:List AA:=[
 ⟨(some ((.var 2),true)),.p1 some,[.var 1],.push,[]⟩,
 ⟨(some ((.var 2),true)),.call 34,[(.loc 0),(.const (.int .i64 (729)))],.push,[]⟩,
 ⟨(some ((.var 2),true)),.p2 (AL Try.prog .eql 3),[(.loc 0),(.const (.int .i64 (0)))],.push,[]⟩,
 ⟨none,.p Rn,[(.var 2),(.loc 0),(.const (.bool false))],.push,[]⟩,
 ⟨(some ((.loc 0),true)),.p1 some,[.var 3],.push,[]⟩,
 ⟨(some ((.loc 1),true)),.call 34,[(.loc 0),(.const (.int .i64 (0)))],.push,[]⟩,
 ⟨(some ((.loc 2),true)),.p2 (AL Try.prog .eql 3),[(.loc 0),(.const (.int .i64 (0)))],.push,[]⟩,
 ⟨none,.p Rn,[(.loc 3),(.loc 0),(.const (.bool false))],.push,[]⟩,
 ⟨none,.p1 some,[.loc 0],(.set 0),[]⟩]
def pY:Aw:=⟨0,5,(.seq (.ops gB) (.seq (.ops gC) (.seq (.seq (.ops gD) (.cond (.var 4)
 (.seq (.ops nu) .ret)
 .skip)) (.seq (.ops gE) (.seq (.ops gF) (.seq (.ops gG) (.seq (.ops gH) (.seq (.ops gI) (.seq (.ops gJ) (.seq (.ops Yf) (.seq (.ops Yg) .ret))))))))))),[((.var 0),none)]⟩
theorem lI:AS Try.prog 31=some pW:=by kernel_rfl
theorem lJ:AS Try.prog 32=some pX:=by kernel_rfl
theorem lL:AS Try.prog 37=some pY:=by kernel_rfl
end
end Go.Proofs.Ytilhhmkdcoajnaa.Am
