/- The law SatHoles: the places of birds, with a solver; conditions: sizes fit. -/
import Derived.Test.YtilhhmkdcoajnaaAmM10
import Derived.Test.YtilhhmkdcoajnaaAmM09
set_option linter.unusedVariables false
set_option linter.unusedSimpArgs false
set_option maxRecDepth 16000
namespace Go.Proofs.Ytilhhmkdcoajnaa.Am
open Go Go.Proofs
noncomputable section
def Nk(h b j:Nat):List Int:=(List.range j).map fun k=>((b * h+(k+1):Nat):Int)
theorem IW(h b j:Nat):(Nk h b j).length=j:=by unfold Nk;rw[kn,List.length_range]
theorem UE(h b j:Nat):Nk h b (j+1)=Nk h b j++[((b * h+(j+1):Nat):Int)]:=by
 unfold Nk
 rw[List.range_succ,la]
 rfl
theorem YV(h b:Nat):Nk h b h=PA h b:=rfl
section
variable{E:BJ}{p h birds:Nat}
theorem YX(hE:Good E)(hh:h≤4){b:Nat}(hb:b≤5){s1:AG}(v0 v1 v2 v4 v5 v9 v10 v11 v12 v13 v14 v15 v16 v17 v19 v20 v21 v22 v23:AV){Q:Ar→Prop}
  (hq:∀s' v' O' y8 y18,Dv s' v' h 1 (A3 (PA h b)) O'→(∀j,EO v'=some j→s1.next≤j)→B6 s1.next s1 s'→Q ⟨.exit 4,[v0,v1,v2,iv (h:Int),v4,v5,iv (b:Int),v',y8,v9,v10,v11,v12,v13,v14,v15,v16,v17,y18,v19,v20,v21,v22,v23],[],s'⟩):
  ∀ (m j:Nat) (s:AG) (v:AV) (O:List Nat) (x18:AV),h - j=m→j≤h→Dv s v j 1 (A3 (Nk h b j)) O→(∀i∈O,s1.next≤i)→(∀i,EO v=some i→s1.next≤i)→B6 s1.next s1 s →
   WC E none (.loop OH) Q [v0,v1,v2,iv (h:Int),v4,v5,iv (b:Int),v,iv ((j+1:Nat):Int),v9,v10,v11,v12,v13,v14,v15,v16,v17,x18,v19,v20,v21,v22,v23] [] s:=by
 intro m
 induction m with
 | zero =>
  intro j s v O x18 hm hj hd hO hS hold
  have hje:j=h:=by omega
  subst hje
  have hdd:decide (((j+1:Nat):Int)≤(j:Int))=false:=decide_eq_false (by omega)
  refine WC.loop' ?_
  simp only[OH,XQ,hdd,Qa,Qb,Qc,Qd,Qe,Qf,Qg,Qh,Qi,Qj,Qk,Ql,Qm,Qn,true_and,and_true,Qo,Qp,Qq,Qr,Qs,Qt,Qu,Qv,Qw,Qx,Qy,Qz,Ra,Rb,Rc,Rd,Re,Rf,Rg,Rh,Ri,Rj,Rk,Rl,Rm,Ya,Yb,Yc,Rn,Ro,Rp,Yd,Ye,Rq,Rs,Rt,Ru,Rv,Rw,Rx]
  exact hq s v O _ _ hd hS hold
 | succ m ih =>
  intro j s v O x18 hm hj hd hO hS hold
  have hdd:decide (((j+1:Nat):Int)≤(h:Int))=true:=decide_eq_true (by omega)
  have hbh:b * h≤5 * 4:=mZ hb hh
  have m1:=aH (b:=b) (h:=h) (by omega) (by omega)
  have a1:=Lo (a:=b * h) (k:=j+1) (by omega) (by omega)
  have a3:=Lo (a:=j+1) (k:=1) (by omega) (by decide)
  have e1:iv ((1:Nat):Int)=iv 1:=rfl
  rw[e1]at a3
  have b1:∀y:Int,Ab Try.prog 23 1 (zipIdx [0] [iv y])=some (AO 3 1 [iv y]):=fun y=>Cj Try.underlying23 Be Pd rfl rfl
  have hmv:∀ (m:Nat) (i:Nat),Made.val i (.slice m)=.slice (some (i,0)) m (some m):=fun _ _=>rfl
  obtain⟨v',s',O',p1,p2,p3,p4,p5,p6⟩:=UC (L:=Nk h b j) (by rw[IW];exact hd) (by rw[IW];omega) ((b * h+(j+1):Nat):Int)
  rw[← UE,IW]at p2
  refine WC.loop' ?_
  generalize hW:WC E none (Aa.loop OH) Q=W at ih ⊢
  simp only[OH,XQ,hdd,eF,m1,a1,b1,hmv,p1,eG,a3,Qa,Qb,Qc,Qd,Qe,Qf,Qg,Qh,Qi,Qj,Qk,Ql,Qm,Qn,true_and,and_true,Qo,Qp,Qq,Qr,Qs,Qt,Qu,Qv,Qw,Qx,Qy,Qz,Ra,Rb,Rc,Rd,Re,Rf,Rg,Rh,Ri,Rj,Rk,Rl,Rm,Ya,Yb,Yc,Rn,Ro,Rp,Yd,Ye,Rq,Rs,Rt,Ru,Rv,Rw,Rx]
  exact ih (j+1) s' v' O' _ (by omega) (by omega) p2 (fun i hi=>(p5 i hi).elim (hO i) fun q=>lF hold.1 q) (fun i hi=>(p6 i hi).elim (hS i) fun q=>lF hold.1 q) (hold.trans ⟨p3,fun i hi=>p4 i (lR hi hold.1) fun hm=>by have:=hO i hm;omega⟩)
theorem TP(hE:Good E)(hh:h≤4)(hbi:birds≤5){B:Nat→Prop}{V:Nat→Option Sv}(v0 v1 v2 v11 v12 v13 v14 v15 v16 v21 v22 v23:AV){Q:Ar→Prop}
  (hq:∀s' v F y7 y8 y9 y10 y17 y18 y19 y20,B3 B s' (Dr V p v)→Yz (birds * h) F.length F 0 v→Pg h birds birds birds 0 1 F→F.length≤150→Q ⟨.exit 2,[v0,v1,v2,iv (h:Int),iv (birds:Int),AJ p,iv (birds:Int),y7,y8,y9,y10,v11,v12,v13,v14,v15,v16,y17,y18,y19,y20,v21,v22,v23],[],s'⟩):
  ∀ (m b:Nat) (s:AG) (v:Sv) (F:List (List Int)) (x7 x8 x9 x10 x17 x18 x19 x20:AV),birds - b=m→b≤birds→B3 B s (Dr V p v)→Yz (birds * h) F.length F 0 v→Pg h birds b b 0 1 F→F.length≤30 * b →
   WC E none (.loop OK) Q [v0,v1,v2,iv (h:Int),iv (birds:Int),AJ p,iv (b:Int),x7,x8,x9,x10,v11,v12,v13,v14,v15,v16,x17,x18,x19,x20,v21,v22,v23] [] s:=by
 have hn:birds * h≤20:=lF (mZ hbi hh) (by decide)
 intro m
 induction m with
 | zero =>
  intro b s v F x7 x8 x9 x10 x17 x18 x19 x20 hm hb hS hI hP hl
  have hbe:b=birds:=by omega
  subst hbe
  refine WC.loop' ?_
  simp only[OK,fa,lT,decide_false,Qa,Qb,Qc,Qd,Qe,Qf,Qg,Qh,Qi,Qj,Qk,Ql,Qm,Qn,true_and,and_true,Qo,Qp,Qq,Qr,Qs,Qt,Qu,Qv,Qw,Qx,Qy,Qz,Ra,Rb,Rc,Rd,Re,Rf,Rg,Rh,Ri,Rj,Rk,Rl,Rm,Ya,Yb,Yc,Rn,Ro,Rp,Yd,Ye,Rq,Rs,Rt,Ru,Rv,Rw,Rx]
  exact hq s v F _ _ _ _ _ _ _ _ hS hI hP (by omega)
 | succ m ih =>
  intro b s v F x7 x8 x9 x10 x17 x18 x19 x20 hm hb hS hI hP hl
  have hb:b<birds:=by omega
  have hd:decide ((b:Int)<(birds:Int))=true:=decide_eq_true (by omega)
  have a3:=Lo (a:=b) (k:=1) (by omega) (by decide)
  have e1:iv ((1:Nat):Int)=iv 1:=rfl
  rw[e1]at a3
  refine WC.loop' ?_
  generalize hW:WC E none (Aa.loop OK) Q=W at ih ⊢
  simp only[OK,fa,hd,jD,eE,Qa,Qb,Qc,Qd,Qe,Qf,Qg,Qh,Qi,Qj,Qk,Ql,Qm,Qn,true_and,and_true,Qo,Qp,Qq,Qr,Qs,Qt,Qu,Qv,Qw,Qx,Qy,Qz,Ra,Rb,Rc,Rd,Re,Rf,Rg,Rh,Ri,Rj,Rk,Rl,Rm,Ya,Yb,Yc,Rn,Ro,Rp,Yd,Ye,Rq,Rs,Rt,Ru,Rv,Rw,Rx]
  refine YX hE hh (b:=b) (by omega) (s1:=s) _ _ _ _ _ _ _ _ _ _ _ _ _ _ _ _ _ _ _ ?_ h 0 s (.slice none 0 (some 0)) [] _ (by omega) (ku _) (by simpa[Nk]using Dv.nil s 1) (fun j hj=>by cases hj) (fun j hj=>by cases hj) (B6.refl _ _)
  intro s1 c O y8 y18 hdst hsl hold
  have hcl:=hdst.slice
  have hS1:=hS.old hold
  have hkind:TK h birds (PA h b):=.inl ⟨b,hb,rfl⟩
  have hadd:=Mg hE hS1 (Ay V p v) hI (J':=fun _=>True) ⟨by omega,by omega,by omega⟩ (f:=PA h b) hkind.lits (by rw[← YV,IW];omega) (fun _ _=>trivial) (kp _) hcl (fun j hj=>.inr ⟨hsl j hj,hdst.slot_lt j hj⟩)
  simp only[AJ]at hadd
  simp only[if_true,eH,AJ,Qa,Qb,Qc,Qd,Qe,Qf,Qg,Qh,Qi,Qj,Qk,Ql,Qm,Qn,true_and,and_true,Qo,Qp,Qq,Qr,Qs,Qt,Qu,Qv,Qw,Qx,Qy,Qz,Ra,Rb,Rc,Rd,Re,Rf,Rg,Rh,Ri,Rj,Rk,Rl,Rm,Ya,Yb,Yc,Rn,Ro,Rp,Yd,Ye,Rq,Rs,Rt,Ru,Rv,Rw,Rx]
  refine hadd.mono ?_
  rintro _ s2 ⟨rfl,v',i',g3,_⟩
  rw[CJ]at g3
  have g3:=g3.less (B':=B) fun j hj=>.inl hj
  simp only[eI,Qa,Qb,Qc,Qd,Qe,Qf,Qg,Qh,Qi,Qj,Qk,Ql,Qm,Qn,true_and,and_true,Qo,Qp,Qq,Qr,Qs,Qt,Qu,Qv,Qw,Qx,Qy,Qz,Ra,Rb,Rc,Rd,Re,Rf,Rg,Rh,Ri,Rj,Rk,Rl,Rm,Ya,Yb,Yc,Rn,Ro,Rp,Yd,Ye,Rq,Rs,Rt,Ru,Rv,Rw,Rx]
  refine R5 hE hh hbi hb (s0:=s2) _ _ _ _ _ _ _ _ _ _ _ _ _ _ _ _ ?_ b 0 s2 v' (F++[PA h b]) _ _ _ (by omega) (ku _) g3 (Dc.refl _ _) (by rw[kr];exact i') (hP.row hb) (by rw[kr];simp only[lO,lm];omega)
  intro s3 v3 F3 y10 y19 y20 g4 _ i4 hP4 hl4
  simp only[if_true,eP,a3,Qa,Qb,Qc,Qd,Qe,Qf,Qg,Qh,Qi,Qj,Qk,Ql,Qm,Qn,true_and,and_true,Qo,Qp,Qq,Qr,Qs,Qt,Qu,Qv,Qw,Qx,Qy,Qz,Ra,Rb,Rc,Rd,Re,Rf,Rg,Rh,Ri,Rj,Rk,Rl,Rm,Ya,Yb,Yc,Rn,Ro,Rp,Yd,Ye,Rq,Rs,Rt,Ru,Rv,Rw,Rx]
  subst hW
  exact ih (b+1) s3 v3 F3 _ _ _ _ _ _ _ _ (by omega) (by omega) g4 i4 hP4 hl4
end
def Xx(h:Nat)(v:Nat):Bool:=decide ((v - 1) / h=(v - 1) % h)
theorem NR{h b k:Nat}(hk1:1≤k)(hk:k≤h):Xx h (b * h+k)=decide (b+1=k):=by
 unfold Xx
 have e:b * h+k - 1=h * b+(k - 1):=by rw[Nat.mul_comm];omega
 rw[e,Nat.mul_add_div (by omega),Nat.mul_add_mod,Nat.div_eq_of_lt (by omega),Nat.mod_eq_of_lt (by omega)]
 by_cases q:b+1=k
 ·rw[decide_eq_true q,decide_eq_true (by omega)]
 ·rw[decide_eq_false q,decide_eq_false (by omega)]
theorem Od{h:Nat}{F:List (List Int)}(hk:∀f∈F,TK h h f):BQ (Xx h) F:=by
  intro f hf
  rcases hk f hf with⟨b,hb,rfl⟩ | ⟨b,o,k,h1,h2,h3,h4,rfl⟩
  · refine ⟨((b * h + (b + 1) : Nat) : Int), List.mem_map.2 ⟨b, List.mem_range.2 hb, rfl⟩, .inl ⟨by omega, ?_⟩⟩
    rw[l7,NR (by omega) (by omega)]
    exact decide_eq_true rfl
  · by_cases e : b + 1 = k
    · refine ⟨-((o * h + k : Nat) : Int), by simp [GI],    .inr ⟨by omega, ?_⟩⟩
      rw[lJ,l7,NR h3 h4]
      exact decide_eq_false (by omega)
    · refine ⟨-((b * h + k : Nat) : Int), by simp [GI],    .inr ⟨by omega, ?_⟩⟩
      rw[lJ,l7,NR h3 h4]
      exact decide_eq_false e
theorem aP{h o k:Nat}{F:List (List Int)}(g:Pg h (h+1) (h+1) (h+1) o k F){σ:Nat→Bool}(hm:BQ σ F):False:=by
  have pick:∀b',b'<h+1→∃k',1≤k'∧k'≤h∧σ (b' * h+k')=true:=fun b' hb'=>by
    obtain⟨y,hy,hs⟩:=hm _ (g.rows b' hb')
    obtain⟨k',hk',rfl⟩:=List.mem_map.1 hy
    rw[List.mem_range]at hk'
    rcases hs with⟨_,q⟩ | ⟨q,_⟩
    · rw[l7]at q
      exact⟨k'+1,by omega,hk',q⟩
    · omega
  have hp:∃f:Nat→Nat,∀b',b'<h+1→1≤f b'∧f b'≤h∧σ (b' * h+f b')=true:=by
    refine⟨fun b'=>if hb:b'<h+1 then (pick b' hb).choose else 0,fun b' hb'=>?_⟩
    simp only[dif_pos hb']
    exact(pick b' hb').choose_spec
  obtain⟨f,hf⟩:=hp
  have hne:∀b' o',o'<b'→b'<h+1→f b'≠f o':=fun b' o' h1 h2 e=>by
    obtain⟨a1,a2,a3⟩:=hf b' h2
    obtain⟨c1,c2,c3⟩:=hf o' (by omega)
    have hin:=g.pairs b' o' (f b') h1 a1 a2 (.inl h2)
    obtain⟨y,hy,hs⟩:=hm _ hin
    simp only[GI,lM,mR,or_false]at hy
    rcases hy with q | q
    · rw [q] at hs
      rcases hs with⟨z,_⟩ | ⟨_,z⟩
      · omega
      · rw[lJ,l7,a3]at z;cases z
    · rw [q, e] at hs
      rcases hs with⟨z,_⟩ | ⟨_,z⟩
      · omega
      · rw[lJ,l7,c3]at z;cases z
  have hnd:((List.range (h+1)).map f).Nodup:=by
    rw[List.Nodup,List.pairwise_map]
    refine List.Pairwise.imp_of_mem ?_ (List.nodup_range (n:=h+1))
    intro a c ha hc hac e
    rw[List.mem_range]at ha hc
    rcases Nat.lt_or_gt_of_ne hac with q | q
    · exact hne c a q hc e.symm
    · exact hne a c q ha e
  have:=Cc (n:=h) hnd fun x hx=>by
    obtain⟨b',hb',rfl⟩:=List.mem_map.1 hx
    obtain⟨a1,a2,_⟩:=hf b' (List.mem_range.1 hb')
    exact⟨a1,a2⟩
  rw[kn,List.length_range]at this
  omega
section
variable{E:BJ}
theorem US        (hE : Good E) {h : Nat} (hh2 : 2 ≤ h) (hh : h ≤ 4) (v0 v1 v2 v12 v13 v14 v15 v22 v23 : AV) {Q : Ar   → Prop}
    (hq:∀s' y4 y5 y6 y7 y8 y9 y10 y11 y16 y17 y18 y19 y20 y21,Q ⟨.exit 0,[v0,v1,v2,iv (h:Int),y4,y5,y6,y7,y8,y9,y10,y11,v12,v13,v14,v15,y16,y17,y18,y19,y20,y21,v22,v23],[],s'⟩):
    ∀ (m birds:Nat) (s:AG) (x5 x6 x7 x8 x9 x10 x11 x16 x17 x18 x19 x20 x21:AV),h+2 - birds=m→h≤birds→birds≤h+2 →
      WC E none (.loop OL) Q [v0,v1,v2,iv (h:Int),iv (birds:Int),x5,x6,x7,x8,x9,x10,x11,v12,v13,v14,v15,x16,x17,x18,x19,x20,x21,v22,v23] [] s:=by
  have e1:iv ((1:Nat):Int)=iv 1:=rfl
  have a0:=Lo (a:=h) (k:=1) (by omega) (by decide)
  rw[e1]at a0
  intro m
  induction m with
  | zero =>
    intro birds s x5 x6 x7 x8 x9 x10 x11 x16 x17 x18 x19 x20 x21 hm hb1 hb2
    have hd:decide ((birds:Int)≤((h+1:Nat):Int))=false:=decide_eq_false (by omega)
    refine WC.loop' ?_
    simp only[OL,fZ,a0,hd,Qa,Qb,Qc,Qd,Qe,Qf,Qg,Qh,Qi,Qj,Qk,Ql,Qm,Qn,true_and,and_true,Qo,Qp,Qq,Qr,Qs,Qt,Qu,Qv,Qw,Qx,Qy,Qz,Ra,Rb,Rc,Rd,Re,Rf,Rg,Rh,Ri,Rj,Rk,Rl,Rm,Ya,Yb,Yc,Rn,Ro,Rp,Yd,Ye,Rq,Rs,Rt,Ru,Rv,Rw,Rx]
    exact hq _ _ _ _ _ _ _ _ _ _ _ _ _ _ _
  | succ m ih =>
    intro birds s x5 x6 x7 x8 x9 x10 x11 x16 x17 x18 x19 x20 x21 hm hb1 hb2
    have hd:decide ((birds:Int)≤((h+1:Nat):Int))=true:=decide_eq_true (by omega)
    have hbi:birds≤5:=by omega
    have hn:birds * h≤20:=lF (mZ hbi hh) (by decide)
    have m1:=aH (b:=birds) (h:=h) (by omega) (by omega)
    have a3:=Lo (a:=birds) (k:=1) (by omega) (by decide)
    rw[e1]at a3
    have hnew:=Mh hE (JJ s) (n:=birds * h) (by omega) (J:=fun _=>True) (fun _ _ _ _=>trivial)
    refine WC.loop' ?_
    generalize hW:WC E none (Aa.loop OL) Q=W at ih ⊢
    simp only[OL,fZ,a0,hd,jB,m1,Qa,Qb,Qc,Qd,Qe,Qf,Qg,Qh,Qi,Qj,Qk,Ql,Qm,Qn,true_and,and_true,Qo,Qp,Qq,Qr,Qs,Qt,Qu,Qv,Qw,Qx,Qy,Qz,Ra,Rb,Rc,Rd,Re,Rf,Rg,Rh,Ri,Rj,Rk,Rl,Rm,Ya,Yb,Yc,Rn,Ro,Rp,Yd,Ye,Rq,Rs,Rt,Ru,Rv,Rw,Rx]
    refine hnew.mono ?_
    rintro _ s1 ⟨v,rfl,_,g1,_,i1⟩
    generalize s.next=p at *
    simp only[jC,Qa,Qb,Qc,Qd,Qe,Qf,Qg,Qh,Qi,Qj,Qk,Ql,Qm,Qn,true_and,and_true,Qo,Qp,Qq,Qr,Qs,Qt,Qu,Qv,Qw,Qx,Qy,Qz,Ra,Rb,Rc,Rd,Re,Rf,Rg,Rh,Ri,Rj,Rk,Rl,Rm,Ya,Yb,Yc,Rn,Ro,Rp,Yd,Ye,Rq,Rs,Rt,Ru,Rv,Rw,Rx]
    refine TP hE hh hbi (p:=p) _ _ _ _ _ _ _ _ _ _ _ _ ?_ birds 0 s1 v [] _ _ _ _ _ _ _ _ (by omega) (ku _) g1 i1 ⟨fun f hf=>(by cases hf),fun b' q=>(by omega),fun b' o' k' q1 _ _ q2=>(by omega)⟩ (kp _)
    intro s2 v2' F y7 y8 y9 y10 y17 y18 y19 y20 g2 i2 hP hl
    have e100:iv ((100000:Nat):Int)=iv 100000:=rfl
    have hsol:=PN hE g2 (Ay _ p v2') (JM _ _) i2 (most:=100000) ⟨by omega,by omega,by omega⟩ hP.lits
    simp only[AJ,e100]at hsol
    simp only[if_true,eQ,AJ,Qa,Qb,Qc,Qd,Qe,Qf,Qg,Qh,Qi,Qj,Qk,Ql,Qm,Qn,true_and,and_true,Qo,Qp,Qq,Qr,Qs,Qt,Qu,Qv,Qw,Qx,Qy,Qz,Ra,Rb,Rc,Rd,Re,Rf,Rg,Rh,Ri,Rj,Rk,Rl,Rm,Ya,Yb,Yc,Rn,Ro,Rp,Yd,Ye,Rq,Rs,Rt,Ru,Rv,Rw,Rx]
    refine hsol.mono ?_
    rintro _ s3 ⟨c,v3,rfl,i3,hc,g3,_⟩
    subst hW
    by_cases hbe:birds=h
    · subst hbe
      have hc0:c≠0:=fun e=>by
        rcases hc with⟨_,q,_⟩ | ⟨q,_⟩ | q
        · exact q _ (Od hP.kind)
        · omega
        · omega
      have d1:decide (c=0)=false:=decide_eq_false hc0
      have d3:decide ((birds:Int)<(birds:Int))=false:=decide_eq_false (by omega)
      simp only[XT,decide_true,d1,d3,Rn,XU,a3,Qa,Qb,Qc,Qd,Qe,Qf,Qg,Qh,Qi,Qj,Qk,Ql,Qm,Qn,true_and,and_true,Qo,Qp,Qq,Qr,Qs,Qt,Qu,Qv,Qw,Qx,Qy,Qz,Ra,Rb,Rc,Rd,Re,Rf,Rg,Rh,Ri,Rj,Rk,Rl,Rm,Ya,Yb,Yc,Rn,Ro,Rp,Yd,Ye,Rq,Rs,Rt,Ru,Rv,Rw,Rx]
      exact ih _ _ _ _ _ _ _ _ _ _ _ _ _ _ _ (by omega) (by omega) (by omega)
    · have hbe:birds=h+1:=by omega
      subst hbe
      have hc1:c≠1:=fun e=>by
        rcases hc with⟨q,_,_⟩ | ⟨_,q⟩ | q
        · omega
        · exact aP hP q
        · omega
      have d1:decide (((h+1:Nat):Int)=(h:Int))=false:=decide_eq_false (by omega)
      have d2:decide ((h:Int)<((h+1:Nat):Int))=true:=decide_eq_true (by omega)
      have d3:decide (c=1)=false:=decide_eq_false hc1
      simp only[XT,d1,d2,d3,Rn,XU,a3,Qa,Qb,Qc,Qd,Qe,Qf,Qg,Qh,Qi,Qj,Qk,Ql,Qm,Qn,true_and,and_true,Qo,Qp,Qq,Qr,Qs,Qt,Qu,Qv,Qw,Qx,Qy,Qz,Ra,Rb,Rc,Rd,Re,Rf,Rg,Rh,Ri,Rj,Rk,Rl,Rm,Ya,Yb,Yc,Rn,Ro,Rp,Yd,Ye,Rq,Rs,Rt,Ru,Rv,Rw,Rx]
      exact ih _ _ _ _ _ _ _ _ _ _ _ _ _ _ _ (by omega) (by omega) (by omega)
structure TL(n i:Nat)(F:List (List Int)):Prop where
 kind:∀f∈F,∃j:Nat,1≤j∧j<n∧f=[-(j:Int),(j:Int)+1]
 has:∀j:Nat,1≤j→j<i→[-(j:Int),(j:Int)+1]∈F
theorem RE         (hE : Good E) {n p : Nat} (hn : n ≤ 41) {B : Nat → Prop} {V : Nat → Option Sv} (v0 v1 v2 v3 v4 v5 v6 v7 v8 v9 v10 v11 v15 v16 v17 v18 v19 v20 v21 v23 : AV) {Q : Ar   → Prop}
    (hq:∀s' v F y14 y22,B3 B s' (Dr V p v)→Yz n F.length F 0 v→TL n n F→F.length≤41→Q ⟨.exit 10,[v0,v1,v2,v3,v4,v5,v6,v7,v8,v9,v10,v11,iv (n:Int),AJ p,y14,v15,v16,v17,v18,v19,v20,v21,y22,v23],[],s'⟩):
    ∀ (m i:Nat) (s:AG) (v:Sv) (F:List (List Int)) (x22:AV),n - i=m→1≤i→i≤n→B3 B s (Dr V p v)→Yz n F.length F 0 v→TL n i F→F.length≤i →
      WC E none (.loop OM) Q [v0,v1,v2,v3,v4,v5,v6,v7,v8,v9,v10,v11,iv (n:Int),AJ p,iv (i:Int),v15,v16,v17,v18,v19,v20,v21,x22,v23] [] s:=by
  have e1:iv ((1:Nat):Int)=iv 1:=rfl
  have hmv:∀ (m:Nat) (i:Nat),Made.val i (.slice m)=.slice (some (i,0)) m (some m):=fun _ _=>rfl
  intro m
  induction m with
  | zero =>
    intro i s v F x22 hm h1 hi hS hI hF hl
    have hie:i=n:=by omega
    subst hie
    refine WC.loop' ?_
    simp only[OM,XV,lT,decide_false,Qa,Qb,Qc,Qd,Qe,Qf,Qg,Qh,Qi,Qj,Qk,Ql,Qm,Qn,true_and,and_true,Qo,Qp,Qq,Qr,Qs,Qt,Qu,Qv,Qw,Qx,Qy,Qz,Ra,Rb,Rc,Rd,Re,Rf,Rg,Rh,Ri,Rj,Rk,Rl,Rm,Ya,Yb,Yc,Rn,Ro,Rp,Yd,Ye,Rq,Rs,Rt,Ru,Rv,Rw,Rx]
    exact hq s v F _ _ hS hI hF (by omega)
  | succ m ih =>
    intro i s v F x22 hm h1 hi hS hI hF hl
    have hd:decide ((i:Int)<(n:Int))=true:=decide_eq_true (by omega)
    have n1:=aK (a:=i) (by omega)
    have a3:=Lo (a:=i) (k:=1) (by omega) (by decide)
    rw[e1]at a3
    have hlit:∀q∈[-(i:Int),((i+1:Nat):Int)],VL n q:=fun q hq=>by
      simp only[lM,mR,or_false]at hq
      rcases hq with e | e
      · rw[e];exact⟨by omega,by omega⟩
      · rw[e];exact⟨by omega,by omega⟩
    refine WC.loop' ?_
    generalize hW:WC E none (Aa.loop OM) Q=W at ih ⊢
    simp only[OM,XV,hd,eV,n1,a3,Fc,hmv,AJ,Qa,Qb,Qc,Qd,Qe,Qf,Qg,Qh,Qi,Qj,Qk,Ql,Qm,Qn,true_and,and_true,Qo,Qp,Qq,Qr,Qs,Qt,Qu,Qv,Qw,Qx,Qy,Qz,Ra,Rb,Rc,Rd,Re,Rf,Rg,Rh,Ri,Rj,Rk,Rl,Rm,Ya,Yb,Yc,Rn,Ro,Rp,Yd,Ye,Rq,Rs,Rt,Ru,Rv,Rw,Rx]
    refine Jw hE hS (Ay V p v) hI ⟨by omega,by omega,by omega⟩ (f:=[-(i:Int),((i+1:Nat):Int)]) hlit (by simp) (by simp) ?_
    intro s' v' g1 g2 g3
    rw[CJ]at g2
    simp only[eW,a3,Qa,Qb,Qc,Qd,Qe,Qf,Qg,Qh,Qi,Qj,Qk,Ql,Qm,Qn,true_and,and_true,Qo,Qp,Qq,Qr,Qs,Qt,Qu,Qv,Qw,Qx,Qy,Qz,Ra,Rb,Rc,Rd,Re,Rf,Rg,Rh,Ri,Rj,Rk,Rl,Rm,Ya,Yb,Yc,Rn,Ro,Rp,Yd,Ye,Rq,Rs,Rt,Ru,Rv,Rw,Rx]
    subst hW
    refine ih (i+1) s' v' (F++[[-(i:Int),((i+1:Nat):Int)]]) _ (by omega) (by omega) (by omega) g2 (by rw[kr];exact g1) ⟨fun f hf=>?_,fun j hj1 hj2=>?_⟩ (by rw[kr];simp only[lO,lm];omega)
    · rcases List.mem_append.1 hf with q | q
      · exact hF.kind f q
      · exact⟨i,h1,by omega,by rw[List.mem_singleton.1 q];rfl⟩
    · by_cases e : j = i
      · rw[e]
        exact lU _ (List.mem_singleton.2 rfl)
      · exact lE _ (hF.has j hj1 (by omega))
theorem YY{n:Nat}{F:List (List Int)}(hF:TL n n F):BQ (fun _=>true) (F++[[1]]):=by
 intro f hf
 rcases List.mem_append.1 hf with q | q
 ·obtain⟨j,h1,h2,rfl⟩:=hF.kind f q
  exact⟨(j:Int)+1,by simp,.inl ⟨by omega,rfl⟩⟩
 ·rw[List.mem_singleton.1 q]
  exact⟨1,by simp,.inl ⟨by decide,rfl⟩⟩
theorem PC       {n : Nat} (h1 : 1 ≤ n) {F G : List (List Int)} (hF : TL   n n F) (hG : ∀ f ∈ F ++ [[1]], f ∈ G) {σ : Nat → Bool} (hm : BQ     σ G) : σ n = true := by
  have all:∀i:Nat,i+1≤n→σ (i+1)=true:=by
    intro i
    induction i with
    | zero =>
      intro _
      obtain⟨y,hy,hs⟩:=hm [1] (hG _ (by simp))
      rw[List.mem_singleton.1 hy]at hs
      rcases hs with⟨_,q⟩ | ⟨q,_⟩
      · exact q
      · omega
    | succ i ih =>
      intro hi
      have hp:=ih (by omega)
      obtain⟨y,hy,hs⟩:=hm _ (hG _ (lE _ (hF.has (i+1) (by omega) (by omega))))
      simp only[lM,mR,or_false]at hy
      rcases hy with e | e
      · rw [e] at hs
        rcases hs with⟨q,_⟩ | ⟨_,q⟩
        · omega
        · rw[lJ,l7,hp]at q;cases q
      · rw [e] at hs
        rcases hs with⟨_,q⟩ | ⟨q,_⟩
        · rw[show(((i+1:Nat):Int)+1)=((i+1+1:Nat):Int) by omega,l7]at q
          exact q
        · omega
  have:=all (n - 1) (by omega)
  rw[show n - 1+1=n by omega]at this
  exact this
theorem TL.lits{n:Nat}(h2:2≤n){F:List (List Int)}(hF:TL n n F):∀f∈F++[[1]],∀y∈f,VL n y:=by
 intro f hf
 rcases List.mem_append.1 hf with q | q
 ·obtain⟨j,h1,h3,rfl⟩:=hF.kind f q
  intro y hy
  simp only[lM,mR,or_false]at hy
  rcases hy with e | e
  ·rw[e];exact⟨by omega,by omega⟩
  ·rw[e];exact⟨by omega,by omega⟩
 ·rw[List.mem_singleton.1 q]
  intro y hy
  rw[List.mem_singleton.1 hy]
  exact⟨by decide,by show 1≤n;omega⟩
theorem N4(x:Int):Ab Try.prog 23 1 (zipIdx [0] [iv x])=some (AO 3 1 [iv x]):=Cj Try.underlying23 Be Pd rfl rfl
theorem Xw(hE:Good E){s:AG}{d r:Int}(hd:u8 d)(hr:u8 r):WF E 9 [Y3 d,Y3 r] (fun r _=>r=.bool true) s:=by
 obtain⟨d1,d2⟩:=hd
 obtain⟨r1,r2⟩:=hr
 have e1:iv ((1:Nat):Int)=iv 1:=rfl
 have e0:iv ((0:Nat):Int)=iv 0:=rfl
 have hmv:∀ (m:Nat) (i:Nat),Made.val i (.slice m)=.slice (some (i,0)) m (some m):=fun _ _=>rfl
 have q1:AM Try.prog .rem 5 (Y3 d) (Y3 3)=some (Y3 (d % 3)):=Mz (P:=Try.prog) (t:=5) (k:=.u8) d1 (by decide)
 have q2:∀s,Ck Try.prog s 5 3 (Y3 (d % 3))=some (iv (d % 3)):=fun s=>NG ⟨by omega,by omega⟩
 have q3:AM Try.prog .add 3 (iv 2) (iv (d % 3))=some (iv ((2+d % 3).toNat:Int)):=by
  rw[Ao Try.prog 3 2 (d % 3) ⟨by omega,by omega⟩]
  congr 2
  omega
 have w1:AM Try.prog .rem 5 (Y3 r) (Y3 40)=some (Y3 (r % 40)):=Mz (P:=Try.prog) (t:=5) (k:=.u8) r1 (by decide)
 have w2:∀s,Ck Try.prog s 5 3 (Y3 (r % 40))=some (iv (r % 40)):=fun s=>NG ⟨by omega,by omega⟩
 have w3:AM Try.prog .add 3 (iv 2) (iv (r % 40))=some (iv ((2+r % 40).toNat:Int)):=by
  rw[Ao Try.prog 3 2 (r % 40) ⟨by omega,by omega⟩]
  congr 2
  omega
 have hh2:2≤(2+d % 3).toNat:=by omega
 have hh4:(2+d % 3).toNat≤4:=by omega
 have hn2:2≤(2+r % 40).toNat:=by omega
 have hn4:(2+r % 40).toNat≤41:=by omega
 generalize (2+d % 3).toNat=h at *
 generalize (2+r % 40).toNat=n at *
 refine hE.go jE (by decide) rfl ?_
 simp only[c9,iq,ir,Qa,Qb,Qc,Qd,Qe,Qf,Qg,Qh,Qi,Qj,Qk,Ql,Qm,Qn,true_and,and_true,Qo,Qp,Qq,Qr,Qs,Qt,Qu,Qv,Qw,Qx,Qy,Qz,Ra,Rb,Rc,Rd,Re,Rf,Rg,Rh,Ri,Rj,Rk,Rl,Rm,Ya,Yb,Yc,Rn,Ro,Rp,Yd,Ye,Rq,Rs,Rt,Ru,Rv,Rw,Rx]
 refine(Yw hE (JJ s)).mono ?_
 rintro _ s1 ⟨rfl,_⟩
 simp only[iy,q1,q2,q3,iz,Qa,Qb,Qc,Qd,Qe,Qf,Qg,Qh,Qi,Qj,Qk,Ql,Qm,Qn,true_and,and_true,Qo,Qp,Qq,Qr,Qs,Qt,Qu,Qv,Qw,Qx,Qy,Qz,Ra,Rb,Rc,Rd,Re,Rf,Rg,Rh,Ri,Rj,Rk,Rl,Rm,Ya,Yb,Yc,Rn,Ro,Rp,Yd,Ye,Rq,Rs,Rt,Ru,Rv,Rw,Rx]
 refine US hE hh2 hh4 _ _ _ _ _ _ _ _ _ ?_ 2 h s1 _ _ _ _ _ _ _ _ _ _ _ _ _ (by omega) (kp _) (by omega)
 intro s2 y4 y5 y6 y7 y8 y9 y10 y11 y16 y17 y18 y19 y20 y21
 have hnew:=Mh hE (JJ s2) (n:=n) (by omega) (J:=fun _=>True) (fun _ _ _ _=>trivial)
 simp only[if_true,eR,w1,w2,w3,eS,Qa,Qb,Qc,Qd,Qe,Qf,Qg,Qh,Qi,Qj,Qk,Ql,Qm,Qn,true_and,and_true,Qo,Qp,Qq,Qr,Qs,Qt,Qu,Qv,Qw,Qx,Qy,Qz,Ra,Rb,Rc,Rd,Re,Rf,Rg,Rh,Ri,Rj,Rk,Rl,Rm,Ya,Yb,Yc,Rn,Ro,Rp,Yd,Ye,Rq,Rs,Rt,Ru,Rv,Rw,Rx]
 refine hnew.mono ?_
 rintro _ s3 ⟨v,rfl,_,g1,_,i1⟩
 generalize s2.next=p at *
 simp only[eU,Qa,Qb,Qc,Qd,Qe,Qf,Qg,Qh,Qi,Qj,Qk,Ql,Qm,Qn,true_and,and_true,Qo,Qp,Qq,Qr,Qs,Qt,Qu,Qv,Qw,Qx,Qy,Qz,Ra,Rb,Rc,Rd,Re,Rf,Rg,Rh,Ri,Rj,Rk,Rl,Rm,Ya,Yb,Yc,Rn,Ro,Rp,Yd,Ye,Rq,Rs,Rt,Ru,Rv,Rw,Rx]
 refine RE hE hn4 (p:=p) _ _ _ _ _ _ _ _ _ _ _ _ _ _ _ _ _ _ _ _ ?_ (n - 1) 1 s3 v [] _ rfl (kp _) (by omega) g1 i1 ⟨fun f hf=>(by cases hf),fun j q1 q2=>(by omega)⟩ (by simp)
 intro s4 v4 F y14 y22 g4 i4 hF hl
 have hlits:=hF.lits hn2
 simp only[if_true,eX,N4,hmv,AJ,Qa,Qb,Qc,Qd,Qe,Qf,Qg,Qh,Qi,Qj,Qk,Ql,Qm,Qn,true_and,and_true,Qo,Qp,Qq,Qr,Qs,Qt,Qu,Qv,Qw,Qx,Qy,Qz,Ra,Rb,Rc,Rd,Re,Rf,Rg,Rh,Ri,Rj,Rk,Rl,Rm,Ya,Yb,Yc,Rn,Ro,Rp,Yd,Ye,Rq,Rs,Rt,Ru,Rv,Rw,Rx]
 refine Jw hE g4 (Ay _ p v4) i4 ⟨by omega,by omega,by omega⟩ (f:=[1]) (hlits _ (by simp)) (by simp) (by simp) ?_
 intro s5 v5 i5 g5 _
 rw[CJ]at g5
 have hfull:Ud n (F++[[1]]):=PB (by simp) fun i q1 q2=>lE _ (hF.has i q1 q2)
 have hs0:=Jh hE g5 (Ay _ p v5) (JM _ _) hfull i5 (most:=0) ⟨by omega,by omega,by omega⟩ hlits
 simp only[AJ,e0]at hs0
 simp only[eY,Qa,Qb,Qc,Qd,Qe,Qf,Qg,Qh,Qi,Qj,Qk,Ql,Qm,Qn,true_and,and_true,Qo,Qp,Qq,Qr,Qs,Qt,Qu,Qv,Qw,Qx,Qy,Qz,Ra,Rb,Rc,Rd,Re,Rf,Rg,Rh,Ri,Rj,Rk,Rl,Rm,Ya,Yb,Yc,Rn,Ro,Rp,Yd,Ye,Rq,Rs,Rt,Ru,Rv,Rw,Rx]
 refine hs0.mono ?_
 rintro _ s6 ⟨c,v6,rfl,i6,hc,g6,_⟩
 rcases hc with⟨_,q⟩ | ⟨rfl,hm⟩
 ·exact absurd (YY hF) (q _)
 rw[CJ]at g6
 have hlast:=PC (by omega) hF (fun f hf=>hf) hm
 have hval:=Hf hE g6 (Ay _ p v6) (k:=n) (by omega)
 simp only[AJ]at hval
 have dne:decide ((1:Int)≠1)=false:=by decide
 simp only[dne,Rn,Qa,Qb,Qc,Qd,Qe,Qf,Qg,Qh,Qi,Qj,Qk,Ql,Qm,Qn,true_and,and_true,Qo,Qp,Qq,Qr,Qs,Qt,Qu,Qv,Qw,Qx,Qy,Qz,Ra,Rb,Rc,Rd,Re,Rf,Rg,Rh,Ri,Rj,Rk,Rl,Rm,Ya,Yb,Yc,Rn,Ro,Rp,Yd,Ye,Rq,Rs,Rt,Ru,Rv,Rw,Rx]
 refine hval.mono ?_
 rintro _ _ ⟨rfl,rfl⟩
 have n1:=aK (a:=n) (by omega)
 have hln:∀q∈[-(n:Int)],VL n q:=fun q hq=>by
  rw[List.mem_singleton.1 hq]
  exact⟨by omega,by omega⟩
 simp only[hlast,Rn,eZ,n1,N4,hmv,Qa,Qb,Qc,Qd,Qe,Qf,Qg,Qh,Qi,Qj,Qk,Ql,Qm,Qn,true_and,and_true,Qo,Qp,Qq,Qr,Qs,Qt,Qu,Qv,Qw,Qx,Qy,Qz,Ra,Rb,Rc,Rd,Re,Rf,Rg,Rh,Ri,Rj,Rk,Rl,Rm,Ya,Yb,Yc,Rn,Ro,Rp,Yd,Ye,Rq,Rs,Rt,Ru,Rv,Rw,Rx]
 refine Jw hE g6 (Ay _ p v6) i6 ⟨by omega,by omega,by omega⟩ (f:=[-(n:Int)]) hln (by simp) (by simp) ?_
 intro s7 v7 i7 g7 _
 rw[CJ]at g7
 have hfull2:Ud n (F++[[1]]++[[-(n:Int)]]):=PB (by simp) fun i q1 q2=>lE _ (lE _ (hF.has i q1 q2))
 have hs1:=Jh hE g7 (Ay _ p v7) (JM _ _) hfull2 i7 (most:=0) ⟨by omega,by omega,by omega⟩ (fun f hf=>by
  rcases List.mem_append.1 hf with q | q
  ·exact hlits f q
  ·rw[List.mem_singleton.1 q];exact hln)
 simp only[AJ,e0]at hs1
 simp only[eb,Qa,Qb,Qc,Qd,Qe,Qf,Qg,Qh,Qi,Qj,Qk,Ql,Qm,Qn,true_and,and_true,Qo,Qp,Qq,Qr,Qs,Qt,Qu,Qv,Qw,Qx,Qy,Qz,Ra,Rb,Rc,Rd,Re,Rf,Rg,Rh,Ri,Rj,Rk,Rl,Rm,Ya,Yb,Yc,Rn,Ro,Rp,Yd,Ye,Rq,Rs,Rt,Ru,Rv,Rw,Rx]
 refine hs1.mono ?_
 rintro _ s8 ⟨c,v8,rfl,_,hc,_,_⟩
 rcases hc with⟨rfl,_⟩ | ⟨_,q⟩
 ·simp only[decide_true,c9,Qa,Qb,Qc,Qd,Qe,Qf,Qg,Qh,Qi,Qj,Qk,Ql,Qm,Qn,true_and,and_true,Qo,Qp,Qq,Qr,Qs,Qt,Qu,Qv,Qw,Qx,Qy,Qz,Ra,Rb,Rc,Rd,Re,Rf,Rg,Rh,Ri,Rj,Rk,Rl,Rm,Ya,Yb,Yc,Rn,Ro,Rp,Yd,Ye,Rq,Rs,Rt,Ru,Rv,Rw,Rx]
 ·exfalso
  have l1:=PC (by omega) hF (fun f hf=>lE _ hf) q
  obtain⟨y,hy,hs⟩:=q _ (lU _ (List.mem_singleton.2 rfl))
  rw[List.mem_singleton.1 hy]at hs
  rcases hs with⟨z,_⟩ | ⟨_,z⟩
  ·omega
  ·rw[lJ,l7,l1]at z;cases z
end
section
variable{H:Type}{enc:TypeId×Value→H}{W:World}{base:Nat}
theorem holes19_true{v0 v1:Value}(h0:Value.okWide Try.prog W .any base 5 v0)(h1:Value.okWide Try.prog W .any base 5 v1)
  {d0 d1:DataW H} {p0 p1:List MemPlace} (t0:DataW.Trod enc Try.prog W 0 (fun _=>true) true 5 v0 d0 p0) (t1:DataW.Trod enc Try.prog W 0 (fun _=>true) true 5 v1 d1 p1):
  Calls Try.prog 9 #[v0,v1] W fun e W'=>e=.returned (.bool true)∧Ln W W':=by
 obtain⟨n0,t0⟩:=t0
 obtain⟨n1,t1⟩:=t1
 obtain⟨ρ1,s1,us1,d,g1,g2,g3,g4,rfl,g5⟩:=MG (q:=u8) Try.underlying5 (fun n h=>ez h) n0 _ _ t0 _ _ (jF Try.prog W)
 obtain⟨ρ2,s2,us2,r,k1,k2,k3,k4,rfl,k5⟩:=MG (q:=u8) Try.underlying5 (fun n h=>ez h) n1 _ _ t1 _ _ g1
 exact TR k1 (.cons (SX Try.underlying5 h0 (g4.mono k2)) (.cons (SX Try.underlying5 h1 k4) .nil)) (Xw Tg g5 k5)
end
end
end Go.Proofs.Ytilhhmkdcoajnaa.Am
